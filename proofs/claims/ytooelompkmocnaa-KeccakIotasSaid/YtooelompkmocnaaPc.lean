/- OnesCount64, and Low: their walks. -/
import Derived.Test.YtooelompkmocnaaPop
import Derived.Test.YtooelompkmocnaaOpen
namespace Go.Proofs.Ytooelompkmocnaa.T
open Go.RowKit
set_option linter.unusedVariables false
set_option linter.unusedSimpArgs false
theorem and_nat (a b : Nat) (ha : a < 2 ^ 64) (hb : b < 2 ^ 64) : bits .and .u64 (a : Int) (b : Int) = ((a &&& b : Nat) : Int) := by
  have h := and_bv (BitVec.ofNat 64 a) (BitVec.ofNat 64 b)
  rw [BitVec.toNat_ofNat, BitVec.toNat_ofNat, Nat.mod_eq_of_lt ha, Nat.mod_eq_of_lt hb, BitVec.toNat_and, BitVec.toNat_ofNat, BitVec.toNat_ofNat, Nat.mod_eq_of_lt ha, Nat.mod_eq_of_lt hb] at h
  exact h
set_option maxHeartbeats 1000000 in
set_option maxRecDepth 20000 in
theorem ones_any (x : BitVec 64) (w : World) :
    Calls Try.prog 25 #[.int .u64 (x.toNat : Int)] w fun e w' => e = .returned (.int .i64 (pop x : Int)) ∧ w' = w := by
  obtain ⟨n, hn⟩ : ∃ n, x.toNat = n := ⟨_, rfl⟩
  have hnb : n < 2 ^ 64 := by have := x.isLt; omega
  have E : Hid (pop x = (dg 64 n).sum) := Lib.hid (by unfold pop; rw [hn])
  rw [hn]
  clear hn
  obtain ⟨e4, h4⟩ : ∃ e, (n / 2 &&& 6148914691236517205) + (n &&& 6148914691236517205) = e := ⟨_, rfl⟩
  obtain ⟨e8, h8⟩ : ∃ e, (e4 / 4 &&& 3689348814741910323) + (e4 &&& 3689348814741910323) = e := ⟨_, rfl⟩
  obtain ⟨e10, h10⟩ : ∃ e, e8 / 16 + e8 = e := ⟨_, rfl⟩
  obtain ⟨e11, h11⟩ : ∃ e, e10 &&& 1085102592571150095 = e := ⟨_, rfl⟩
  obtain ⟨e13, h13⟩ : ∃ e, e11 + e11 / 256 = e := ⟨_, rfl⟩
  obtain ⟨e15, h15⟩ : ∃ e, e13 + e13 / 65536 = e := ⟨_, rfl⟩
  obtain ⟨e17, h17⟩ : ∃ e, e15 + e15 / 4294967296 = e := ⟨_, rfl⟩
  obtain ⟨r, b4, b8, b13, b15, b17⟩ := fields n e4 e8 e11 e13 e15 e17 hnb h4 h8 (by rw [h10]; exact h11) h13 h15 h17
  have b10 : e10 < 2 ^ 64 := by omega
  have b11 : e11 < 2 ^ 64 := by omega
  have R := Lib.hid (show pop x = e17 % 128 by rw [E.out, r])
  obtain ⟨e1, h1⟩ : ∃ e, n / 2 = e := ⟨_, rfl⟩
  obtain ⟨e2, h2⟩ : ∃ e, e1 &&& 6148914691236517205 = e := ⟨_, rfl⟩
  obtain ⟨e3, h3⟩ : ∃ e, n &&& 6148914691236517205 = e := ⟨_, rfl⟩
  obtain ⟨e5, h5⟩ : ∃ e, e4 / 4 = e := ⟨_, rfl⟩
  obtain ⟨e6, h6⟩ : ∃ e, e5 &&& 3689348814741910323 = e := ⟨_, rfl⟩
  obtain ⟨e7, h7⟩ : ∃ e, e4 &&& 3689348814741910323 = e := ⟨_, rfl⟩
  obtain ⟨e9, h9⟩ : ∃ e, e8 / 16 = e := ⟨_, rfl⟩
  obtain ⟨e12, h12⟩ : ∃ e, e11 / 256 = e := ⟨_, rfl⟩
  obtain ⟨e14, h14⟩ : ∃ e, e13 / 65536 = e := ⟨_, rfl⟩
  obtain ⟨e16, h16⟩ : ∃ e, e15 / 4294967296 = e := ⟨_, rfl⟩
  rw [h1, h2, h3] at h4
  rw [h5, h6, h7] at h8
  rw [h9] at h10
  rw [h12] at h13
  rw [h14] at h15
  rw [h16] at h17
  have c1 : (n : Int) / 2 = (e1 : Int) := by omega
  have c5 : (e4 : Int) / 4 = (e5 : Int) := by omega
  have c9 : (e8 : Int) / 16 = (e9 : Int) := by omega
  have c12 : (e11 : Int) / 256 = (e12 : Int) := by omega
  have c14 : (e13 : Int) / 65536 = (e14 : Int) := by omega
  have c16 : (e15 : Int) / 4294967296 = (e16 : Int) := by omega
  have d2 : bits .and .u64 (e1 : Int) 6148914691236517205 = (e2 : Int) := by rw [← h2]; exact and_nat e1 6148914691236517205 (by omega) (by decide)
  have d3 : bits .and .u64 (n : Int) 6148914691236517205 = (e3 : Int) := by rw [← h3]; exact and_nat n 6148914691236517205 (by omega) (by decide)
  have d6 : bits .and .u64 (e5 : Int) 3689348814741910323 = (e6 : Int) := by rw [← h6]; exact and_nat e5 3689348814741910323 (by omega) (by decide)
  have d7 : bits .and .u64 (e4 : Int) 3689348814741910323 = (e7 : Int) := by rw [← h7]; exact and_nat e4 3689348814741910323 (by omega) (by decide)
  have d11 : bits .and .u64 (e10 : Int) 1085102592571150095 = (e11 : Int) := by rw [← h11]; exact and_nat e10 1085102592571150095 (by omega) (by decide)
  have w4 : IntKind.u64.wrap ((e2 : Int) + (e3 : Int)) = (e4 : Int) := by rw [wraps_u64 _ (by omega) (by omega)]; omega
  have w8 : IntKind.u64.wrap ((e6 : Int) + (e7 : Int)) = (e8 : Int) := by rw [wraps_u64 _ (by omega) (by omega)]; omega
  have w10 : IntKind.u64.wrap ((e9 : Int) + (e8 : Int)) = (e10 : Int) := by rw [wraps_u64 _ (by omega) (by omega)]; omega
  have w13 : IntKind.u64.wrap ((e11 : Int) + (e12 : Int)) = (e13 : Int) := by rw [wraps_u64 _ (by omega) (by omega)]; omega
  have w15 : IntKind.u64.wrap ((e13 : Int) + (e14 : Int)) = (e15 : Int) := by rw [wraps_u64 _ (by omega) (by omega)]; omega
  have w17 : IntKind.u64.wrap ((e15 : Int) + (e16 : Int)) = (e17 : Int) := by rw [wraps_u64 _ (by omega) (by omega)]; omega
  have w33 : IntKind.i64.wrap (e17 : Int) = (e17 : Int) := IntWalk.i64_in _ (by omega)
  obtain ⟨q, hq⟩ : ∃ q, e17 % 128 = q := ⟨_, rfl⟩
  have d34 : bits .and .i64 (e17 : Int) 127 = (q : Int) := by
    have h := bits_mask .i64 63 (by decide) (fun n h0 h1 => IntWalk.i64_in n (by omega)) 7 (by decide) (e17 : Int) (by omega) (by omega)
    have e : ((2 : Int) ^ 7 - 1) = 127 := by decide
    rw [e] at h
    rw [h]; omega
  have RR := Lib.hid (show pop x = q by rw [R.out, hq])
  clear h1 h2 h3 h4 h5 h6 h7 h8 h9 h10 h11 h12 h13 h14 h15 h16 h17 hq R E r
  go_enter Try.func25, Try.ntmps25
  go_wp2
  go_ret
  exact ⟨ret_int (by rw [RR.out]), rfl⟩
theorem wf_bd {a : Int} (h : (Lit.int .i64 a).wf = true) : -9223372036854775808 ≤ a ∧ a ≤ 9223372036854775807 := by
  simp [Lit.wf, IntKind.min, IntKind.max, IntKind.signed, IntKind.bits] at h
  omega
def lowS (x n : Int) : Int := (x % 18446744073709551616) % n
theorem lowS_bd (x n : Int) (h : 0 < n) : 0 ≤ lowS x n ∧ lowS x n < n := ⟨Int.emod_nonneg _ (by omega), Int.emod_lt_of_pos _ h⟩
theorem low_fact (x n : Int) (h1 : 1 ≤ n) (h2 : n ≤ 9223372036854775807) : wrap64 (Int.tmod (IntKind.u64.wrap x) n) = lowS x n ∧ (IntKind.u64.wrap n == 0) = false := by
  have e1 : IntKind.u64.wrap n = n := by simp [IntKind.wrap, IntKind.bits, IntKind.signed]; omega
  have e2 : IntKind.u64.wrap x = x % 18446744073709551616 := by simp [IntKind.wrap, IntKind.bits, IntKind.signed]
  rw [e2, e1]
  have h3 := lowS_bd x n (by omega)
  have h4 : (x % 18446744073709551616).tmod n = lowS x n := by rw [Int.tmod_eq_emod_of_nonneg (by omega)]; rfl
  rw [h4]
  exact ⟨by unfold wrap64; omega, by simp; omega⟩
theorem low_any (x n r : Int) (w : World) (h1 : 1 ≤ n) (h2 : n ≤ 9223372036854775807) (hr : lowS x n = r) :
    Calls Try.prog 24 #[.int .i64 x, .int .i64 n] w fun e w' => e = .returned (.int .i64 r) ∧ w' = w := by
  have HR := Lib.hid hr
  have HL := Lib.hid (low_fact x n h1 h2).1
  have h0 := (low_fact x n h1 h2).2
  clear hr
  go_enter Try.func24, Try.ntmps24
  go_wp2
  go_ret
  exact ⟨ret_int (HL.out.trans HR.out), rfl⟩
end Go.Proofs.Ytooelompkmocnaa.T
