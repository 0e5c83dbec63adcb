/- Contracts of chapter 5's functions, in digits: what the walks of the statements use. -/
import Derived.Test.YtefiaaglkenfeaaRf
import Derived.Lib.Hide
import Derived.Outline
namespace Go.Proofs.Ytefiaaglkenfeaa.T
open Go.RowKit Go.Proofs.Ytefiaaglkenfeaa.PBitsTell Go.Proofs.YtefiaaglkenfeaaW.PrintWords Go.Proofs.YtefiaaglkenfeaaW.PrintLast
open Go.Proofs.Ytefiaaglkenfeaa.N Go.Proofs.Ytefiaaglkenfeaa.K
set_option linter.unusedVariables false

theorem ret_int {k : IntKind} {a b : Int} (h : a = b) : Ending.returned (.int k a) = .returned (.int k b) := by rw [h]
theorem wf_bd {a : Int} (h : (Lit.int .i64 a).wf = true) : -9223372036854775808 ≤ a ∧ a ≤ 9223372036854775807 := by
  simp [Lit.wf, IntKind.min, IntKind.max, IntKind.signed, IntKind.bits] at h
  omega
def lowS (x n : Int) : Int := (x % 18446744073709551616) % n
theorem lowS_bd (x n : Int) (h : 0 < n) : 0 ≤ lowS x n ∧ lowS x n < n := ⟨Int.emod_nonneg _ (by omega), Int.emod_lt_of_pos _ h⟩
theorem low_fact (x n : Int) (h1 : 1 ≤ n) (h2 : n ≤ 9223372036854775807) : wrap64 (Int.tmod (IntKind.u64.wrap x) n) = lowS x n ∧ (IntKind.u64.wrap n == 0) = false := by
  have e1 : IntKind.u64.wrap n = n := by simp [IntKind.wrap, IntKind.bits, IntKind.signed]; omega
  have e2 : IntKind.u64.wrap x = x % 18446744073709551616 := by simp [IntKind.wrap, IntKind.bits, IntKind.signed]
  rw [e2, e1]
  have h3 := lowS_bd x n (by omega)
  have h4 : (x % 18446744073709551616).tmod n = lowS x n := by rw [Int.tmod_eq_emod_of_nonneg (by omega)]; rfl
  rw [h4]
  exact ⟨by unfold wrap64; omega, by simp; omega⟩
theorem llow_any (x n r : Int) (w : World) (h1 : 1 ≤ n) (h2 : n ≤ 9223372036854775807) (hr : lowS x n = r) :
    Calls Try.prog 25 #[.int .i64 x, .int .i64 n] w fun e w' => e = .returned (.int .i64 r) ∧ Drawn0 w w' := by
  have HR := Lib.hid hr
  have HL := Lib.hid (low_fact x n h1 h2).1
  have h0 := (low_fact x n h1 h2).2
  clear hr
  go_enter Try.func25, Try.ntmps25
  go_wp2
  go_ret
  exact ⟨ret_int (HL.out.trans HR.out), Drawn0.refl _⟩
theorem low_any (D x r : Int) (w : World) (h0 : 0 ≤ D) (h1 : D ≤ 62) (hr : x % 2 ^ D.toNat = r) :
    Calls Try.prog 17 #[.int .i64 D, .int .i64 x] w fun e w' => e = .returned (.int .i64 r) ∧ Drawn0 w w' := by
  obtain ⟨d, rfl⟩ := Int.eq_ofNat_of_zero_le h0
  subst hr
  exact bits_Low.calls d x _ w (low_f d (by omega) x)
theorem turn_any (D x r : Int) (w : World) (h0 : 0 ≤ D) (h1 : D ≤ 62) (hr : tn D.toNat x = r) :
    Calls Try.prog 19 #[.int .i64 D, .int .i64 x] w fun e w' => e = .returned (.int .i64 r) ∧ Drawn0 w w' := by
  obtain ⟨d, rfl⟩ := Int.eq_ofNat_of_zero_le h0
  subst hr
  obtain ⟨k, hk⟩ := (turn_f d (by omega) x).rounds
  exact bits_Turn.calls k d x _ w hk
theorem awake_f : ∃ k, chatelainelaw5_awake.f k = some true := ⟨64, by decide +kernel⟩
theorem awake_any (w : World) : Calls Try.prog 8 #[] w fun e w' => e = .returned (.bool true) ∧ Below w.heap.size w w' := by
  obtain ⟨k, hk⟩ := awake_f
  exact chatelainelaw5_awake.calls k true w hk
abbrev RB (w : World) (base : Nat) (v : Value) (xs : List Int) : Prop := Kd.R (Kd.int .u8) 5 w base (fun _ => True) v xs
abbrev RI (w : World) (base : Nat) (v : Value) (xs : List Int) : Prop := Kd.R (Kd.int .i64) 3 w base (fun _ => True) v xs
theorem pack_any (D : Int) (A : Option Addr) (n c : Nat) (xs ys : List Int) (w : World) (h0 : 1 ≤ D) (h1 : D ≤ 24) (hC : Kd.C (Kd.int .i64) w A xs.length xs) (hn : n = xs.length) (hc : n ≤ c) (hl : xs.length < 1000000) (hy : packS D.toNat xs = ys) :
    Calls Try.prog 11 #[.int .i64 D, .slice A n c] w fun e w' => ∃ v, e = .returned v ∧ RB w' w.heap.size v ys ∧ Below w.heap.size w w' := by
  obtain ⟨d, rfl⟩ := Int.eq_ofNat_of_zero_le (show 0 ≤ D by omega)
  subst hy hn
  obtain ⟨k, hk⟩ := (pack_f d (by omega) (by omega) xs hl).rounds
  exact bits_Pack.calls k d A c xs _ w hC hc hk
theorem unpack_any (D : Int) (A : Option Addr) (n c : Nat) (xs ys : List Int) (w : World) (h0 : 1 ≤ D) (h1 : D ≤ 24) (hC : Kd.C (Kd.int .u8) w A xs.length xs) (hn : n = xs.length) (hc : n ≤ c) (hl : xs.length < 1000000) (hb : okB xs) (hy : unpackS D.toNat xs = ys) :
    Calls Try.prog 12 #[.int .i64 D, .slice A n c] w fun e w' => ∃ v, e = .returned v ∧ RI w' w.heap.size v ys ∧ Below w.heap.size w w' := by
  obtain ⟨d, rfl⟩ := Int.eq_ofNat_of_zero_le (show 0 ≤ D by omega)
  subst hy hn
  obtain ⟨k, hk⟩ := (un_f d (by omega) (by omega) xs hl hb).rounds
  exact bits_Unpack.calls k d A c xs _ w hC hc hk
/-- whether two lists are the same: their loops. -/
theorem same_bytes_f (xs : List Int) (hl : xs.length < 1000000000) : Ev (fun k => chatelainelaw0_SameBytes.f k xs xs) true := by
  have key : ∀ m i : Nat, i + m = xs.length → Ev (fun k => chatelainelaw0_SameBytes.l0 k xs xs i) true := by
    intro m
    induction m with
    | zero =>
      intro i hi
      refine ⟨1, fun k hk => ?_⟩
      obtain ⟨k, rfl⟩ : ∃ q, k = q + 1 := ⟨k - 1, by omega⟩
      simp only [chatelainelaw0_SameBytes.l0]
      rw [if_neg (by omega)]
    | succ m ih =>
      intro i hi
      refine Ev.step (f := fun k => chatelainelaw0_SameBytes.l0 k xs xs ((i + 1 : Nat) : Int)) (fun k => ?_) (ih (i + 1) (by omega))
      simp only [chatelainelaw0_SameBytes.l0]
      rw [if_pos (by omega), if_pos (by omega), if_pos (by omega), if_pos trivial, wrap_s (a := (i : Int) + 1) (by omega) (by omega)]
      rfl
  refine Ev.congr (fun k => ?_) (key xs.length 0 (by omega))
  simp only [chatelainelaw0_SameBytes.f]
  rw [if_pos trivial]
  rfl
theorem same_ints_f (xs : List Int) (hl : xs.length < 1000000000) : Ev (fun k => chatelainelaw0_SameInts.f k xs xs) true := by
  have key : ∀ m i : Nat, i + m = xs.length → Ev (fun k => chatelainelaw0_SameInts.l0 k xs xs i) true := by
    intro m
    induction m with
    | zero =>
      intro i hi
      refine ⟨1, fun k hk => ?_⟩
      obtain ⟨k, rfl⟩ : ∃ q, k = q + 1 := ⟨k - 1, by omega⟩
      simp only [chatelainelaw0_SameInts.l0]
      rw [if_neg (by omega)]
    | succ m ih =>
      intro i hi
      refine Ev.step (f := fun k => chatelainelaw0_SameInts.l0 k xs xs ((i + 1 : Nat) : Int)) (fun k => ?_) (ih (i + 1) (by omega))
      simp only [chatelainelaw0_SameInts.l0]
      rw [if_pos (by omega), if_pos (by omega), if_pos (by omega), if_pos trivial, wrap_s (a := (i : Int) + 1) (by omega) (by omega)]
      rfl
  refine Ev.congr (fun k => ?_) (key xs.length 0 (by omega))
  simp only [chatelainelaw0_SameInts.f]
  rw [if_pos trivial]
  rfl
theorem sameB_any (A B : Option Addr) (n m c d : Nat) (xs ys : List Int) (w : World) (hA : Kd.C (Kd.int .u8) w A xs.length xs) (hB : Kd.C (Kd.int .u8) w B ys.length ys) (hn : n = xs.length) (hm : m = ys.length) (hc : n ≤ c) (hd : m ≤ d) (hl : xs.length < 1000000000) (he : xs = ys) :
    Calls Try.prog 13 #[.slice A n c, .slice B m d] w fun e w' => e = .returned (.bool true) ∧ Drawn0 w w' := by
  subst he hn hm
  obtain ⟨k, hk⟩ := (same_bytes_f xs hl).rounds
  exact chatelainelaw0_SameBytes.calls k A c xs B d xs true w hA hc hB hd hk
theorem sameI_any (A B : Option Addr) (n m c d : Nat) (xs ys : List Int) (w : World) (hA : Kd.C (Kd.int .i64) w A xs.length xs) (hB : Kd.C (Kd.int .i64) w B ys.length ys) (hn : n = xs.length) (hm : m = ys.length) (hc : n ≤ c) (hd : m ≤ d) (hl : xs.length < 1000000000) (he : xs = ys) :
    Calls Try.prog 15 #[.slice A n c, .slice B m d] w fun e w' => e = .returned (.bool true) ∧ Drawn0 w w' := by
  subst he hn hm
  obtain ⟨k, hk⟩ := (same_ints_f xs hl).rounds
  exact chatelainelaw0_SameInts.calls k A c xs B d xs true w hA hc hB hd hk
end Go.Proofs.Ytefiaaglkenfeaa.T
