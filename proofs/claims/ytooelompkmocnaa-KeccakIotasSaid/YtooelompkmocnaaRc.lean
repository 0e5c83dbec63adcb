/- rc, the reference's bit of a round's word. -/
import Derived.Test.YtooelompkmocnaaChi
namespace Go.Proofs.Ytooelompkmocnaa.T
open Go.RowKit
set_option linter.unusedVariables false
set_option linter.unusedSimpArgs false
def lfN (r : BitVec 64) : BitVec 64 :=
  if (r <<< 1) &&& 256#64 = 0#64 then r <<< 1 else (r <<< 1) ^^^ 256#64 ^^^ 1#64 ^^^ 16#64 ^^^ 32#64 ^^^ 64#64
def lf : Nat → BitVec 64
  | 0 => 1#64
  | i + 1 => lfN (lf i)
def rcS (t : Nat) : BitVec 64 := lf (t % 255) &&& 1#64
theorem shl_bv (r : BitVec 64) (k : Nat) : IntKind.u64.wrap ((r.toNat : Int) * 2 ^ k) = ((r <<< k).toNat : Int) := by
  rw [BitVec.toNat_shiftLeft, Nat.shiftLeft_eq]
  simp [IntKind.wrap, IntKind.bits, IntKind.signed]
def RcRel (v r : Value) (w w' : World) (m : Nat) : Prop := ∃ i : Nat, i ≤ m ∧ v = .int .i64 i ∧ r = .int .u64 ((lf i).toNat : Int) ∧ w' = w
set_option maxHeartbeats 1000000 in
theorem rc_any (t : Nat) (w : World) (ht : t ≤ 1000) :
    Calls Try.prog 31 #[.int .i64 (t : Int)] w fun e w' => e = .returned (.int .u64 ((rcS t).toNat : Int)) ∧ w' = w := by
  obtain ⟨m, hm⟩ : ∃ m, t % 255 = m := ⟨_, rfl⟩
  have hmi : (t : Int) % 255 = m := by omega
  have mb : m < 255 := by omega
  have hmt : (t : Int).tmod 255 = m := by rw [Int.tmod_eq_emod_of_nonneg (by omega)]; exact hmi
  have E : Hid (rcS t = lf m &&& 1#64) := by show rcS t = _; rw [← hm]; rfl
  clear hm hmi
  go_enter Try.func31, Try.ntmps31
  go_wp2
  go_loopw [4, 3] (fun v r w' => RcRel v r w w' m) (fun v _ _ => (m - intOf v).toNat)
  case atStart => exact ⟨0, by omega, rfl, rfl, rfl⟩
  case round =>
    obtain ⟨i, hi, rfl, rfl, rfl⟩ := hrel
    by_cases hlt : i < m
    · have hlp : decide ((i : Int) < (m : Int)) = true := decide_eq_true (by omega)
      obtain ⟨r0, hr0⟩ : ∃ r, lf i = r := ⟨_, rfl⟩
      obtain ⟨s0, hs0⟩ : ∃ r, r0 <<< 1 = r := ⟨_, rfl⟩
      have hn : lf (i + 1) = lfN r0 := by rw [← hr0]; rfl
      rw [hr0]
      have hshl : IntKind.u64.wrap ((r0.toNat : Int) * 2) = ((s0).toNat : Int) := by rw [← hs0]; exact shl_bv r0 1
      by_cases hb : s0 &&& 256#64 = 0#64
      · have hand : bits .and .u64 (s0.toNat : Int) 256 = 0 := by have h := and_bv s0 256#64; rw [hb] at h; exact h
        have hr : RcRel (.int .i64 ((i : Int) + 1)) (.int .u64 (s0.toNat : Int)) wr wr m := ⟨i + 1, by omega, by go_num, by rw [hn]; unfold lfN; rw [hs0, if_pos hb], rfl⟩
        have HR := Lib.hid hr
        clear hn hb hr hs0
        go_wp2
        go_roundw
        case rel => exact HR.out
        case measure => simp [intOf]; omega
      · obtain ⟨q, hq⟩ : ∃ q, s0 &&& 256#64 = q := ⟨_, rfl⟩
        have hand : bits .and .u64 (s0.toNat : Int) 256 = (q.toNat : Int) := by have h := and_bv s0 256#64; rw [hq] at h; exact h
        have hqn : ((q.toNat : Int) != 0) = true := bne_iff_ne.2 fun h => hb (by rw [hq]; exact BitVec.eq_of_toNat_eq (by simpa using h))
        obtain ⟨x1, hx1⟩ : ∃ r, s0 ^^^ 256#64 = r := ⟨_, rfl⟩
        obtain ⟨x2, hx2⟩ : ∃ r, x1 ^^^ 1#64 = r := ⟨_, rfl⟩
        obtain ⟨x3, hx3⟩ : ∃ r, x2 ^^^ 16#64 = r := ⟨_, rfl⟩
        obtain ⟨x4, hx4⟩ : ∃ r, x3 ^^^ 32#64 = r := ⟨_, rfl⟩
        obtain ⟨x5, hx5⟩ : ∃ r, x4 ^^^ 64#64 = r := ⟨_, rfl⟩
        have b1 : bits .xor .u64 (s0.toNat : Int) 256 = (x1.toNat : Int) := by have h := xor_bv s0 256#64; rw [hx1] at h; exact h
        have b2 : bits .xor .u64 (x1.toNat : Int) 1 = (x2.toNat : Int) := by have h := xor_bv x1 1#64; rw [hx2] at h; exact h
        have b3 : bits .xor .u64 (x2.toNat : Int) 16 = (x3.toNat : Int) := by have h := xor_bv x2 16#64; rw [hx3] at h; exact h
        have b4 : bits .xor .u64 (x3.toNat : Int) 32 = (x4.toNat : Int) := by have h := xor_bv x3 32#64; rw [hx4] at h; exact h
        have b5 : bits .xor .u64 (x4.toNat : Int) 64 = (x5.toNat : Int) := by have h := xor_bv x4 64#64; rw [hx5] at h; exact h
        have hr : RcRel (.int .i64 ((i : Int) + 1)) (.int .u64 (x5.toNat : Int)) wr wr m := ⟨i + 1, by omega, by go_num, by rw [hn]; unfold lfN; rw [hs0, if_neg hb, hx1, hx2, hx3, hx4, hx5], rfl⟩
        have HR := Lib.hid hr
        clear hn hb hr hs0 hq hx1 hx2 hx3 hx4 hx5
        go_wp2
        go_roundw
        case rel => exact HR.out
        case measure => simp [intOf]; omega
    · have e : i = m := by omega
      subst e
      obtain ⟨r0, hr0⟩ : ∃ r, lf i = r := ⟨_, rfl⟩
      rw [hr0]
      obtain ⟨q, hq⟩ : ∃ q, r0 &&& 1#64 = q := ⟨_, rfl⟩
      have hand : bits .and .u64 (r0.toNat : Int) 1 = (q.toNat : Int) := by have h := and_bv r0 1#64; rw [hq] at h; exact h
      have ER := Lib.hid (show rcS t = q by rw [E.out, hr0, hq])
      clear hq hr0 E
      go_wp2
      go_ret
      exact ⟨ret_int (by rw [ER.out]), rfl⟩
end Go.Proofs.Ytooelompkmocnaa.T
