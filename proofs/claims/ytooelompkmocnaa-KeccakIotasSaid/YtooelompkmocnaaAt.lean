/- 'at', both, and shared words of the walks over states. -/
import Derived.Test.YtooelompkmocnaaTheta
namespace Go.Proofs.Ytooelompkmocnaa.T
open Go.RowKit
set_option linter.unusedVariables false
set_option linter.unusedSimpArgs false
theorem at_any (X Y r : Int) (w : World) (h0 : 0 ≤ X) (h1 : X ≤ 100) (h2 : 0 ≤ Y) (h3 : Y ≤ 100) (hr : X % 5 + 5 * (Y % 5) = r) :
    Calls Try.prog 27 #[.int .i64 X, .int .i64 Y] w fun e w' => e = .returned (.int .i64 r) ∧ w' = w := by
  have HR := Lib.hid hr
  clear hr
  go_enter Try.func27, Try.ntmps27
  go_wp2
  go_ret
  exact ⟨ret_int HR.out, rfl⟩
theorem rat_any (X Y r : Int) (w : World) (h0 : 0 ≤ X) (h1 : X ≤ 100) (h2 : 0 ≤ Y) (h3 : Y ≤ 100) (hr : X % 5 + 5 * (Y % 5) = r) :
    Calls Try.prog 28 #[.int .i64 X, .int .i64 Y] w fun e w' => e = .returned (.int .i64 r) ∧ w' = w := by
  have HR := Lib.hid hr
  clear hr
  go_enter Try.func28, Try.ntmps28
  go_wp2
  go_ret
  exact ⟨ret_int (by have := HR.out; omega), rfl⟩
theorem rot_int (x : BitVec 64) (k : Nat) (K : Int) (w : World) (hk : k ≤ 63) (hK : K = k) (r : BitVec 64) (hr : x.rotateLeft k = r) :
    Calls Try.prog 26 #[.int .u64 (x.toNat : Int), .int .i64 K] w fun e w' => e = .returned (.int .u64 (r.toNat : Int)) ∧ w' = w := by
  subst hK hr
  exact rot_any x k w hk
/-- some places new, the others old. -/
def fill (p : Nat → Bool) (new old : L) : L := fun j => if p j = true then new j else old j
theorem fill_upd (p q : Nat → Bool) (new old : L) (k n : Nat) (h : ∀ j, j < n → q j = (p j || decide (j = k))) (j : Nat) (hj : j < n) : upd (fill p new old) k (new k) j = fill q new old j := by
  unfold upd fill
  rw [h j hj]
  by_cases e : j = k
  · subst e; simp
  · simp [e]
/-! ### Rho's road -/
def xy : Nat → Nat × Nat
  | 0 => (1, 0)
  | t + 1 => ((xy t).2, (2 * (xy t).1 + 3 * (xy t).2) % 5)
theorem xy_lt : ∀ t, (xy t).1 < 5 ∧ (xy t).2 < 5
  | 0 => by simp [xy]
  | t + 1 => ⟨(xy_lt t).2, Nat.mod_lt _ (by omega)⟩
def pos (t : Nat) : Nat := (xy t).1 + 5 * (xy t).2
theorem pos_lt (t : Nat) : pos t < 25 := by have := xy_lt t; unfold pos; omega
def off (t : Nat) : Nat := (t + 1) * (t + 2) / 2 % 64
theorem off_val : ∀ k : Nat, k < 24 → ((k : Int) + 1) * ((k : Int) + 1 + 1) / 2 % 64 = (off k : Int) := by decide
theorem off_bd (k : Nat) (h : k < 24) : 0 ≤ ((k : Int) + 1) * ((k : Int) + 1 + 1) ∧ ((k : Int) + 1) * ((k : Int) + 1 + 1) ≤ 600 := ⟨Int.mul_nonneg (by omega) (by omega), Int.le_trans (Int.mul_le_mul (show (k : Int) + 1 ≤ 24 by omega) (show (k : Int) + 1 + 1 ≤ 25 by omega) (by omega) (by omega)) (by decide)⟩
theorem off_val2 : ∀ k : Nat, k < 24 → ((k : Int) + 1) * ((k : Int) + 2) / 2 % 64 = (off k : Int) := by decide
theorem off_bd2 (k : Nat) (h : k < 24) : 0 ≤ ((k : Int) + 1) * ((k : Int) + 2) ∧ ((k : Int) + 1) * ((k : Int) + 2) ≤ 600 := ⟨Int.mul_nonneg (by omega) (by omega), Int.le_trans (Int.mul_le_mul (show (k : Int) + 1 ≤ 24 by omega) (show (k : Int) + 2 ≤ 25 by omega) (by omega) (by omega)) (by decide)⟩
def tab : Nat → Nat → Nat
  | 0 => fun _ => 0
  | t + 1 => fun j => if j = pos t then off t else tab t j
theorem tab_new : ∀ t, t < 24 → tab t (pos t) = 0 := by decide
def rhoN (a : L) (t : Nat) : L := fun j => (a j).rotateLeft (tab t j)
def rhoS (a : L) : L := rhoN a 24
theorem rot0 (x : BitVec 64) : x.rotateLeft 0 = x := by
  have h : x >>> 64 = 0#64 := BitVec.ushiftRight_eq_zero (Nat.le_refl _)
  simp [BitVec.rotateLeft_def, h]
theorem rhoN_at (a : L) (t : Nat) (h : t < 24) : rhoN a t (pos t) = a (pos t) := by
  unfold rhoN
  rw [tab_new t h, rot0]
theorem rhoN_succ (a : L) (t : Nat) : upd (rhoN a t) (pos t) ((a (pos t)).rotateLeft (off t)) = rhoN a (t + 1) := by
  funext j
  unfold upd rhoN
  show _ = (a j).rotateLeft (if j = pos t then off t else tab t j)
  by_cases e : j = pos t
  · subst e; simp
  · rw [if_neg e, if_neg e]
theorem rhoN_zero (a : L) : rhoN a 0 = a := by funext j; exact rot0 _
end Go.Proofs.Ytooelompkmocnaa.T
