/- Walks of keccak's functions. -/
import Derived.Test.YtooelompkmocnaaBase
namespace Go.Proofs.Ytooelompkmocnaa.T
open Go.RowKit
set_option linter.unusedVariables false
set_option linter.unusedSimpArgs false
theorem wraps_u64 (n : Int) (h₀ : 0 ≤ n) (h₁ : n < 2 ^ 64) : IntKind.u64.wrap n = n := by simp [IntKind.wrap, IntKind.bits, IntKind.signed]; omega
theorem and63 (k : Nat) (hk : k ≤ 63) : bits .and .u64 (k : Int) 63 = k := by
  have h := bits_mask .u64 64 (by decide) wraps_u64 6 (by decide) (k : Int) (by omega) (by omega)
  have e : ((2 : Int) ^ 6 - 1) = 63 := by decide
  rw [e] at h
  rw [h]
  exact Int.emod_eq_of_lt (by omega) (by omega)
theorem ofInt_toNat (X : BitVec 64) : BitVec.ofInt 64 (X.toNat : Int) = X := by rw [BitVec.ofInt_natCast]; simp
theorem bv_lt (X : BitVec 64) : (0 : Int) ≤ X.toNat ∧ (X.toNat : Int) < 2 ^ 64 := ⟨by omega, by have := X.isLt; omega⟩
theorem or_bv (X Y : BitVec 64) : bits .or .u64 (X.toNat : Int) (Y.toNat : Int) = ((X ||| Y).toNat : Int) := by
  show IntKind.u64.wrap (((BitVec.ofInt 64 (X.toNat : Int) ||| BitVec.ofInt 64 (Y.toNat : Int)).toNat : Nat) : Int) = _
  rw [ofInt_toNat, ofInt_toNat]
  exact wraps_u64 _ (bv_lt _).1 (bv_lt _).2
theorem xor_bv (X Y : BitVec 64) : bits .xor .u64 (X.toNat : Int) (Y.toNat : Int) = ((X ^^^ Y).toNat : Int) := by
  show IntKind.u64.wrap (((BitVec.ofInt 64 (X.toNat : Int) ^^^ BitVec.ofInt 64 (Y.toNat : Int)).toNat : Nat) : Int) = _
  rw [ofInt_toNat, ofInt_toNat]
  exact wraps_u64 _ (bv_lt _).1 (bv_lt _).2
theorem and_bv (X Y : BitVec 64) : bits .and .u64 (X.toNat : Int) (Y.toNat : Int) = ((X &&& Y).toNat : Int) := by
  show IntKind.u64.wrap (((BitVec.ofInt 64 (X.toNat : Int) &&& BitVec.ofInt 64 (Y.toNat : Int)).toNat : Nat) : Int) = _
  rw [ofInt_toNat, ofInt_toNat]
  exact wraps_u64 _ (bv_lt _).1 (bv_lt _).2
theorem rot_val (x : BitVec 64) (k : Nat) (hk : k ≤ 63) : bits .or .u64 (IntKind.u64.wrap ((x.toNat : Int) * 2 ^ k)) ((x.toNat : Int) / 2 ^ (64 - k)) = ((x.rotateLeft k).toNat : Int) := by
  have e1 : IntKind.u64.wrap ((x.toNat : Int) * 2 ^ k) = ((x <<< k).toNat : Int) := by
    rw [BitVec.toNat_shiftLeft, Nat.shiftLeft_eq]
    simp [IntKind.wrap, IntKind.bits, IntKind.signed]
  have e2 : (x.toNat : Int) / 2 ^ (64 - k) = ((x >>> (64 - k)).toNat : Int) := by
    rw [BitVec.toNat_ushiftRight, Nat.shiftRight_eq_div_pow]
    simp
  rw [e1, e2, or_bv]
  congr 2
  rw [BitVec.rotateLeft_def, Nat.mod_eq_of_lt (by omega)]
theorem rot_any (x : BitVec 64) (k : Nat) (w : World) (hk : k ≤ 63) :
    Calls Try.prog 26 #[.int .u64 (x.toNat : Int), .int .i64 (k : Int)] w fun e w' => e = .returned (.int .u64 ((x.rotateLeft k).toNat : Int)) ∧ w' = w := by
  have h1 := and63 k hk
  go_enter Try.func26, Try.ntmps26
  go_wp2
  go_ret
  exact ⟨ret_int (rot_val x k hk), rfl⟩
end Go.Proofs.Ytooelompkmocnaa.T
