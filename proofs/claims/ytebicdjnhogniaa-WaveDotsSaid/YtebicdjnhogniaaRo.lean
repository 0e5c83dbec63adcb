/- Root of any number. -/
import Derived.Test.YtebicdjnhogniaaNd
namespace Go.Proofs.Ytebicdjnhogniaa.T
open Go.RowKit Go.Proofs.Ytebicdjnhogniaa.PWavePolys Go.Proofs.YtebicdjnhogniaaW.PrintWords Go.Proofs.YtebicdjnhogniaaW.PrintLast Go.Proofs.YtebicdjnhogniaaW.PrintMore
set_option linter.unusedVariables false
set_option linter.unusedSimpArgs false
theorem and_k (x : Int) (d : Nat) (hd : d ≤ 8) : Go.bits .and .i64 x (2 ^ d - 1) = x % 2 ^ d := by
  have hpos : 0 < 2 ^ d := Nat.two_pow_pos d
  have h64 : (2 : Nat) ^ d ≤ 2 ^ 8 := Nat.pow_le_pow_right (by decide) hd
  have e0 : ((2 : Int) ^ d) = ((2 ^ d : Nat) : Int) := by simp
  have e1 : ((2 : Int) ^ d - 1) = ((2 ^ d - 1 : Nat) : Int) := by rw [Int.natCast_sub hpos]; simp
  have e2 : (BitVec.ofInt 64 x).toNat = (x % 2 ^ 64).toNat := by simp [BitVec.toNat_ofInt]
  have e4 : (x % 2 ^ 64) % 2 ^ d = x % 2 ^ d := Int.emod_emod_of_dvd _ ⟨2 ^ (64 - d), by rw [← Int.pow_add, show d + (64 - d) = 64 by omega]⟩
  have e3 : ((BitVec.ofInt 64 x &&& BitVec.ofInt 64 (2 ^ d - 1)).toNat : Int) = x % 2 ^ d := by
    rw [BitVec.toNat_and, e1, e2]
    rw [show (BitVec.ofInt 64 ((2 ^ d - 1 : Nat) : Int)).toNat = 2 ^ d - 1 from by rw [BitVec.ofInt_natCast, BitVec.toNat_ofNat, Nat.mod_eq_of_lt (by omega)]]
    rw [Nat.and_two_pow_sub_one_eq_mod, Int.natCast_emod, Int.toNat_of_nonneg (Int.emod_nonneg _ (by decide)), ← e0]
    exact e4
  show IntKind.i64.wrap ((BitVec.ofInt 64 x &&& BitVec.ofInt 64 (2 ^ d - 1)).toNat : Int) = _
  rw [e3]
  have h1 := Int.emod_nonneg x (show (2 : Int) ^ d ≠ 0 by omega)
  have h2 := Int.emod_lt_of_pos x (show (0 : Int) < 2 ^ d by omega)
  exact IntWalk.i64_in _ (by omega)
theorem and_255 (x : Int) : Go.bits .and .i64 x 255 = x % 256 := and_k x 8 (by omega)
theorem and_1 (x : Int) : Go.bits .and .i64 x 1 = x % 2 := and_k x 1 (by omega)
theorem low8 (x : Int) : Go.Proofs.Ytebicdjnhogniaa.PWaveRing.bits_Low.f 8 x = some (x % 256) := by
  unfold Go.Proofs.Ytebicdjnhogniaa.PWaveRing.bits_Low.f
  rw [if_neg (by omega), if_neg (by omega), if_pos (by omega), show wrap64 (shl .i64 1 8 - 1) = 255 from by decide +kernel, and_255]
theorem turn8_mod (x : Int) : Go.Proofs.Ytebicdjnhogniaa.PWaveRing.bits_Turn.f 300 8 x = some (tn8 (x % 256).toNat : Int) := by
  have h : Go.Proofs.Ytebicdjnhogniaa.PWaveRing.bits_Turn.f 300 8 x = Go.Proofs.Ytebicdjnhogniaa.PWaveRing.bits_Turn.f 300 8 (x % 256) := by
    unfold Go.Proofs.Ytebicdjnhogniaa.PWaveRing.bits_Turn.f
    rw [low8, low8, Int.emod_emod]
  have h2 := turn_tab (x % 256).toNat (List.mem_range.2 (by omega))
  rw [h, ← h2, show ((x % 256).toNat : Int) = x % 256 by omega]
theorem turn8_any (x : Int) (w : World) : Calls Try.prog 50 #[.int .i64 8, .int .i64 x] w fun e w' => e = .returned (.int .i64 (tn8 (x % 256).toNat : Int)) ∧ Drawn0 w w' :=
  Go.Proofs.Ytebicdjnhogniaa.PWaveRing.bits_Turn.calls 300 8 x _ w (turn8_mod x)
theorem bit_mod (x i : Int) (h0 : 0 ≤ i) (h1 : i < 8) : Go.bits .and .i64 (shr .i64 x i) 1 = Go.bits .and .i64 (shr .i64 (x % 256) i) 1 := by
  rw [and_1, and_1]
  have : i = 0 ∨ i = 1 ∨ i = 2 ∨ i = 3 ∨ i = 4 ∨ i = 5 ∨ i = 6 ∨ i = 7 := by omega
  have key : ∀ n : Nat, n ≤ 64 → ∀ y : Int, shr .i64 y (n : Int) = y / 2 ^ n := fun n hn y => by
    unfold shr
    rw [Int.toNat_natCast, Nat.min_eq_left (by show n ≤ 64; omega)]
  rcases this with rfl | rfl | rfl | rfl | rfl | rfl | rfl | rfl
  · have k := key 0 (by omega); simp at k; rw [k, k]; omega
  · have k := key 1 (by omega); simp at k; rw [k, k]; omega
  · have k := key 2 (by omega); simp at k; rw [k, k]; omega
  · have k := key 3 (by omega); simp at k; rw [k, k]; omega
  · have k := key 4 (by omega); simp at k; rw [k, k]; omega
  · have k := key 5 (by omega); simp at k; rw [k, k]; omega
  · have k := key 6 (by omega); simp at k; rw [k, k]; omega
  · have k := key 7 (by omega); simp at k; rw [k, k]; omega
theorem rturn_mod (x : Int) : ∀ k o i, chatelaineref5_Turn.l0 k 8 x o i = chatelaineref5_Turn.l0 k 8 (x % 256) o i := by
  intro k
  induction k with
  | zero => intro o i; rfl
  | succ k ih =>
    intro o i
    simp only [chatelaineref5_Turn.l0]
    by_cases h1 : i < 8
    · by_cases h0 : 0 ≤ i
      · rw [if_pos h1, if_pos h0, if_pos h1, if_pos h0, bit_mod x i h0 h1, ih]
      · rw [if_pos h1, if_neg h0, if_pos h1, if_neg h0]
    · rw [if_neg h1, if_neg h1]
theorem rroot_f (x : Int) : chatelaineref10_Root.f 300 x = some (zS (x % 256).toNat) := by
  have h2 := root_tab (x % 256).toNat (List.mem_range.2 (by omega))
  rw [← h2, show ((x % 256).toNat : Int) = x % 256 by omega]
  unfold chatelaineref10_Root.f
  have e : chatelaineref5_Turn.f 300 8 x = chatelaineref5_Turn.f 300 8 (x % 256) := by
    unfold chatelaineref5_Turn.f
    rw [if_neg (by omega), if_neg (by omega)]
    show chatelaineref5_Turn.j0 (299 + 1) 8 x _ = chatelaineref5_Turn.j0 (299 + 1) 8 (x % 256) _
    simp only [chatelaineref5_Turn.j0]
    rw [rturn_mod]
  rw [e]
theorem rroot_o (x r : Int) (w : World) (hr : zS (x % 256).toNat = r) : Calls Try.prog 39 #[.int .i64 x] w fun e w' => e = .returned (.int .i64 r) ∧ Below w.heap.size w w' :=
  (chatelaineref10_Root.calls 300 x _ w (by rw [rroot_f, hr])).mono fun e w' h => ⟨h.1, by first | exact h.2 | exact below_of_drawn h.2⟩
theorem root_pow : ∀ m ∈ List.range 256, powS 1753 (tn8 m : Int) = zS m := by decide +kernel
theorem root_o (x r : Int) (w : World) (hr : zS (x % 256).toNat = r) : Calls Try.prog 38 #[.int .i64 x] w fun e w' => e = .returned (.int .i64 r) ∧ Below w.heap.size w w' := by
  have h := root_pow (x % 256).toNat (List.mem_range.2 (by omega))
  rw [hr] at h
  have T8 := Lib.hid (fun W => turn8_any x W)
  have hl := tn8_lt (x % 256).toNat
  obtain ⟨t, ht⟩ : ∃ t, tn8 (x % 256).toNat = t := ⟨_, rfl⟩
  rw [ht] at T8 h hl
  have PW := Lib.hid (fun W => pow_any 1753 (t : Int) r W (by omega) (by omega) (by omega) (by omega) h)
  clear h hr ht hl
  go_enter Try.func38, Try.ntmps38
  go_wp2_with (first
    | (go_at_call 50; (with_reducible refine (T8.out _).mono ?_); rintro e w9 ⟨rfl, hD⟩; have D1 := Lib.hid hD; clear hD)
    | (go_at_call 20; (with_reducible refine (PW.out _).mono ?_); rintro e w10 ⟨rfl, hD⟩; have D2 := Lib.hid hD; clear hD))
  go_ret
  exact ⟨rfl, below_step (below_of_drawn D1.out) (below_of_drawn D2.out)⟩
end Go.Proofs.Ytebicdjnhogniaa.T
