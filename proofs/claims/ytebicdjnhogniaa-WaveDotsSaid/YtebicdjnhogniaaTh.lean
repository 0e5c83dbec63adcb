/- Over and Back undo each other, and keep sums: plain. -/
import Derived.Test.YtebicdjnhogniaaBk
namespace Go.Proofs.Ytebicdjnhogniaa.T
set_option linter.unusedVariables false
set_option linter.unusedSimpArgs false
/-- alike modulo 8380417. -/
def M (a b : Int) : Prop := ∃ k, a = b + 8380417 * k
theorem M.refl (a : Int) : M a a := ⟨0, by omega⟩
theorem M.symm {a b : Int} (h : M a b) : M b a := by obtain ⟨k, e⟩ := h; exact ⟨-k, by omega⟩
theorem M.trans {a b c : Int} (h : M a b) (g : M b c) : M a c := by obtain ⟨k, e⟩ := h; obtain ⟨m, e2⟩ := g; exact ⟨k + m, by omega⟩
theorem M.add {a b c d : Int} (h : M a b) (g : M c d) : M (a + c) (b + d) := by obtain ⟨k, e⟩ := h; obtain ⟨m, e2⟩ := g; exact ⟨k + m, by omega⟩
theorem M.sub {a b c d : Int} (h : M a b) (g : M c d) : M (a - c) (b - d) := by obtain ⟨k, e⟩ := h; obtain ⟨m, e2⟩ := g; exact ⟨k - m, by omega⟩
theorem M.mul {a b c d : Int} (h : M a b) (g : M c d) : M (a * c) (b * d) := by obtain ⟨k, e⟩ := h; obtain ⟨m, e2⟩ := g; subst e e2; exact ⟨k * d + b * m + 8380417 * k * m, by grind⟩
theorem M.emod (a : Int) : M (a % 8380417) a := ⟨-(a / 8380417), by omega⟩
theorem M.of {a b : Int} (h : a % 8380417 = b % 8380417) : M a b := ((M.emod a).symm.trans (by rw [h]; exact M.refl _)).trans (M.emod b)
theorem M.eq {a b : Int} (h : M a b) (h1 : 0 ≤ a ∧ a < 8380417) (h2 : 0 ≤ b ∧ b < 8380417) : a = b := by obtain ⟨k, e⟩ := h; omega
theorem M.q (a : Int) : M (a + 8380417) a := ⟨1, by omega⟩
def EM (f g : F) : Prop := ∀ i, i < 256 → M (f i) (g i)
theorem EM.trans {f g h : F} (a : EM f g) (b : EM g h) : EM f h := fun i hi => (a i hi).trans (b i hi)
theorem EM.symm {f g : F} (a : EM f g) : EM g f := fun i hi => (a i hi).symm
theorem EM.eq {f g : F} (h : EM f g) (hf : PF f) (hg : PF g) : ∀ i, i < 256 → f i = g i := fun i hi => (h i hi).eq (hf i hi) (hg i hi)
section
variable {n nb : Nat} {z f g : F}
theorem pairs_all {P : Nat → Prop} (hn : 1 ≤ n) (hN : 2 * n * nb = 256) (h : ∀ b j, b < nb → 2 * n * b ≤ j → j < 2 * n * b + n → j + n < 256 → P j ∧ P (j + n)) : ∀ i, i < 256 → P i := by
  intro i hi
  have h4 := Nat.div_add_mod i (2 * n)
  have h5 := Nat.mod_lt i (show 0 < 2 * n by omega)
  have hb : i / (2 * n) < nb := by
    rw [Nat.div_lt_iff_lt_mul (by omega), Nat.mul_comm, hN]; exact hi
  have htop : 2 * n * (i / (2 * n)) + 2 * n ≤ 256 := by
    have h1 : 2 * n * (i / (2 * n) + 1) ≤ 2 * n * nb := Nat.mul_le_mul_left _ (by omega)
    rw [hN, Nat.mul_add, Nat.mul_one] at h1
    exact h1
  by_cases hr : i % (2 * n) < n
  · exact (h (i / (2 * n)) i hb (by omega) (by omega) (by omega)).1
  · have := (h (i / (2 * n)) (i - n) hb (by omega) (by omega) (by omega)).2
    rw [Nat.sub_add_cancel (by omega)] at this
    exact this
variable {b j : Nat} (h1 : 2 * n * b ≤ j) (h2 : j < 2 * n * b + n)
include h1 h2
theorem lay_loM : M (lay n nb z f j) (f j + z (nb + b) * f (j + n)) := by
  rw [lay_lo n nb z f b j h1 h2]
  exact (M.emod _).trans ((M.refl _).add (M.emod _))
theorem lay_hiM : M (lay n nb z f (j + n)) (f j - z (nb + b) * f (j + n)) := by
  rw [lay_hi n nb z f b j h1 h2]
  exact (M.emod _).trans ((M.q _).sub (M.emod _))
theorem bay_loM : M (bay n nb z f j) (f j + f (j + n)) := by
  rw [bay_lo n nb z f b j h1 h2]
  exact M.emod _
theorem bay_hiM : M (bay n nb z f (j + n)) (z (2 * nb - 1 - b) * (f (j + n) - f j)) := by
  rw [bay_hi n nb z f b j h1 h2]
  exact (M.emod _).trans ((M.refl _).mul (by have := (M.q (f (j + n))).sub (M.refl (f j)); exact this))
end
section
variable {n nb : Nat} {z f g : F} (hn : 1 ≤ n) (hN : 2 * n * nb = 256)
include hn hN
theorem lay_congr (h : EM f g) : EM (lay n nb z f) (lay n nb z g) := pairs_all hn hN fun b j hb h1 h2 h3 =>
  ⟨(lay_loM h1 h2).trans (((h j (by omega)).add ((M.refl _).mul (h (j + n) h3))).trans (lay_loM h1 h2).symm), (lay_hiM h1 h2).trans (((h j (by omega)).sub ((M.refl _).mul (h (j + n) h3))).trans (lay_hiM h1 h2).symm)⟩
theorem bay_congr (h : EM f g) : EM (bay n nb z f) (bay n nb z g) := pairs_all hn hN fun b j hb h1 h2 h3 =>
  ⟨(bay_loM h1 h2).trans (((h j (by omega)).add (h (j + n) h3)).trans (bay_loM h1 h2).symm), (bay_hiM h1 h2).trans (((M.refl _).mul ((h (j + n) h3).sub (h j (by omega)))).trans (bay_hiM h1 h2).symm)⟩
theorem lay_scale (c : Int) : EM (lay n nb z (fun i => c * f i)) (fun i => c * lay n nb z f i) := pairs_all hn hN fun b j hb h1 h2 h3 => by
  refine ⟨(lay_loM h1 h2).trans (M.trans ?_ ((M.refl c).mul (lay_loM h1 h2).symm)), (lay_hiM h1 h2).trans (M.trans ?_ ((M.refl c).mul (lay_hiM h1 h2).symm))⟩
  · exact ⟨0, by grind⟩
  · exact ⟨0, by grind⟩
theorem bay_scale (c : Int) : EM (bay n nb z (fun i => c * f i)) (fun i => c * bay n nb z f i) := pairs_all hn hN fun b j hb h1 h2 h3 => by
  refine ⟨(bay_loM h1 h2).trans (M.trans ?_ ((M.refl c).mul (bay_loM h1 h2).symm)), (bay_hiM h1 h2).trans (M.trans ?_ ((M.refl c).mul (bay_hiM h1 h2).symm))⟩
  · exact ⟨0, by grind⟩
  · exact ⟨0, by grind⟩
theorem lay_add : EM (lay n nb z (fun i => f i + g i)) (fun i => lay n nb z f i + lay n nb z g i) := pairs_all hn hN fun b j hb h1 h2 h3 => by
  refine ⟨(lay_loM h1 h2).trans (M.trans ?_ ((lay_loM h1 h2).symm.add (lay_loM h1 h2).symm)), (lay_hiM h1 h2).trans (M.trans ?_ ((lay_hiM h1 h2).symm.add (lay_hiM h1 h2).symm))⟩
  · exact ⟨0, by grind⟩
  · exact ⟨0, by grind⟩
theorem bay_lay (hz : ∀ b, b < nb → M (z (nb + b) * z (2 * nb - 1 - b)) (-1)) : EM (bay n nb z (lay n nb z f)) (fun i => 2 * f i) := pairs_all hn hN fun b j hb h1 h2 h3 => by
  obtain ⟨kz, ez⟩ := hz b hb
  refine ⟨(bay_loM h1 h2).trans (((lay_loM h1 h2).add (lay_hiM h1 h2)).trans ⟨0, by grind⟩), (bay_hiM h1 h2).trans (((M.refl _).mul ((lay_hiM h1 h2).sub (lay_loM h1 h2))).trans ⟨-2 * kz * f (j + n), ?_⟩)⟩
  grind
theorem lay_bay (hz : ∀ b, b < nb → M (z (nb + b) * z (2 * nb - 1 - b)) (-1)) : EM (lay n nb z (bay n nb z f)) (fun i => 2 * f i) := pairs_all hn hN fun b j hb h1 h2 h3 => by
  obtain ⟨kz, ez⟩ := hz b hb
  refine ⟨(lay_loM h1 h2).trans (((bay_loM h1 h2).add ((M.refl _).mul (bay_hiM h1 h2))).trans ⟨kz * (f (j + n) - f j), ?_⟩), (lay_hiM h1 h2).trans (((bay_loM h1 h2).sub ((M.refl _).mul (bay_hiM h1 h2))).trans ⟨-kz * (f (j + n) - f j), ?_⟩)⟩
  · grind
  · grind
end
/-! ### the roots -/
theorem z_pair0 : ∀ s ∈ List.range 8, ∀ b ∈ List.range (2 ^ s), (zS (2 ^ s + b) * zS (2 * 2 ^ s - 1 - b)) % 8380417 = (-1) % 8380417 := by decide +kernel
theorem z_pair (s : Nat) (hs : s < 8) (b : Nat) (hb : b < 2 ^ s) : M (zS (2 ^ s + b) * zS (2 * 2 ^ s - 1 - b)) (-1) := M.of (z_pair0 s (List.mem_range.2 hs) b (List.mem_range.2 hb))
theorem dims : ∀ s, s < 8 → 1 ≤ 128 / 2 ^ s ∧ 2 * (128 / 2 ^ s) * 2 ^ s = 256 ∧ 2 ^ (7 - s) = 128 / 2 ^ s ∧ 128 / 2 ^ (7 - s) = 2 ^ s := by decide
theorem back_step (f : F) (t : Nat) (ht : t ≤ 8) : EM (backL (overL f 8) t) (fun i => 2 ^ t * overL f (8 - t) i) := by
  induction t with
  | zero => intro i _; exact ⟨0, by simp [backL]⟩
  | succ t ih =>
    have ih := ih (by omega)
    obtain ⟨s, hs⟩ : ∃ s, s = 7 - t := ⟨_, rfl⟩
    have hs8 : s < 8 := by omega
    obtain ⟨d1, d2, d3, d4⟩ := dims s hs8
    have et : 7 - s = t := by omega
    rw [et] at d3 d4
    have e8 : 8 - t = s + 1 := by omega
    have e9 : 8 - (t + 1) = s := by omega
    rw [e8] at ih
    rw [e9]
    have ho : overL f (s + 1) = lay (128 / 2 ^ s) (2 ^ s) zS (overL f s) := rfl
    have hb : backL (overL f 8) (t + 1) = bay (2 ^ t) (128 / 2 ^ t) zS (backL (overL f 8) t) := rfl
    rw [hb, d4, d3]
    rw [ho] at ih
    refine (bay_congr d1 d2 ih).trans ((bay_scale d1 d2 (2 ^ t)).trans fun i hi => ?_)
    refine ((M.refl (2 ^ t)).mul (bay_lay d1 d2 (z_pair s hs8) i hi)).trans ⟨0, ?_⟩
    rw [Int.pow_succ]
    grind
theorem over_step (f : F) (t : Nat) (ht : t ≤ 8) : EM (overL (backS f) t) (fun i => (8347681 * 2 ^ t) * backL f (8 - t) i) := by
  induction t with
  | zero =>
    intro i _
    exact (M.emod _).trans ⟨0, by simp; grind⟩
  | succ t ih =>
    have ih := ih (by omega)
    have ht8 : t < 8 := by omega
    obtain ⟨d1, d2, d3, d4⟩ := dims t ht8
    have e8 : 8 - t = (7 - t) + 1 := by omega
    have e9 : 8 - (t + 1) = 7 - t := by omega
    rw [e8] at ih
    rw [e9]
    have ho : overL (backS f) (t + 1) = lay (128 / 2 ^ t) (2 ^ t) zS (overL (backS f) t) := rfl
    have hb : backL f (7 - t + 1) = bay (2 ^ (7 - t)) (128 / 2 ^ (7 - t)) zS (backL f (7 - t)) := rfl
    rw [hb, d4, d3] at ih
    rw [ho]
    refine (lay_congr d1 d2 ih).trans ((lay_scale d1 d2 (8347681 * 2 ^ t)).trans fun i hi => ?_)
    refine ((M.refl (8347681 * 2 ^ t)).mul (lay_bay d1 d2 (z_pair t ht8) i hi)).trans ⟨0, ?_⟩
    rw [Int.pow_succ]
    grind
theorem overS_PF (f : F) : PF (overS f) := lay_PF _ _ _ _
theorem back_over (f : F) (hf : PF f) : ∀ i, i < 256 → backS (overS f) i = f i := by
  refine EM.eq (fun i hi => ?_) (backS_PF _) hf
  have h := back_step f 8 (by omega) i hi
  have e0 : overL f (8 - 8) = f := rfl
  simp only [e0] at h
  refine (M.emod _).trans ((h.mul (M.refl 8347681)).trans ⟨255 * f i, ?_⟩)
  have e : ((2 : Int) ^ 8) * 8347681 = 1 + 8380417 * 255 := by decide
  grind
theorem over_back (f : F) (hf : PF f) : ∀ i, i < 256 → overS (backS f) i = f i := by
  refine EM.eq (fun i hi => ?_) (overS_PF _) hf
  have h := over_step f 8 (by omega) i hi
  have e0 : backL f (8 - 8) = f := rfl
  simp only [e0] at h
  refine h.trans ⟨255 * f i, ?_⟩
  have e : (8347681 : Int) * 2 ^ 8 = 1 + 8380417 * 255 := by decide
  rw [e]
  grind
theorem overL_congr {f g : F} (h : EM f g) : ∀ s, s ≤ 8 → EM (overL f s) (overL g s)
  | 0, _ => h
  | s + 1, hs => by
    obtain ⟨d1, d2, _, _⟩ := dims s (by omega)
    exact lay_congr d1 d2 (overL_congr h s (by omega))
theorem overL_add (f g : F) : ∀ s, s ≤ 8 → EM (overL (fun i => f i + g i) s) (fun i => overL f s i + overL g s i)
  | 0, _ => fun i _ => M.refl _
  | s + 1, hs => by
    obtain ⟨d1, d2, _, _⟩ := dims s (by omega)
    exact (lay_congr d1 d2 (overL_add f g s (by omega))).trans (lay_add d1 d2)
theorem overL_scale (c : Int) (f : F) : ∀ s, s ≤ 8 → EM (overL (fun i => c * f i) s) (fun i => c * overL f s i)
  | 0, _ => fun i _ => M.refl _
  | s + 1, hs => by
    obtain ⟨d1, d2, _, _⟩ := dims s (by omega)
    exact (lay_congr d1 d2 (overL_scale c f s (by omega))).trans (lay_scale d1 d2 c)
theorem over_add (f g : F) : ∀ i, i < 256 → overS (addS f g) i = addS (overS f) (overS g) i := by
  refine EM.eq ?_ (overS_PF _) (addS_PF _ _)
  refine (overL_congr (f := addS f g) (g := fun i => f i + g i) (fun i _ => M.emod _) 8 (by omega)).trans ((overL_add f g 8 (by omega)).trans fun i _ => (M.emod _).symm)
end Go.Proofs.Ytebicdjnhogniaa.T
