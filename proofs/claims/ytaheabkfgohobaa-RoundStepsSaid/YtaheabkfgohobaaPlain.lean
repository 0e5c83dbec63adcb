/- Plain laws on parts: what they are in plain words, steps, hints, distances. -/
import Derived.Test.YtaheabkfgohobaaSpec
namespace Go.Proofs.Ytaheabkfgohobaa.S
theorem part_char {g x c d : Int} (hg : g = 95232 ∨ g = 261888) (h0 : 0 ≤ x) (h1 : x ≤ 8380416) (h : partS g x = (c, d)) :
    (x = 2 * g * c + d ∧ -g < d ∧ d ≤ g ∧ 0 ≤ c ∧ c * (2 * g) ≤ 8380416 - 2 * g) ∨ (x = 8380417 + d ∧ c = 0 ∧ -g ≤ d ∧ d ≤ -1) := by
  have hb : goodS g = true := by unfold goodS; simpa using hg
  rw [part_of hb rfl rfl rfl] at h
  have hx : x % 8380417 = x := by omega
  rw [hx] at h
  have hm := near_mod (a := 2 * g) (x := x) (by omega) h0
  have hd := near_bd (a := 2 * g) (x := x) (by omega)
  generalize nearS (2 * g) x = n at *
  split at h
  all_goals
    obtain ⟨rfl, rfl⟩ := Prod.mk.inj h
    rcases hg with rfl | rfl <;> omega
theorem part_mod (g x y : Int) (h : x % 8380417 = y % 8380417) : partS g x = partS g y := by unfold partS highS; rw [h]
/-- with the hint of a small number the high part of the sum is told. -/
theorem hints_plain {g x z : Int} (hg : g = 95232 ∨ g = 261888) (x0 : 0 ≤ x) (x1 : x ≤ 8380416) (z0 : -g ≤ z) (z1 : z ≤ g) :
    useS g (hintS g z x) x = (partS g (x + z)).1 ∧ hintS g 0 x = 0 ∧ (hintS g z x = 0 ∨ hintS g z x = 1) := by
  have hb : goodS g = true := by unfold goodS; simpa using hg
  have e1 : partS g (x % 8380417 + z % 8380417) = partS g (x + z) := part_mod _ _ _ (by omega)
  have e2 : partS g (x % 8380417 + 0 % 8380417) = partS g x := part_mod _ _ _ (by omega)
  have e3 : partS g (x + z) = partS g ((x + z) % 8380417) := part_mod _ _ _ (by omega)
  obtain ⟨c, d, hc⟩ : ∃ c d, partS g x = (c, d) := ⟨_, _, rfl⟩
  obtain ⟨c', d', hc'⟩ : ∃ c d, partS g (x + z) = (c, d) := ⟨_, _, rfl⟩
  have f1 := part_char hg x0 x1 hc
  have f2 := part_char (c := c') (d := d') hg (x := (x + z) % 8380417) (by omega) (by omega) (by rw [← e3]; exact hc')
  refine ⟨?_, by unfold hintS; rw [e2]; exact if_pos rfl, by unfold hintS; split; exact .inl rfl; exact .inr rfl⟩
  unfold hintS
  rw [e1, hc, hc']
  unfold useS
  rw [if_pos hb, hc]
  simp only []
  by_cases h : c = c'
  · simp [h]
  · rw [if_neg h]
    simp only [if_true]
    have hw : (x + z) % 8380417 = x + z ∨ (x + z) % 8380417 = x + z + 8380417 ∨ (x + z) % 8380417 = x + z - 8380417 := by omega
    generalize (x + z) % 8380417 = y at *
    clear e1 e2 e3 hc hc'
    rcases hg with rfl | rfl
    · split
      · rcases f1 with f1 | f1 <;> rcases f2 with f2 | f2 <;> omega
      · rcases f1 with f1 | f1 <;> rcases f2 with f2 | f2 <;> omega
    · split
      · rcases f1 with f1 | f1 <;> rcases f2 with f2 | f2 <;> omega
      · rcases f1 with f1 | f1 <;> rcases f2 with f2 | f2 <;> omega
theorem split_char {x a b : Int} (h0 : 0 ≤ x) (h1 : x ≤ 8380416) (h : splitS x = (a, b)) : x = a * 8192 + b ∧ -4096 < b ∧ b ≤ 4096 ∧ 0 ≤ a ∧ a ≤ 1023 := by
  unfold splitS at h
  have hx : x % 8380417 = x := by omega
  rw [hx, near_of (by omega)] at h
  obtain ⟨rfl, rfl⟩ := Prod.mk.inj h
  split <;> omega
theorem split_step {x n a b c d : Int} (h0 : 0 ≤ x) (h1 : x ≤ 8380416) (n0 : 0 ≤ n) (hn : x + 8192 * n < 8380417) (h : splitS x = (a, b)) (h' : splitS (x + 8192 * n) = (c, d)) : c = a + n ∧ d = b := by
  have f1 := split_char h0 h1 h
  have f2 := split_char (by omega) (by omega) h'
  omega
theorem part_step {g x k a b c d : Int} (hg : g = 95232 ∨ g = 261888) (h0 : 0 ≤ x) (h1 : x ≤ 8380416) (n0 : 0 ≤ k) (hn : x + 2 * g * k < 8380416 - g) (h : partS g x = (a, b)) (h' : partS g (x + 2 * g * k) = (c, d)) : c = a + k ∧ d = b := by
  rcases hg with rfl | rfl
  all_goals
    have f1 := part_char (by omega) h0 h1 h
    have f2 := part_char (by omega) (by omega) (by omega) h'
    omega
theorem part_inj {g x y a b c d : Int} (hg : g = 95232 ∨ g = 261888) (h0 : 0 ≤ x) (h1 : x ≤ 8380416) (y0 : 0 ≤ y) (y1 : y ≤ 8380416) (h : partS g x = (a, b)) (h' : partS g y = (c, d)) (e1 : a = c) (e2 : b = d) : x = y := by
  rcases hg with rfl | rfl
  all_goals
    have f1 := part_char (by omega) h0 h1 h
    have f2 := part_char (by omega) y0 y1 h'
    omega
end Go.Proofs.Ytaheabkfgohobaa.S
