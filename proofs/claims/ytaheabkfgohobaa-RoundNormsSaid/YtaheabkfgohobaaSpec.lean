/- Plain laws on the numbers of chapter 9: remainders, parts, powers. No program in sight. -/
namespace Go.Proofs.Ytaheabkfgohobaa.S

def nearS (a x : Int) : Int := if a < 2 ∨ a % 2 ≠ 0 ∨ a > 1099511627776 then 0 else if x % a > a / 2 then x % a - a else x % a
def goodS (g : Int) : Bool := decide (g = 95232) || decide (g = 261888)
def highS (g x : Int) : Int := x % 8380417 - nearS (2 * g) (x % 8380417)
def partS (g x : Int) : Int × Int :=
  if goodS g = true then (if highS g x = 8380416 then (0, nearS (2 * g) (x % 8380417) - 1) else (highS g x / (2 * g), nearS (2 * g) (x % 8380417))) else (0, 0)
def hintS (g z x : Int) : Int := if (partS g x).1 = (partS g (x % 8380417 + z % 8380417)).1 then 0 else 1
def useS (g h x : Int) : Int :=
  if goodS g = true then (if h = 1 then (if (partS g x).2 > 0 then ((partS g x).1 + 1) % (8380416 / (2 * g)) else ((partS g x).1 + (8380416 / (2 * g) - 1)) % (8380416 / (2 * g))) else (partS g x).1) else 0
def splitS (x : Int) : Int × Int := ((x % 8380417 - nearS 8192 (x % 8380417)) / 8192, nearS 8192 (x % 8380417))
def normS (x : Int) : Int := if 8380417 - x % 8380417 < x % 8380417 then 8380417 - x % 8380417 else x % 8380417
def mulS (a b : Int) : Int := (a % 8380417) * (b % 8380417) % 8380417
def powS (a n : Int) : Int := if n < 0 then 0 else (a % 8380417) ^ n.toNat % 8380417

theorem good_cases {g : Int} (h : goodS g = true) : g = 95232 ∨ g = 261888 := by unfold goodS at h; simpa using h

theorem tmod_q (x : Int) : (0 ≤ x → x.tmod 8380417 = x % 8380417) ∧ (x < 0 → (x.tmod 8380417 < 0 → x.tmod 8380417 + 8380417 = x % 8380417) ∧ (0 ≤ x.tmod 8380417 → x.tmod 8380417 = x % 8380417)) := by
  refine ⟨fun h => Int.tmod_eq_emod_of_nonneg h, fun h => ?_⟩
  have := Int.tmod_eq_emod (a := x) (b := 8380417)
  split at this <;> omega
theorem tmod_bd (x : Int) : -8380417 < x.tmod 8380417 ∧ x.tmod 8380417 < 8380417 := by
  have := Int.tmod_eq_emod (a := x) (b := 8380417)
  split at this <;> omega

/-- Go's remainder, and the one that is never below 0. -/
theorem tmod_any (x a : Int) (ha : 0 < a) : -a < x.tmod a ∧ x.tmod a < a ∧ (x.tmod a < 0 → x.tmod a + a = x % a) ∧ (0 ≤ x.tmod a → x.tmod a = x % a) := by
  have h := Int.tmod_eq_emod (a := x) (b := a)
  have h1 := Int.emod_nonneg x (show a ≠ 0 by omega)
  have h2 := Int.emod_lt_of_pos x ha
  have hd : ((a : Int).natAbs : Int) = a := by omega
  split at h
  · rename_i hc
    refine ⟨by omega, by omega, by omega, by omega⟩
  · rename_i hc
    have hne : ¬ a ∣ x := fun hh => hc (.inr hh)
    have h3 : x % a ≠ 0 := fun hh => hne (Int.dvd_of_emod_eq_zero hh)
    refine ⟨by omega, by omega, by omega, by omega⟩

theorem near_bd {a x : Int} (ha : a = 8192 ∨ a = 190464 ∨ a = 523776) : -(a / 2) < nearS a x ∧ nearS a x ≤ a / 2 := by
  unfold nearS
  rcases ha with rfl | rfl | rfl <;> (split <;> first | omega | (split <;> omega))
theorem near_of {a x : Int} (ha : a = 8192 ∨ a = 190464 ∨ a = 523776) : nearS a x = if x % a > a / 2 then x % a - a else x % a := by
  unfold nearS
  rcases ha with rfl | rfl | rfl <;> (rw [if_neg (by omega)])

theorem part_of {g G x y n : Int} (hb : goodS g = true) (hG : 2 * g = G) (hy : x % 8380417 = y) (hn : nearS G y = n) :
    partS g x = if y - n = 8380416 then (0, n - 1) else ((y - n) / G, n) := by
  unfold partS highS
  rw [if_pos hb, hG, hy, hn]

/-- The near number is below what it is near to, by a multiple. -/
theorem near_mod {a x : Int} (ha : a = 8192 ∨ a = 190464 ∨ a = 523776) (h0 : 0 ≤ x) : (x - nearS a x) % a = 0 ∧ 0 ≤ x - nearS a x := by
  rw [near_of ha]
  rcases ha with rfl | rfl | rfl <;> (split <;> omega)

theorem part_bd {g x : Int} (hb : goodS g = true) : 0 ≤ (partS g x).1 ∧ (partS g x).1 ≤ 43 ∧ (g = 261888 → (partS g x).1 ≤ 15) ∧ -g ≤ (partS g x).2 ∧ (partS g x).2 ≤ g ∧ (partS g x).1 * (2 * g) ≤ 8380416 - 2 * g := by
  have hg := good_cases hb
  have hm := near_mod (a := 2 * g) (x := x % 8380417) (by omega) (by omega)
  have hd := near_bd (a := 2 * g) (x := x % 8380417) (by omega)
  have hp := part_of hb rfl rfl rfl (x := x)
  rw [hp]
  generalize nearS (2 * g) (x % 8380417) = n at *
  have y0 : 0 ≤ x % 8380417 := by omega
  have y1 : x % 8380417 ≤ 8380416 := by omega
  generalize x % 8380417 = y at *
  clear hp hb
  rcases hg with rfl | rfl <;> (split <;> (refine ⟨?_, ?_, ?_, ?_, ?_, ?_⟩ <;> simp only [] <;> omega))

theorem pow_step (x n out : Int) : (out * x % 8380417) * (x * x % 8380417) ^ (n / 2).toNat % 8380417 = out * x ^ (2 * (n / 2).toNat + 1) % 8380417 ∧ out * (x * x % 8380417) ^ (n / 2).toNat % 8380417 = out * x ^ (2 * (n / 2).toNat) % 8380417 := by
  have e1 : (x * x) ^ (n / 2).toNat = x ^ (2 * (n / 2).toNat) := by rw [Int.pow_mul, Int.pow_succ, Int.pow_succ, Int.pow_zero, Int.one_mul]
  have e2 : (x * x % 8380417) ^ (n / 2).toNat % 8380417 = (x * x) ^ (n / 2).toNat % 8380417 := by
    generalize (n / 2).toNat = m
    induction m with
    | zero => simp
    | succ m ih => rw [Int.pow_succ, Int.pow_succ, Int.mul_emod, ih, ← Int.mul_emod, Int.mul_emod, Int.emod_emod, ← Int.mul_emod]
  constructor
  · rw [Int.mul_emod, e2, Int.emod_emod, ← Int.mul_emod, e1, Int.pow_succ, Int.mul_assoc, Int.mul_comm x]
  · rw [Int.mul_emod, e2, ← Int.mul_emod, e1]

end Go.Proofs.Ytaheabkfgohobaa.S
