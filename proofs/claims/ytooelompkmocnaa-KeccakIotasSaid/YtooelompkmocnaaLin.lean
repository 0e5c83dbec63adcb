/- What the steps do to sums, and that they part what is unlike: plain. -/
import Derived.Test.YtooelompkmocnaaAw
namespace Go.Proofs.Ytooelompkmocnaa.T
set_option linter.unusedVariables false
set_option linter.unusedSimpArgs false
theorem rot_bit (x : BitVec 64) (k i : Nat) (hi : i < 64) (hk : k < 64) : (x.rotateLeft k).getLsbD i = x.getLsbD ((i + (64 - k)) % 64) := by
  rw [BitVec.getLsbD_rotateLeft, Nat.mod_eq_of_lt hk]
  by_cases h : i < k
  · rw [decide_eq_true h, cond_true]
    congr 1
    omega
  · rw [decide_eq_false h, cond_false, decide_eq_true hi, Bool.true_and]
    congr 1
    omega
theorem rot_xor (x y : BitVec 64) (k : Nat) (hk : k < 64) : (x ^^^ y).rotateLeft k = x.rotateLeft k ^^^ y.rotateLeft k := by
  apply BitVec.eq_of_getLsbD_eq
  intro i hi
  rw [BitVec.getLsbD_xor, rot_bit _ _ _ hi hk, rot_bit _ _ _ hi hk, rot_bit _ _ _ hi hk, BitVec.getLsbD_xor]
theorem rot_inj (x y : BitVec 64) (k : Nat) (hk : k < 64) (h : x.rotateLeft k = y.rotateLeft k) : x = y := by
  apply BitVec.eq_of_getLsbD_eq
  intro i hi
  have h1 := congrArg (fun z => z.getLsbD ((i + k) % 64)) h
  simp only [rot_bit _ _ _ (Nat.mod_lt _ (by omega)) hk] at h1
  have e : ((i + k) % 64 + (64 - k)) % 64 = i := by omega
  rw [e] at h1
  exact h1
theorem tab_lt : ∀ j, j < 25 → tab 24 j < 64 := by decide
theorem rho_inj {a b : L} (h : Same (rhoS a) (rhoS b)) : Same a b := fun j hj => rot_inj _ _ _ (tab_lt j hj) (h j hj)
def addL (a b : L) : L := fun j => a j ^^^ b j
theorem rho_add (a b : L) : Same (rhoS (addL a b)) (addL (rhoS a) (rhoS b)) := fun j hj => rot_xor _ _ _ (tab_lt j hj)
theorem pi_add (a b : L) : Same (piS (addL a b)) (addL (piS a) (piS b)) := fun j hj => rfl
theorem pi_onto : ∀ i, i < 25 → ∃ j, j < 25 ∧ (j % 5 + 3 * (j / 5)) % 5 + 5 * (j % 5) = i := by decide
theorem pi_inj {a b : L} (h : Same (piS a) (piS b)) : Same a b := fun i hi => by
  obtain ⟨j, hj, e⟩ := pi_onto i hi
  have := h j hj
  unfold piS at this
  rw [e] at this
  exact this
theorem chi_at (a : L) (r c : Nat) (hc : c < 5) : chiS a (5 * r + c) = a (5 * r + c) ^^^ (~~~ a (5 * r + (c + 1) % 5) &&& a (5 * r + (c + 2) % 5)) := by
  unfold chiS
  have e1 : (5 * r + c) % 5 = c := by omega
  have e2 : (5 * r + c) / 5 = r := by omega
  rw [e1, e2, Nat.add_comm ((c + 1) % 5), Nat.add_comm ((c + 2) % 5)]
theorem chi_bool : ∀ x0 x1 x2 x3 x4 y0 y1 y2 y3 y4 : Bool, (x0 ^^ (!x1 && x2)) = (y0 ^^ (!y1 && y2)) → (x1 ^^ (!x2 && x3)) = (y1 ^^ (!y2 && y3)) → (x2 ^^ (!x3 && x4)) = (y2 ^^ (!y3 && y4)) → (x3 ^^ (!x4 && x0)) = (y3 ^^ (!y4 && y0)) → (x4 ^^ (!x0 && x1)) = (y4 ^^ (!y0 && y1)) → x0 = y0 ∧ x1 = y1 ∧ x2 = y2 ∧ x3 = y3 ∧ x4 = y4 := by decide +kernel
theorem chi_bits (a : L) (r c k : Nat) (hc : c < 5) (hk : k < 64) : (chiS a (5 * r + c)).getLsbD k = ((a (5 * r + c)).getLsbD k ^^ (!(a (5 * r + (c + 1) % 5)).getLsbD k && (a (5 * r + (c + 2) % 5)).getLsbD k)) := by
  rw [chi_at a r c hc, BitVec.getLsbD_xor, BitVec.getLsbD_and, BitVec.getLsbD_not, decide_eq_true hk, Bool.true_and]
theorem chi_inj {a b : L} (h : Same (chiS a) (chiS b)) : Same a b := by
  have row : ∀ r, r < 5 → ∀ c, c < 5 → a (5 * r + c) = b (5 * r + c) := by
    intro r hr c hc
    apply BitVec.eq_of_getLsbD_eq
    intro k hk
    have g : ∀ c, c < 5 → ((a (5 * r + c)).getLsbD k ^^ (!(a (5 * r + (c + 1) % 5)).getLsbD k && (a (5 * r + (c + 2) % 5)).getLsbD k)) = ((b (5 * r + c)).getLsbD k ^^ (!(b (5 * r + (c + 1) % 5)).getLsbD k && (b (5 * r + (c + 2) % 5)).getLsbD k)) := fun c hc => by
      rw [← chi_bits a r c k hc hk, ← chi_bits b r c k hc hk, h (5 * r + c) (by omega)]
    obtain ⟨h0, h1, h2, h3, h4⟩ := chi_bool _ _ _ _ _ _ _ _ _ _ (g 0 (by omega)) (g 1 (by omega)) (g 2 (by omega)) (g 3 (by omega)) (g 4 (by omega))
    match c, hc with
    | 0, _ => exact h0
    | 1, _ => exact h1
    | 2, _ => exact h2
    | 3, _ => exact h3
    | 4, _ => exact h4
  intro j hj
  have := row (j / 5) (by omega) (j % 5) (by omega)
  have e : 5 * (j / 5) + j % 5 = j := by omega
  rw [e] at this
  exact this
theorem csum_at (a : L) : ∀ x, x < 5 → csum a 25 x = (((((0#64) ^^^ a x) ^^^ a (x + 5)) ^^^ a (x + 10)) ^^^ a (x + 15)) ^^^ a (x + 20)
  | 0, _ => rfl
  | 1, _ => rfl
  | 2, _ => rfl
  | 3, _ => rfl
  | 4, _ => rfl
theorem csum_add (a b : L) (x : Nat) (hx : x < 5) : csum (addL a b) 25 x = csum a 25 x ^^^ csum b 25 x := by
  rw [csum_at _ x hx, csum_at _ x hx, csum_at _ x hx]
  unfold addL
  simp only [BitVec.zero_xor]
  ac_rfl
theorem theta_add (a b : L) : Same (thetaS (addL a b)) (addL (thetaS a) (thetaS b)) := fun j hj => by
  show thetaS (addL a b) j = thetaS a j ^^^ thetaS b j
  unfold thetaS
  rw [csum_add a b _ (Nat.mod_lt _ (by omega)), csum_add a b _ (Nat.mod_lt _ (by omega)), rot_xor _ _ _ (by omega)]
  unfold addL
  ac_rfl
/-! ### theta parts: its sums are those of a map that can be turned back -/
theorem fold_step {g : Nat → Nat → Bool} {s t u : Nat} (h : ∀ x i, g x i = (g (x + s) i ^^ g (x + t) (i + u))) : ∀ x i, g x i = (g (x + (s + s)) i ^^ g (x + (t + t)) (i + (u + u))) := by
  intro x i
  have h1 := h x i
  rw [h (x + s) i, h (x + t) (i + u)] at h1
  have e1 : x + s + s = x + (s + s) := by omega
  have e2 : x + s + t = x + t + s := by omega
  have e3 : x + t + t = x + (t + t) := by omega
  have e4 : i + u + u = i + (u + u) := by omega
  rw [e1, e2, e3, e4] at h1
  rw [h1]
  cases g (x + (s + s)) i <;> cases g (x + t + s) (i + u) <;> cases g (x + (t + t)) (i + (u + u)) <;> rfl
theorem fold_zero {g : Nat → Nat → Bool} (p1 : ∀ x i, g (x + 5) i = g x i) (p2 : ∀ x i, g x (i + 64) = g x i) (h : ∀ x i, g x i = (g (x + 4) i ^^ g (x + 1) (i + 63))) : ∀ x i, g x i = false := by
  have q1 : ∀ k x i, g (x + 5 * k) i = g x i := by
    intro k
    induction k with
    | zero => intro x i; rfl
    | succ k ih => intro x i; rw [show x + 5 * (k + 1) = (x + 5 * k) + 5 by omega, p1, ih]
  have q2 : ∀ k x i, g x (i + 64 * k) = g x i := by
    intro k
    induction k with
    | zero => intro x i; rfl
    | succ k ih => intro x i; rw [show i + 64 * (k + 1) = (i + 64 * k) + 64 by omega, p2, ih]
  have h6 := fold_step (fold_step (fold_step (fold_step (fold_step (fold_step h)))))
  have hs : ∀ x i, g x i = (g (x + 1) i ^^ g (x + 4) i) := by
    intro x i
    have h7 := h6 x i
    simp only [Nat.reduceAdd] at h7
    rw [show x + 256 = (x + 1) + 5 * 51 by omega, q1, show x + 64 = (x + 4) + 5 * 12 by omega, q1, show i + 4032 = i + 64 * 63 by omega, q2] at h7
    exact h7
  have hn : ∀ x i, g x i = g (x + 1) i := by
    intro x i
    have a0 := hs x i
    have a1 := hs (x + 1) i
    have a2 := hs (x + 2) i
    have a3 := hs (x + 3) i
    have a4 := hs (x + 4) i
    simp only [Nat.add_assoc, Nat.reduceAdd] at a1 a2 a3 a4
    have w5 := p1 x i
    have w6 := p1 (x + 1) i
    have w7 := p1 (x + 2) i
    have w8 := p1 (x + 3) i
    simp only [Nat.add_assoc, Nat.reduceAdd] at w6 w7 w8
    rw [w5] at a1
    rw [w6] at a2
    rw [w7] at a3
    rw [w5, w8] at a4
    revert a0 a1 a2 a3 a4
    cases g x i <;> cases g (x + 1) i <;> cases g (x + 2) i <;> cases g (x + 3) i <;> cases g (x + 4) i <;> decide
  intro x i
  have a0 := hs x i
  have b1 := hn x i
  have b2 := hn (x + 1) i
  have b3 := hn (x + 2) i
  have b4 := hn (x + 3) i
  simp only [Nat.add_assoc, Nat.reduceAdd] at b2 b3 b4
  rw [← b4, ← b3, ← b2, ← b1] at a0
  revert a0
  cases g x i <;> decide
theorem theta_inj {a b : L} (h : Same (thetaS a) (thetaS b)) : Same a b := by
  -- the sum of both
  have hz : ∀ j, j < 25 → thetaS (addL a b) j = 0 := fun j hj => by
    rw [theta_add a b j hj]
    unfold addL
    rw [h j hj, BitVec.xor_self]
    rfl
  obtain ⟨e, he⟩ : ∃ e, addL a b = e := ⟨_, rfl⟩
  rw [he] at hz
  have hzero : ∀ j, j < 25 → e j = 0 := by
    obtain ⟨C, hC⟩ : ∃ C : Nat → BitVec 64, C = fun x => csum e 25 (x % 5) := ⟨_, rfl⟩
    have hD : ∀ j, j < 25 → e j = C (j + 4) ^^^ (C (j + 1)).rotateLeft 1 := fun j hj => by
      have h1 := hz j hj
      unfold thetaS at h1
      have e1 : (j % 5 + 4) % 5 = (j + 4) % 5 := by omega
      have e2 : (j % 5 + 1) % 5 = (j + 1) % 5 := by omega
      rw [e1, e2] at h1
      rw [hC]
      exact BitVec.xor_eq_zero_iff.1 h1
    have hper : ∀ x, C (x + 5) = C x := fun x => by rw [hC]; simp
    have hS : ∀ x, x < 5 → C x = C (x + 4) ^^^ (C (x + 1)).rotateLeft 1 := fun x hx => by
      have h1 : C x = csum e 25 x := by rw [hC]; simp only; rw [Nat.mod_eq_of_lt hx]
      have e5 : ∀ k y, C (y + 5 * k) = C y := by
        intro k
        induction k with
        | zero => intro y; rfl
        | succ k ih => intro y; rw [show y + 5 * (k + 1) = (y + 5 * k) + 5 by omega, hper, ih]
      rw [h1, csum_at e x hx, hD x (by omega), hD (x + 5) (by omega), hD (x + 10) (by omega), hD (x + 15) (by omega), hD (x + 20) (by omega)]
      rw [show x + 5 + 4 = x + 4 + 5 * 1 by omega, show x + 10 + 4 = x + 4 + 5 * 2 by omega, show x + 15 + 4 = x + 4 + 5 * 3 by omega, show x + 20 + 4 = x + 4 + 5 * 4 by omega,
        show x + 5 + 1 = x + 1 + 5 * 1 by omega, show x + 10 + 1 = x + 1 + 5 * 2 by omega, show x + 15 + 1 = x + 1 + 5 * 3 by omega, show x + 20 + 1 = x + 1 + 5 * 4 by omega]
      simp only [e5]
      generalize C (x + 4) ^^^ (C (x + 1)).rotateLeft 1 = d
      rw [BitVec.zero_xor, BitVec.xor_self, BitVec.zero_xor, BitVec.xor_self, BitVec.zero_xor]
    have hSx : ∀ x, C x = C (x + 4) ^^^ (C (x + 1)).rotateLeft 1 := fun x => by
      have h1 := hS (x % 5) (Nat.mod_lt _ (by omega))
      have c0 : C (x % 5) = C x := by rw [hC]; simp
      have c4 : C (x % 5 + 4) = C (x + 4) := by rw [hC]; simp only; congr 1; omega
      have c1 : C (x % 5 + 1) = C (x + 1) := by rw [hC]; simp only; congr 1; omega
      rw [c0, c4, c1] at h1
      exact h1
    have hall := fold_zero (g := fun x i => (C x).getLsbD (i % 64)) (fun x i => by simp only [hper]) (fun x i => by simp only [Nat.add_mod_right]) (fun x i => by
      show (C x).getLsbD (i % 64) = ((C (x + 4)).getLsbD (i % 64) ^^ (C (x + 1)).getLsbD ((i + 63) % 64))
      have hi : i % 64 < 64 := Nat.mod_lt _ (by omega)
      have h1 := congrArg (fun z => z.getLsbD (i % 64)) (hSx x)
      simp only [BitVec.getLsbD_xor, rot_bit _ 1 _ hi (by omega)] at h1
      rw [h1]
      congr 2
      omega)
    have hC0 : ∀ x, C x = 0 := fun x => by
      apply BitVec.eq_of_getLsbD_eq
      intro i hi
      have := hall x i
      simp only [Nat.mod_eq_of_lt hi] at this
      rw [this]
      simp
    intro j hj
    rw [hD j hj, hC0, hC0]
    decide
  intro j hj
  have h1 := hzero j hj
  rw [← he] at h1
  exact BitVec.xor_eq_zero_iff.1 h1
theorem step_inj {a b : L} (h : Same (stepS a) (stepS b)) : Same a b := theta_inj (rho_inj (pi_inj (chi_inj h)))
theorem iota_inj {a b : L} (r : Int) (h : Same (iotaS a r) (iotaS b r)) : Same a b := fun j hj => by
  have h1 := h j hj
  unfold iotaS at h1
  by_cases e : j = 0 ∧ 0 ≤ r ∧ r < 24
  · rw [if_pos e, if_pos e] at h1
    rw [e.1]
    exact (BitVec.xor_left_inj _).1 h1
  · rw [if_neg e, if_neg e] at h1
    exact h1
theorem round_inj {a b : L} (r : Int) (h : Same (roundS a r) (roundS b r)) : Same a b := step_inj (iota_inj r h)
theorem perm_inj {a b : L} : ∀ n, Same (permS a n) (permS b n) → Same a b
  | 0, h => h
  | n + 1, h => perm_inj n (round_inj _ h)
theorem eqA_cong {a b c d : L} (h : Same a b ↔ Same c d) : eqA a b = eqA c d := by
  rw [Bool.eq_iff_iff, eqA_iff, eqA_iff]
  exact h
theorem apart_perm (a b : L) : eqA (permS a 24) (permS b 24) = eqA a b := eqA_cong ⟨perm_inj 24, fun h => perm_congr h 24⟩
theorem apart_chi (a b : L) : eqA (chiS a) (chiS b) = eqA a b := eqA_cong ⟨chi_inj, chi_congr⟩
theorem apart_theta (a b : L) : eqA (thetaS a) (thetaS b) = eqA a b := eqA_cong ⟨theta_inj, theta_congr⟩
end Go.Proofs.Ytooelompkmocnaa.T
