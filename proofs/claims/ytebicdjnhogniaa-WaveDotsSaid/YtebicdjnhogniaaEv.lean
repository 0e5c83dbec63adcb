/- Over tells a poly's values at the powers of the root: plain. -/
import Derived.Test.YtebicdjnhogniaaTh
namespace Go.Proofs.Ytebicdjnhogniaa.T
set_option linter.unusedVariables false
set_option linter.unusedSimpArgs false
def SM (g : Nat → Int) : Nat → Int
  | 0 => 0
  | n + 1 => SM g n + g n
theorem SM_congr {g h : Nat → Int} : ∀ n, (∀ j, j < n → M (g j) (h j)) → M (SM g n) (SM h n)
  | 0, _ => M.refl _
  | n + 1, hh => (SM_congr n (fun j hj => hh j (by omega))).add (hh n (by omega))
theorem SM_same {g h : Nat → Int} : ∀ n, (∀ j, j < n → g j = h j) → SM g n = SM h n
  | 0, _ => rfl
  | n + 1, hh => by unfold SM; rw [SM_same n (fun j hj => hh j (by omega)), hh n (by omega)]
theorem SM_split (g : Nat → Int) (a : Nat) : ∀ b, SM g (a + b) = SM g a + SM (fun j => g (a + j)) b
  | 0 => by simp [SM]
  | b + 1 => by
    show SM g (a + b) + g (a + b) = SM g a + (SM (fun j => g (a + j)) b + g (a + b))
    rw [SM_split g a b]; omega
theorem SM_add (g h : Nat → Int) : ∀ n, SM g n + SM h n = SM (fun j => g j + h j) n
  | 0 => rfl
  | n + 1 => by
    have := SM_add g h n
    unfold SM
    omega
theorem SM_mul (g : Nat → Int) (c : Int) : ∀ n, SM g n * c = SM (fun j => g j * c) n
  | 0 => by simp [SM]
  | n + 1 => by
    have := SM_mul g c n
    unfold SM
    rw [Int.add_mul, this]
def ev (f : F) (ρ : Int) : Int := SM (fun j => f j * ρ ^ j) 256
def rho (i : Nat) : Nat := 1753 ^ (2 * tn8 i + 1) % 8380417
def zN (m : Nat) : Nat := 1753 ^ tn8 m % 8380417
theorem zS_tab : ∀ m ∈ List.range 256, zS m = (zN m : Int) := by decide +kernel
theorem rho_tab : ∀ s ∈ List.range 8, ∀ i ∈ List.range 256, rho i ^ (128 / 2 ^ s) % 8380417 = if i / (128 / 2 ^ s) % 2 = 0 then zN (2 ^ s + i / (256 / 2 ^ s)) % 8380417 else (8380417 - zN (2 ^ s + i / (256 / 2 ^ s))) % 8380417 := by decide +kernel
theorem rho_256 : ∀ i ∈ List.range 256, rho i ^ 256 % 8380417 = 8380416 := by decide +kernel
theorem zN_lt (m : Nat) : zN m < 8380417 := Nat.mod_lt _ (by omega)
theorem M_nat {a b : Nat} (h : a % 8380417 = b % 8380417) : M (a : Int) (b : Int) := M.of (by omega)
theorem rho_neg (i : Nat) (hi : i < 256) : M (((rho i : Nat) : Int) ^ 256) (-1) := by
  have h := rho_256 i (List.mem_range.2 hi)
  have h2 : M ((rho i ^ 256 : Nat) : Int) ((8380416 : Nat) : Int) := M_nat (by omega)
  rw [Int.natCast_pow] at h2
  exact h2.trans ⟨1, by omega⟩
theorem dims2 : ∀ s, s < 8 → 256 / 2 ^ s = 128 / 2 ^ s + 128 / 2 ^ s ∧ 256 / 2 ^ (s + 1) = 128 / 2 ^ s ∧ 1 ≤ 128 / 2 ^ s ∧ 2 ^ s + 2 ^ s ≤ 256 ∧ 2 * (128 / 2 ^ s) * 2 ^ s = 256 := by decide
theorem ev_step (f : F) (i : Nat) (hi : i < 256) : ∀ s, s ≤ 8 → M (SM (fun j => overL f s (256 / 2 ^ s * (i / (256 / 2 ^ s)) + j) * ((rho i : Nat) : Int) ^ j) (256 / 2 ^ s)) (ev f ((rho i : Nat) : Int))
  | 0, _ => by
    have e : i / (256 / 2 ^ 0) = 0 := by omega
    rw [e]
    show M (SM (fun j => f (256 / 2 ^ 0 * 0 + j) * _) 256) _
    rw [show ev f ((rho i : Nat) : Int) = SM (fun j => f j * ((rho i : Nat) : Int) ^ j) 256 from rfl]
    rw [SM_same 256 (fun j _ => by rw [Nat.mul_zero, Nat.zero_add])]
    exact M.refl _
  | s + 1, hs => by
    have ih := ev_step f i hi s (by omega)
    refine M.trans ?_ ih
    obtain ⟨e1, e2, e3, e4, e5⟩ := dims2 s (by omega)
    have hr := rho_tab s (List.mem_range.2 (by omega)) i (List.mem_range.2 hi)
    have hlay : overL f (s + 1) = lay (128 / 2 ^ s) (2 ^ s) zS (overL f s) := rfl
    have hz : ∀ m, m < 256 → zS m = (zN m : Int) := fun m hm => zS_tab m (List.mem_range.2 hm)
    rw [hlay, e2, e1]
    rw [e1] at hr
    obtain ⟨n, hn⟩ : ∃ n, 128 / 2 ^ s = n := ⟨_, rfl⟩
    obtain ⟨nb, hnb⟩ : ∃ n, 2 ^ s = n := ⟨_, rfl⟩
    obtain ⟨old, ho⟩ : ∃ o, overL f s = o := ⟨_, rfl⟩
    rw [hn] at e3 e5 hr ⊢
    rw [hnb] at e4 e5 hr ⊢
    rw [ho]
    obtain ⟨b, hb⟩ : ∃ b, i / (n + n) = b := ⟨_, rfl⟩
    rw [hb] at hr ⊢
    have hb2 : i / n = 2 * b + i / n % 2 := by
      have : i / (n + n) = i / n / 2 := by rw [Nat.div_div_eq_div_mul]; congr 1; omega
      omega
    have hbn : b < nb := by
      rw [← hb, Nat.div_lt_iff_lt_mul (by omega)]
      have : nb * (n + n) = 256 := by rw [← e5, Nat.mul_comm]; congr 1; omega
      omega
    have hst : (n + n) * b = 2 * n * b := by congr 1; omega
    rw [hst, SM_split _ n n]
    have hpow : M (((rho i : Nat) : Int) ^ n) (if i / n % 2 = 0 then zS (nb + b) else - zS (nb + b)) := by
      rw [← Int.natCast_pow, hz _ (by omega)]
      have hzl := zN_lt (nb + b)
      split
      · rename_i h0
        rw [if_pos h0] at hr
        exact M_nat hr
      · rename_i h0
        rw [if_neg h0] at hr
        exact (M_nat hr).trans ⟨1, by omega⟩
    have hsum : M (SM (fun j => old (2 * n * b + j) * ((rho i : Nat) : Int) ^ j) n + SM (fun j => old (2 * n * b + (n + j)) * ((rho i : Nat) : Int) ^ (n + j)) n) (SM (fun j => (old (2 * n * b + j) + old (2 * n * b + (n + j)) * (if i / n % 2 = 0 then zS (nb + b) else - zS (nb + b))) * ((rho i : Nat) : Int) ^ j) n) := by
      rw [SM_add]
      refine SM_congr n fun j hj => ?_
      rw [Int.pow_add]
      refine ((M.refl _).add ((M.refl _).mul (hpow.mul (M.refl _)))).trans ⟨0, ?_⟩
      grind
    refine M.trans ?_ hsum.symm
    refine SM_congr n fun j hj => ?_
    refine M.mul ?_ (M.refl _)
    by_cases h0 : i / n % 2 = 0
    · rw [if_pos h0]
      have hidx : n * (i / n) + j = 2 * n * b + j := by
        rw [show i / n = 2 * b by omega, ← Nat.mul_assoc, Nat.mul_comm n 2]
      rw [hidx]
      refine (lay_loM (n := n) (b := b) (j := 2 * n * b + j) (by omega) (by omega)).trans ?_
      rw [show 2 * n * b + j + n = 2 * n * b + (n + j) by omega]
      exact ⟨0, by grind⟩
    · rw [if_neg h0]
      have hidx : n * (i / n) + j = (2 * n * b + j) + n := by
        rw [show i / n = 2 * b + 1 by omega, Nat.mul_add, Nat.mul_one, ← Nat.mul_assoc, Nat.mul_comm n 2]; omega
      rw [hidx]
      refine (lay_hiM (n := n) (b := b) (j := 2 * n * b + j) (by omega) (by omega)).trans ?_
      rw [show 2 * n * b + j + n = 2 * n * b + (n + j) by omega]
      exact ⟨0, by grind⟩
theorem over_ev (f : F) (i : Nat) (hi : i < 256) : M (overS f i) (ev f ((rho i : Nat) : Int)) := by
  have h := ev_step f i hi 8 (by omega)
  have e : SM (fun j => overL f 8 (256 / 2 ^ 8 * (i / (256 / 2 ^ 8)) + j) * ((rho i : Nat) : Int) ^ j) (256 / 2 ^ 8) = overS f i := by
    show 0 + overL f 8 (1 * (i / 1) + 0) * ((rho i : Nat) : Int) ^ 0 = overL f 8 i
    rw [Nat.div_one, Nat.one_mul, Nat.add_zero, Int.pow_zero, Int.mul_one, Int.zero_add]
  rw [e] at h
  exact h
theorem ev_upd (g : F) (p : Nat) (v ρ : Int) (hp : p < 256) : ev (upd g p v) ρ = ev g ρ + (v - g p) * ρ ^ p := by
  have key : ∀ n, SM (fun j => upd g p v j * ρ ^ j) n = SM (fun j => g j * ρ ^ j) n + (if p < n then (v - g p) * ρ ^ p else 0) := by
    intro n
    induction n with
    | zero => simp [SM]
    | succ n ih =>
      unfold SM
      rw [ih]
      by_cases e : n = p
      · subst e
        rw [if_neg (by omega), if_pos (by omega)]
        unfold upd
        rw [if_pos rfl]
        grind
      · have e2 : upd g p v n = g n := by unfold upd; rw [if_neg e]
        rw [e2]
        by_cases h : p < n
        · rw [if_pos h, if_pos (by omega)]; omega
        · rw [if_neg h, if_neg (by omega)]; omega
  unfold ev
  rw [key 256, if_pos hp]
theorem ev_zero (ρ : Int) : ev (fun _ => 0) ρ = 0 := by
  have : ∀ n, SM (fun j => (0 : Int) * ρ ^ j) n = 0 := by
    intro n
    induction n with
    | zero => rfl
    | succ n ih => unfold SM; rw [ih]; simp
  exact this 256
theorem ev_unit (n : Nat) (hn : n < 256) (ρ : Int) : ev (unitS n) ρ = ρ ^ n := by
  have e : unitS n = upd (fun _ => 0) n 1 := rfl
  rw [e, ev_upd _ _ _ _ hn, ev_zero]; simp
theorem over_unit (n i : Nat) (hn : n < 256) (hi : i < 256) : overS (unitS n) i = ((1753 ^ ((2 * tn8 i + 1) * n) % 8380417 : Nat) : Int) := by
  have h := over_ev (unitS n) i hi
  rw [ev_unit n hn] at h
  have h2 : M (((rho i : Nat) : Int) ^ n) ((1753 ^ ((2 * tn8 i + 1) * n) % 8380417 : Nat) : Int) := by
    rw [← Int.natCast_pow]
    refine M_nat ?_
    rw [Nat.mod_mod, Nat.pow_mul]
    unfold rho
    rw [← Nat.pow_mod]
  refine (h.trans h2).eq (overS_PF _ i hi) ?_
  have := Nat.mod_lt (1753 ^ ((2 * tn8 i + 1) * n)) (show 0 < 8380417 by omega)
  omega
end Go.Proofs.Ytebicdjnhogniaa.T
