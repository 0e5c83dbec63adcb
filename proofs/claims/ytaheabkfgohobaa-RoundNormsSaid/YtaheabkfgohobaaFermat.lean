/- 8380417 is a prime; so a power of a number by it is that number (the remainders'): by the binomial sum. -/
namespace Go.Proofs.Ytaheabkfgohobaa.S
def noDiv (p : Nat) : Nat → Bool
  | 0 => true
  | n + 1 => (p % (n + 2) != 0) && noDiv p n
theorem noDiv_all {p : Nat} : ∀ n, noDiv p n = true → ∀ d, 2 ≤ d → d ≤ n + 1 → ¬ d ∣ p
  | 0, _, d, h1, h2, _ => by omega
  | n + 1, h, d, h1, h2, hd => by
    unfold noDiv at h
    rw [Bool.and_eq_true] at h
    by_cases e : d = n + 2
    · subst e
      have := Nat.mod_eq_zero_of_dvd hd
      simp [this] at h
    · exact noDiv_all n h.2 d h1 (by omega) hd
theorem noDiv_q : noDiv 8380417 2895 = true := by decide +kernel
theorem q_prime (d : Nat) (h1 : 1 < d) (h2 : d < 8380417) : ¬ d ∣ 8380417 := by
  intro hd
  obtain ⟨e, he⟩ := hd
  by_cases h : d ≤ 2896
  · exact noDiv_all _ noDiv_q d (by omega) (by omega) ⟨e, he⟩
  · have h3 : e ≤ 2896 := by
      by_cases h4 : e ≤ 2896
      · exact h4
      · have : 2897 * 2897 ≤ d * e := Nat.mul_le_mul (by omega) (by omega)
        omega
    have h5 : 1 < e := by
      rcases Nat.lt_or_ge 1 e with h5 | h5
      · exact h5
      · have : d * e ≤ d * 1 := Nat.mul_le_mul_left _ h5
        omega
    exact noDiv_all _ noDiv_q e (by omega) (by omega) ⟨d, by rw [he, Nat.mul_comm]⟩
theorem q_coprime (k : Nat) (h1 : 0 < k) (h2 : k < 8380417) : Nat.Coprime 8380417 k := by
  have hg := Nat.gcd_dvd_left 8380417 k
  have hk := Nat.gcd_dvd_right 8380417 k
  have hle := Nat.le_of_dvd h1 hk
  have hpos := Nat.gcd_pos_of_pos_right 8380417 h1
  rcases Nat.lt_or_ge 1 (Nat.gcd 8380417 k) with h | h
  · exact absurd hg (q_prime _ h (by omega))
  · show Nat.gcd 8380417 k = 1
    omega
/-- the binomials. -/
def C : Nat → Nat → Nat
  | _, 0 => 1
  | 0, _ + 1 => 0
  | n + 1, k + 1 => C n k + C n (k + 1)
theorem C_zero (n : Nat) : C n 0 = 1 := by cases n <;> rfl
theorem C_gt : ∀ n k, n < k → C n k = 0
  | 0, k + 1, _ => rfl
  | n + 1, k + 1, h => by
    show C n k + C n (k + 1) = 0
    rw [C_gt n k (by omega), C_gt n (k + 1) (by omega)]
theorem C_self : ∀ n, C n n = 1
  | 0 => rfl
  | n + 1 => by
    show C n n + C n (n + 1) = 1
    rw [C_self n, C_gt n (n + 1) (by omega)]
theorem C_mul : ∀ n k, (k + 1) * C (n + 1) (k + 1) = (n + 1) * C n k
  | 0, 0 => rfl
  | 0, k + 1 => by rw [C_gt 1 (k + 2) (by omega), C_gt 0 (k + 1) (by omega)]; simp
  | n + 1, 0 => by
    have h := C_mul n 0
    have e : C (n + 2) 1 = C (n + 1) 0 + C (n + 1) 1 := rfl
    rw [Nat.zero_add, e, Nat.mul_add]
    rw [Nat.zero_add] at h
    rw [h, C_zero, C_zero]
    omega
  | n + 1, k + 1 => by
    have h1 := C_mul n k
    have h2 := C_mul n (k + 1)
    have e : C (n + 2) (k + 2) = C (n + 1) (k + 1) + C (n + 1) (k + 2) := rfl
    have e2 : C (n + 1) (k + 1) = C n k + C n (k + 1) := rfl
    have e3 : (n + 1 + 1) * C (n + 1) (k + 1) = (n + 1) * C n k + (n + 1) * C n (k + 1) + C (n + 1) (k + 1) := by
      rw [Nat.add_mul (n + 1) 1, Nat.one_mul, e2, Nat.mul_add, ← e2]
    rw [e, Nat.mul_add, h2, e3, ← h1, Nat.add_mul (k + 1) 1, Nat.one_mul]
    omega
/-- the sum of the first m terms. -/
def S (n a : Nat) : Nat → Nat
  | 0 => 0
  | m + 1 => S n a m + C n m * a ^ m
theorem S_succ (n a : Nat) : ∀ m, S (n + 1) a (m + 1) = S n a (m + 1) + a * S n a m
  | 0 => by simp [S, C_zero]
  | m + 1 => by
    have h := S_succ n a m
    have e : C (n + 1) (m + 1) = C n m + C n (m + 1) := rfl
    have e1 : S (n + 1) a (m + 2) = S (n + 1) a (m + 1) + C (n + 1) (m + 1) * a ^ (m + 1) := rfl
    have e2 : S n a (m + 2) = S n a (m + 1) + C n (m + 1) * a ^ (m + 1) := rfl
    have e3 : S n a (m + 1) = S n a m + C n m * a ^ m := rfl
    rw [e1, h, e, e2, Nat.add_mul]
    have e4 : a * S n a (m + 1) = a * S n a m + C n m * a ^ (m + 1) := by
      rw [e3, Nat.mul_add, Nat.pow_succ]
      congr 1
      rw [Nat.mul_comm, Nat.mul_assoc]
    rw [e4]
    omega
theorem S_full (a : Nat) : ∀ n, S n a (n + 1) = (a + 1) ^ n
  | 0 => by simp [S, C_zero]
  | n + 1 => by
    rw [S_succ, Nat.pow_succ, ← S_full a n]
    have e : S n a (n + 2) = S n a (n + 1) + C n (n + 1) * a ^ (n + 1) := rfl
    rw [e, C_gt n (n + 1) (by omega), Nat.zero_mul, Nat.add_zero, Nat.mul_add, Nat.mul_one, Nat.mul_comm a]
    omega
theorem C_dvd (k : Nat) (h1 : 0 < k) (h2 : k < 8380417) : 8380417 ∣ C 8380417 k := by
  obtain ⟨j, rfl⟩ : ∃ j, k = j + 1 := ⟨k - 1, by omega⟩
  have h := C_mul 8380416 j
  exact (q_coprime (j + 1) h1 h2).dvd_of_dvd_mul_left ⟨C 8380416 j, h⟩
theorem S_mod (a p : Nat) (hp : p = 8380417) : ∀ m, m ≤ 8380416 → S p a (m + 1) % p = 1
  | 0, _ => by simp [S, C_zero, hp]
  | m + 1, h => by
    have e : S p a (m + 2) = S p a (m + 1) + C p (m + 1) * a ^ (m + 1) := rfl
    obtain ⟨c, hc⟩ : p ∣ C p (m + 1) := by
      have := C_dvd (m + 1) (by omega) (by omega)
      rw [hp]; exact this
    rw [e, hc, Nat.mul_assoc, Nat.add_mul_mod_self_left]
    exact S_mod a p hp m (by omega)
theorem frob (a p : Nat) (hp : p = 8380417) : (a + 1) ^ p % p = (a ^ p + 1) % p := by
  have h := S_full a p
  have e : S p a (p + 1) = S p a p + C p p * a ^ p := rfl
  have h2 := S_mod a p hp 8380416 (by omega)
  have h3 : S p a p % p = 1 := by
    have e2 : p = 8380416 + 1 := hp
    have : S p a p = S p a (8380416 + 1) := by rw [← e2]
    rw [this]; exact h2
  rw [← h, e, C_self, Nat.one_mul, Nat.add_mod, h3, Nat.add_comm (a ^ p) 1, Nat.add_mod 1 (a ^ p), Nat.mod_eq_of_lt (a := 1) (by omega)]
theorem fermat (p : Nat) (hp : p = 8380417) : ∀ a : Nat, a ^ p % p = a % p
  | 0 => by rw [Nat.zero_pow (by omega)]
  | a + 1 => by rw [frob a p hp, Nat.add_mod, fermat p hp a, ← Nat.add_mod]
theorem fermat_inv (p m : Nat) (hp : p = 8380417) (hm : p = m + 2) (a : Nat) (h0 : 0 < a) (h1 : a < p) : a * a ^ m % p = 1 := by
  have h := fermat p hp a
  have e : a ^ p = a * (a * a ^ m) := by
    have h2 : a ^ p = a ^ (m + 2) := by rw [hm]
    rw [h2, Nat.pow_succ, Nat.pow_succ, Nat.mul_comm, Nat.mul_comm (a ^ m) a]
  have hle : 1 ≤ a * a ^ m := Nat.mul_pos h0 (Nat.pow_pos h0)
  have hd : p ∣ a * (a * a ^ m - 1) := by
    rw [Nat.mul_sub, Nat.mul_one, ← e]
    exact Nat.dvd_of_mod_eq_zero (Nat.sub_mod_eq_zero_of_mod_eq h)
  have hc : Nat.Coprime p a := by rw [hp]; exact q_coprime a h0 (by omega)
  obtain ⟨c, hc2⟩ := hc.dvd_of_dvd_mul_left hd
  have h4 : a * a ^ m = 1 + p * c := by omega
  rw [h4, Nat.add_mul_mod_self_left, Nat.mod_eq_of_lt (by omega)]
end Go.Proofs.Ytaheabkfgohobaa.S
