/- Plain laws on numbers and their digits, lowest first; on bits turned round. No program in sight. -/
namespace Go.Proofs.Ytefiaaglkenfeaa.N
def val (M : Int) : List Int → Int
  | [] => 0
  | x :: xs => x + M * val M xs
def digs (M : Int) : Nat → Int → List Int
  | 0, _ => []
  | n + 1, N => N % M :: digs M n (N / M)
theorem digs_length (M : Int) : ∀ n N, (digs M n N).length = n
  | 0, _ => rfl
  | n + 1, N => by simp [digs, digs_length M n]
theorem digs_bd {M : Int} (hM : 0 < M) : ∀ n N, ∀ x ∈ digs M n N, 0 ≤ x ∧ x < M
  | 0, _, x, hx => by simp [digs] at hx
  | n + 1, N, x, hx => by
    simp only [digs, List.mem_cons] at hx
    rcases hx with rfl | hx
    · exact ⟨Int.emod_nonneg _ (by omega), Int.emod_lt_of_pos _ hM⟩
    · exact digs_bd hM n _ x hx
theorem val_nonneg {M : Int} (hM : 0 < M) : ∀ xs : List Int, (∀ x ∈ xs, 0 ≤ x) → 0 ≤ val M xs
  | [], _ => Int.le_refl _
  | x :: xs, h => by
    have h1 := val_nonneg hM xs (fun y hy => h y (List.mem_cons_of_mem _ hy))
    have h2 := h x List.mem_cons_self
    have h3 := Int.mul_nonneg (Int.le_of_lt hM) h1
    simp only [val]; omega
theorem val_lt {M : Int} (hM : 0 < M) : ∀ xs : List Int, (∀ x ∈ xs, 0 ≤ x ∧ x < M) → val M xs < M ^ xs.length
  | [], _ => by simp [val]
  | x :: xs, h => by
    have h1 := val_lt hM xs (fun y hy => h y (List.mem_cons_of_mem _ hy))
    have h2 := h x List.mem_cons_self
    have h3 : M * (val M xs + 1) ≤ M * M ^ xs.length := Int.mul_le_mul_of_nonneg_left (by omega) (by omega)
    rw [Int.mul_add, Int.mul_one] at h3
    rw [List.length_cons, Int.pow_succ, Int.mul_comm _ M]
    simp only [val]; omega
theorem digs_val {M : Int} (hM : 0 < M) : ∀ xs : List Int, (∀ x ∈ xs, 0 ≤ x ∧ x < M) → digs M xs.length (val M xs) = xs
  | [], _ => rfl
  | x :: xs, h => by
    have h2 := h x List.mem_cons_self
    rw [List.length_cons]
    simp only [digs, val]
    rw [Int.add_mul_emod_self_left, Int.emod_eq_of_lt h2.1 h2.2, Int.add_mul_ediv_left _ _ (by omega), Int.ediv_eq_zero_of_lt h2.1 h2.2, Int.zero_add, digs_val hM xs (fun y hy => h y (List.mem_cons_of_mem _ hy))]
theorem emod_mul' {M : Int} (hM : 0 < M) (K N : Int) (hK : 0 < K) : N % M + M * (N / M % K) = N % (M * K) := by
  have h1 := Int.emod_nonneg N (show M ≠ 0 by omega)
  have h2 := Int.emod_lt_of_pos N hM
  have h3 := Int.emod_nonneg (N / M) (show K ≠ 0 by omega)
  have h4 := Int.emod_lt_of_pos (N / M) hK
  have e1 := Int.mul_ediv_add_emod N M
  have e2 := Int.mul_ediv_add_emod (N / M) K
  have e3 : N = (N % M + M * (N / M % K)) + M * K * (N / M / K) := by
    have : M * (K * (N / M / K) + N / M % K) = M * (N / M) := by rw [e2]
    rw [Int.mul_add, ← Int.mul_assoc] at this
    omega
  have h5 : 0 ≤ M * (N / M % K) := Int.mul_nonneg (by omega) h3
  have h6 : M * (N / M % K + 1) ≤ M * K := Int.mul_le_mul_of_nonneg_left (by omega) (by omega)
  rw [Int.mul_add, Int.mul_one] at h6
  have key : ∀ r c : Int, N = r + M * K * c → N % (M * K) = r % (M * K) := fun r c h => by rw [h, Int.add_mul_emod_self_left]
  exact ((key _ _ e3).trans (Int.emod_eq_of_lt (by omega) (by omega))).symm
theorem pow_pos' {M : Int} (hM : 0 < M) (n : Nat) : 0 < M ^ n := Int.pow_pos hM
theorem val_digs {M : Int} (hM : 0 < M) : ∀ n N, val M (digs M n N) = N % M ^ n
  | 0, N => by simp [digs, val]
  | n + 1, N => by
    simp only [digs, val]
    rw [val_digs hM n, emod_mul' hM _ _ (pow_pos' hM n), Int.pow_succ, Int.mul_comm M]
theorem digs_add {M : Int} (hM : 0 < M) : ∀ n m N, digs M (n + m) N = digs M n N ++ digs M m (N / M ^ n)
  | 0, m, N => by simp [digs]
  | n + 1, m, N => by
    rw [show n + 1 + m = (n + m) + 1 by omega]
    simp only [digs, List.cons_append]
    rw [digs_add hM n m, Int.ediv_ediv_of_nonneg (by omega), Int.pow_succ, Int.mul_comm M]
theorem digs_snoc {M : Int} (hM : 0 < M) (n : Nat) (N : Int) : digs M (n + 1) N = digs M n N ++ [N / M ^ n % M] := by
  rw [digs_add hM n 1]; rfl
theorem digs_zero (M : Int) : ∀ n, digs M n 0 = List.replicate n 0
  | 0 => rfl
  | n + 1 => by simp [digs, digs_zero M n, List.replicate_succ]
theorem val_append (M : Int) : ∀ xs ys : List Int, val M (xs ++ ys) = val M xs + M ^ xs.length * val M ys
  | [], ys => by simp [val]
  | x :: xs, ys => by
    rw [List.cons_append]
    simp only [val]
    rw [val_append M xs ys, List.length_cons, Int.pow_succ, Int.mul_add, Int.add_assoc, ← Int.mul_assoc, Int.mul_comm M (M ^ xs.length)]
theorem digs_mod {M : Int} (hM : 0 < M) (n : Nat) (N : Int) : digs M n (N % M ^ n) = digs M n N := by
  rw [← val_digs hM n N]
  have h := digs_val hM (digs M n N) (digs_bd hM n N)
  rw [digs_length] at h
  exact h
/-- digits of a sum whose low part has just so many. -/
theorem digs_join {M : Int} (hM : 0 < M) (n m : Nat) (A B : Int) (h0 : 0 ≤ A) (h1 : A < M ^ n) : digs M (n + m) (A + M ^ n * B) = digs M n A ++ digs M m B := by
  have hp := pow_pos' hM n
  rw [digs_add hM, Int.add_mul_ediv_left _ _ (by omega), Int.ediv_eq_zero_of_lt h0 h1, Int.zero_add]
  congr 1
  rw [← digs_mod hM n (A + M ^ n * B), Int.add_mul_emod_self_left, digs_mod hM]
theorem two_pow (d n : Nat) : ((2 : Int) ^ d) ^ n = 2 ^ (d * n) := (Int.pow_mul ..).symm
theorem p256 (n : Nat) : (256 : Int) ^ n = 2 ^ (8 * n) := by rw [← two_pow]; rfl
theorem pow_mono {a b : Nat} (h : a ≤ b) : (2 : Int) ^ a ≤ 2 ^ b := by
  obtain ⟨c, rfl⟩ : ∃ c, b = a + c := ⟨b - a, by omega⟩
  rw [Int.pow_add]
  have h1 := pow_pos' (show (0 : Int) < 2 by omega) a
  have h2 := pow_pos' (show (0 : Int) < 2 by omega) c
  have h3 : (2 : Int) ^ a * 1 ≤ 2 ^ a * 2 ^ c := Int.mul_le_mul_of_nonneg_left (by omega) (by omega)
  omega

/-! ### what the packing answers -/
def okAll (d : Nat) (xs : List Int) : Bool := xs.all fun x => decide (0 ≤ x ∧ x < 2 ^ d)
theorem okAll_iff (d : Nat) (xs : List Int) : okAll d xs = true ↔ ∀ x ∈ xs, 0 ≤ x ∧ x < (2 : Int) ^ d := by simp [okAll]
def packS (d : Nat) (xs : List Int) : List Int := if okAll d xs = true then digs 256 ((d * xs.length + 7) / 8) (val (2 ^ d) xs) else []
def unpackS (d : Nat) (b : List Int) : List Int := digs (2 ^ d) (8 * b.length / d) (val 256 b)
def okB (b : List Int) : Prop := ∀ x ∈ b, 0 ≤ x ∧ x < (256 : Int)

theorem pack_len (d : Nat) (xs : List Int) (h : okAll d xs = true) : (packS d xs).length = (d * xs.length + 7) / 8 := by
  rw [packS, if_pos h, digs_length]
theorem pack_okB (d : Nat) (xs : List Int) : okB (packS d xs) := by
  unfold packS
  split
  · exact digs_bd (by omega) _ _
  · intro x hx; simp at hx
theorem unpack_ok (d : Nat) (b : List Int) : okAll d (unpackS d b) = true := by
  rw [okAll_iff]
  exact digs_bd (pow_pos' (by omega) d) _ _
theorem pack_val (d : Nat) (xs : List Int) (h : okAll d xs = true) : val 256 (packS d xs) = val (2 ^ d) xs := by
  rw [packS, if_pos h, val_digs (by omega), p256]
  have h1 := (okAll_iff d xs).1 h
  have hp := pow_pos' (show (0 : Int) < 2 by omega) d
  have h2 := val_lt hp xs h1
  rw [two_pow] at h2
  refine Int.emod_eq_of_lt (val_nonneg hp xs (fun x hx => (h1 x hx).1)) (Int.lt_of_lt_of_le h2 (pow_mono ?_))
  omega
/-- unpacked they are what they were, with zeros behind. -/
theorem unpack_pack (d : Nat) (hd : 0 < d) (xs : List Int) (h : okAll d xs = true) : ∃ e, unpackS d (packS d xs) = xs ++ List.replicate e 0 := by
  have h1 := (okAll_iff d xs).1 h
  have hp := pow_pos' (show (0 : Int) < 2 by omega) d
  unfold unpackS
  rw [pack_val d xs h, pack_len d xs h]
  have hle : xs.length ≤ 8 * ((d * xs.length + 7) / 8) / d := by
    rw [Nat.le_div_iff_mul_le hd, Nat.mul_comm]
    omega
  refine ⟨8 * ((d * xs.length + 7) / 8) / d - xs.length, ?_⟩
  generalize 8 * ((d * xs.length + 7) / 8) / d = m at *
  obtain ⟨e, rfl⟩ : ∃ e, m = xs.length + e := ⟨m - xs.length, by omega⟩
  have hv := val_lt hp xs h1
  have := digs_join hp xs.length e (val (2 ^ d) xs) 0 (val_nonneg hp xs (fun x hx => (h1 x hx).1)) hv
  rw [Int.mul_zero, Int.add_zero] at this
  rw [this, digs_val hp xs h1, digs_zero, Nat.add_sub_cancel_left]
/-- bytes of whole numbers are packed as they were. -/
theorem pack_unpack (d t : Nat) (hd : 0 < d) (b : List Int) (hb : okB b) (hl : b.length = d * t) : packS d (unpackS d b) = b := by
  have hp := pow_pos' (show (0 : Int) < 2 by omega) d
  rw [packS, if_pos (unpack_ok d b)]
  unfold unpackS
  rw [val_digs hp, digs_length, hl]
  have e1 : 8 * (d * t) / d = 8 * t := by
    rw [show 8 * (d * t) = d * (8 * t) from by rw [← Nat.mul_assoc, ← Nat.mul_assoc, Nat.mul_comm 8 d], Nat.mul_div_cancel_left _ hd]
  have e2 : (d * (8 * t) + 7) / 8 = d * t := by
    have : d * (8 * t) = 8 * (d * t) := by rw [← Nat.mul_assoc, ← Nat.mul_assoc, Nat.mul_comm 8 d]
    omega
  have hv := val_lt (show (0 : Int) < 256 by omega) b hb
  rw [e1, e2, two_pow]
  have e3 : (2 : Int) ^ (d * (8 * t)) = 256 ^ b.length := by
    rw [p256, hl]
    congr 1
    rw [← Nat.mul_assoc, ← Nat.mul_assoc, Nat.mul_comm 8 d]
  rw [e3, Int.emod_eq_of_lt (val_nonneg (by omega) b (fun x hx => (hb x hx).1)) hv, ← hl, digs_val (by omega) b hb]
/-- numbers whose bits fill bytes. -/
theorem pack_join (d n : Nat) (xs ys : List Int) (h : okAll d xs = true) (h' : okAll d ys = true) (hl : xs.length = 8 * n) : packS d (xs ++ ys) = packS d xs ++ packS d ys ∧ (packS d xs).length = d * n := by
  have h1 := (okAll_iff d xs).1 h
  have h2 := (okAll_iff d ys).1 h'
  have hp := pow_pos' (show (0 : Int) < 2 by omega) d
  have h3 : okAll d (xs ++ ys) = true := by
    rw [okAll_iff]
    intro x hx
    rcases List.mem_append.1 hx with hx | hx
    · exact h1 x hx
    · exact h2 x hx
  have e1 : d * (8 * n) = 8 * (d * n) := by rw [← Nat.mul_assoc, ← Nat.mul_assoc, Nat.mul_comm 8 d]
  have e2 : (d * xs.length + 7) / 8 = d * n := by rw [hl, e1]; omega
  have e3 : (d * (xs ++ ys).length + 7) / 8 = d * n + (d * ys.length + 7) / 8 := by
    rw [List.length_append, Nat.mul_add, hl, e1]; omega
  refine ⟨?_, by rw [pack_len d xs h, e2]⟩
  rw [packS, if_pos h3, packS, if_pos h, packS, if_pos h', e2, e3, val_append]
  have e4 : ((2 : Int) ^ d) ^ xs.length = 256 ^ (d * n) := by rw [two_pow, p256, hl, e1]
  rw [e4]
  have hv := val_lt hp xs h1
  rw [e4] at hv
  exact digs_join (by omega) _ _ _ _ (val_nonneg hp xs (fun x hx => (h1 x hx).1)) hv
/-- the bits of numbers, one by one. -/
def bitsOf (d : Nat) (xs : List Int) : List Int := xs.flatMap (digs 2 d)
theorem bitsOf_ok (d : Nat) (xs : List Int) : okAll 1 (bitsOf d xs) = true := by
  rw [okAll_iff]
  intro x hx
  obtain ⟨y, _, hy⟩ := List.mem_flatMap.1 hx
  exact digs_bd (by omega) d y x hy
theorem bitsOf_len (d : Nat) : ∀ xs, (bitsOf d xs).length = d * xs.length
  | [] => by simp [bitsOf]
  | x :: xs => by
    have := bitsOf_len d xs
    unfold bitsOf at *
    rw [List.flatMap_cons, List.length_append, digs_length, this, List.length_cons, Nat.mul_add]
    omega
theorem bitsOf_val (d : Nat) : ∀ xs, (∀ x ∈ xs, 0 ≤ x ∧ x < (2 : Int) ^ d) → val 2 (bitsOf d xs) = val (2 ^ d) xs
  | [], _ => rfl
  | x :: xs, h => by
    have h1 := bitsOf_val d xs (fun y hy => h y (List.mem_cons_of_mem _ hy))
    have h2 := h x List.mem_cons_self
    unfold bitsOf at *
    rw [List.flatMap_cons, val_append, h1, val_digs (by omega), digs_length, Int.emod_eq_of_lt h2.1 h2.2]
    rfl
theorem pack_ones (d : Nat) (xs : List Int) (h : okAll d xs = true) : packS 1 (bitsOf d xs) = packS d xs := by
  rw [packS, if_pos (bitsOf_ok d xs), packS, if_pos h, bitsOf_len, Int.pow_one, bitsOf_val d xs ((okAll_iff d xs).1 h), Nat.one_mul]
theorem pack_one_unpack (b : List Int) (hb : okB b) : packS 1 (unpackS 1 b) = b := pack_unpack 1 b.length (by omega) b hb (by omega)

/-! ### bits turned round -/
def tn : Nat → Int → Int
  | 0, _ => 0
  | k + 1, x => 2 * tn k x + x / 2 ^ k % 2
theorem tn_val (k : Nat) (x : Int) : tn k x = val 2 (digs 2 k x).reverse := by
  induction k with
  | zero => rfl
  | succ k ih =>
    rw [digs_snoc (by omega), List.reverse_append]
    show 2 * tn k x + _ = _ + 2 * val 2 (digs 2 k x).reverse
    rw [ih]; omega
theorem tn_bd (k : Nat) (x : Int) : 0 ≤ tn k x ∧ tn k x < 2 ^ k := by
  have hb : ∀ y ∈ (digs 2 k x).reverse, 0 ≤ y ∧ y < (2 : Int) := fun y hy => digs_bd (by omega) k x y (List.mem_reverse.1 hy)
  rw [tn_val]
  refine ⟨val_nonneg (by omega) _ (fun y hy => (hb y hy).1), ?_⟩
  have := val_lt (show (0 : Int) < 2 by omega) _ hb
  rwa [List.length_reverse, digs_length] at this
theorem tn_tn (k : Nat) (x : Int) : tn k (tn k x) = x % 2 ^ k := by
  have hb : ∀ y ∈ (digs 2 k x).reverse, 0 ≤ y ∧ y < (2 : Int) := fun y hy => digs_bd (by omega) k x y (List.mem_reverse.1 hy)
  have h := digs_val (show (0 : Int) < 2 by omega) _ hb
  rw [List.length_reverse, digs_length, ← tn_val] at h
  rw [tn_val k (tn k x), h, List.reverse_reverse, val_digs (by omega)]
theorem tn_mod (k : Nat) : ∀ j, j ≤ k → ∀ x, tn j (x % 2 ^ k) = tn j x
  | 0, _, _ => rfl
  | j + 1, h, x => by
    show 2 * tn j (x % 2 ^ k) + x % 2 ^ k / 2 ^ j % 2 = 2 * tn j x + x / 2 ^ j % 2
    rw [tn_mod k j (by omega)]
    obtain ⟨c, rfl⟩ : ∃ c, k = j + 1 + c := ⟨k - (j + 1), by omega⟩
    have hp := pow_pos' (show (0 : Int) < 2 by omega) j
    have hp1 := pow_pos' (show (0 : Int) < 2 by omega) (1 + c)
    have hc := pow_pos' (show (0 : Int) < 2 by omega) c
    have e := emod_mul' hp (2 ^ (1 + c)) x hp1
    rw [← Int.pow_add, ← Nat.add_assoc] at e
    rw [← e, Int.add_mul_ediv_left _ _ (by omega), Int.ediv_eq_zero_of_lt (Int.emod_nonneg _ (by omega)) (Int.emod_lt_of_pos _ hp), Int.zero_add, Int.pow_add, Int.pow_one]
    rw [Int.emod_emod_of_dvd _ ⟨2 ^ c, rfl⟩]
theorem low_low {j k : Nat} (h : j ≤ k) (x : Int) : x % 2 ^ k % 2 ^ j = x % 2 ^ j := by
  obtain ⟨c, rfl⟩ : ∃ c, k = j + c := ⟨k - j, by omega⟩
  rw [Int.pow_add]
  exact Int.emod_emod_of_dvd _ ⟨2 ^ c, rfl⟩
end Go.Proofs.Ytefiaaglkenfeaa.N
