/- How many bits of a word are 1, by sums of fields; turning a word keeps it: plain. -/
import Derived.Test.YtooelompkmocnaaLin
namespace Go.Proofs.Ytooelompkmocnaa.T
set_option linter.unusedVariables false
set_option linter.unusedSimpArgs false
def val (B : Nat) : List Nat → Nat
  | [] => 0
  | d :: ds => d + B * val B ds
def add2 : List Nat → List Nat
  | a :: b :: r => (a + b) :: add2 r
  | _ => []
def ev : List Nat → Bool
  | [] => true
  | [_] => false
  | _ :: _ :: r => ev r
def Mk (B : Nat) : Nat → Nat
  | 0 => 0
  | n + 1 => (B - 1) + B * B * Mk B n
theorem and_split (w x y : Nat) : x &&& y = (x % 2 ^ w &&& y % 2 ^ w) + 2 ^ w * ((x / 2 ^ w) &&& (y / 2 ^ w)) := by
  rw [← Nat.and_mod_two_pow, ← Nat.and_div_two_pow]
  exact (Nat.mod_add_div _ _).symm
theorem and_low (w d X Mm : Nat) (hd : d < 2 ^ w * 2 ^ w) : (d + 2 ^ w * 2 ^ w * X) &&& ((2 ^ w - 1) + 2 ^ w * 2 ^ w * Mm) = d % 2 ^ w + 2 ^ w * 2 ^ w * (X &&& Mm) := by
  have hp : 2 ^ w * 2 ^ w = 2 ^ (w + w) := (Nat.pow_add 2 w w).symm
  have h1 : 1 ≤ 2 ^ w := Nat.one_le_two_pow
  have hm : 2 ^ w - 1 < 2 ^ w * 2 ^ w := Nat.lt_of_lt_of_le (by omega) (Nat.le_mul_of_pos_right _ (by omega))
  rw [and_split (w + w), ← hp]
  rw [Nat.add_mul_mod_self_left, Nat.add_mul_mod_self_left, Nat.mod_eq_of_lt hd, Nat.mod_eq_of_lt hm, Nat.add_mul_div_left _ _ (by omega), Nat.add_mul_div_left _ _ (by omega), Nat.div_eq_of_lt hd, Nat.div_eq_of_lt hm, Nat.zero_add, Nat.zero_add, Nat.and_two_pow_sub_one_eq_mod]
theorem pair_lt {B a b : Nat} (ha : a < B) (hb : b < B) : a + B * b < B * B := by
  have : B * b ≤ B * (B - 1) := Nat.mul_le_mul_left B (by omega)
  rw [Nat.mul_sub, Nat.mul_one] at this
  have : B ≤ B * B := Nat.le_mul_of_pos_right _ (by omega)
  omega
theorem val2 (B a b : Nat) (r : List Nat) : val B (a :: b :: r) = (a + B * b) + B * B * val B r := by
  simp only [val]
  rw [Nat.mul_add, ← Nat.mul_assoc, Nat.add_assoc]
def fsts : List Nat → List Nat
  | a :: _ :: r => a :: fsts r
  | _ => []
def snds : List Nat → List Nat
  | _ :: b :: r => b :: snds r
  | _ => []
theorem mask_fst (w : Nat) : ∀ l : List Nat, ev l = true → (∀ d ∈ l, d < 2 ^ w) → val (2 ^ w) l &&& Mk (2 ^ w) (l.length / 2) = val (2 ^ w * 2 ^ w) (fsts l)
  | [], _, _ => by simp [val, fsts, Mk]
  | [_], h, _ => by simp [ev] at h
  | a :: b :: r, h, hl => by
    have ih := mask_fst w r h (fun d hd => hl d (List.mem_cons_of_mem _ (List.mem_cons_of_mem _ hd)))
    have ha := hl a (List.mem_cons_self ..)
    have hb := hl b (List.mem_cons_of_mem _ (List.mem_cons_self ..))
    have e : (a :: b :: r).length / 2 = r.length / 2 + 1 := by simp only [List.length_cons]; omega
    rw [val2, e]
    show _ &&& ((2 ^ w - 1) + 2 ^ w * 2 ^ w * Mk (2 ^ w) (r.length / 2)) = a + 2 ^ w * 2 ^ w * val (2 ^ w * 2 ^ w) (fsts r)
    rw [and_low w _ _ _ (pair_lt ha hb), ih, Nat.add_mul_mod_self_left, Nat.mod_eq_of_lt ha]
theorem mask_snd (w : Nat) : ∀ l : List Nat, ev l = true → (∀ d ∈ l, d < 2 ^ w) → (val (2 ^ w) l / 2 ^ w) &&& Mk (2 ^ w) (l.length / 2) = val (2 ^ w * 2 ^ w) (snds l)
  | [], _, _ => by simp [val, snds, Mk]
  | [_], h, _ => by simp [ev] at h
  | a :: b :: r, h, hl => by
    have ih := mask_snd w r h (fun d hd => hl d (List.mem_cons_of_mem _ (List.mem_cons_of_mem _ hd)))
    have ha := hl a (List.mem_cons_self ..)
    have hb := hl b (List.mem_cons_of_mem _ (List.mem_cons_self ..))
    have h1 : 1 ≤ 2 ^ w := Nat.one_le_two_pow
    have e : (a :: b :: r).length / 2 = r.length / 2 + 1 := by simp only [List.length_cons]; omega
    have e2 : val (2 ^ w) (a :: b :: r) / 2 ^ w = (b + 2 ^ w * (val (2 ^ w) r % 2 ^ w)) + 2 ^ w * 2 ^ w * (val (2 ^ w) r / 2 ^ w) := by
      show (a + 2 ^ w * (b + 2 ^ w * val (2 ^ w) r)) / 2 ^ w = _
      rw [Nat.add_mul_div_left _ _ (by omega), Nat.div_eq_of_lt ha, Nat.zero_add, Nat.add_assoc, Nat.mul_assoc, ← Nat.mul_add, Nat.mod_add_div]
    rw [e2, e]
    show _ &&& ((2 ^ w - 1) + 2 ^ w * 2 ^ w * Mk (2 ^ w) (r.length / 2)) = b + 2 ^ w * 2 ^ w * val (2 ^ w * 2 ^ w) (snds r)
    rw [and_low w _ _ _ (pair_lt hb (Nat.mod_lt _ (by omega))), ih, Nat.add_mul_mod_self_left, Nat.mod_eq_of_lt hb]
theorem val_add2 (B : Nat) : ∀ l : List Nat, ev l = true → val B (fsts l) + val B (snds l) = val B (add2 l)
  | [], _ => rfl
  | [_], h => by simp [ev] at h
  | a :: b :: r, h => by
    have ih := val_add2 B r h
    show (a + B * val B (fsts r)) + (b + B * val B (snds r)) = (a + b) + B * val B (add2 r)
    rw [← ih, Nat.mul_add]
    omega
theorem pairs_sum (w : Nat) (l : List Nat) (h : ev l = true) (hl : ∀ d ∈ l, d < 2 ^ w) : ((val (2 ^ w) l / 2 ^ w) &&& Mk (2 ^ w) (l.length / 2)) + (val (2 ^ w) l &&& Mk (2 ^ w) (l.length / 2)) = val (2 ^ w * 2 ^ w) (add2 l) := by
  rw [mask_fst w l h hl, mask_snd w l h hl, Nat.add_comm, val_add2 _ l h]
theorem add2_bd (m : Nat) : ∀ l : List Nat, (∀ d ∈ l, d ≤ m) → ∀ d ∈ add2 l, d ≤ m + m
  | [], _, d, hd => by simp [add2] at hd
  | [_], _, d, hd => by simp [add2] at hd
  | a :: b :: r, h, d, hd => by
    have ha := h a (List.mem_cons_self ..)
    have hb := h b (List.mem_cons_of_mem _ (List.mem_cons_self ..))
    rcases List.mem_cons.1 hd with rfl | hd
    · omega
    · exact add2_bd m r (fun d hd => h d (List.mem_cons_of_mem _ (List.mem_cons_of_mem _ hd))) d hd
theorem add2_sum : ∀ l : List Nat, ev l = true → (add2 l).sum = l.sum
  | [], _ => rfl
  | [_], h => by simp [ev] at h
  | a :: b :: r, h => by
    have ih := add2_sum r h
    simp only [add2, List.sum_cons, ih]
    omega
theorem add2_len : ∀ l : List Nat, (add2 l).length = l.length / 2
  | [] => rfl
  | [_] => by simp [add2]
  | a :: b :: r => by
    have ih := add2_len r
    simp only [add2, List.length_cons, ih]
    omega
theorem ev_iff : ∀ l : List Nat, l.length % 2 = 0 → ev l = true
  | [], _ => rfl
  | [_], h => by simp at h
  | a :: b :: r, h => ev_iff r (by simp only [List.length_cons] at h; omega)
/-- the third step: added first, masked then. -/
theorem third : ∀ l : List Nat, ev l = true → (∀ d ∈ l, d ≤ 4) → (val 16 l / 16 + val 16 l) &&& Mk 16 (l.length / 2) = val 256 (add2 l)
  | [], _, _ => by simp [val, add2, Mk]
  | [_], h, _ => by simp [ev] at h
  | a :: b :: r, h, hl => by
    have hr : ∀ d ∈ r, d ≤ 4 := fun d hd => hl d (List.mem_cons_of_mem _ (List.mem_cons_of_mem _ hd))
    have ih := third r h hr
    have ha := hl a (List.mem_cons_self ..)
    have hb := hl b (List.mem_cons_of_mem _ (List.mem_cons_self ..))
    have hc : val 16 r % 16 ≤ 4 := by
      cases r with
      | nil => simp [val]
      | cons c s =>
        have := hr c (List.mem_cons_self ..)
        simp only [val]
        omega
    have e : (a :: b :: r).length / 2 = r.length / 2 + 1 := by simp only [List.length_cons]; omega
    rw [e]
    obtain ⟨X, hX⟩ : ∃ X, val 16 r = X := ⟨_, rfl⟩
    rw [hX] at ih hc
    have hv : val 16 (a :: b :: r) / 16 + val 16 (a :: b :: r) = ((a + b) + 16 * ((b + X) % 16)) + 16 * 16 * (X / 16 + X) := by
      rw [val2, hX]; omega
    rw [hv]
    show _ &&& ((2 ^ 4 - 1) + 2 ^ 4 * 2 ^ 4 * Mk 16 (r.length / 2)) = (a + b) + 256 * val 256 (add2 r)
    have hl2 := and_low 4 ((a + b) + 16 * ((b + X) % 16)) (X / 16 + X) (Mk 16 (r.length / 2)) (by omega)
    rw [show 16 * 16 * (X / 16 + X) = 2 ^ 4 * 2 ^ 4 * (X / 16 + X) by omega, hl2, ih]
    omega
theorem low_part {a b r B : Nat} (h : a < B) : (a + B * r) / B = r := by
  rw [Nat.add_mul_div_left _ _ (by omega), Nat.div_eq_of_lt h, Nat.zero_add]
theorem st4 (f0 f1 f2 f3 f4 f5 f6 f7 : Nat) : (f0 + 256 * (f1 + 256 * (f2 + 256 * (f3 + 256 * (f4 + 256 * (f5 + 256 * (f6 + 256 * f7))))))) + (f1 + 256 * (f2 + 256 * (f3 + 256 * (f4 + 256 * (f5 + 256 * (f6 + 256 * f7)))))) = ((f0 + f1) + 256 * (f1 + f2)) + 65536 * ((f2 + f3) + 256 * ((f3 + f4) + 256 * ((f4 + f5) + 256 * ((f5 + f6) + 256 * ((f6 + f7) + 256 * f7))))) := by omega
theorem st5 (a0 a1 a2 a3 a4 a5 a6 a7 : Nat) : ((a0 + 256 * a1) + 65536 * (a2 + 256 * (a3 + 256 * (a4 + 256 * (a5 + 256 * (a6 + 256 * a7)))))) + (a2 + 256 * (a3 + 256 * (a4 + 256 * (a5 + 256 * (a6 + 256 * a7))))) = ((a0 + a2) + 256 * ((a1 + a3) + 256 * ((a2 + a4) + 256 * (a3 + a5)))) + 4294967296 * ((a4 + a6) + 256 * ((a5 + a7) + 256 * (a6 + 256 * a7))) := by omega
theorem st6 (c0 c1 c2 c3 c4 c5 c6 c7 : Nat) : ((c0 + 256 * (c1 + 256 * (c2 + 256 * c3))) + 4294967296 * (c4 + 256 * (c5 + 256 * (c6 + 256 * c7)))) + (c4 + 256 * (c5 + 256 * (c6 + 256 * c7))) = (c0 + c4) + 128 * (2 * ((c1 + c5) + 256 * ((c2 + c6) + 256 * ((c3 + c7) + 256 * (c4 + 256 * (c5 + 256 * (c6 + 256 * c7))))))) := by omega
theorem bd8 (d0 d1 d2 d3 d4 d5 d6 d7 : Nat) (h0 : d0 < 128) (h1 : d1 < 128) (h2 : d2 < 128) (h3 : d3 < 128) (h4 : d4 < 128) (h5 : d5 < 128) (h6 : d6 < 128) (h7 : d7 < 100) : d0 + 256 * (d1 + 256 * (d2 + 256 * (d3 + 256 * (d4 + 256 * (d5 + 256 * (d6 + 256 * d7)))))) < 2 ^ 63 := by
  have g6 : d6 + 256 * d7 < 25600 := by omega
  have g5 : d5 + 256 * (d6 + 256 * d7) < 6553600 := by omega
  have g4 : d4 + 256 * (d5 + 256 * (d6 + 256 * d7)) < 1677721600 := by omega
  have g3 : d3 + 256 * (d4 + 256 * (d5 + 256 * (d6 + 256 * d7))) < 429496729600 := by omega
  have g2 : d2 + 256 * (d3 + 256 * (d4 + 256 * (d5 + 256 * (d6 + 256 * d7)))) < 109951162777600 := by omega
  have g1 : d1 + 256 * (d2 + 256 * (d3 + 256 * (d4 + 256 * (d5 + 256 * (d6 + 256 * d7))))) < 28147497671065600 := by omega
  omega
theorem eight' (f0 f1 f2 f3 f4 f5 f6 f7 : Nat) (h0 : f0 ≤ 8) (h1 : f1 ≤ 8) (h2 : f2 ≤ 8) (h3 : f3 ≤ 8) (h4 : f4 ≤ 8) (h5 : f5 ≤ 8) (h6 : f6 ≤ 8) (h7 : f7 ≤ 8) (y4 y5 y6 V : Nat) (hV : V = f0 + 256 * (f1 + 256 * (f2 + 256 * (f3 + 256 * (f4 + 256 * (f5 + 256 * (f6 + 256 * f7)))))))
    (e4 : V + V / 256 = y4) (e5 : y4 + y4 / 65536 = y5) (e6 : y5 + y5 / 4294967296 = y6) :
    y6 % 128 = f0 + f1 + f2 + f3 + f4 + f5 + f6 + f7 ∧ y6 < 2 ^ 63 := by
  have g1 : V / 256 = f1 + 256 * (f2 + 256 * (f3 + 256 * (f4 + 256 * (f5 + 256 * (f6 + 256 * f7))))) := by rw [hV]; exact low_part (b := 0) (by omega)
  rw [g1, hV, st4] at e4
  have g2 : y4 / 65536 = (f2 + f3) + 256 * ((f3 + f4) + 256 * ((f4 + f5) + 256 * ((f5 + f6) + 256 * ((f6 + f7) + 256 * f7)))) := by rw [← e4]; exact low_part (b := 0) (by omega)
  rw [g2, ← e4, st5] at e5
  have g3 : y5 / 4294967296 = (f4 + f5 + (f6 + f7)) + 256 * ((f5 + f6 + f7) + 256 * ((f6 + f7) + 256 * f7)) := by rw [← e5]; exact low_part (b := 0) (by clear e5 g2 e4 g1 hV e6; omega)
  rw [g3, ← e5, st6] at e6
  clear g1 g2 g3 e4 e5 hV
  have hs : f0 + f1 + (f2 + f3) + (f4 + f5 + (f6 + f7)) < 128 := by omega
  constructor
  · rw [← e6, Nat.add_mul_mod_self_left, Nat.mod_eq_of_lt hs]
    omega
  · rw [← e6]
    have := bd8 (f0 + f1 + (f2 + f3) + (f4 + f5 + (f6 + f7))) (f1 + f2 + (f3 + f4) + (f5 + f6 + f7)) (f2 + f3 + (f4 + f5) + (f6 + f7)) (f3 + f4 + (f5 + f6) + f7) (f4 + f5 + (f6 + f7)) (f5 + f6 + f7) (f6 + f7) f7 hs (by omega) (by omega) (by omega) (by omega) (by omega) (by omega) (by omega)
    omega
theorem eight (f : List Nat) (hf : f.length = 8) (hb : ∀ d ∈ f, d ≤ 8) (y4 y5 y6 : Nat) (e4 : val 256 f + val 256 f / 256 = y4) (e5 : y4 + y4 / 65536 = y5) (e6 : y5 + y5 / 4294967296 = y6) : y6 % 128 = f.sum ∧ y6 < 2 ^ 63 ∧ y4 < 2 ^ 63 ∧ y5 < 2 ^ 63 := by
  match f, hf with
  | [f0, f1, f2, f3, f4, f5, f6, f7], _ =>
    obtain ⟨V, hV⟩ : ∃ V, val 256 [f0, f1, f2, f3, f4, f5, f6, f7] = V := ⟨_, rfl⟩
    rw [hV] at e4
    have h := eight' f0 f1 f2 f3 f4 f5 f6 f7 (hb f0 (by simp)) (hb f1 (by simp)) (hb f2 (by simp)) (hb f3 (by simp)) (hb f4 (by simp)) (hb f5 (by simp)) (hb f6 (by simp)) (hb f7 (by simp)) y4 y5 y6 V (by rw [← hV]; simp [val]) e4 e5 e6
    have l4 : y4 ≤ y5 := by rw [← e5]; exact Nat.le_add_right _ _
    have l5 : y5 ≤ y6 := by rw [← e6]; exact Nat.le_add_right _ _
    refine ⟨?_, h.2, Nat.lt_of_le_of_lt (Nat.le_trans l4 l5) h.2, Nat.lt_of_le_of_lt l5 h.2⟩
    rw [h.1]
    simp only [List.sum_cons, List.sum_nil]
    omega
/-! ### the digits of a word -/
def dg : Nat → Nat → List Nat
  | 0, _ => []
  | n + 1, x => x % 2 :: dg n (x / 2)
theorem dg_len : ∀ n x, (dg n x).length = n
  | 0, _ => rfl
  | n + 1, x => by simp [dg, dg_len n]
theorem dg_bd : ∀ n x, ∀ d ∈ dg n x, d ≤ 1
  | 0, _, d, hd => by simp [dg] at hd
  | n + 1, x, d, hd => by
    rcases List.mem_cons.1 hd with rfl | hd
    · omega
    · exact dg_bd n _ d hd
theorem dg_val : ∀ n x, x < 2 ^ n → val 2 (dg n x) = x
  | 0, x, h => by simp [dg, val] at *; omega
  | n + 1, x, h => by
    rw [Nat.pow_succ] at h
    have ih := dg_val n (x / 2) (by omega)
    show x % 2 + 2 * val 2 (dg n (x / 2)) = x
    rw [ih]; omega
def sm (f : Nat → Nat) : Nat → Nat
  | 0 => 0
  | n + 1 => sm f n + f n
theorem sm_split (f : Nat → Nat) (a : Nat) : ∀ b, sm f (a + b) = sm f a + sm (fun i => f (a + i)) b
  | 0 => rfl
  | b + 1 => by
    show sm f (a + b) + f (a + b) = sm f a + (sm (fun i => f (a + i)) b + f (a + b))
    rw [sm_split f a b]; omega
theorem sm_congr {f g : Nat → Nat} : ∀ n, (∀ i, i < n → f i = g i) → sm f n = sm g n
  | 0, _ => rfl
  | n + 1, h => by
    show sm f n + f n = sm g n + g n
    rw [sm_congr n (fun i hi => h i (by omega)), h n (by omega)]
theorem dg_sum : ∀ n x, (dg n x).sum = sm (fun i => x / 2 ^ i % 2) n
  | 0, _ => rfl
  | n + 1, x => by
    show (x % 2 :: dg n (x / 2)).sum = _
    rw [List.sum_cons, dg_sum n (x / 2), Nat.add_comm n 1, sm_split]
    show _ = (0 + x / 2 ^ 0 % 2) + _
    have : sm (fun i => x / 2 / 2 ^ i % 2) n = sm (fun i => x / 2 ^ (1 + i) % 2) n := sm_congr n fun i _ => by rw [Nat.div_div_eq_div_mul, Nat.pow_add, Nat.pow_one]
    rw [this]; simp
def pop (x : BitVec 64) : Nat := (dg 64 x.toNat).sum
theorem pop_eq (x : BitVec 64) : pop x = sm (fun i => (x.getLsbD i).toNat) 64 := by
  unfold pop
  rw [dg_sum]
  exact sm_congr 64 fun i _ => by
    rw [← BitVec.testBit_toNat, Nat.testBit_eq_decide_div_mod_eq]
    by_cases h : x.toNat / 2 ^ i % 2 = 1
    · rw [decide_eq_true h, h]; rfl
    · rw [decide_eq_false h]; simp only [Bool.toNat_false]; omega
theorem pop_rot (x : BitVec 64) (k : Nat) (hk : k < 64) : pop (x.rotateLeft k) = pop x := by
  rw [pop_eq, pop_eq]
  have h1 : sm (fun i => ((x.rotateLeft k).getLsbD i).toNat) 64 = sm (fun i => (x.getLsbD ((i + (64 - k)) % 64)).toNat) 64 := sm_congr 64 fun i hi => by rw [rot_bit x k i hi hk]
  rw [h1]
  have s1 := sm_split (fun i => (x.getLsbD ((i + (64 - k)) % 64)).toNat) k (64 - k)
  have s2 := sm_split (fun i => (x.getLsbD i).toNat) (64 - k) k
  rw [show k + (64 - k) = 64 by omega] at s1
  rw [show 64 - k + k = 64 by omega] at s2
  rw [s1, s2]
  have c1 : sm (fun i => (x.getLsbD ((i + (64 - k)) % 64)).toNat) k = sm (fun i => (x.getLsbD (64 - k + i)).toNat) k := sm_congr k fun i hi => by
    rw [show (i + (64 - k)) % 64 = 64 - k + i by omega]
  have c2 : sm (fun i => (x.getLsbD ((k + i + (64 - k)) % 64)).toNat) (64 - k) = sm (fun i => (x.getLsbD i).toNat) (64 - k) := sm_congr _ fun i hi => by
    rw [show (k + i + (64 - k)) % 64 = i by omega]
  rw [c1, c2]
  omega
theorem sum_le : ∀ (l : List Nat), (∀ d ∈ l, d ≤ 1) → l.sum ≤ l.length
  | [], _ => Nat.le_refl _
  | a :: r, h => by
    have := sum_le r (fun d hd => h d (List.mem_cons_of_mem _ hd))
    have := h a (List.mem_cons_self ..)
    simp only [List.sum_cons, List.length_cons]; omega
theorem pop_le (x : BitVec 64) : pop x ≤ 64 := by
  have := sum_le (dg 64 x.toNat) (dg_bd _ _)
  rw [dg_len] at this
  exact this
/-- the sums of fields, one by one. -/
theorem fields (x e4 e8 e11 e13 e15 e17 : Nat) (hx : x < 2 ^ 64)
    (h4 : (x / 2 &&& 6148914691236517205) + (x &&& 6148914691236517205) = e4)
    (h8 : (e4 / 4 &&& 3689348814741910323) + (e4 &&& 3689348814741910323) = e8)
    (h11 : (e8 / 16 + e8) &&& 1085102592571150095 = e11)
    (h13 : e11 + e11 / 256 = e13) (h15 : e13 + e13 / 65536 = e15) (h17 : e15 + e15 / 4294967296 = e17) :
    e17 % 128 = (dg 64 x).sum ∧ e4 < 2 ^ 64 ∧ e8 < 2 ^ 63 ∧ e13 < 2 ^ 63 ∧ e15 < 2 ^ 63 ∧ e17 < 2 ^ 63 := by
  have l1 : ev (dg 64 x) = true := ev_iff _ (by rw [dg_len])
  have n1 : (add2 (dg 64 x)).length = 32 := by rw [add2_len, dg_len]
  have l2 : ev (add2 (dg 64 x)) = true := ev_iff _ (by rw [n1])
  have n2 : (add2 (add2 (dg 64 x))).length = 16 := by rw [add2_len, n1]
  have l3 : ev (add2 (add2 (dg 64 x))) = true := ev_iff _ (by rw [n2])
  have n3 : (add2 (add2 (add2 (dg 64 x)))).length = 8 := by rw [add2_len, n2]
  have b1 := add2_bd 1 _ (dg_bd 64 x)
  have b2 := add2_bd 2 _ b1
  have b3 := add2_bd 4 _ b2
  have p1 := pairs_sum 1 (dg 64 x) l1 (fun d hd => by have := dg_bd 64 x d hd; omega)
  rw [dg_len, show (2 : Nat) ^ 1 = 2 from rfl, dg_val 64 x hx, show Mk 2 (64 / 2) = 6148914691236517205 by decide, h4] at p1
  have p2 := pairs_sum 2 (add2 (dg 64 x)) l2 (fun d hd => by have := b1 d hd; omega)
  rw [n1, show (2 : Nat) ^ 2 = 4 from rfl, show Mk 4 (32 / 2) = 3689348814741910323 by decide] at p2
  rw [show (2 * 2 : Nat) = 4 from rfl] at p1
  rw [← p1, h8] at p2
  rw [show (4 * 4 : Nat) = 16 from rfl] at p2
  have p3 := third (add2 (add2 (dg 64 x))) l3 b2
  rw [n2, ← p2, show Mk 16 (16 / 2) = 1085102592571150095 by decide, h11] at p3
  have p4 := eight _ n3 b3 e13 e15 e17 (by rw [← p3]; exact h13) h15 h17
  rw [add2_sum _ l3, add2_sum _ l2, add2_sum _ l1] at p4
  have q4 : e4 < 2 ^ 64 := by
    have a1 := Nat.and_le_right (n := x / 2) (m := 6148914691236517205)
    have a2 := Nat.and_le_right (n := x) (m := 6148914691236517205)
    omega
  have q8 : e8 < 2 ^ 63 := by
    have a1 := Nat.and_le_right (n := e4 / 4) (m := 3689348814741910323)
    have a2 := Nat.and_le_right (n := e4) (m := 3689348814741910323)
    omega
  exact ⟨p4.1, q4, q8, p4.2.2.1, p4.2.2.2, p4.2.1⟩
end Go.Proofs.Ytooelompkmocnaa.T
