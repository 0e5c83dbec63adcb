/- What the reference's Pack and Unpack answer, in digits: the same. -/
import Derived.Test.YtefiaaglkenfeaaUn
namespace Go.Proofs.Ytefiaaglkenfeaa.K
open Go.RowKit Go.Proofs.Ytefiaaglkenfeaa.PBitsTell Go.Proofs.YtefiaaglkenfeaaW.PrintWords Go.Proofs.YtefiaaglkenfeaaW.PrintLast
open Go.Proofs.Ytefiaaglkenfeaa.N
set_option linter.unusedVariables false
theorem val_set (M : Int) : ∀ (xs : List Int) (j : Nat) (v : Int), j < xs.length → val M (xs.set j v) = val M xs + M ^ j * (v - rd xs j)
  | [], j, v, h => by simp at h
  | x :: xs, 0, v, h => by simp [val, rd]; omega
  | x :: xs, j + 1, v, h => by
    have ih := val_set M xs j v (by simpa using h)
    have e : rd (x :: xs) ((j + 1 : Nat) : Int) = rd xs (j : Nat) := by simp [rd]
    rw [List.set_cons_succ, e]
    simp only [val]
    rw [ih, Int.mul_add, Int.pow_succ, ← Int.mul_assoc, Int.mul_comm M (M ^ j)]
    omega
/-- the j-th digit. -/
theorem rd_val {M : Int} (hM : 0 < M) : ∀ (xs : List Int) (j : Nat), (∀ x ∈ xs, 0 ≤ x ∧ x < M) → j < xs.length → rd xs j = val M xs / M ^ j % M
  | [], j, _, h => by simp at h
  | x :: xs, 0, hb, h => by
    have h2 := hb x List.mem_cons_self
    simp only [val]
    rw [Int.pow_zero, Int.ediv_one, Int.add_mul_emod_self_left, Int.emod_eq_of_lt h2.1 h2.2]
    simp [rd]
  | x :: xs, j + 1, hb, h => by
    have h2 := hb x List.mem_cons_self
    have ih := rd_val hM xs j (fun y hy => hb y (List.mem_cons_of_mem _ hy)) (by simpa using h)
    have e : rd (x :: xs) ((j + 1 : Nat) : Int) = rd xs (j : Nat) := by simp [rd]
    rw [e, ih]
    simp only [val]
    rw [Int.pow_succ, Int.mul_comm (M ^ j), ← Int.ediv_ediv_of_nonneg (by omega), Int.add_mul_ediv_left _ _ (by omega), Int.ediv_eq_zero_of_lt h2.1 h2.2, Int.zero_add]
/-- a bit set in bytes that are 0 from there on. -/
theorem set_bit (out : List Int) (a : Nat) (c : Int) (hb : okB out) (ha : a / 8 < out.length) (hv : val 256 out < 2 ^ a) (c0 : 0 ≤ c) (c1 : c ≤ 1) :
    Go.bits .or .u8 (rd out ((a / 8 : Nat) : Int)) (shl .i64 c ((a % 8 : Nat) : Int) % 256) = rd out ((a / 8 : Nat) : Int) + c * 2 ^ (a % 8) ∧ 0 ≤ rd out ((a / 8 : Nat) : Int) ∧ rd out ((a / 8 : Nat) : Int) + c * 2 ^ (a % 8) < 256 ∧
    val 256 (out.set (a / 8) (rd out ((a / 8 : Nat) : Int) + c * 2 ^ (a % 8))) = val 256 out + c * 2 ^ a := by
  have hr := rd_val (show (0 : Int) < 256 by omega) out (a / 8) hb ha
  have h0 := val_nonneg (show (0 : Int) < 256 by omega) out (fun x hx => (hb x hx).1)
  have hp := pow_pos' (show (0 : Int) < 2 by omega) (a % 8)
  have hp8 := pow_pos' (show (0 : Int) < 256 by omega) (a / 8)
  have hm := pow_mono (show a % 8 ≤ 7 by omega)
  have e1 : (2 : Int) ^ a = 256 ^ (a / 8) * 2 ^ (a % 8) := by rw [p256, ← Int.pow_add]; congr 1; omega
  have hB : rd out ((a / 8 : Nat) : Int) < 2 ^ (a % 8) := by
    rw [hr]
    have h1 : val 256 out / 256 ^ (a / 8) < 2 ^ (a % 8) := Int.ediv_lt_of_lt_mul hp8 (by rw [Int.mul_comm, ← e1]; exact hv)
    have h2 : 0 ≤ val 256 out / 256 ^ (a / 8) := Int.ediv_nonneg h0 (by omega)
    rw [Int.emod_eq_of_lt h2 (by omega)]
    exact h1
  have hB0 : 0 ≤ rd out ((a / 8 : Nat) : Int) := by rw [hr]; exact Int.emod_nonneg _ (by omega)
  have hset := fun v => val_set 256 out (a / 8) v ha
  generalize rd out ((a / 8 : Nat) : Int) = B at *
  have hc : c * 2 ^ (a % 8) ≤ 1 * 2 ^ (a % 8) := Int.mul_le_mul_of_nonneg_right c1 (by omega)
  have hc0 : 0 ≤ c * 2 ^ (a % 8) := Int.mul_nonneg c0 (by omega)
  have hlt : B + c * 2 ^ (a % 8) < 256 := by
    have := pow_mono (show a % 8 + 1 ≤ 8 by omega)
    rw [Int.pow_succ] at this
    omega
  refine ⟨?_, hB0, hlt, ?_⟩
  · rw [shl_mul c (a % 8) c0 (by omega) (by omega), Int.emod_eq_of_lt hc0 (by omega), or_comm', bits_join .u8 8 (by decide) wraps_u8' (a % 8) (c * 2 ^ (a % 8)) B hc0 (Int.mul_emod_left _ _) (by omega) hB0 hB (by omega), Int.add_comm]
  · rw [hset, show B + c * 2 ^ (a % 8) - B = c * 2 ^ (a % 8) from by omega, e1, ← Int.mul_assoc, ← Int.mul_assoc, Int.mul_comm c]
/-- one number's bits, from the k-th on. -/
def rpR (d : Nat) (out : List Int) (at_ : Nat) (rest : List Int) : List Int := if okAll d rest = true then digs 256 out.length (val 256 out + 2 ^ at_ * val (2 ^ d) rest) else []
theorem bit_of (x : Int) (k : Nat) : 0 ≤ x / 2 ^ k % 2 ∧ x / 2 ^ k % 2 ≤ 1 := by omega
theorem bit_split (x : Int) (a j : Nat) : 2 ^ a * (x / 2 ^ j) = (x / 2 ^ j % 2) * 2 ^ a + 2 ^ (a + 1) * (x / 2 ^ (j + 1)) := by
  have hpj := pow_pos' (show (0 : Int) < 2 by omega) j
  rw [Int.pow_succ (2 : Int) a, Int.pow_succ (2 : Int) j, ← Int.ediv_ediv_of_nonneg (Int.le_of_lt hpj)]
  generalize x / 2 ^ j = y
  generalize (2 : Int) ^ a = p
  rw [Int.mul_comm (y % 2) p, Int.mul_assoc, ← Int.mul_add]
  congr 1
  omega
theorem cast_at (d i j : Nat) (h : d * i + j < 4000000000) : wrap64 (wrap64 ((d : Int) * i) + j) = ((d * i + j : Nat) : Int) ∧ wrap64 (Int.tdiv ((d * i + j : Nat) : Int) 8) = (((d * i + j) / 8 : Nat) : Int) ∧ Int.tmod ((d * i + j : Nat) : Int) 8 = (((d * i + j) % 8 : Nat) : Int) := by
  have e : (d : Int) * i = ((d * i : Nat) : Int) := by simp
  refine ⟨?_, ?_, ?_⟩
  · rw [e, wrap_s (a := ((d * i : Nat) : Int)) (by omega) (by omega), wrap_s (by omega) (by omega)]; omega
  · rw [Int.tdiv_eq_ediv_of_nonneg (by omega), wrap_s (by omega) (by omega)]; omega
  · rw [Int.tmod_eq_emod_of_nonneg (by omega)]; omega
theorem rp_l1 (d : Nat) (hd0 : 1 ≤ d) (hd : d ≤ 24) (xs : List Int) (hx : xs.length < 1000000) (i : Nat) (hi : i < xs.length) (x0 : 0 ≤ rd xs i) (x1 : rd xs i < 2 ^ d)
    (A : ∀ (out : List Int), out.length = (d * xs.length + 7) / 8 → okB out → val 256 out < 2 ^ (d * (i + 1)) → Ev (fun k => chatelaineref5_Pack.l0 k d xs out ((i + 1 : Nat) : Int)) (rpR d out (d * (i + 1)) (xs.drop (i + 1)))) :
    ∀ (m j : Nat), j + m = d → ∀ out : List Int, out.length = (d * xs.length + 7) / 8 → okB out → val 256 out < 2 ^ (d * i + j) →
      Ev (fun k => chatelaineref5_Pack.l1 k d xs out i j) (rpR d (digs 256 out.length (val 256 out + 2 ^ (d * i + j) * (rd xs i / 2 ^ j))) (d * (i + 1)) (xs.drop (i + 1))) := by
  have hle : d * i + d ≤ d * xs.length := by rw [← Nat.mul_succ]; exact Nat.mul_le_mul_left d (by omega)
  have hcap : d * xs.length ≤ 24 * 1000000 := Nat.mul_le_mul hd (by omega)
  have key : ∀ j, j < d → ∀ n, n = (d * xs.length + 7) / 8 → (d * i + j) / 8 < n ∧ d * i + j < 4000000000 := fun j hj n hn => by omega
  have wi : wrap64 ((i : Int) + 1) = ((i + 1 : Nat) : Int) := by rw [wrap_s (by omega) (by omega)]; omega
  have wj : ∀ j, j < d → wrap64 ((j : Int) + 1) = ((j + 1 : Nat) : Int) := fun j hj => by rw [wrap_s (by omega) (by omega)]; omega
  intro m
  induction m with
  | zero =>
    intro j hj out hl hb hv
    have ej : j = d := by omega
    subst ej
    have e1 : rd xs i / 2 ^ j = 0 := Int.ediv_eq_zero_of_lt x0 x1
    rw [e1, Int.mul_zero, Int.add_zero, digs_val (by omega) out hb]
    refine Ev.step (f := fun k => chatelaineref5_Pack.l0 k j xs out ((i + 1 : Nat) : Int)) (fun k => ?_) (A out hl hb (by rw [Nat.mul_add, Nat.mul_one]; exact hv))
    simp only [chatelaineref5_Pack.l1]
    rw [if_neg (by omega), wi]
  | succ m ih =>
    intro j hj out hl hb hv
    have hjd : j < d := by omega
    obtain ⟨ha, hsz⟩ := key j hjd _ hl
    have q0 : (j : Int) < d := Int.ofNat_lt.2 hjd
    have q1 : (((d * i + j) / 8 : Nat) : Int) < out.length := Int.ofNat_lt.2 ha
    have q2 : (i : Int) < xs.length := Int.ofNat_lt.2 hi
    have wj := wj j hjd
    obtain ⟨w1, w2, w3⟩ := cast_at d i j hsz
    clear key
    have hbit := bit_of (rd xs i) j
    obtain ⟨b1, b2, b3, b4⟩ := set_bit out (d * i + j) (rd xs i / 2 ^ j % 2) hb ha hv hbit.1 hbit.2
    have hpa := pow_pos' (show (0 : Int) < 2 by omega) (d * i + j)
    have hpm := pow_pos' (show (0 : Int) < 2 by omega) ((d * i + j) % 8)
    generalize hB : rd out (((d * i + j) / 8 : Nat) : Int) = B at *
    generalize hC : rd xs i / 2 ^ j % 2 = c at *
    have hc2 : 0 ≤ c * 2 ^ ((d * i + j) % 8) := Int.mul_nonneg hbit.1 (by omega)
    have hb' : okB (out.set ((d * i + j) / 8) (B + c * 2 ^ ((d * i + j) % 8))) := by
      intro y hy
      rcases List.mem_or_eq_of_mem_set hy with hy | rfl
      · exact hb y hy
      · omega
    have hv' : val 256 (out.set ((d * i + j) / 8) (B + c * 2 ^ ((d * i + j) % 8))) < 2 ^ (d * i + (j + 1)) := by
      rw [b4, ← Nat.add_assoc, Int.pow_succ]
      have : c * 2 ^ (d * i + j) ≤ 1 * 2 ^ (d * i + j) := Int.mul_le_mul_of_nonneg_right hbit.2 (by omega)
      omega
    have hE := ih (j + 1) (by omega) _ (by rw [List.length_set]; exact hl) hb' hv'
    have er : val 256 (out.set ((d * i + j) / 8) (B + c * 2 ^ ((d * i + j) % 8))) + 2 ^ (d * i + (j + 1)) * (rd xs i / 2 ^ (j + 1)) = val 256 out + 2 ^ (d * i + j) * (rd xs i / 2 ^ j) := by
      rw [b4, bit_split (rd xs i) (d * i + j) j, hC, Int.add_assoc]
      rfl
    rw [er, List.length_set] at hE
    refine Ev.step (f := fun k => chatelaineref5_Pack.l1 k d xs (out.set ((d * i + j) / 8) (B + c * 2 ^ ((d * i + j) % 8))) i ((j + 1 : Nat) : Int)) (fun k => ?_) hE
    simp only [chatelaineref5_Pack.l1]
    rw [w1, w2, w3, bit_at _ j (Nat.le_trans (Nat.le_of_lt hjd) (Nat.le_trans hd (by decide))), hC, hB, b1, if_pos q0, if_pos (Int.natCast_nonneg _), if_pos q1, if_pos (Int.natCast_nonneg _), if_pos q2, if_pos (Int.natCast_nonneg _), if_pos (Int.natCast_nonneg _), wj, Int.toNat_natCast]
theorem rp_l0 (d : Nat) (hd0 : 1 ≤ d) (hd : d ≤ 24) (xs : List Int) (hx : xs.length < 1000000) :
    ∀ (m i : Nat), i + m = xs.length → ∀ out : List Int, out.length = (d * xs.length + 7) / 8 → okB out → val 256 out < 2 ^ (d * i) → Ev (fun k => chatelaineref5_Pack.l0 k d xs out i) (rpR d out (d * i) (xs.drop i)) := by
  intro m
  induction m with
  | zero =>
    intro i hi out hl hb hv
    refine ⟨1, fun k hk => ?_⟩
    obtain ⟨k, rfl⟩ : ∃ q, k = q + 1 := ⟨k - 1, by omega⟩
    simp only [chatelaineref5_Pack.l0]
    rw [if_neg (by omega), List.drop_eq_nil_of_le (by omega)]
    simp [rpR, okAll, val, digs_val (show (0 : Int) < 256 by omega) out hb]
  | succ m ih =>
    intro i hi out hl hb hv
    have hlt : i < xs.length := by omega
    have hdr := drop_rd xs i hlt
    have hpd := pow_pos' (show (0 : Int) < 2 by omega) d
    have hpdd := pow_mono hd
    have es : shl .i64 1 d = 2 ^ d := by rw [shl_mul 1 d (by omega) (by omega) (by omega), Int.one_mul]
    by_cases hok : 0 ≤ rd xs i ∧ rd xs i < 2 ^ d
    · have hE := rp_l1 d hd0 hd xs hx i hlt hok.1 hok.2 (fun out a b c => ih (i + 1) (by omega) out a b c) d 0 (by omega) out hl hb hv
      simp only [Nat.add_zero, Int.pow_zero, Int.ediv_one] at hE
      have er : rpR d (digs 256 out.length (val 256 out + 2 ^ (d * i) * rd xs i)) (d * (i + 1)) (xs.drop (i + 1)) = rpR d out (d * i) (xs.drop i) := by
        rw [hdr]
        unfold rpR
        have e1 : okAll d (rd xs i :: xs.drop (i + 1)) = okAll d (xs.drop (i + 1)) := by simp [okAll, hok]
        rw [e1, digs_length, val_digs (by omega)]
        split
        · have h0 := val_nonneg (show (0 : Int) < 256 by omega) out (fun x hx => (hb x hx).1)
          have hpi := pow_pos' (show (0 : Int) < 2 by omega) (d * i)
          have hsm : val 256 out + 2 ^ (d * i) * rd xs i < 256 ^ out.length := by
            have h1 : val 256 out + 2 ^ (d * i) * rd xs i < 2 ^ (d * (i + 1)) := by
              rw [Nat.mul_add, Nat.mul_one, Int.pow_add]
              have : 2 ^ (d * i) * (rd xs i + 1) ≤ 2 ^ (d * i) * 2 ^ d := Int.mul_le_mul_of_nonneg_left (by omega) (by omega)
              rw [Int.mul_add] at this
              omega
            refine Int.lt_of_lt_of_le h1 ?_
            rw [p256, hl]
            refine pow_mono ?_
            have : d * (i + 1) ≤ d * xs.length := Nat.mul_le_mul_left d (by omega)
            omega
          rw [Int.emod_eq_of_lt (by have := Int.mul_nonneg (show (0 : Int) ≤ 2 ^ (d * i) by omega) hok.1; omega) hsm]
          simp only [val]
          rw [Int.mul_add, Nat.mul_add, Nat.mul_one, Int.pow_add, Int.mul_assoc, Int.add_assoc]
        · rfl
      rw [er] at hE
      refine Ev.step (f := fun k => chatelaineref5_Pack.j2 k d xs out i false) (fun k => ?_) (Ev.step (f := fun k => chatelaineref5_Pack.l1 k d xs out i ((0 : Nat) : Int)) (fun k => ?_) hE)
      · simp only [chatelaineref5_Pack.l0]
        rw [if_pos (by omega), if_pos (by omega), if_neg (by omega), if_pos (by omega), es, show decide (rd xs i ≥ 2 ^ d) = false from by simp; omega]
      · simp only [chatelaineref5_Pack.j2]
        rfl
    · have er : rpR d out (d * i) (xs.drop i) = [] := by
        rw [hdr]
        unfold rpR
        rw [if_neg (by simp [okAll]; omega)]
      rw [er]
      refine ⟨2, fun k hk => ?_⟩
      obtain ⟨k, rfl⟩ : ∃ q, k = q + 2 := ⟨k - 2, by omega⟩
      have hj : chatelaineref5_Pack.j2 (k + 1) d xs out i true = some [] := by simp only [chatelaineref5_Pack.j2]; rfl
      simp only [chatelaineref5_Pack.l0]
      rw [if_pos (by omega), if_pos (by omega)]
      by_cases hneg : rd xs i < 0
      · rw [if_pos hneg]; exact hj
      · rw [if_neg hneg, if_pos (by omega), es, show decide (rd xs i ≥ 2 ^ d) = true from by simp; omega]
        exact hj
theorem rpack_f (d : Nat) (hd0 : 1 ≤ d) (hd : d ≤ 24) (xs : List Int) (hx : xs.length < 1000000) : Ev (fun k => chatelaineref5_Pack.f k d xs) (packS d xs) := by
  have hcap : d * xs.length ≤ 24 * 1000000 := Nat.mul_le_mul hd (by omega)
  have hz : val 256 (List.replicate ((d * xs.length + 7) / 8) 0) = 0 := by
    rw [← digs_zero 256, val_digs (by omega), Int.zero_emod]
  have h := rp_l0 d hd0 hd xs hx xs.length 0 (by omega) (List.replicate ((d * xs.length + 7) / 8) 0) (by simp) (fun x hx => by have := List.eq_of_mem_replicate hx; omega) (by rw [hz]; simp)
  have e : rpR d (List.replicate ((d * xs.length + 7) / 8) 0) (d * 0) (xs.drop 0) = packS d xs := by
    unfold rpR packS
    rw [hz, List.length_replicate]
    simp
  rw [e] at h
  have w1 : wrap64 (Int.tdiv (wrap64 (wrap64 ((d : Int) * xs.length) + 7)) 8) = (((d * xs.length + 7) / 8 : Nat) : Int) := by
    have e : (d : Int) * xs.length = ((d * xs.length : Nat) : Int) := by simp
    rw [e, wrap_s (a := ((d * xs.length : Nat) : Int)) (by omega) (by omega), wrap_s (a := ((d * xs.length : Nat) : Int) + 7) (by omega) (by omega), Int.tdiv_eq_ediv_of_nonneg (by omega), wrap_s (by omega) (by omega)]; omega
  refine Ev.congr (f := fun k => chatelaineref5_Pack.j0 k d xs false) (fun k => ?_) (Ev.step (f := fun k => chatelaineref5_Pack.l0 k d xs (List.replicate ((d * xs.length + 7) / 8) 0) ((0 : Nat) : Int)) (fun k => ?_) h)
  · simp only [chatelaineref5_Pack.f]
    rw [if_neg (by omega), show decide ((d : Int) > 24) = false from by simp; omega]
  · simp only [chatelaineref5_Pack.j0]
    rw [w1, if_neg (by simp), if_pos (by omega), if_pos (by rw [Int.toNat_natCast]; omega), Int.toNat_natCast]
    rfl
theorem rpack_f_no (d : Int) (h : d < 1 ∨ d > 24) (xs : List Int) : Ev (fun k => chatelaineref5_Pack.f k d xs) [] := by
  refine Ev.congr (f := fun k => chatelaineref5_Pack.j0 k d xs true) (fun k => ?_) (Ev.step (f := fun k => some []) (fun k => ?_) (Ev.now _))
  · simp only [chatelaineref5_Pack.f]
    by_cases h1 : d < 1
    · rw [if_pos h1]
    · rw [if_neg h1, show decide (d > 24) = true from by simp; omega]
  · simp only [chatelaineref5_Pack.j0]; rfl

/-! ### the reference's Unpack -/
theorem rbit_f (b : List Int) (hb : okB b) (a : Nat) (ha : a / 8 < b.length) (ha2 : a < 4000000000) : chatelaineref5_Bit.f b a = some (val 256 b / 2 ^ a % 2) := by
  have hr := rd_val (show (0 : Int) < 256 by omega) b (a / 8) hb ha
  have h0 : 0 ≤ rd b ((a / 8 : Nat) : Int) := by rw [hr]; exact Int.emod_nonneg _ (by omega)
  have h1 : rd b ((a / 8 : Nat) : Int) < 256 := by rw [hr]; exact Int.emod_lt_of_pos _ (by omega)
  have w2 : wrap64 (Int.tdiv (a : Int) 8) = ((a / 8 : Nat) : Int) := by
    rw [Int.tdiv_eq_ediv_of_nonneg (by omega), wrap_s (by omega) (by omega)]; omega
  have w3 : Int.tmod (a : Int) 8 = ((a % 8 : Nat) : Int) := by
    rw [Int.tmod_eq_emod_of_nonneg (by omega)]; omega
  unfold chatelaineref5_Bit.f
  rw [w2, w3, if_pos (by omega), if_pos (by omega), if_pos (by omega), wrap_s h0 (by omega), bit_at _ _ (by omega), hr]
  congr 1
  have e1 : (2 : Int) ^ a = 256 ^ (a / 8) * 2 ^ (a % 8) := by rw [p256, ← Int.pow_add]; congr 1; omega
  have hp8 := pow_pos' (show (0 : Int) < 256 by omega) (a / 8)
  rw [e1, ← Int.ediv_ediv_of_nonneg (by omega : (0 : Int) ≤ 256 ^ (a / 8))]
  generalize val 256 b / 256 ^ (a / 8) = N
  have hr8 : a % 8 < 8 := Nat.mod_lt _ (by omega)
  generalize a % 8 = r at hr8 ⊢
  have := tn_mod 8 (r + 1) (by omega) N
  have t1 : tn (r + 1) (N % 2 ^ 8) = 2 * tn r (N % 2 ^ 8) + N % 2 ^ 8 / 2 ^ r % 2 := rfl
  have t2 : tn (r + 1) N = 2 * tn r N + N / 2 ^ r % 2 := rfl
  have t3 := tn_mod 8 r (by omega) N
  rw [t1, t2, t3] at this
  have e8 : (2 : Int) ^ 8 = 256 := by decide
  rw [e8] at this
  omega
def ruR (d : Nat) (V : Int) (c : Nat) (out : List Int) (i : Nat) : List Int := out ++ digs (2 ^ d) (c - i) (V / 2 ^ (d * i))
theorem ru_l1 (d : Nat) (hd0 : 1 ≤ d) (hd : d ≤ 24) (b : List Int) (hx : b.length < 1000000) (hb : okB b) (i : Nat) (hi : d * (i + 1) ≤ 8 * b.length) (out : List Int) (r : List Int) (ho : out.length < 17592186044416)
    (A : Ev (fun k => chatelaineref5_Unpack.l0 k d b (out ++ [val 256 b / 2 ^ (d * i) % 2 ^ d]) ((i + 1 : Nat) : Int)) r) :
    ∀ (m j : Nat), j + m = d → Ev (fun k => chatelaineref5_Unpack.l1 k d b out i (val 256 b / 2 ^ (d * i) % 2 ^ j) j) r := by
  have hi2 : i + 1 ≤ 8000000 := by
    have : 1 * (i + 1) ≤ d * (i + 1) := Nat.mul_le_mul_right _ hd0
    omega
  rw [Nat.mul_add, Nat.mul_one] at hi
  have key : ∀ j, j < d → (d * i + j) / 8 < b.length ∧ d * i + j < 4000000000 := fun j hj => by omega
  have wi : wrap64 ((i : Int) + 1) = ((i + 1 : Nat) : Int) := by rw [wrap_s (by omega) (by omega)]; omega
  have wj : ∀ j, j < d → wrap64 ((j : Int) + 1) = ((j + 1 : Nat) : Int) := fun j hj => by rw [wrap_s (by omega) (by omega)]; omega
  intro m
  induction m with
  | zero =>
    intro j hj
    have ej : j = d := by omega
    subst ej
    refine Ev.step (f := fun k => chatelaineref5_Unpack.l0 k j b (out ++ [val 256 b / 2 ^ (j * i) % 2 ^ j]) ((i + 1 : Nat) : Int)) (fun k => ?_) A
    simp only [chatelaineref5_Unpack.l1]
    rw [if_neg (by omega), if_pos ho, wi]
  | succ m ih =>
    intro j hj
    have hE := ih (j + 1) (by omega)
    have hjd : j < d := by omega
    obtain ⟨ha, hsz⟩ := key j hjd
    have q0 : (j : Int) < d := Int.ofNat_lt.2 hjd
    have wj := wj j hjd
    have hj62 : j ≤ 62 := by omega
    have w1 := (cast_at d i j hsz).1
    rw [Int.mul_comm (d : Int)] at w1
    have hpj := pow_pos' (show (0 : Int) < 2 by omega) j
    have hpm := pow_mono (show j ≤ 23 by omega)
    have hpi := pow_pos' (show (0 : Int) < 2 by omega) (d * i)
    have hrb := rbit_f b hb (d * i + j) ha hsz
    rw [Int.pow_add, ← Int.ediv_ediv_of_nonneg (Int.le_of_lt hpi)] at hrb
    generalize hN : val 256 b / 2 ^ (d * i) = N at *
    have h0 := Int.emod_nonneg N (show (2 : Int) ^ j ≠ 0 by omega)
    have h1 := Int.emod_lt_of_pos N hpj
    have hbit := bit_of N j
    have e1 : N % 2 ^ (j + 1) = N % 2 ^ j + (N / 2 ^ j % 2) * 2 ^ j := by
      rw [Int.pow_succ, ← emod_mul' hpj 2 N (by omega), Int.mul_comm (2 ^ j)]
    have hcm : (N / 2 ^ j % 2) * 2 ^ j < 2 ^ 62 := by
      have : (N / 2 ^ j % 2) * 2 ^ j ≤ 1 * 2 ^ j := Int.mul_le_mul_of_nonneg_right hbit.2 (by omega)
      omega
    refine Ev.step (f := fun k => chatelaineref5_Unpack.l1 k d b out i (N % 2 ^ (j + 1)) ((j + 1 : Nat) : Int)) (fun k => ?_) hE
    simp only [chatelaineref5_Unpack.l1]
    rw [if_pos q0, w1, hrb]
    simp only [Option.bind_some]
    rw [if_pos (Int.natCast_nonneg _), shl_mul _ j hbit.1 hcm hj62, or_add _ _ j h0 h1 hbit.1 hcm hj62, e1, wj]
theorem ru_l0 (d : Nat) (hd0 : 1 ≤ d) (hd : d ≤ 24) (b : List Int) (hx : b.length < 1000000) (hb : okB b) (c : Nat) (hc : 8 * b.length / d = c) :
    ∀ (m i : Nat), i + m = c → ∀ out : List Int, out.length = i → Ev (fun k => chatelaineref5_Unpack.l0 k d b out i) (ruR d (val 256 b) c out i) := by
  have hc2 : c ≤ 8 * b.length := by rw [← hc]; exact Nat.div_le_self _ _
  have hm1 : ∀ i, d * (i + 1) ≤ 8 * b.length ↔ i + 1 ≤ c := fun i => by rw [← hc, Nat.le_div_iff_mul_le (by omega), Nat.mul_comm]
  have w : ∀ i : Nat, i ≤ c → wrap64 (wrap64 ((i : Int) + 1) * d) = ((d * (i + 1) : Nat) : Int) := fun i hi => by
    have h24 : d * (i + 1) ≤ 24 * 8000001 := Nat.mul_le_mul hd (by omega)
    have e : ((i : Int) + 1) * d = ((d * (i + 1) : Nat) : Int) := by simp [Int.mul_comm]
    rw [wrap_s (a := (i : Int) + 1) (by omega) (by omega), e, wrap_s (by omega) (by omega)]
  have w8 : wrap64 (8 * (b.length : Int)) = ((8 * b.length : Nat) : Int) := by rw [wrap_s (by omega) (by omega)]; omega
  intro m
  induction m with
  | zero =>
    intro i hi out ho
    refine ⟨1, fun k hk => ?_⟩
    obtain ⟨k, rfl⟩ : ∃ q, k = q + 1 := ⟨k - 1, by omega⟩
    simp only [chatelaineref5_Unpack.l0]
    have hn : ¬ d * (i + 1) ≤ 8 * b.length := fun h => by have := (hm1 i).1 h; omega
    rw [w i (by omega), w8, if_neg (by omega)]
    unfold ruR
    rw [show c - i = 0 from by omega]
    simp [digs]
  | succ m ih =>
    intro i hi out ho
    have hle := (hm1 i).2 (by omega)
    have hE := ih (i + 1) (by omega) (out ++ [val 256 b / 2 ^ (d * i) % 2 ^ d]) (by simp [ho])
    have hL := ru_l1 d hd0 hd b hx hb i hle out _ (by omega) hE d 0 (by omega)
    have er : ruR d (val 256 b) c (out ++ [val 256 b / 2 ^ (d * i) % 2 ^ d]) (i + 1) = ruR d (val 256 b) c out i := by
      unfold ruR
      rw [show c - i = (c - (i + 1)) + 1 from by omega]
      simp only [digs]
      have hpi := pow_pos' (show (0 : Int) < 2 by omega) (d * i)
      rw [Nat.mul_add, Nat.mul_one, Int.pow_add, ← Int.ediv_ediv_of_nonneg (by omega : (0 : Int) ≤ 2 ^ (d * i)), List.append_assoc]
      rfl
    rw [er] at hL
    refine Ev.step (f := fun k => chatelaineref5_Unpack.l1 k d b out i (val 256 b / 2 ^ (d * i) % 2 ^ 0) ((0 : Nat) : Int)) (fun k => ?_) hL
    simp only [chatelaineref5_Unpack.l0]
    rw [w i (by omega), w8, if_pos (by omega), Int.pow_zero, Int.emod_one]
    rfl
theorem run_f (d : Nat) (hd0 : 1 ≤ d) (hd : d ≤ 24) (b : List Int) (hx : b.length < 1000000) (hb : okB b) : Ev (fun k => chatelaineref5_Unpack.f k d b) (unpackS d b) := by
  have h := ru_l0 d hd0 hd b hx hb _ rfl (8 * b.length / d) 0 (by omega) [] rfl
  have e : ruR d (val 256 b) (8 * b.length / d) [] 0 = unpackS d b := by simp [ruR, unpackS]
  rw [e] at h
  refine Ev.congr (f := fun k => chatelaineref5_Unpack.j0 k d b false) (fun k => ?_) (Ev.step (f := fun k => chatelaineref5_Unpack.l0 k d b [] ((0 : Nat) : Int)) (fun k => ?_) h)
  · simp only [chatelaineref5_Unpack.f]
    rw [if_neg (by omega), show decide ((d : Int) > 24) = false from by simp; omega]
  · simp only [chatelaineref5_Unpack.j0]
    rfl
theorem run_f_no (d : Int) (h : d < 1 ∨ d > 24) (xs : List Int) : Ev (fun k => chatelaineref5_Unpack.f k d xs) [] := by
  refine Ev.congr (f := fun k => chatelaineref5_Unpack.j0 k d xs true) (fun k => ?_) (Ev.step (f := fun k => some []) (fun k => ?_) (Ev.now _))
  · simp only [chatelaineref5_Unpack.f]
    by_cases h1 : d < 1
    · rw [if_pos h1]
    · rw [if_neg h1, show decide (d > 24) = true from by simp; omega]
  · simp only [chatelaineref5_Unpack.j0]; rfl
end Go.Proofs.Ytefiaaglkenfeaa.K
