/- What Unpack and Turn, the program's and the reference's, and the reference's Pack and Low answer, in digits. -/
import Derived.Test.YtefiaaglkenfeaaPk
namespace Go.Proofs.Ytefiaaglkenfeaa.K
open Go.RowKit Go.Proofs.Ytefiaaglkenfeaa.PBitsTell Go.Proofs.YtefiaaglkenfeaaW.PrintWords Go.Proofs.YtefiaaglkenfeaaW.PrintLast
open Go.Proofs.Ytefiaaglkenfeaa.N
set_option linter.unusedVariables false

/-! ### Unpack -/
def unR (d : Nat) (out : List Int) (held : Int) (n : Nat) (rest : List Int) : List Int := out ++ digs (2 ^ d) ((n + 8 * rest.length) / d) (held + 2 ^ n * val 256 rest)
theorem un_l1 (d : Nat) (hd0 : 1 ≤ d) (hd : d ≤ 24) (xs : List Int) (i : Nat) (hi : i < xs.length) (hx : xs.length < 1000000)
    (A : ∀ (out : List Int) (held : Int) (n : Nat), 0 ≤ held → held < 2 ^ n → n < d → out.length + (n + 8 * (xs.drop (i + 1)).length) / d < 17592186044416 → Ev (fun k => bits_Unpack.l0 k d out held n xs xs.length ((i + 1 : Nat) : Int)) (unR d out held n (xs.drop (i + 1)))) :
    ∀ (j : Nat) (out : List Int) (held : Int) (n : Nat), n ≤ j → n < 64 → 0 ≤ held → held < 2 ^ n → out.length + (n + 8 * (xs.drop (i + 1)).length) / d < 17592186044416 → Ev (fun k => bits_Unpack.l1 k d out held n xs xs.length i) (unR d out held n (xs.drop (i + 1))) := by
  intro j
  have e : wrap64 ((i : Int) + 1) = ((i + 1 : Nat) : Int) := by rw [wrap_s (by omega) (by omega)]; omega
  induction j with
  | zero =>
    intro out held n hn hn2 h0 h1 hs
    refine Ev.step (f := fun k => bits_Unpack.l0 k d out held n xs xs.length ((i + 1 : Nat) : Int)) (fun k => ?_) (A out held n h0 h1 (by omega) hs)
    simp only [bits_Unpack.l1]
    rw [if_neg (by omega), e]
  | succ j ih =>
    intro out held n hn hn2 h0 h1 hs
    by_cases h8 : d ≤ n
    · obtain ⟨m, rfl⟩ : ∃ m, n = m + d := ⟨n - d, by omega⟩
      have hp := pow_pos' (show (0 : Int) < 2 by omega) m
      have hpd := pow_pos' (show (0 : Int) < 2 by omega) d
      have e256 : (2 : Int) ^ (m + d) = 2 ^ d * 2 ^ m := by rw [Int.pow_add, Int.mul_comm]
      rw [e256] at h1
      have hlt : held / 2 ^ d < 2 ^ m := Int.ediv_lt_of_lt_mul hpd (by rw [Int.mul_comm]; exact h1)
      have hge : 0 ≤ held / 2 ^ d := Int.ediv_nonneg h0 (by omega)
      have e1 : ∀ r : Nat, (m + d + 8 * r) / d = (m + 8 * r) / d + 1 := fun r => by
        rw [show m + d + 8 * r = (m + 8 * r) + d from by omega, Nat.add_div_right _ (by omega)]
      have hE := ih (out ++ [held % 2 ^ d]) (held / 2 ^ d) m (by omega) (by omega) hge hlt (by rw [List.length_append, List.length_singleton]; rw [e1] at hs; omega)
      have er : unR d (out ++ [held % 2 ^ d]) (held / 2 ^ d) m (xs.drop (i + 1)) = unR d out held (m + d) (xs.drop (i + 1)) := by
        unfold unR
        generalize xs.drop (i + 1) = r
        rw [e1]
        simp only [digs]
        rw [e256, Int.mul_assoc, Int.add_mul_emod_self_left, Int.add_mul_ediv_left _ _ (by omega), List.append_assoc]
        rfl
      rw [er] at hE
      refine Ev.step (f := fun k => bits_Unpack.l1 k d (out ++ [held % 2 ^ d]) (held / 2 ^ d) m xs xs.length i) (fun k => ?_) hE
      simp only [bits_Unpack.l1]
      rw [if_pos (by omega), low_f d (by omega)]
      simp only [Option.bind_some]
      rw [if_pos (Nat.lt_of_le_of_lt (Nat.le_add_right _ _) hs), if_pos (by omega), shr_div _ d (by omega), show wrap64 (((m + d : Nat) : Int) - d) = (m : Int) from by rw [wrap_s (by omega) (by omega)]; omega]
    · refine Ev.step (f := fun k => bits_Unpack.l0 k d out held n xs xs.length ((i + 1 : Nat) : Int)) (fun k => ?_) (A out held n h0 h1 (by omega) hs)
      simp only [bits_Unpack.l1]
      rw [if_neg (by omega), e]
theorem un_l0 (d : Nat) (hd0 : 1 ≤ d) (hd : d ≤ 24) (xs : List Int) (hx : xs.length < 1000000) (hb : okB xs) :
    ∀ (m i : Nat), i + m = xs.length → ∀ (out : List Int) (held : Int) (n : Nat), 0 ≤ held → held < 2 ^ n → n < d → out.length + (n + 8 * (xs.drop i).length) / d < 17592186044416 → Ev (fun k => bits_Unpack.l0 k d out held n xs xs.length i) (unR d out held n (xs.drop i)) := by
  intro m
  induction m with
  | zero =>
    intro i hi out held n h0 h1 hn hs
    have hnil : xs.drop i = [] := List.drop_eq_nil_of_le (by omega)
    rw [hnil] at hs ⊢
    refine ⟨1, fun k hk => ?_⟩
    obtain ⟨k, rfl⟩ : ∃ q, k = q + 1 := ⟨k - 1, by omega⟩
    simp only [bits_Unpack.l0]
    rw [if_neg (by omega)]
    simp [unR, Nat.div_eq_of_lt hn, digs]
  | succ m ih =>
    intro i hi out held n h0 h1 hn hs
    have hlt : i < xs.length := by omega
    have hdr := drop_rd xs i hlt
    have hl1 : (xs.drop i).length = (xs.drop (i + 1)).length + 1 := by rw [hdr, List.length_cons]
    have hok : 0 ≤ rd xs i ∧ rd xs i < 256 := by
      have : rd xs i ∈ xs := by simp [rd, List.getD_eq_getElem?_getD, hlt]
      exact hb _ this
    have hp := pow_pos' (show (0 : Int) < 2 by omega) n
    have hpn := pow_mono (show n ≤ 24 by omega)
    have hbb : rd xs i * 2 ^ n < 2 ^ 62 := by
      have : rd xs i * 2 ^ n ≤ 256 * 2 ^ 24 := Int.mul_le_mul (by omega) hpn (by omega) (by omega)
      omega
    have hb1 : rd xs i * 2 ^ n ≤ (256 - 1) * 2 ^ n := Int.mul_le_mul_of_nonneg_right (by omega) (by omega)
    have hb0 : 0 ≤ rd xs i * 2 ^ n := Int.mul_nonneg hok.1 (by omega)
    have hnew : held + rd xs i * 2 ^ n < 2 ^ (n + 8) := by
      rw [Int.pow_add, Int.mul_comm (2 ^ n)]
      rw [Int.sub_mul] at hb1
      omega
    have e2 : n + 8 + 8 * (xs.drop (i + 1)).length = n + 8 * ((xs.drop (i + 1)).length + 1) := by omega
    have hA := un_l1 d hd0 hd xs i hlt hx (fun out held n a b c e => ih (i + 1) (by omega) out held n a b c e) 64 out (held + rd xs i * 2 ^ n) (n + 8) (by omega) (by omega) (by omega) hnew (by rw [e2, ← hl1]; exact hs)
    have er : unR d out (held + rd xs i * 2 ^ n) (n + 8) (xs.drop (i + 1)) = unR d out held n (xs.drop i) := by
      rw [hdr]
      unfold unR
      rw [List.length_cons, e2]
      simp only [val]
      rw [Int.pow_add, Int.mul_add, Int.mul_assoc, Int.mul_comm (rd xs i), Int.add_assoc]
      rfl
    rw [er] at hA
    refine Ev.step (f := fun k => bits_Unpack.l1 k d out (held + rd xs i * 2 ^ n) ((n + 8 : Nat) : Int) xs xs.length i) (fun k => ?_) hA
    simp only [bits_Unpack.l0]
    rw [if_pos (by omega), if_pos (by omega), if_pos (by omega), if_pos (by omega), wrap_s hok.1 (by omega), shl_mul _ n hok.1 hbb (by omega), or_add held (rd xs i) n h0 h1 hok.1 hbb (by omega), wrap_s (a := (n : Int) + 8) (by omega) (by omega)]
    rfl
theorem un_f (d : Nat) (hd0 : 1 ≤ d) (hd : d ≤ 24) (xs : List Int) (hx : xs.length < 1000000) (hb : okB xs) : Ev (fun k => bits_Unpack.f k d xs) (unpackS d xs) := by
  have h := un_l0 d hd0 hd xs hx hb xs.length 0 (by omega) [] 0 0 (by omega) (by omega) (by omega) (by
    have : (0 + 8 * (xs.drop 0).length) / d ≤ 8 * (xs.drop 0).length := by rw [Nat.zero_add]; exact Nat.div_le_self _ _
    simp only [List.length_nil, List.drop_zero] at *; omega)
  have e : unR d [] 0 0 (xs.drop 0) = unpackS d xs := by simp [unR, unpackS]
  rw [e] at h
  refine Ev.congr (f := fun k => bits_Unpack.j0 k d xs false) (fun k => ?_) (Ev.step (f := fun k => bits_Unpack.l0 k d [] 0 0 xs xs.length 0) (fun k => ?_) h)
  · simp only [bits_Unpack.f]
    rw [if_neg (by omega), show decide ((d : Int) > 24) = false from by simp; omega]
  · simp only [bits_Unpack.j0]
    rfl
theorem un_f_no (d : Int) (h : d < 1 ∨ d > 24) (xs : List Int) : Ev (fun k => bits_Unpack.f k d xs) [] := by
  refine Ev.congr (f := fun k => bits_Unpack.j0 k d xs true) (fun k => ?_) (Ev.step (f := fun k => some []) (fun k => ?_) (Ev.now _))
  · simp only [bits_Unpack.f]
    by_cases h1 : d < 1
    · rw [if_pos h1]
    · rw [if_neg h1, show decide (d > 24) = true from by simp; omega]
  · simp only [bits_Unpack.j0]; rfl

/-! ### Turn -/
theorem bit_at (x : Int) (k : Nat) (hk : k ≤ 62) : Go.bits .and .i64 (shr .i64 x k) 1 = x / 2 ^ k % 2 := by rw [shr_div x k (by omega), and_one]
theorem tn_step (k : Nat) (hk : k < 62) (x : Int) : wrap64 (wrap64 (2 * tn k x) + x / 2 ^ k % 2) = tn (k + 1) x := by
  have h := tn_bd (k + 1) x
  have h1 := tn_bd k x
  have h2 := pow_mono (show k + 1 ≤ 62 by omega)
  have h3 := pow_mono (show k ≤ 60 + 1 by omega)
  have e : tn (k + 1) x = 2 * tn k x + x / 2 ^ k % 2 := rfl
  rw [wrap_s (a := 2 * tn k x) (by omega) (by omega), wrap_s (by omega) (by omega), e]
theorem turn_l0 (d : Nat) (hd : d ≤ 62) (x : Int) : ∀ (m i : Nat), i + m = d → Ev (fun k => bits_Turn.l0 k d x (tn i x) i) (tn d x) := by
  intro m
  induction m with
  | zero =>
    intro i hi
    refine ⟨1, fun k hk => ?_⟩
    obtain ⟨k, rfl⟩ : ∃ q, k = q + 1 := ⟨k - 1, by omega⟩
    simp only [bits_Turn.l0]
    rw [if_neg (by omega), show i = d from by omega]
  | succ m ih =>
    intro i hi
    refine Ev.step (f := fun k => bits_Turn.l0 k d x (tn (i + 1) x) ((i + 1 : Nat) : Int)) (fun k => ?_) (ih (i + 1) (by omega))
    simp only [bits_Turn.l0]
    rw [if_pos (by omega), if_pos (by omega), if_pos (by omega), bit_at x i (by omega), tn_step i (by omega), wrap_s (a := (i : Int) + 1) (by omega) (by omega)]
    rfl
theorem turn_f (d : Nat) (hd : d ≤ 62) (x : Int) : Ev (fun k => bits_Turn.f k d x) (tn d x) := by
  have h := turn_l0 d hd (x % 2 ^ d) d 0 (by omega)
  rw [tn_mod d d (Nat.le_refl _)] at h
  refine Ev.congr (fun k => ?_) h
  simp only [bits_Turn.f, low_f d hd, Option.bind_some]
  rfl
theorem turn_f_no (d : Int) (h : d < 0 ∨ d > 62) (x : Int) : Ev (fun k => bits_Turn.f k d x) 0 := by
  refine ⟨1, fun k hk => ?_⟩
  obtain ⟨k, rfl⟩ : ∃ q, k = q + 1 := ⟨k - 1, by omega⟩
  simp only [bits_Turn.f, low_f_no d x h, Option.bind_some, bits_Turn.l0]
  rcases h with h | h
  · rw [if_neg (by omega)]
  · rw [if_pos (by omega), if_neg (by omega)]

/-! ### the reference's Low and Turn -/
theorem rlow_f (d x : Int) : chatelaineref5_Low.f d x = bits_Low.f d x := rfl
theorem rturn_l0 (d : Nat) (hd : d ≤ 62) (x : Int) : ∀ (m i : Nat), i + m = d → Ev (fun k => chatelaineref5_Turn.l0 k d x (tn i x) i) (tn d x) := by
  intro m
  induction m with
  | zero =>
    intro i hi
    refine ⟨1, fun k hk => ?_⟩
    obtain ⟨k, rfl⟩ : ∃ q, k = q + 1 := ⟨k - 1, by omega⟩
    simp only [chatelaineref5_Turn.l0]
    rw [if_neg (by omega), show i = d from by omega]
  | succ m ih =>
    intro i hi
    refine Ev.step (f := fun k => chatelaineref5_Turn.l0 k d x (tn (i + 1) x) ((i + 1 : Nat) : Int)) (fun k => ?_) (ih (i + 1) (by omega))
    simp only [chatelaineref5_Turn.l0]
    rw [if_pos (by omega), if_pos (by omega), bit_at x i (by omega), tn_step i (by omega), wrap_s (a := (i : Int) + 1) (by omega) (by omega)]
    rfl
theorem rturn_f (d : Nat) (hd : d ≤ 62) (x : Int) : Ev (fun k => chatelaineref5_Turn.f k d x) (tn d x) := by
  refine Ev.congr (f := fun k => chatelaineref5_Turn.j0 k d x false) (fun k => ?_) (Ev.step (f := fun k => chatelaineref5_Turn.l0 k d x 0 0) (fun k => ?_) (rturn_l0 d hd x d 0 (by omega)))
  · simp only [chatelaineref5_Turn.f]
    rw [if_neg (by omega), show decide ((d : Int) > 62) = false from by simp; omega]
  · simp only [chatelaineref5_Turn.j0]; rfl
theorem rturn_f_no (d : Int) (h : d < 0 ∨ d > 62) (x : Int) : Ev (fun k => chatelaineref5_Turn.f k d x) 0 := by
  refine Ev.congr (f := fun k => chatelaineref5_Turn.j0 k d x true) (fun k => ?_) (Ev.step (f := fun k => some 0) (fun k => ?_) (Ev.now _))
  · simp only [chatelaineref5_Turn.f]
    by_cases h1 : d < 0
    · rw [if_pos h1]
    · rw [if_neg h1, show decide (d > 62) = true from by simp; omega]
  · simp only [chatelaineref5_Turn.j0]; rfl
end Go.Proofs.Ytefiaaglkenfeaa.K
