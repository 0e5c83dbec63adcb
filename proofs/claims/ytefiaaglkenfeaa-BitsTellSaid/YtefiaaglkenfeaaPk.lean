/- What Pack, Unpack, Low and Turn (the program's, by their printed Lean functions) answer, in digits. -/
import Derived.Test.YtefiaaglkenfeaaPBitsTellx1
import Derived.Test.YtefiaaglkenfeaaPBitsTellx2
import Derived.Test.YtefiaaglkenfeaaPBitsTellx3
import Derived.Test.YtefiaaglkenfeaaPBitsTellx4
import Derived.Test.YtefiaaglkenfeaaNum
namespace Go.Proofs.Ytefiaaglkenfeaa.K
open Go.RowKit Go.Proofs.Ytefiaaglkenfeaa.PBitsTell Go.Proofs.YtefiaaglkenfeaaW.PrintWords Go.Proofs.YtefiaaglkenfeaaW.PrintLast
open Go.Proofs.Ytefiaaglkenfeaa.N
set_option linter.unusedVariables false

theorem wraps_i64 (n : Int) (h₀ : 0 ≤ n) (h₁ : n < 2 ^ 62) : IntKind.i64.wrap n = n := by rw [IntKind.wrap_i64]; omega
theorem wraps_u8' (n : Int) (h₀ : 0 ≤ n) (h₁ : n < 2 ^ 8) : IntKind.u8.wrap n = n := by rw [IntKind.wrap_u8]; omega
theorem or_comm' (k : IntKind) (x y : Int) : Go.bits .or k x y = Go.bits .or k y x := by simp only [Go.bits]; rw [BitVec.or_comm]
/-- a number below 2^n, and bits from n on. -/
theorem or_add (h x : Int) (n : Nat) (h0 : 0 ≤ h) (h1 : h < 2 ^ n) (x0 : 0 ≤ x) (x1 : x * 2 ^ n < 2 ^ 62) (hn : n ≤ 62) : Go.bits .or .i64 h (x * 2 ^ n) = h + x * 2 ^ n := by
  have hp := pow_pos' (show (0 : Int) < 2 by omega) n
  have := pow_mono hn
  rw [or_comm', bits_join .i64 62 (by decide) wraps_i64 n (x * 2 ^ n) h (Int.mul_nonneg x0 (by omega)) (Int.mul_emod_left _ _) x1 h0 h1 (by omega), Int.add_comm]
theorem shl_mul (x : Int) (n : Nat) (x0 : 0 ≤ x) (x1 : x * 2 ^ n < 2 ^ 62) (hn : n ≤ 62) : shl .i64 x n = x * 2 ^ n := by
  have hp := pow_pos' (show (0 : Int) < 2 by omega) n
  unfold shl
  rw [Int.toNat_natCast, Nat.min_eq_left (by show n ≤ 64; omega), wraps_i64 _ (Int.mul_nonneg x0 (by omega)) x1]
theorem shr_div (x : Int) (n : Nat) (hn : n ≤ 64) : shr .i64 x n = x / 2 ^ n := by
  unfold shr
  rw [Int.toNat_natCast, Nat.min_eq_left (by show n ≤ 64; omega)]
theorem and_mask (x : Int) (d : Nat) (hd : d ≤ 62) : Go.bits .and .i64 x (2 ^ d - 1) = x % 2 ^ d := by
  have hp := pow_pos' (show (0 : Int) < 2 by omega) d
  have hpos : 0 < 2 ^ d := Nat.two_pow_pos d
  have h64 : (2 : Nat) ^ d ≤ 2 ^ 62 := Nat.pow_le_pow_right (by decide) hd
  have e1 : ((2 : Int) ^ d - 1) = ((2 ^ d - 1 : Nat) : Int) := by rw [Int.natCast_sub hpos]; simp
  have e2 : (BitVec.ofInt 64 x).toNat = (x % 2 ^ 64).toNat := by simp [BitVec.toNat_ofInt]
  have e3 : ((BitVec.ofInt 64 x &&& BitVec.ofInt 64 (2 ^ d - 1)).toNat : Int) = x % 2 ^ d := by
    rw [BitVec.toNat_and, e1, e2]
    rw [show (BitVec.ofInt 64 ((2 ^ d - 1 : Nat) : Int)).toNat = 2 ^ d - 1 from by rw [BitVec.ofInt_natCast, BitVec.toNat_ofNat, Nat.mod_eq_of_lt (by omega)]]
    rw [Nat.and_two_pow_sub_one_eq_mod, Int.natCast_emod, Int.toNat_of_nonneg (Int.emod_nonneg _ (by decide))]
    have := low_low (show d ≤ 64 by omega) x
    simpa using this
  show IntKind.i64.wrap ((BitVec.ofInt 64 x &&& BitVec.ofInt 64 (2 ^ d - 1)).toNat : Int) = _
  rw [e3]
  have h1 := Int.emod_nonneg x (show (2 : Int) ^ d ≠ 0 by omega)
  have h2 := Int.emod_lt_of_pos x hp
  have h3 := pow_mono hd
  exact wraps_i64 _ h1 (by omega)
theorem and_one (x : Int) : Go.bits .and .i64 x 1 = x % 2 := and_mask x 1 (by omega)

/-! ### Low -/
theorem low_f (d : Nat) (hd : d ≤ 62) (x : Int) : bits_Low.f d x = some (x % 2 ^ d) := by
  have hp := pow_pos' (show (0 : Int) < 2 by omega) d
  have h3 := pow_mono hd
  have e : shl .i64 1 d = 2 ^ d := by
    unfold shl
    rw [Int.toNat_natCast, Nat.min_eq_left (by show d ≤ 64; omega), Int.one_mul]
    rw [IntKind.wrap_i64]; omega
  unfold bits_Low.f
  rw [if_neg (by omega), if_neg (by omega), if_pos (by omega), e, show wrap64 (2 ^ d - 1) = 2 ^ d - 1 from by unfold wrap64; omega, and_mask x d hd]
theorem low_f_no (d x : Int) (h : d < 0 ∨ d > 62) : bits_Low.f d x = some 0 := by
  unfold bits_Low.f
  rcases h with h | h
  · rw [if_pos h]
  · rw [if_neg (by omega), if_pos h]

/-! ### Pack -/
def packR (d : Nat) (out : List Int) (held : Int) (n : Nat) (rest : List Int) : List Int :=
  if okAll d rest = true then out ++ digs 256 ((n + d * rest.length + 7) / 8) (held + 2 ^ n * val (2 ^ d) rest) else []
theorem drop_rd (xs : List Int) (i : Nat) (h : i < xs.length) : xs.drop i = rd xs i :: xs.drop (i + 1) := by
  rw [List.drop_eq_getElem_cons h]
  congr 1
  simp [rd, List.getD_eq_getElem?_getD, h]
theorem wrap_s {a : Int} (h1 : 0 ≤ a) (h2 : a < 4611686018427387904) : wrap64 a = a := by unfold wrap64; omega
theorem pack_l1 (d : Nat) (xs : List Int) (i : Nat) (hi : i < xs.length) (hx : xs.length < 1000000)
    (A : ∀ (out : List Int) (held : Int) (n : Nat), 0 ≤ held → held < 2 ^ n → n < 8 → out.length + (n + d * (xs.drop (i + 1)).length + 7) / 8 < 140737488355328 → Ev (fun k => bits_Pack.l0 k d out held n xs xs.length ((i + 1 : Nat) : Int)) (packR d out held n (xs.drop (i + 1)))) :
    ∀ (j : Nat) (out : List Int) (held : Int) (n : Nat), n ≤ j → n < 64 → 0 ≤ held → held < 2 ^ n → out.length + (n + d * (xs.drop (i + 1)).length + 7) / 8 < 140737488355328 → Ev (fun k => bits_Pack.l1 k d out held n xs xs.length i) (packR d out held n (xs.drop (i + 1))) := by
  intro j
  induction j with
  | zero =>
    intro out held n hn hn2 h0 h1 hs
    have e : wrap64 ((i : Int) + 1) = ((i + 1 : Nat) : Int) := by rw [wrap_s (by omega) (by omega)]; omega
    refine Ev.step (f := fun k => bits_Pack.l0 k d out held n xs xs.length ((i + 1 : Nat) : Int)) (fun k => ?_) (A out held n h0 h1 (by omega) hs)
    simp only [bits_Pack.l1]
    rw [if_neg (by omega), e]
  | succ j ih =>
    intro out held n hn hn2 h0 h1 hs
    by_cases h8 : 8 ≤ n
    · obtain ⟨m, rfl⟩ : ∃ m, n = m + 8 := ⟨n - 8, by omega⟩
      have hp := pow_pos' (show (0 : Int) < 2 by omega) m
      have e256 : (2 : Int) ^ (m + 8) = 256 * 2 ^ m := by rw [Int.pow_add]; omega
      rw [e256] at h1
      have hE := ih (out ++ [held % 256]) (held / 256) m (by omega) (by omega) (by omega) (by omega) (by rw [List.length_append, List.length_singleton]; omega)
      have er : packR d (out ++ [held % 256]) (held / 256) m (xs.drop (i + 1)) = packR d out held (m + 8) (xs.drop (i + 1)) := by
        unfold packR
        generalize xs.drop (i + 1) = r
        split
        · have e1 : (m + 8 + d * r.length + 7) / 8 = (m + d * r.length + 7) / 8 + 1 := by omega
          rw [e1]
          simp only [digs]
          rw [e256, Int.mul_assoc, Int.add_mul_emod_self_left, Int.add_mul_ediv_left _ _ (by omega), List.append_assoc]
          rfl
        · rfl
      rw [er] at hE
      refine Ev.step (f := fun k => bits_Pack.l1 k d (out ++ [held % 256]) (held / 256) m xs xs.length i) (fun k => ?_) hE
      simp only [bits_Pack.l1]
      rw [if_pos (by omega), if_pos (by omega), show wrap64 (((m + 8 : Nat) : Int) - 8) = (m : Int) from by rw [wrap_s (by omega) (by omega)]; omega]
    · have e : wrap64 ((i : Int) + 1) = ((i + 1 : Nat) : Int) := by rw [wrap_s (by omega) (by omega)]; omega
      refine Ev.step (f := fun k => bits_Pack.l0 k d out held n xs xs.length ((i + 1 : Nat) : Int)) (fun k => ?_) (A out held n h0 h1 (by omega) hs)
      simp only [bits_Pack.l1]
      rw [if_neg (by omega), e]
theorem pack_l0 (d : Nat) (hd0 : 1 ≤ d) (hd : d ≤ 24) (xs : List Int) (hx : xs.length < 1000000) :
    ∀ (m i : Nat), i + m = xs.length → ∀ (out : List Int) (held : Int) (n : Nat), 0 ≤ held → held < 2 ^ n → n < 8 → out.length + (n + d * (xs.drop i).length + 7) / 8 < 140737488355328 → Ev (fun k => bits_Pack.l0 k d out held n xs xs.length i) (packR d out held n (xs.drop i)) := by
  intro m
  induction m with
  | zero =>
    intro i hi out held n h0 h1 hn hs
    have hnil : xs.drop i = [] := List.drop_eq_nil_of_le (by omega)
    rw [hnil] at hs ⊢
    refine ⟨1, fun k hk => ?_⟩
    obtain ⟨k, rfl⟩ : ∃ q, k = q + 1 := ⟨k - 1, by omega⟩
    simp only [bits_Pack.l0]
    rw [if_neg (by omega)]
    have e : packR d out held n [] = out ++ digs 256 ((n + 7) / 8) held := by simp [packR, okAll, val]
    rw [e]
    simp only [List.length_nil, Nat.mul_zero, Nat.add_zero] at hs
    by_cases hn0 : n = 0
    · subst hn0
      rw [if_neg (by omega)]
      simp [digs]
    · rw [if_pos (by omega), if_pos (by omega), show (n + 7) / 8 = 1 from by omega]
      rfl
  | succ m ih =>
    intro i hi out held n h0 h1 hn hs
    have hlt : i < xs.length := by omega
    have hdr := drop_rd xs i hlt
    have hl1 : (xs.drop i).length = (xs.drop (i + 1)).length + 1 := by rw [hdr, List.length_cons]
    by_cases hok : 0 ≤ rd xs i ∧ rd xs i < 2 ^ d
    · have hp := pow_pos' (show (0 : Int) < 2 by omega) n
      have hpd := pow_pos' (show (0 : Int) < 2 by omega) d
      have hpn := pow_mono (show n ≤ 7 by omega)
      have hpdd := pow_mono hd
      have hb : rd xs i * 2 ^ n < 2 ^ 62 := by
        have : rd xs i * 2 ^ n ≤ 2 ^ 24 * 2 ^ 7 := Int.mul_le_mul (by omega) hpn (by omega) (by omega)
        omega
      have hb1 : rd xs i * 2 ^ n ≤ (2 ^ d - 1) * 2 ^ n := Int.mul_le_mul_of_nonneg_right (by omega) (by omega)
      have hb0 : 0 ≤ rd xs i * 2 ^ n := Int.mul_nonneg hok.1 (by omega)
      have hnew : held + rd xs i * 2 ^ n < 2 ^ (n + d) := by
        rw [Int.pow_add, Int.mul_comm (2 ^ n)]
        rw [Int.sub_mul] at hb1
        omega
      have hA := pack_l1 d xs i hlt hx (fun out held n a b c e => ih (i + 1) (by omega) out held n a b c e) 64 out (held + rd xs i * 2 ^ n) (n + d) (by omega) (by omega) (by omega) hnew (by rw [hl1, Nat.mul_add] at hs; omega)
      have er : packR d out (held + rd xs i * 2 ^ n) (n + d) (xs.drop (i + 1)) = packR d out held n (xs.drop i) := by
        rw [hdr]
        unfold packR
        have e1 : okAll d (rd xs i :: xs.drop (i + 1)) = okAll d (xs.drop (i + 1)) := by simp [okAll, hok]
        rw [e1, List.length_cons]
        split
        · have e2 : n + d + d * (xs.drop (i + 1)).length = n + d * ((xs.drop (i + 1)).length + 1) := by rw [Nat.mul_add]; omega
          rw [e2]
          simp only [val]
          rw [Int.pow_add, Int.mul_add, Int.mul_assoc, Int.mul_comm (rd xs i), Int.add_assoc]
        · rfl
      rw [er] at hA
      refine Ev.step (f := fun k => bits_Pack.j2 k d out held n (rd xs i) xs xs.length i false) (fun k => ?_) (Ev.step (f := fun k => bits_Pack.l1 k d out (held + rd xs i * 2 ^ n) ((n + d : Nat) : Int) xs xs.length i) (fun k => ?_) hA)
      · simp only [bits_Pack.l0]
        rw [if_pos (by omega), if_pos (by omega), if_pos (by omega), if_neg (by omega), if_pos (by omega), shr_div _ d (by omega), Int.ediv_eq_zero_of_lt hok.1 hok.2]
        rfl
      · simp only [bits_Pack.j2]
        rw [if_neg (by simp), if_pos (by omega), shl_mul _ n hok.1 hb (by omega), or_add held (rd xs i) n h0 h1 hok.1 hb (by omega), wrap_s (a := (n : Int) + d) (by omega) (by omega)]
        rfl
    · have er : packR d out held n (xs.drop i) = [] := by
        rw [hdr]
        unfold packR
        rw [if_neg (by simp [okAll]; omega)]
      rw [er]
      refine ⟨2, fun k hk => ?_⟩
      obtain ⟨k, rfl⟩ : ∃ q, k = q + 2 := ⟨k - 2, by omega⟩
      have hj : bits_Pack.j2 (k + 1) d out held n (rd xs i) xs xs.length i true = some [] := by simp only [bits_Pack.j2]; rfl
      simp only [bits_Pack.l0]
      rw [if_pos (by omega), if_pos (by omega), if_pos (by omega)]
      by_cases hneg : rd xs i < 0
      · rw [if_pos hneg]; exact hj
      · have hpd := pow_pos' (show (0 : Int) < 2 by omega) d
        have hne : rd xs i / 2 ^ d ≠ 0 := by
          have := Int.le_ediv_of_mul_le hpd (show 1 * 2 ^ d ≤ rd xs i by omega)
          omega
        rw [if_neg hneg, if_pos (by omega), shr_div _ d (by omega), show (rd xs i / 2 ^ d != 0) = true from by simp [hne]]
        exact hj
theorem pack_f (d : Nat) (hd0 : 1 ≤ d) (hd : d ≤ 24) (xs : List Int) (hx : xs.length < 1000000) : Ev (fun k => bits_Pack.f k d xs) (packS d xs) := by
  have h := pack_l0 d hd0 hd xs hx xs.length 0 (by omega) [] 0 0 (by omega) (by omega) (by omega) (by
    have : d * (xs.drop 0).length ≤ 24 * 1000000 := Nat.mul_le_mul hd (by simp; omega)
    simp only [List.length_nil]; omega)
  have e : packR d [] 0 0 (xs.drop 0) = packS d xs := by simp [packR, packS]
  rw [e] at h
  refine Ev.congr (f := fun k => bits_Pack.j0 k d xs false) (fun k => ?_) (Ev.step (f := fun k => bits_Pack.l0 k d [] 0 0 xs xs.length 0) (fun k => ?_) h)
  · simp only [bits_Pack.f]
    rw [if_neg (by omega), show decide ((d : Int) > 24) = false from by simp; omega]
  · simp only [bits_Pack.j0]
    rfl
theorem pack_f_no (d : Int) (h : d < 1 ∨ d > 24) (xs : List Int) : Ev (fun k => bits_Pack.f k d xs) [] := by
  refine Ev.congr (f := fun k => bits_Pack.j0 k d xs true) (fun k => ?_) (Ev.step (f := fun k => some []) (fun k => ?_) (Ev.now _))
  · simp only [bits_Pack.f]
    by_cases h1 : d < 1
    · rw [if_pos h1]
    · rw [if_neg h1, show decide (d > 24) = true from by simp; omega]
  · simp only [bits_Pack.j0]; rfl
end Go.Proofs.Ytefiaaglkenfeaa.K
