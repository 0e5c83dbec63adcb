/- Lists that are no polys: what is told of them; every function's contract for any list. -/
import Derived.Test.YtebicdjnhogniaaPolysW
import Derived.Test.YtebicdjnhogniaaRf
namespace Go.Proofs.Ytebicdjnhogniaa.T
open Go.RowKit Go.Proofs.Ytebicdjnhogniaa.PWavePolys Go.Proofs.YtebicdjnhogniaaW.PrintWords Go.Proofs.YtebicdjnhogniaaW.PrintLast Go.Proofs.YtebicdjnhogniaaW.PrintMore
attribute [local go_sem] max2_int min2_int max_two min_two
set_option linter.unusedVariables false
set_option linter.unusedSimpArgs false
def P (xs : List Int) : Prop := xs.length = 256 ∧ ∀ i : Nat, i < 256 → 0 ≤ rd xs (i : Int) ∧ rd xs (i : Int) < 8380417
def rf (xs : List Int) : F := fun i => rd xs (i : Int)
theorem P.pf {xs : List Int} (h : P xs) : PF (rf xs) := h.2
theorem ls_rf {xs : List Int} (h : xs.length = 256) : ls (rf xs) = xs := by
  apply List.ext_getElem?
  intro i
  by_cases hi : i < 256
  · rw [ls_get _ i hi]
    unfold rf rd
    rw [Int.toNat_natCast, List.getD_eq_getElem?_getD, List.getElem?_eq_getElem (by omega), Option.getD_some]
  · rw [List.getElem?_eq_none (by rw [ls_len]; omega), List.getElem?_eq_none (by omega)]
theorem rf_ls (f : F) (i : Nat) (h : i < 256) : rf (ls f) i = f i := rd_ls f i h
theorem P_ls {f : F} (h : PF f) : P (ls f) := ⟨ls_len f, fun i hi => by rw [rd_ls f i hi]; exact h i hi⟩
/-- the first bad place. -/
theorem first_bad {xs : List Int} (hl : xs.length = 256) (h : ¬ P xs) : ∃ p : Nat, p < 256 ∧ (∀ i : Nat, i < p → 0 ≤ rf xs i ∧ rf xs i < 8380417) ∧ (rf xs p < 0 ∨ 8380417 ≤ rf xs p) := by
  have key : ∀ m : Nat, m ≤ 256 → (∀ i : Nat, i < m → 0 ≤ rf xs i ∧ rf xs i < 8380417) ∨ ∃ p : Nat, p < 256 ∧ (∀ i : Nat, i < p → 0 ≤ rf xs i ∧ rf xs i < 8380417) ∧ (rf xs p < 0 ∨ 8380417 ≤ rf xs p) := by
    intro m
    induction m with
    | zero => intro _; exact .inl fun i hi => by omega
    | succ m ih =>
      intro hm
      rcases ih (by omega) with h1 | h1
      · by_cases hg : 0 ≤ rf xs m ∧ rf xs m < 8380417
        · exact .inl fun i hi => by
            by_cases e : i = m
            · subst e; exact hg
            · exact h1 i (by omega)
        · exact .inr ⟨m, by omega, h1, by omega⟩
      · exact .inr h1
  rcases key 256 (Nat.le_refl _) with h1 | h1
  · exact absurd ⟨hl, h1⟩ h
  · exact h1
theorem bad_any (x : Int) (w : World) (h : x < 0 ∨ 8380417 ≤ x) : Calls Try.prog 49 #[.int .i64 x] w fun e w' => e = .returned (.bool true) ∧ w' = w := by
  by_cases h0 : x < 0
  · have t1 : decide (x < 0) = true := decide_eq_true h0
    go_enter Try.func49, Try.ntmps49
    go_wp2
    go_ret
    exact ⟨rfl, rfl⟩
  · have t1 : decide (x < 0) = false := decide_eq_false h0
    have t2 : decide (x ≥ 8380417) = true := decide_eq_true (by omega)
    have t3 : decide (8380417 ≤ x) = true := decide_eq_true (by omega)
    go_enter Try.func49, Try.ntmps49
    go_wp2
    go_ret
    exact ⟨rfl, rfl⟩
def IdxRel2 (p : Nat) (x : Value) (w w' : World) : Prop := ∃ i : Nat, i ≤ p ∧ x = .int .i64 i ∧ w' = w
set_option maxHeartbeats 1000000 in
theorem idx_bad (A : Option Addr) (c : Nat) (f : F) (p : Nat) (w : World) (hA : RD w A f) (hc : 256 ≤ c) (hp : p < 256) (hf : ∀ i : Nat, i < p → 0 ≤ f i ∧ f i < 8380417) (hx : f p < 0 ∨ 8380417 ≤ f p) :
    Calls Try.prog 54 #[.slice A 256 c, fnV 49] w fun e w' => e = .returned (.int .i64 (p : Int)) ∧ w' = w := by
  obtain ⟨ad, rfl, hcell⟩ := hA
  have HC := Lib.hid hcell
  have HF := Lib.hid hf
  have HX := Lib.hid hx
  clear hcell hf hx
  go_enter Try.func54, Try.ntmps54
  go_wp2
  go_loopw [8] (fun v w' => IdxRel2 p v w w') (fun v _ => (256 - intOf v).toNat)
  case atStart => exact ⟨0, by omega, rfl, rfl⟩
  case round =>
    obtain ⟨i, hi, rfl, rfl⟩ := hrel
    have hlt : i < 256 := by omega
    have hpd : decide ((i : Int) < 256) = true := decide_eq_true (by omega)
    have hii : (i : Int) < 256 := by omega
    have hcell := HC.out i hlt
    by_cases hip : i < p
    · obtain ⟨b0, b1⟩ := HF.out i hip
      generalize f i = x0 at hcell b0 b1
      go_wp2_with (go_at_call 49; (with_reducible refine (good_any x0 _ b0 b1).mono ?_); rintro e w' ⟨rfl, rfl⟩)
      go_roundw
      case rel =>
        have hrel := fun W => (show IdxRel2 p (.int .i64 ((i : Int) + 1)) W W from ⟨i + 1, by omega, by go_num, rfl⟩)
        first
        | exact hrel _
        | (repeat apply Exists.intro
           exact ⟨hrel _, rfl⟩)
      case measure => simp [intOf]; omega
    · have e : i = p := by omega
      subst e
      have hx := HX.out
      generalize f i = x0 at hcell hx
      go_wp2_with (go_at_call 49; (with_reducible refine (bad_any x0 _ hx).mono ?_); rintro e w' ⟨rfl, rfl⟩)
      go_ret
      exact ⟨rfl, rfl⟩
theorem contains_bad (A : Option Addr) (c : Nat) (f : F) (p : Nat) (w : World) (hA : RD w A f) (hc : 256 ≤ c) (hp : p < 256) (hf : ∀ i : Nat, i < p → 0 ≤ f i ∧ f i < 8380417) (hx : f p < 0 ∨ 8380417 ≤ f p) :
    Calls Try.prog 48 #[.slice A 256 c, fnV 49] w fun e w' => e = .returned (.bool true) ∧ w' = w := by
  have K := Lib.hid (idx_bad A c f p w hA hc hp hf hx)
  have hpd : decide ((p : Int) ≥ 0) = true := decide_eq_true (by omega)
  have hpd2 : decide (0 ≤ (p : Int)) = true := decide_eq_true (by omega)
  clear hA hf hx
  go_enter Try.func48, Try.ntmps48
  go_wp2_with (go_at_call 54; (with_reducible refine K.out.mono ?_); rintro e w' ⟨rfl, rfl⟩)
  go_ret
  exact ⟨rfl, rfl⟩
theorem may_not (A : Option Addr) (n c : Nat) (xs : List Int) (w : World) (hC : Kd.C (Kd.int .i64) w A xs.length xs) (hn : n = xs.length) (hc : n ≤ c) (hx : ¬ P xs) :
    Calls Try.prog 36 #[.slice A n c] w fun e w' => e = .returned (.bool false) ∧ w' = w := by
  by_cases hl : n = 256
  · subst hl
    obtain ⟨p, hp, h1, h2⟩ := first_bad hn.symm hx
    rw [← ls_rf hn.symm] at hC
    have K := Lib.hid (contains_bad A c (rf xs) p w (rd_of_C hC) hc hp h1 h2)
    clear hC hn hx
    go_enter Try.func36, Try.ntmps36
    go_wp2_with (go_at_call 48; (with_reducible refine K.out.mono ?_); rintro e w' ⟨rfl, rfl⟩)
    go_ret
    exact ⟨rfl, rfl⟩
  · have hpd : decide ((n : Int) = 256) = false := decide_eq_false (by omega)
    have hpb : ((n : Int) == 256) = false := by simp; omega
    clear hC hn hx
    go_enter Try.func36, Try.ntmps36
    go_wp2
    go_ret
    exact ⟨rfl, rfl⟩
theorem rmay_not_f {xs : List Int} (h : ¬ P xs) : Ev (fun k => chatelaineref10_May.f k xs) false := by
  by_cases hl : xs.length = 256
  · obtain ⟨p, hp, h1, h2⟩ := first_bad hl h
    have key : ∀ m i : Nat, i + m = p → Ev (fun k => chatelaineref10_May.l0 k xs i) false := by
      intro m
      induction m with
      | zero =>
        intro i hi
        have e : i = p := by omega
        subst e
        refine Ev.step (f := fun k => chatelaineref10_May.j1 k xs i true) (fun k => ?_) ⟨1, fun k hk => ?_⟩
        · simp only [chatelaineref10_May.l0]
          rw [if_pos (by omega), hl]
          rfl
        · obtain ⟨k, rfl⟩ : ∃ q, k = q + 1 := ⟨k - 1, by omega⟩
          simp only [chatelaineref10_May.j1]
          rw [if_pos trivial, if_pos (by omega), if_pos (by omega)]
          have h2' : rd xs (i : Int) < 0 ∨ 8380417 ≤ rd xs (i : Int) := h2
          by_cases h0 : rd xs (i : Int) < 0
          · rw [if_pos h0]
          · rw [if_neg h0, if_pos (by omega)]
      | succ m ih =>
        intro i hi
        have b := h1 i (by omega)
        have b' : 0 ≤ rd xs (i : Int) ∧ rd xs (i : Int) < 8380417 := b
        refine Ev.step (f := fun k => chatelaineref10_May.j1 k xs i true) (fun k => ?_) ?_
        · simp only [chatelaineref10_May.l0]
          rw [if_pos (by omega), hl]
          rfl
        · refine Ev.step (f := fun k => chatelaineref10_May.l0 k xs ((i + 1 : Nat) : Int)) (fun k => ?_) (ih (i + 1) (by omega))
          simp only [chatelaineref10_May.j1]
          rw [if_pos trivial, if_pos (by omega), if_pos (by omega), if_neg (by omega), if_neg (by omega), wrap_s (by omega) (by omega)]
          rfl
    exact key p 0 (by omega)
  · have hb : ((xs.length : Int) == 256) = false := by simp; omega
    refine ⟨2, fun k hk => ?_⟩
    obtain ⟨k, rfl⟩ : ∃ q, k = q + 1 + 1 := ⟨k - 2, by omega⟩
    have h0 : chatelaineref10_May.j1 (k + 1) xs 0 false = some false := by
      simp only [chatelaineref10_May.j1]
      rw [if_neg (by simp), hb]
    show chatelaineref10_May.l0 (k + 1 + 1) xs 0 = some false
    simp only [chatelaineref10_May.l0]
    split
    · rw [hb]; exact h0
    · exact h0
theorem rmay_not (A : Option Addr) (n c : Nat) (xs : List Int) (w : World) (hC : Kd.C (Kd.int .i64) w A xs.length xs) (hn : n = xs.length) (hc : n ≤ c) (hx : ¬ P xs) :
    Calls Try.prog 37 #[.slice A n c] w fun e w' => e = .returned (.bool false) ∧ Below w.heap.size w w' := by
  subst hn
  obtain ⟨k, hk⟩ := (rmay_not_f hx).rounds
  exact (chatelaineref10_May.calls k A c xs false w hC hc hk).mono fun e w' h => ⟨h.1, by first | exact h.2 | exact below_of_drawn h.2⟩
end Go.Proofs.Ytebicdjnhogniaa.T
