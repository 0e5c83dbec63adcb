/- Norm: its walk. -/
import Derived.Test.YtebicdjnhogniaaBk
namespace Go.Proofs.Ytebicdjnhogniaa.T
open Go.RowKit Go.Proofs.Ytebicdjnhogniaa.PWaveRing Go.Proofs.YtebicdjnhogniaaW.PrintWords Go.Proofs.YtebicdjnhogniaaW.PrintLast Go.Proofs.YtebicdjnhogniaaW.PrintMore
attribute [local go_sem] max2_int min2_int max_two min_two
set_option linter.unusedVariables false
set_option linter.unusedSimpArgs false
def nm (x : Int) : Int := if 8380417 - x < x then 8380417 - x else x
theorem nm_bd {x : Int} (h0 : 0 ≤ x) (h1 : x < 8380417) : 0 ≤ nm x ∧ nm x ≤ 8380417 := by unfold nm; split <;> omega
theorem rnorm_f (x : Int) (h0 : 0 ≤ x) (h1 : x < 8380417) : round_Norm.f x = some (nm x) := by
  have h : round_Of.f x = some x := by
    unfold round_Of.f
    have e : Int.tmod x 8380417 = x := by rw [Int.tmod_eq_emod_of_nonneg h0, Int.emod_eq_of_lt h0 h1]
    rw [e, if_neg (by omega)]
  unfold round_Norm.f
  rw [h, Option.bind_some, Option.bind_some, wrap_s (by omega) (by omega)]
  unfold nm mn
  rfl
theorem rnorm_any (x : Int) (w : World) (h0 : 0 ≤ x) (h1 : x < 8380417) : Calls Try.prog 44 #[.int .i64 x] w fun e w' => e = .returned (.int .i64 (nm x)) ∧ Below w.heap.size w w' :=
  round_Norm.calls x _ w (rnorm_f x h0 h1)
def mx2 (a b : Int) : Int := if a < b then b else a
def mxs (t : Int) (f : F) : Nat → Int
  | 0 => t
  | i + 1 => mx2 (mxs t f i) (nm (f i))
def nrmK (fs : Nat → F) : Nat → Int
  | 0 => 0
  | i + 1 => mxs (nrmK fs i) (fs i) 256
theorem mxs_bd {t : Int} {f : F} (ht : 0 ≤ t ∧ t ≤ 8380417) (hf : PF f) : ∀ i, i ≤ 256 → 0 ≤ mxs t f i ∧ mxs t f i ≤ 8380417
  | 0, _ => ht
  | i + 1, hi => by
    have h1 := mxs_bd ht hf i (by omega)
    have h2 := hf i (by omega)
    have h3 := nm_bd h2.1 h2.2
    unfold mxs mx2
    split <;> omega
theorem nrmK_bd {fs : Nat → F} (k : Nat) (hf : ∀ i, i < k → PF (fs i)) : ∀ i, i ≤ k → 0 ≤ nrmK fs i ∧ nrmK fs i ≤ 8380417
  | 0, _ => by simp [nrmK]
  | i + 1, hi => mxs_bd (nrmK_bd k hf i (by omega)) (hf i (by omega)) 256 (Nat.le_refl _)
theorem norm_none (w : World) : Calls Try.prog 17 #[.slice none 0 0] w fun e w' => e = .returned (.int .i64 0) ∧ w' = w := by
  go_enter Try.func17, Try.ntmps17
  go_wp2
  go_loopw [3, 10] (fun t v w' => t = .int .i64 0 ∧ v = .int .i64 0 ∧ w' = w) (fun _ v _ => (1 - intOf v).toNat)
  case atStart => exact ⟨rfl, rfl, rfl⟩
  case round =>
    obtain ⟨rfl, rfl, rfl⟩ := hrel
    go_wp2
    go_ret
    exact ⟨rfl, rfl⟩
theorem norm_bad (ad : Addr) (c : Nat) (w : World) (hcell : w.cell? ad = some (.slice none 0 0)) : Calls Try.prog 17 #[.slice (some ad) 1 c] w fun e w' => e = .returned (.int .i64 (-1)) ∧ w' = w := by
  go_enter Try.func17, Try.ntmps17
  go_wp2
  go_loopw [3, 10] (fun t v w' => t = .int .i64 0 ∧ v = .int .i64 0 ∧ w' = w) (fun _ v _ => (1 - intOf v).toNat)
  case atStart => exact ⟨rfl, rfl, rfl⟩
  case round =>
    obtain ⟨rfl, rfl, hww⟩ := hrel
    subst hww
    have h0 : wr.cell? (ad.add 0) = some (.slice none 0 0) := hcell
    go_wp2_with (go_at_call 36; (with_reducible refine (may_nil _).mono ?_); rintro e w9 ⟨rfl, hw⟩; rw [hw]; clear hw)
    go_ret
    exact ⟨rfl, rfl⟩
def N1 (w : World) (fs : Nat → F) (k : Nat) (t v : Value) (w' : World) : Prop := ∃ i : Nat, i ≤ k ∧ t = .int .i64 (nrmK fs i) ∧ v = .int .i64 (i : Int) ∧ Below w.heap.size w w'
def N2 (w : World) (t0 : Int) (f : F) (t v : Value) (w' : World) : Prop := ∃ j : Nat, j ≤ 256 ∧ t = .int .i64 (mxs t0 f j) ∧ v = .int .i64 (j : Int) ∧ Below w.heap.size w w'
set_option maxHeartbeats 2000000 in
set_option maxRecDepth 20000 in
theorem norm_any (ad : Addr) (k c : Nat) (As : Nat → Option Addr) (cs : Nat → Nat) (fs : Nat → F) (r : Int) (w : World) (hk : k ≤ 8)
    (hcell : ∀ i, i < k → w.cell? (ad.add i) = some (.slice (As i) 256 (cs i))) (hR : ∀ i, i < k → RD w (As i) (fs i)) (hc : ∀ i, i < k → 256 ≤ cs i) (hP : ∀ i, i < k → PF (fs i)) (hr : nrmK fs k = r) :
    Calls Try.prog 17 #[.slice (some ad) k c] w fun e w' => e = .returned (.int .i64 r) ∧ Below w.heap.size w w' := by
  have HC := Lib.hid hcell
  have HR := Lib.hid hR
  have HCC := Lib.hid hc
  have HP := Lib.hid hP
  have HRR := Lib.hid hr
  clear hcell hR hc hP hr
  go_enter Try.func17, Try.ntmps17
  go_wp2
  go_loopw [3, 10] (fun t v w' => N1 w fs k t v w') (fun _ v _ => (k - intOf v).toNat)
  case atStart => exact ⟨0, by omega, rfl, rfl, Below.refl _ _⟩
  case round =>
    obtain ⟨i, hi, rfl, rfl, hD⟩ := hrel
    by_cases hlt : i < k
    · have hpd : decide ((i : Int) < (k : Int)) = true := decide_eq_true (by omega)
      have hii : (i : Int) < (k : Int) := by omega
      have hcl := pw_cell_below hD (HC.out i hlt)
      have hRD := HR.out i hlt
      have tb := nrmK_bd k HP.out i hi
      have hP := HP.out i hlt
      have hcc := HCC.out i hlt
      have hnx : nrmK fs (i + 1) = mxs (nrmK fs i) (fs i) 256 := rfl
      obtain ⟨t0, ht0⟩ : ∃ t, nrmK fs i = t := ⟨_, rfl⟩
      obtain ⟨f, hf⟩ : ∃ f, fs i = f := ⟨_, rfl⟩
      obtain ⟨A, hA⟩ : ∃ f, As i = f := ⟨_, rfl⟩
      obtain ⟨ci, hci⟩ : ∃ f, cs i = f := ⟨_, rfl⟩
      rw [ht0] at tb hnx
      rw [hf] at hRD hP hnx
      rw [hA] at hcl hRD
      rw [hci] at hcl hcc
      rw [ht0]
      have MA := Lib.hid (may_any A ci f wr (hRD.below hD) hcc hP)
      obtain ⟨ad2, hA2, hcells⟩ := hRD
      subst hA2
      have HCE := Lib.hid hcells
      have PFf := Lib.hid hP
      have NX := Lib.hid hnx
      have TB := Lib.hid tb
      have DD := Lib.hid hD
      clear hcells hP hnx ht0 hf hA hci tb hD
      go_wp2_with (go_at_call 36; (with_reducible refine MA.out.mono ?_); rintro e w9 ⟨rfl, hw⟩; rw [hw]; clear hw)
      go_loopw [3, 19] (fun t v w' => N2 w t0 f t v w') (fun _ v _ => (256 - intOf v).toNat)
      case atStart => exact ⟨0, by omega, rfl, rfl, DD.out⟩
      case round =>
        clear MA hcl
        obtain ⟨j, hj, rfl, rfl, hD2⟩ := hrel
        by_cases hjl : j < 256
        · have hpd2 : decide ((j : Int) < 256) = true := decide_eq_true (by omega)
          have hji : (j : Int) < 256 := by omega
          have hcx := pw_cell_below hD2 (HCE.out j hjl)
          have b0 := PFf.out j hjl
          have mb := mxs_bd TB.out PFf.out j (by omega)
          have hn1 : mxs t0 f (j + 1) = mx2 (mxs t0 f j) (nm (f j)) := rfl
          obtain ⟨x0, hx0⟩ : ∃ x, f j = x := ⟨_, rfl⟩
          obtain ⟨m0, hm0⟩ : ∃ x, mxs t0 f j = x := ⟨_, rfl⟩
          rw [hx0] at hcx b0 hn1
          rw [hm0] at mb hn1
          rw [hm0]
          have RN := Lib.hid (fun W => rnorm_any x0 W b0.1 b0.2)
          obtain ⟨y0, hy0⟩ : ∃ x, nm x0 = x := ⟨_, rfl⟩
          rw [hy0] at RN hn1
          have N1' := Lib.hid (hn1.symm)
          have DD2 := Lib.hid hD2
          clear hn1 hm0 hx0 hy0 hD2 b0
          go_wp2_with (go_at_call 44; (with_reducible refine (RN.out _).mono ?_); rintro e w9 ⟨rfl, hD3⟩; have DD3 := Lib.hid (below_step DD2.out hD3); clear hD3)
          go_roundw
          case rel =>
            have hrel : N2 w t0 f (.int .i64 (if m0 < y0 then y0 else m0)) (.int .i64 ((j : Int) + 1)) w9 := ⟨j + 1, by omega, by rw [← N1'.out]; rfl, by go_num, DD3.out⟩
            first
            | exact hrel
            | (repeat apply Exists.intro
               exact ⟨hrel, rfl⟩)
          case measure => simp [intOf]; omega
        · have e : j = 256 := by omega
          subst e
          have DD2 := Lib.hid hD2
          rw [← NX.out]
          clear hD2 hj hjl
          go_wp2
          go_roundw
          case rel =>
            have hrel : N1 w fs k (.int .i64 (nrmK fs (i + 1))) (.int .i64 ((i : Int) + 1)) wr := ⟨i + 1, by omega, rfl, by go_num, DD2.out⟩
            first
            | exact hrel
            | (repeat apply Exists.intro
               exact ⟨hrel, rfl⟩)
          case measure => simp [intOf]; omega
    · have e : i = k := by omega
      subst e
      have DD := Lib.hid hD
      rw [HRR.out]
      clear hD hi hlt
      go_wp2
      go_ret
      exact ⟨rfl, DD.out⟩
end Go.Proofs.Ytebicdjnhogniaa.T
