/- Norm of any lists; Root of any number; what is lent of any list. -/
import Derived.Test.YtebicdjnhogniaaNc
namespace Go.Proofs.Ytebicdjnhogniaa.T
open Go.RowKit Go.Proofs.Ytebicdjnhogniaa.PWavePolys Go.Proofs.YtebicdjnhogniaaW.PrintWords Go.Proofs.YtebicdjnhogniaaW.PrintLast Go.Proofs.YtebicdjnhogniaaW.PrintMore
attribute [local go_sem] max2_int min2_int max_two min_two
set_option linter.unusedVariables false
set_option linter.unusedSimpArgs false
def normO (xs : Nat → List Int) (k : Nat) : Int := if ∀ i, i < k → P (xs i) then nrmK (fun i => rf (xs i)) k else -1
def N1o (w : World) (xs : Nat → List Int) (k : Nat) (t v : Value) (w' : World) : Prop := ∃ i : Nat, i ≤ k ∧ (∀ j, j < i → P (xs j)) ∧ t = .int .i64 (nrmK (fun i => rf (xs i)) i) ∧ v = .int .i64 (i : Int) ∧ Below w.heap.size w w'
theorem nrmK_bd2 {fs : Nat → F} (k : Nat) (hf : ∀ i, i < k → PF (fs i)) : 0 ≤ nrmK fs k ∧ nrmK fs k ≤ 8380417 := nrmK_bd k hf k (Nat.le_refl _)
set_option maxHeartbeats 2000000 in
set_option maxRecDepth 20000 in
theorem norm_o (ad : Addr) (k c : Nat) (vs : Nat → Value) (xs : Nat → List Int) (r : Int) (w : World) (hk : k ≤ 8)
    (hcell : ∀ i, i < k → w.cell? (ad.add i) = some (vs i)) (hR : ∀ i, i < k → IN w (vs i) (xs i)) (hr : normO xs k = r) :
    Calls Try.prog 17 #[.slice (some ad) k c] w fun e w' => e = .returned (.int .i64 r) ∧ Below w.heap.size w w' := by
  have HC := Lib.hid hcell
  have HR := Lib.hid hR
  have HRR := Lib.hid hr
  clear hcell hR hr
  go_enter Try.func17, Try.ntmps17
  go_wp2
  go_loopw [3, 10] (fun t v w' => N1o w xs k t v w') (fun _ v _ => (k - intOf v).toNat)
  case atStart => exact ⟨0, by omega, fun j hj => by omega, rfl, rfl, Below.refl _ _⟩
  case round =>
    obtain ⟨i, hi, hgood, rfl, rfl, hD⟩ := hrel
    by_cases hlt : i < k
    · have hpd : decide ((i : Int) < (k : Int)) = true := decide_eq_true (by omega)
      have hii : (i : Int) < (k : Int) := by omega
      have hcl := pw_cell_below hD (HC.out i hlt)
      obtain ⟨A, ci, hvi, hCi, hcc, _⟩ := (HR.out i hlt).below hD
      rw [hvi] at hcl
      have tb := nrmK_bd2 (fs := fun i => rf (xs i)) i (fun j hj => (hgood j hj).pf)
      have hnx : nrmK (fun i => rf (xs i)) (i + 1) = mxs (nrmK (fun i => rf (xs i)) i) (rf (xs i)) 256 := rfl
      obtain ⟨t0, ht0⟩ : ∃ t, nrmK (fun i => rf (xs i)) i = t := ⟨_, rfl⟩
      rw [ht0] at tb hnx
      rw [ht0]
      by_cases hP : P (xs i)
      · have hRD := IN.rd hCi hP
        rw [hP.1] at hcl hcc
        have hPF := hP.pf
        have hgood1 : ∀ j, j < i + 1 → P (xs j) := fun j hj => by
          by_cases e : j = i
          · subst e; exact hP
          · exact hgood j (by omega)
        have GD := Lib.hid hgood1
        obtain ⟨f, hf⟩ : ∃ f, rf (xs i) = f := ⟨_, rfl⟩
        rw [hf] at hRD hPF hnx
        have MA := Lib.hid (may_any A ci f wr hRD hcc hPF)
        obtain ⟨ad2, hA2, hcells⟩ := hRD
        subst hA2
        have HCE := Lib.hid hcells
        have PFf := Lib.hid hPF
        have NX := Lib.hid hnx
        have TB := Lib.hid tb
        have DD := Lib.hid hD
        clear hcells hP hnx ht0 hf tb hD hgood hgood1 hCi hvi hPF
        go_wp2_with (go_at_call 36; (with_reducible refine MA.out.mono ?_); rintro e w9 ⟨rfl, hw⟩; rw [hw]; clear hw)
        go_loopw [3, 19] (fun t v w' => N2 wr t0 f t v w') (fun _ v _ => (256 - intOf v).toNat)
        case atStart => exact ⟨0, by omega, rfl, rfl, Below.refl _ _⟩
        case round =>
          clear MA hcl
          rename_i wr2 _
          obtain ⟨j, hj, rfl, rfl, hD2⟩ := hrel
          by_cases hjl : j < 256
          · have hpd2 : decide ((j : Int) < 256) = true := decide_eq_true (by omega)
            have hji : (j : Int) < 256 := by omega
            have hcx := pw_cell_below hD2 (HCE.out j hjl)
            have b0 := PFf.out j hjl
            have mb := mxs_bd TB.out PFf.out j (by omega)
            have hn1 : mxs t0 f (j + 1) = mx2 (mxs t0 f j) (nm (f j)) := rfl
            obtain ⟨x0, hx0⟩ : ∃ x, f j = x := ⟨_, rfl⟩
            obtain ⟨m0, hm0⟩ : ∃ x, mxs t0 f j = x := ⟨_, rfl⟩
            rw [hx0] at hcx b0 hn1
            rw [hm0] at mb hn1
            rw [hm0]
            have RN := Lib.hid (fun W => rnorm_any x0 W b0.1 b0.2)
            obtain ⟨y0, hy0⟩ : ∃ x, nm x0 = x := ⟨_, rfl⟩
            rw [hy0] at RN hn1
            have N1' := Lib.hid (hn1.symm)
            have DD2 := Lib.hid hD2
            clear hn1 hm0 hx0 hy0 hD2 b0
            go_wp2_with (go_at_call 44; (with_reducible refine (RN.out _).mono ?_); rintro e w9 ⟨rfl, hD3⟩; have DD3 := Lib.hid (below_step DD2.out hD3); clear hD3)
            go_roundw
            case rel =>
              have hrel : ∀ W, Hid (N2 W t0 f (.int .i64 (if m0 < y0 then y0 else m0)) (.int .i64 ((j : Int) + 1)) w9) → N2 W t0 f (.int .i64 (if m0 < y0 then y0 else m0)) (.int .i64 ((j : Int) + 1)) w9 := fun W h => h.out
              have hrel := hrel _ (Lib.hid ⟨j + 1, by omega, by rw [← N1'.out]; rfl, by go_num, DD3.out⟩)
              first
              | exact hrel
              | (repeat apply Exists.intro
                 exact ⟨hrel, rfl⟩)
            case measure => simp [intOf]; omega
          · have e : j = 256 := by omega
            subst e
            have DD2 := Lib.hid (below_step DD.out hD2)
            rw [← NX.out]
            clear hD2 hj hjl
            go_wp2
            go_roundw
            case rel =>
              have hrel : N1o w xs k (.int .i64 (nrmK (fun i => rf (xs i)) (i + 1))) (.int .i64 ((i : Int) + 1)) _ := ⟨i + 1, by omega, GD.out, rfl, by go_num, DD2.out⟩
              first
              | exact hrel
              | (repeat apply Exists.intro
                 exact ⟨hrel, rfl⟩)
            case measure => simp [intOf]; omega
      · have MA := Lib.hid (may_not A _ ci (xs i) wr hCi rfl hcc hP)
        have hr1 : r = -1 := by
          rw [← HRR.out]
          unfold normO
          rw [if_neg (fun h => hP (h i hlt))]
        have DD := Lib.hid hD
        subst hr1
        obtain ⟨n, hn⟩ : ∃ n, (xs i).length = n := ⟨_, rfl⟩
        rw [hn] at MA hcl
        clear hP hnx ht0 tb hD hgood hCi hvi hcc hn HRR
        go_wp2_with (go_at_call 36; (with_reducible refine MA.out.mono ?_); rintro e w9 ⟨rfl, hw⟩; rw [hw]; clear hw)
        go_ret
        exact ⟨rfl, DD.out⟩
    · have e : i = k := by omega
      subst e
      have hr1 : nrmK (fun i => rf (xs i)) i = r := by
        rw [← HRR.out]
        unfold normO
        rw [if_pos hgood]
      have DD := Lib.hid hD
      rw [hr1]
      clear hD hi hlt hr1 hgood
      go_wp2
      go_ret
      exact ⟨rfl, DD.out⟩
theorem rnormO_f (L : List (List Int)) (hn : L.length < 1000000) : Ev (fun k => chatelaineref10_Norm.f k L) (normO (fun i => rd_L1 L (i : Int)) L.length) := by
  have inner : ∀ (t : Int) (i : Nat), i < L.length → P (rd_L1 L (i : Int)) → ∀ m j : Nat, j + m = 256 → ∀ r : Int, Ev (fun k => chatelaineref10_Norm.l0 k L (mxs t (rf (rd_L1 L (i : Int))) 256) ((i + 1 : Nat) : Int)) r → Ev (fun k => chatelaineref10_Norm.l1 k L (mxs t (rf (rd_L1 L (i : Int))) j) i j) r := by
    intro t i hi hP m
    have hl := hP.1
    induction m with
    | zero =>
      intro j hj r h
      refine Ev.step (f := fun k => chatelaineref10_Norm.l0 k L (mxs t (rf (rd_L1 L (i : Int))) 256) ((i + 1 : Nat) : Int)) (fun k => ?_) h
      simp only [chatelaineref10_Norm.l1]
      rw [if_neg (by omega), wrap_s (by omega) (by omega), show j = 256 by omega]
      rfl
    | succ m ih =>
      intro j hj r h
      have b := hP.pf j (by omega)
      refine Ev.step (f := fun k => chatelaineref10_Norm.l1 k L (mxs t (rf (rd_L1 L (i : Int))) (j + 1)) i ((j + 1 : Nat) : Int)) (fun k => ?_) (ih (j + 1) (by omega) r h)
      simp only [chatelaineref10_Norm.l1]
      rw [if_pos (by omega), if_pos (by omega), if_pos (by omega), if_pos (by omega), if_pos (by omega), show rd (rd_L1 L (i : Int)) (j : Int) = rf (rd_L1 L (i : Int)) j from rfl, r9norm_f _ b.1 b.2, Option.bind_some, wrap_s (by omega) (by omega)]
      rfl
  have good : ∀ i : Nat, P (rd_L1 L (i : Int)) → Ev (fun k => chatelaineref10_May.f k (rd_L1 L (i : Int))) true := fun i h => by
    have := rmay_f (rf (rd_L1 L (i : Int))) h.pf
    rw [ls_rf h.1] at this
    exact this
  obtain ⟨R, hR⟩ : ∃ R, normO (fun i => rd_L1 L (i : Int)) L.length = R := ⟨_, rfl⟩
  rw [hR]
  have outer : ∀ m i : Nat, i + m = L.length → (∀ j : Nat, j < i → P (rd_L1 L (j : Int))) → Ev (fun k => chatelaineref10_Norm.l0 k L (nrmK (fun i => rf (rd_L1 L (i : Int))) i) i) R := by
    intro m
    induction m with
    | zero =>
      intro i hi hg
      refine ⟨1, fun k hk => ?_⟩
      obtain ⟨k, rfl⟩ : ∃ q, k = q + 1 := ⟨k - 1, by omega⟩
      simp only [chatelaineref10_Norm.l0]
      have e : L.length = i := by omega
      unfold normO at hR
      rw [e, if_pos hg] at hR
      rw [if_neg (by omega), hR]
    | succ m ih =>
      intro i hi hg
      refine Ev.step (f := fun k => (chatelaineref10_May.f k (rd_L1 L i)).bind fun t => (if t = true then (chatelaineref10_Norm.l1 k L (nrmK (fun i => rf (rd_L1 L (i : Int))) i) i 0) else (some (-1)))) (fun k => ?_) ?_
      · simp only [chatelaineref10_Norm.l0]
        rw [if_pos (by omega), if_pos (by omega)]
      · by_cases hP : P (rd_L1 L (i : Int))
        · refine Ev.bind (good i hP) ?_
          exact Ev.congr (fun k => if_pos rfl) (inner _ i (by omega) hP 256 0 (by omega) _ (ih (i + 1) (by omega) fun j hj => by
            by_cases e : j = i
            · subst e; exact hP
            · exact hg j (by omega)))
        · refine Ev.bind (rmay_not_f hP) ?_
          have hr1 : R = -1 := by
            rw [← hR]
            unfold normO
            rw [if_neg (fun h => hP (h i (by omega)))]
          rw [hr1]
          exact ⟨0, fun k _ => if_neg (by simp)⟩
  exact outer L.length 0 (by omega) fun j hj => by omega
theorem rows_C (w : World) (ad : Addr) (vs : Nat → Value) (L : List (List Int)) (hl : L.length ≤ 8) (hcell : ∀ i, i < L.length → w.cell? (ad.add i) = some (vs i)) (hR : ∀ i, i < L.length → IN w (vs i) (rd_L1 L (i : Int))) :
    Kd.C (Kd.slice 3 (Kd.int .i64)) w (some ad) L.length L := by
  refine ⟨rfl, by omega, fun _ => ⟨ad, rfl, fun j p hp => ?_⟩⟩
  obtain ⟨hj, hjp⟩ := List.getElem?_eq_some_iff.1 hp
  have e : rd_L1 L (j : Int) = p := by
    rw [← hjp]
    simp [rd_L1, rdOf, List.getD_eq_getElem?_getD, hj]
  obtain ⟨A, c, hv, hC, hc, _⟩ := hR j hj
  rw [e] at hv hC hc
  refine ⟨[vs j], rfl, ⟨A, c, by rw [hv], hc, hC⟩, fun i u hu => ?_⟩
  match i, hu with
  | 0, hu =>
    obtain rfl : vs j = u := by simpa using hu
    have := hcell j hj
    show w.cell? (ad.add (j * 1 + 0)) = some (vs j)
    simpa using this
theorem rnorm_o (ad : Addr) (c : Nat) (vs : Nat → Value) (L : List (List Int)) (n : Nat) (r : Int) (w : World) (hl : L.length = n) (hn : n ≤ 8) (hc : n ≤ c)
    (hcell : ∀ i, i < n → w.cell? (ad.add i) = some (vs i)) (hR : ∀ i, i < n → IN w (vs i) (rd_L1 L (i : Int))) (hr : normO (fun i => rd_L1 L (i : Int)) n = r) :
    Calls Try.prog 31 #[.slice (some ad) n c] w fun e w' => e = .returned (.int .i64 r) ∧ Below w.heap.size w w' := by
  subst hl
  obtain ⟨k, hk⟩ := (rnormO_f L (by omega)).rounds
  rw [hr] at hk
  exact chatelaineref10_Norm.calls k (some ad) c L r w (rows_C w ad vs L hn hcell hR) hc hk
end Go.Proofs.Ytebicdjnhogniaa.T
