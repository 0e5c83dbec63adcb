/- WaveTurns: its plain law and its walk (printed by gen_turns.py). -/
import Derived.Test.YtebicdjnhogniaaRf
namespace Go.Proofs.Ytebicdjnhogniaa.T
open Go.RowKit Go.Proofs.Ytebicdjnhogniaa.PWaveRing Go.Proofs.YtebicdjnhogniaaW.PrintWords Go.Proofs.YtebicdjnhogniaaW.PrintLast Go.Proofs.YtebicdjnhogniaaW.PrintMore
attribute [local go_sem] max2_int min2_int max_two min_two
set_option linter.unusedVariables false
set_option linter.unusedSimpArgs false
def ngq (x : Int) : Int := (-x) % 8380417
theorem ngq_bd (x : Int) : 0 ≤ ngq x ∧ ngq x < 8380417 := mod_bd _
def gP (m : Nat) (f : F) (i : Nat) : F := fun k => if m ≤ k ∧ k < 256 ∧ k - m < i then f (k - m) else if k < m ∧ k + 256 - m < i then ngq (f (k + 256 - m)) else 0
theorem gP_zero (m : Nat) (f : F) : gP m f 0 = fun _ => 0 := by
  funext k; unfold gP; rw [if_neg (by omega), if_neg (by omega)]
theorem gP_lo (m : Nat) (f : F) (i : Nat) (hm : m < 256) (h : i + m < 256) : upd (gP m f i) (i + m) (f i) = gP m f (i + 1) ∧ gP m f i (i + m) = 0 := by
  constructor
  · funext k
    unfold upd gP
    by_cases e : k = i + m
    · subst e; rw [if_pos rfl, if_pos (by omega), Nat.add_sub_cancel]
    · rw [if_neg e]
      by_cases h1 : m ≤ k ∧ k < 256 ∧ k - m < i
      · rw [if_pos h1, if_pos (by omega)]
      · rw [if_neg h1, if_neg (show ¬ (m ≤ k ∧ k < 256 ∧ k - m < i + 1) by omega)]
        by_cases h2 : k < m ∧ k + 256 - m < i
        · rw [if_pos h2, if_pos (by omega)]
        · rw [if_neg h2, if_neg (by omega)]
  · unfold gP; rw [if_neg (by omega), if_neg (by omega)]
theorem gP_hi (m : Nat) (f : F) (i : Nat) (hm : m < 256) (hi : i < 256) (h : 256 ≤ i + m) : upd (gP m f i) (i + m - 256) (ngq (f i)) = gP m f (i + 1) ∧ gP m f i (i + m - 256) = 0 := by
  constructor
  · funext k
    unfold upd gP
    by_cases e : k = i + m - 256
    · have e2 : k + 256 - m = i := by omega
      rw [if_pos e, if_neg (by omega), if_pos (by omega), e2]
    · rw [if_neg e]
      by_cases h1 : m ≤ k ∧ k < 256 ∧ k - m < i
      · rw [if_pos h1, if_pos (by omega)]
      · rw [if_neg h1]
        by_cases h3 : m ≤ k ∧ k < 256 ∧ k - m < i + 1
        · omega
        · rw [if_neg h3]
          by_cases h2 : k < m ∧ k + 256 - m < i
          · rw [if_pos h2, if_pos (by omega)]
          · rw [if_neg h2, if_neg (by omega)]
  · unfold gP; rw [if_neg (by omega), if_neg (by omega)]
theorem gP_PF (m : Nat) (f : F) (i : Nat) (hf : PF f) (hi : i ≤ 256) : PF (gP m f i) := fun k hk => by
  unfold gP
  split
  · exact hf _ (by omega)
  · split
    · exact ngq_bd _
    · omega
theorem pow_256 {ρ : Int} (h : M (ρ ^ 256) (-1)) (n : Nat) (hn : 256 ≤ n) : M (ρ ^ n) (-(ρ ^ (n - 256))) := by
  have e : n = 256 + (n - 256) := by omega
  have h2 : ρ ^ n = ρ ^ 256 * ρ ^ (n - 256) := by rw [← Int.pow_add, ← e]
  rw [h2]
  exact (h.mul (M.refl _)).trans ⟨0, by omega⟩
theorem gP_ev (m : Nat) (f : F) (hm : m < 256) {ρ : Int} (h : M (ρ ^ 256) (-1)) : ∀ i, i ≤ 256 → M (ev (gP m f i) ρ) (SM (fun j => f j * ρ ^ (j + m)) i)
  | 0, _ => by rw [gP_zero, ev_zero]; exact M.refl _
  | i + 1, hi => by
    have ih := gP_ev m f hm h i (by omega)
    by_cases hl : i + m < 256
    · obtain ⟨e1, e2⟩ := gP_lo m f i hm hl
      rw [← e1, ev_upd _ _ _ _ hl, e2]
      exact ih.add ⟨0, by show (f i - 0) * ρ ^ (i + m) = f i * ρ ^ (i + m) + 8380417 * 0; grind⟩
    · obtain ⟨e1, e2⟩ := gP_hi m f i hm (by omega) (by omega)
      rw [← e1, ev_upd _ _ _ _ (by omega), e2]
      refine ih.add ?_
      refine ((((M.emod _).sub (M.refl 0)).mul (M.refl _)).trans ?_).trans ((M.refl (f i)).mul (pow_256 h (i + m) (by omega))).symm
      exact ⟨0, by grind⟩
theorem turn_over (m : Nat) (f : F) (hm : m < 256) : ∀ i, i < 256 → mulS (overS f) (overS (unitS m)) i = overS (gP m f 256) i := by
  refine EM.eq (fun i hi => ?_) (mulS_PF _ _) (overS_PF _)
  have h1 := over_ev f i hi
  have h2 := over_ev (unitS m) i hi
  have h3 := over_ev (gP m f 256) i hi
  have h4 := gP_ev m f hm (rho_neg i hi) 256 (Nat.le_refl _)
  rw [ev_unit m hm] at h2
  refine ((M.emod _).trans (h1.mul h2)).trans (M.trans ?_ (h3.trans h4).symm)
  unfold ev
  rw [SM_mul, SM_same 256 (fun j _ => by rw [Int.mul_assoc, ← Int.pow_add])]
  exact M.refl _
theorem mxs_ge {t : Int} {f : F} : ∀ i j, j < i → nm (f j) ≤ mxs t f i
  | 0, _, h => by omega
  | i + 1, j, h => by
    unfold mxs mx2
    by_cases e : j = i
    · subst e; split <;> omega
    · have := mxs_ge (t := t) (f := f) i j (by omega)
      split <;> omega
theorem mxs_le {t B : Int} {f : F} (ht : t ≤ B) : ∀ i, (∀ j, j < i → nm (f j) ≤ B) → mxs t f i ≤ B
  | 0, _ => ht
  | i + 1, h => by
    have h1 := mxs_le ht i (fun j hj => h j (by omega))
    have h2 := h i (by omega)
    unfold mxs mx2
    split <;> omega
theorem nm_ngq {x : Int} (h : 0 ≤ x ∧ x < 8380417) : nm (ngq x) = nm x := by
  unfold ngq nm
  by_cases h0 : x = 0
  · subst h0; rfl
  · have e : (-x) % 8380417 = 8380417 - x := by omega
    simp only [e]
    split <;> split <;> omega
theorem turn_nrm (m : Nat) (f : F) (hm : m < 256) (hf : PF f) : nrm (gP m f 256) = nrm f := by
  have b1 := nrm_bd hf
  have b2 := nrm_bd (gP_PF m f 256 hf (Nat.le_refl _))
  apply Int.le_antisymm
  · refine mxs_le b1.1 256 fun k hk => ?_
    unfold gP
    split
    · exact mxs_ge 256 _ (by omega)
    · split
      · rw [nm_ngq (hf _ (by omega))]
        exact mxs_ge 256 _ (by omega)
      · show nm 0 ≤ nrm f
        have : nm 0 = 0 := by decide
        omega
  · refine mxs_le b2.1 256 fun j hj => ?_
    by_cases h : j + m < 256
    · have h1 := mxs_ge (t := 0) (f := gP m f 256) 256 (j + m) h
      have e : gP m f 256 (j + m) = f j := by unfold gP; rw [if_pos (by omega), Nat.add_sub_cancel]
      rw [e] at h1
      exact h1
    · have h1 := mxs_ge (t := 0) (f := gP m f 256) 256 (j + m - 256) (by omega)
      have e : gP m f 256 (j + m - 256) = ngq (f j) := by
        unfold gP
        rw [if_neg (by omega), if_pos (by omega)]
        have e2 : j + m - 256 + 256 - m = j := by omega
        rw [e2]
      rw [e, nm_ngq (hf _ hj)] at h1
      exact h1
def TRel (w : World) (g1 g2 : Nat) (f : F) (m : Nat) (v : Value) (w' : World) : Prop := ∃ i : Nat, i ≤ 256 ∧ v = .int .i64 (i : Int) ∧ IR w' g1 f ∧ IR w' g2 (gP m f i) ∧ Below w.heap.size w w'
set_option maxHeartbeats 8000000 in
set_option maxRecDepth 20000 in
theorem turns_walk (a1 : Option Addr) (len1 cap1 : Nat) (z1 : List Int) (a2 : Int) (w : World) (w1 : RowIs .i64 w a1 len1 cap1 z1) (y1 : len1 * 8 ≤ 140737488351232) (_w2 : (Lit.int .i64 a2).wf = true) :
    Calls Try.prog 5 #[.slice a1 len1 cap1, .int .i64 a2] w fun e w' => e = .returned (.bool true) ∧ Below w.heap.size w w' := by
  obtain ⟨l1, rfl, hr1, hm1, hw1, hc1⟩ := ReadsInt.ofRowC w1
  have HC1 := Lib.hid (show Kd.C (Kd.int .i64) w a1 l1.length l1 from Kd.C_of_reads (d := (0 : Int)) (h1 := fun _ => rfl) hr1)
  have hc1 := Lib.hid hc1
  clear hr1 hw1 hm1 w1
  by_cases hg1 : 300 < l1.length
  · go_enter Try.func5, Try.ntmps5
    go_wp2_with (go_at_call 11; (with_reducible refine (awake_any _).mono ?_); rintro e w' ⟨rfl, hb⟩)
    go_ret
    exact ⟨rfl, hb⟩
  obtain ⟨nI, hnI⟩ : ∃ r, lowS a2 256 = r := ⟨_, rfl⟩
  have hnb := lowS_bd a2 256 (by omega)
  rw [hnI] at hnb
  obtain ⟨m, rfl⟩ := Int.eq_ofNat_of_zero_le hnb.1
  have hm : m < 256 := by omega
  have LOW := Lib.hid (fun W => llow_any a2 256 (m : Int) W (by omega) (by omega) hnI)
  obtain ⟨f, hfe⟩ : ∃ f, lowP l1 = f := ⟨_, rfl⟩
  have hpf : PF f := by rw [← hfe]; exact lowP_PF _
  have PFF := Lib.hid hpf
  have PFG := Lib.hid (gP_PF m f 256 hpf (Nat.le_refl _))
  have TO := Lib.hid (turn_over m f hm)
  obtain ⟨n1, hn1⟩ : ∃ n, nrm f = n := ⟨_, rfl⟩
  have N1 := Lib.hid hn1
  have N2 := Lib.hid ((turn_nrm m f hm hpf).trans hn1)
  have LF := Lib.hid (fun W (hC : Kd.C (Kd.int .i64) W a1 l1.length l1) => low_any a1 l1.length cap1 l1 f W hC rfl hc1.out (by omega) hfe)
  have HB : Hid (Below w.heap.size w w) := Lib.hid (Below.refl _ _)
  clear hnI hnb hn1 hpf hfe _w2
  go_enter Try.func5, Try.ntmps5
  go_wp2_with fail
  with_reducible refine (LF.out _ (Kd.C_below HC1.out HB.out)).mono ?_
  rintro e W1 ⟨g_f, c_f, rfl, hc, hg, hI, hB⟩
  have I_f := Lib.hid hI
  have C_f := Lib.hid hc
  have GF := Lib.hid hg
  have HB := Lib.hid (below_step HB.out hB)
  clear hI hB hg hc
  go_wp2_with fail
  with_reducible refine (LOW.out _).mono ?_
  rintro e W2 ⟨rfl, hD⟩
  have I_f := Lib.hid (I_f.out.drawn hD)
  have HB := Lib.hid (below_drawn HB.out hD)
  clear hD
  go_wp2_with ((with_reducible refine gate_dst (N := 16) rfl ?_); refine make_IR rfl rfl rfl ?_; intro g_g c_g W3 hc hI hB hg; have DG := Lib.hid (show g_f < g_g from Nat.lt_of_lt_of_le I_f.out.lt hg); have I_f := Lib.hid (I_f.out.below hB); have I_g := Lib.hid hI; have C_g := Lib.hid hc; have GG := Lib.hid (show w.heap.size ≤ g_g from Nat.le_trans HB.out.size hg); have HB := Lib.hid (below_step HB.out hB); clear hI hB hg hc)
  go_loopw [7] (fun v w' => TRel w g_f g_g f m v w') (fun v _ => (256 - intOf v).toNat)
  case atStart => exact ⟨0, by omega, rfl, I_f.out, by rw [gP_zero]; exact I_g.out, HB.out⟩
  case round =>
    clear I_f I_g HB
    obtain ⟨i, hi, rfl, hI1, hI2, hB⟩ := hrel
    by_cases hlt : i < 256
    · have hpd : decide ((i : Int) < 256) = true := decide_eq_true (by omega)
      have hii : (i : Int) < 256 := by omega
      have b0 := PFF.out i hlt
      have hci := hI1.cell i hlt
      by_cases hl : i + m < 256
      · have hst := (gP_lo m f i hm hl).1
        obtain ⟨p, hp⟩ : ∃ p, i + m = p := ⟨_, rfl⟩
        have hpi : (p : Int) < 256 := by omega
        have hp256 : p < 256 := by omega
        have WA : IntKind.i64.wrap ((i : Int) + (m : Int)) = (p : Int) := by rw [IntWalk.i64_in _ (by omega)]; omega
        have hpd2 : decide ((p : Int) < 256) = true := decide_eq_true hpi
        obtain ⟨x0, hx0⟩ : ∃ x, f i = x := ⟨_, rfl⟩
        rw [hx0] at hci hst b0
        rw [hp] at hst
        have hcp := hI2.cell p hp256
        have hfp := hI2.frozen p
        have ST := Lib.hid hst
        have H1 := Lib.hid hI1
        have H2 := Lib.hid hI2
        have HB := Lib.hid hB
        clear hst hI1 hI2 hB hx0 hp b0
        go_wp2
        go_roundw
        case rel =>
          have hrel : TRel w g_f g_g f m (.int .i64 ((i : Int) + 1)) (wr.setCell ⟨g_g, p, none⟩ (.int .i64 x0)) := ⟨i + 1, by omega, by go_num, H1.out.other (by have := DG.out; omega) _ _, by rw [← ST.out]; exact H2.out.set p x0, HB.out.setCell GG.out _⟩
          first
          | exact hrel
          | (repeat apply Exists.intro
             exact ⟨hrel, rfl⟩)
        case measure => simp [intOf]; omega
      · have hst := (gP_hi m f i hm hlt (by omega)).1
        obtain ⟨p, hp⟩ : ∃ p, i + m - 256 = p := ⟨_, rfl⟩
        obtain ⟨s, hs⟩ : ∃ p, i + m = p := ⟨_, rfl⟩
        have hpi : (p : Int) < 256 := by omega
        have hp256 : p < 256 := by omega
        have WA : IntKind.i64.wrap ((i : Int) + (m : Int)) = (s : Int) := by rw [IntWalk.i64_in _ (by omega)]; omega
        have WB : IntKind.i64.wrap ((s : Int) - 256) = (p : Int) := by rw [IntWalk.i64_in _ (by omega)]; omega
        have hpd2 : decide ((s : Int) < 256) = false := decide_eq_false (by omega)
        obtain ⟨x0, hx0⟩ : ∃ x, f i = x := ⟨_, rfl⟩
        rw [hx0] at hci hst b0
        rw [hp] at hst
        have WN : IntKind.i64.wrap (-x0) = -x0 := IntWalk.i64_in _ (by omega)
        have OF := Lib.hid (fun W => of_any (-x0) (ngq x0) W (by omega) (by omega) rfl)
        obtain ⟨y0, hy0⟩ : ∃ y, ngq x0 = y := ⟨_, rfl⟩
        rw [hy0] at OF hst
        have ST := Lib.hid hst
        have H1 := Lib.hid hI1
        have H2 := Lib.hid hI2
        have HB := Lib.hid hB
        clear hst hI1 hI2 hB hx0 hp hs hy0 b0
        go_wp2_with (go_at_call 21; (with_reducible refine (OF.out _).mono ?_); rintro e w9 ⟨rfl, hD⟩; have H1 := Lib.hid (H1.out.drawn hD); have H2 := Lib.hid (H2.out.drawn hD); have HB := Lib.hid (below_drawn HB.out hD); have hcp := H2.out.cell p hp256; have hfp := H2.out.frozen p; clear hD)
        go_roundw
        case rel =>
          have hrel : TRel w g_f g_g f m (.int .i64 ((i : Int) + 1)) (w9.setCell ⟨g_g, p, none⟩ (.int .i64 y0)) := ⟨i + 1, by omega, by go_num, H1.out.other (by have := DG.out; omega) _ _, by rw [← ST.out]; exact H2.out.set p y0, HB.out.setCell GG.out _⟩
          first
          | exact hrel
          | (repeat apply Exists.intro
             exact ⟨hrel, rfl⟩)
        case measure => simp [intOf]; omega
    · have e : i = 256 := by omega
      subst e
      have I_f := Lib.hid hI1
      have I_g := Lib.hid hI2
      have HB := Lib.hid hB
      clear hI1 hI2 hB hi hlt
      go_wp2_with fail
      with_reducible refine (over_any _ _ _ _ _ I_f.out.rd C_f.out PFF.out rfl).mono ?_
      rintro e W1 ⟨g_a, c_a, rfl, hc, hg, hI, hB⟩
      have I_f := Lib.hid (I_f.out.below hB)
      have I_g := Lib.hid (I_g.out.below hB)
      have I_a := Lib.hid hI
      have C_a := Lib.hid hc
      have HB := Lib.hid (below_step HB.out hB)
      clear hI hB hg hc
      go_wp2_with fail
      with_reducible refine (unit_any m _ _ hm rfl).mono ?_
      rintro e W2 ⟨g_u, c_u, rfl, hc, hg, hI, hB⟩
      have I_f := Lib.hid (I_f.out.below hB)
      have I_g := Lib.hid (I_g.out.below hB)
      have I_a := Lib.hid (I_a.out.below hB)
      have I_u := Lib.hid hI
      have C_u := Lib.hid hc
      have HB := Lib.hid (below_step HB.out hB)
      clear hI hB hg hc
      go_wp2_with fail
      with_reducible refine (over_any _ _ _ _ _ I_u.out.rd C_u.out (unit_PF m) rfl).mono ?_
      rintro e W3 ⟨g_b, c_b, rfl, hc, hg, hI, hB⟩
      have I_f := Lib.hid (I_f.out.below hB)
      have I_g := Lib.hid (I_g.out.below hB)
      have I_a := Lib.hid (I_a.out.below hB)
      have I_u := Lib.hid (I_u.out.below hB)
      have I_b := Lib.hid hI
      have C_b := Lib.hid hc
      have HB := Lib.hid (below_step HB.out hB)
      clear hI hB hg hc
      clear I_u C_u
      go_wp2_with fail
      with_reducible refine (times_any _ _ _ _ _ _ _ _ I_a.out.rd I_b.out.rd C_a.out C_b.out (overS_PF _) (overS_PF _) rfl).mono ?_
      rintro e W4 ⟨g_p, c_p, rfl, hc, hg, hI, hB⟩
      have I_f := Lib.hid (I_f.out.below hB)
      have I_g := Lib.hid (I_g.out.below hB)
      have I_a := Lib.hid (I_a.out.below hB)
      have I_b := Lib.hid (I_b.out.below hB)
      have I_p := Lib.hid hI
      have C_p := Lib.hid hc
      have HB := Lib.hid (below_step HB.out hB)
      clear hI hB hg hc
      go_wp2_with fail
      with_reducible refine (over_any _ _ _ _ _ I_g.out.rd C_g.out PFG.out rfl).mono ?_
      rintro e W5 ⟨g_r, c_r, rfl, hc, hg, hI, hB⟩
      have I_f := Lib.hid (I_f.out.below hB)
      have I_g := Lib.hid (I_g.out.below hB)
      have I_a := Lib.hid (I_a.out.below hB)
      have I_b := Lib.hid (I_b.out.below hB)
      have I_p := Lib.hid (I_p.out.below hB)
      have I_r := Lib.hid hI
      have C_r := Lib.hid hc
      have HB := Lib.hid (below_step HB.out hB)
      clear hI hB hg hc
      go_wp2_with fail
      with_reducible refine (same_any _ _ _ _ _ _ _ I_p.out.rd I_r.out.rd C_p.out C_r.out TO.out).mono ?_
      rintro e W6 ⟨rfl, hD⟩
      have I_f := Lib.hid (I_f.out.drawn hD)
      have I_g := Lib.hid (I_g.out.drawn hD)
      have I_a := Lib.hid (I_a.out.drawn hD)
      have I_b := Lib.hid (I_b.out.drawn hD)
      have I_p := Lib.hid (I_p.out.drawn hD)
      have I_r := Lib.hid (I_r.out.drawn hD)
      have HB := Lib.hid (below_drawn HB.out hD)
      clear hD
      clear I_a C_a
      clear I_b C_b
      clear I_p C_p
      clear I_r C_r
      go_wp2_with fail
      with_reducible refine (norm1_any _ _ _ _ n1 I_g.out.rd C_g.out PFG.out N2.out).mono ?_
      rintro e W7 ⟨rfl, hB⟩
      have I_f := Lib.hid (I_f.out.below hB)
      have I_g := Lib.hid (I_g.out.below hB)
      have HB := Lib.hid (below_step HB.out hB)
      clear hB
      go_wp2_with fail
      with_reducible refine (norm1_any _ _ _ _ n1 I_f.out.rd C_f.out PFF.out N1.out).mono ?_
      rintro e W8 ⟨rfl, hB⟩
      have I_f := Lib.hid (I_f.out.below hB)
      have I_g := Lib.hid (I_g.out.below hB)
      have HB := Lib.hid (below_step HB.out hB)
      clear hB
      go_wp2_with fail
      with_reducible refine (awake_any _).mono ?_
      rintro e W9 ⟨rfl, hB⟩
      have I_f := Lib.hid (I_f.out.below hB)
      have I_g := Lib.hid (I_g.out.below hB)
      have HB := Lib.hid (below_step HB.out hB)
      clear hB
      go_wp2
      go_ret
      exact ⟨rfl, HB.out⟩
end Go.Proofs.Ytebicdjnhogniaa.T
