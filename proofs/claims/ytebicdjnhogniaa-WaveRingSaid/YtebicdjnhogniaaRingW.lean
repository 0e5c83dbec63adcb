/- WaveRing: its walk (printed by gen_ring.py). -/
import Derived.Test.YtebicdjnhogniaaAwk
namespace Go.Proofs.Ytebicdjnhogniaa.T
open Go.RowKit Go.Proofs.Ytebicdjnhogniaa.PWaveRing Go.Proofs.YtebicdjnhogniaaW.PrintWords Go.Proofs.YtebicdjnhogniaaW.PrintLast Go.Proofs.YtebicdjnhogniaaW.PrintMore
attribute [local go_sem] max2_int min2_int max_two min_two
set_option linter.unusedVariables false
set_option linter.unusedSimpArgs false
theorem zero_PF : PF (fun _ => 0) := fun i _ => ⟨Int.le_refl _, show (0 : Int) < 8380417 by omega⟩
theorem mul_comm' (f g : F) : ∀ i, i < 256 → mulS f g i = mulS g f i := fun i _ => by unfold mulS; rw [Int.mul_comm]
theorem mul_assoc' (f g h : F) : ∀ i, i < 256 → mulS f (mulS g h) i = mulS (mulS f g) h i := EM.eq (fun i _ => ((M.emod _).trans ((M.refl _).mul (M.emod _))).trans (M.trans ⟨0, by grind⟩ ((M.emod _).trans ((M.emod _).mul (M.refl _))).symm)) (mulS_PF _ _) (mulS_PF _ _)
theorem mul_add' (f g h : F) : ∀ i, i < 256 → mulS f (addS g h) i = addS (mulS f g) (mulS f h) i := EM.eq (fun i _ => ((M.emod _).trans ((M.refl _).mul (M.emod _))).trans (M.trans ⟨0, by grind⟩ ((M.emod _).trans ((M.emod _).add (M.emod _))).symm)) (mulS_PF _ _) (addS_PF _ _)
theorem mxs_congr {t : Int} {f g : F} : ∀ i, (∀ j, j < i → nm (f j) = nm (g j)) → mxs t f i = mxs t g i
  | 0, _ => rfl
  | i + 1, h => by
    unfold mxs
    rw [mxs_congr i (fun j hj => h j (by omega)), h i (by omega)]
theorem nm_neg (f : F) (hf : PF f) (i : Nat) (hi : i < 256) : nm (subS (fun _ => 0) f i) = nm (f i) := by
  have h := hf i hi
  unfold subS nm
  generalize f i = x at h
  by_cases h0 : x = 0
  · subst h0
    have e : ((0 : Int) + 8380417 - 0) % 8380417 = 0 := by omega
    simp only [e]
  · have e : (0 + 8380417 - x) % 8380417 = 8380417 - x := by omega
    simp only [e]
    split <;> split <;> omega
theorem nrm_neg (f : F) (hf : PF f) : nrm (subS (fun _ => 0) f) = nrm f := mxs_congr 256 fun j hj => nm_neg f hf j hj
theorem mxs_from (t : Int) (f : F) (ht : 0 ≤ t) (hf : PF f) : ∀ i, i ≤ 256 → mxs t f i = if t < mxs 0 f i then mxs 0 f i else t
  | 0, _ => by unfold mxs; split <;> omega
  | i + 1, hi => by
    have ih := mxs_from t f ht hf i (by omega)
    have h2 := hf i (by omega)
    have h3 := nm_bd h2.1 h2.2
    have h4 := mxs_bd (t := 0) (f := f) (by omega) hf i (by omega)
    unfold mxs
    rw [ih]
    unfold mx2
    generalize mxs 0 f i = m at *
    generalize nm (f i) = k at *
    repeat' split
    all_goals first | rfl | omega
theorem nrm2_max (f g : F) (hf : PF f) (hg : PF g) : nrm2 f g = if nrm f < nrm g then nrm g else nrm f := mxs_from (nrm f) g (nrm_bd hf).1 hg 256 (Nat.le_refl _)
set_option maxHeartbeats 8000000 in
set_option maxRecDepth 20000 in
theorem ring_walk (a1 : Option Addr) (len1 cap1 : Nat) (z1 : List Int) (a2 : Option Addr) (len2 cap2 : Nat) (z2 : List Int) (a3 : Option Addr) (len3 cap3 : Nat) (z3 : List Int) (w : World) (w1 : RowIs .i64 w a1 len1 cap1 z1) (y1 : len1 * 8 ≤ 140737488351232) (w2 : RowIs .i64 w a2 len2 cap2 z2) (y2 : len2 * 8 ≤ 140737488351232) (w3 : RowIs .i64 w a3 len3 cap3 z3) (y3 : len3 * 8 ≤ 140737488351232) :
    Calls Try.prog 8 #[.slice a1 len1 cap1, .slice a2 len2 cap2, .slice a3 len3 cap3] w fun e w' => e = .returned (.bool true) ∧ Below w.heap.size w w' := by
  obtain ⟨l1, rfl, hr1, hm1, hw1, hc1⟩ := ReadsInt.ofRowC w1
  have HC1 := Lib.hid (show Kd.C (Kd.int .i64) w a1 l1.length l1 from Kd.C_of_reads (d := (0 : Int)) (h1 := fun _ => rfl) hr1)
  have hc1 := Lib.hid hc1
  clear hr1 hw1 hm1 w1
  obtain ⟨l2, rfl, hr2, hm2, hw2, hc2⟩ := ReadsInt.ofRowC w2
  have HC2 := Lib.hid (show Kd.C (Kd.int .i64) w a2 l2.length l2 from Kd.C_of_reads (d := (0 : Int)) (h1 := fun _ => rfl) hr2)
  have hc2 := Lib.hid hc2
  clear hr2 hw2 hm2 w2
  obtain ⟨l3, rfl, hr3, hm3, hw3, hc3⟩ := ReadsInt.ofRowC w3
  have HC3 := Lib.hid (show Kd.C (Kd.int .i64) w a3 l3.length l3 from Kd.C_of_reads (d := (0 : Int)) (h1 := fun _ => rfl) hr3)
  have hc3 := Lib.hid hc3
  clear hr3 hw3 hm3 w3
  by_cases hg1 : 300 < l1.length
  · go_enter Try.func8, Try.ntmps8
    go_wp2_with (go_at_call 11; (with_reducible refine (awake_any _).mono ?_); rintro e w' ⟨rfl, hb⟩)
    go_ret
    exact ⟨rfl, hb⟩
  by_cases hg2 : 300 < l2.length
  · go_enter Try.func8, Try.ntmps8
    go_wp2_with (go_at_call 11; (with_reducible refine (awake_any _).mono ?_); rintro e w' ⟨rfl, hb⟩)
    go_ret
    exact ⟨rfl, hb⟩
  by_cases hg3 : 300 < l3.length
  · go_enter Try.func8, Try.ntmps8
    go_wp2_with (go_at_call 11; (with_reducible refine (awake_any _).mono ?_); rintro e w' ⟨rfl, hb⟩)
    go_ret
    exact ⟨rfl, hb⟩
  obtain ⟨n1, hn1⟩ : ∃ n, nrm (lowP l1) = n := ⟨_, rfl⟩
  obtain ⟨n2, hn2⟩ : ∃ n, nrm (lowP l2) = n := ⟨_, rfl⟩
  have N1 := Lib.hid hn1
  have N2 := Lib.hid hn2
  have NN := Lib.hid ((nrm_neg (lowP l1) (lowP_PF _)).trans hn1)
  have hn12 : nrm2 (lowP l1) (lowP l2) = if n1 < n2 then n2 else n1 := by rw [nrm2_max _ _ (lowP_PF _) (lowP_PF _), hn1, hn2]
  obtain ⟨n12, h12⟩ : ∃ n, (if n1 < n2 then n2 else n1) = n := ⟨_, rfl⟩
  rw [h12] at hn12
  have N12 := Lib.hid hn12
  have H12 := Lib.hid h12
  have HB : Hid (Below w.heap.size w w) := Lib.hid (Below.refl _ _)
  clear hn1 hn2 hn12 h12
  go_enter Try.func8, Try.ntmps8
  go_wp2_with fail
  with_reducible refine (low_any _ _ _ l1 _ _ (Kd.C_below HC1.out HB.out) rfl hc1.out (by omega) rfl).mono ?_
  rintro e W1 ⟨g_f, c_f, rfl, hc, hg, hI, hB⟩
  have I_f := Lib.hid hI
  have C_f := Lib.hid hc
  have HB := Lib.hid (below_step HB.out hB)
  clear hI hB hg hc
  go_wp2_with fail
  with_reducible refine (low_any _ _ _ l2 _ _ (Kd.C_below HC2.out HB.out) rfl hc2.out (by omega) rfl).mono ?_
  rintro e W2 ⟨g_g, c_g, rfl, hc, hg, hI, hB⟩
  have I_f := Lib.hid (I_f.out.below hB)
  have I_g := Lib.hid hI
  have C_g := Lib.hid hc
  have HB := Lib.hid (below_step HB.out hB)
  clear hI hB hg hc
  go_wp2_with fail
  with_reducible refine (low_any _ _ _ l3 _ _ (Kd.C_below HC3.out HB.out) rfl hc3.out (by omega) rfl).mono ?_
  rintro e W3 ⟨g_h, c_h, rfl, hc, hg, hI, hB⟩
  have I_f := Lib.hid (I_f.out.below hB)
  have I_g := Lib.hid (I_g.out.below hB)
  have I_h := Lib.hid hI
  have C_h := Lib.hid hc
  have HB := Lib.hid (below_step HB.out hB)
  clear hI hB hg hc
  go_wp2_with ((with_reducible refine gate_dst (N := 31) rfl ?_); refine make_IR rfl rfl rfl ?_; intro g_z c_z W4 hc hI hB hg; have I_f := Lib.hid (I_f.out.below hB); have I_g := Lib.hid (I_g.out.below hB); have I_h := Lib.hid (I_h.out.below hB); have I_z := Lib.hid hI; have C_z := Lib.hid hc; have HB := Lib.hid (below_step HB.out hB); clear hI hB hg hc)
  go_wp2_with fail
  with_reducible refine (times_any _ _ _ _ _ _ _ _ I_f.out.rd I_g.out.rd C_f.out C_g.out (lowP_PF _) (lowP_PF _) rfl).mono ?_
  rintro e W5 ⟨g_p, c_p, rfl, hc, hg, hI, hB⟩
  have I_f := Lib.hid (I_f.out.below hB)
  have I_g := Lib.hid (I_g.out.below hB)
  have I_h := Lib.hid (I_h.out.below hB)
  have I_z := Lib.hid (I_z.out.below hB)
  have I_p := Lib.hid hI
  have C_p := Lib.hid hc
  have HB := Lib.hid (below_step HB.out hB)
  clear hI hB hg hc
  go_wp2_with fail
  with_reducible refine (times_any _ _ _ _ _ _ _ _ I_g.out.rd I_f.out.rd C_g.out C_f.out (lowP_PF _) (lowP_PF _) rfl).mono ?_
  rintro e W6 ⟨g_r, c_r, rfl, hc, hg, hI, hB⟩
  have I_f := Lib.hid (I_f.out.below hB)
  have I_g := Lib.hid (I_g.out.below hB)
  have I_h := Lib.hid (I_h.out.below hB)
  have I_z := Lib.hid (I_z.out.below hB)
  have I_p := Lib.hid (I_p.out.below hB)
  have I_r := Lib.hid hI
  have C_r := Lib.hid hc
  have HB := Lib.hid (below_step HB.out hB)
  clear hI hB hg hc
  go_wp2_with fail
  with_reducible refine (same_any _ _ _ _ _ _ _ I_p.out.rd I_r.out.rd C_p.out C_r.out (mul_comm' _ _)).mono ?_
  rintro e W7 ⟨rfl, hD⟩
  have I_f := Lib.hid (I_f.out.drawn hD)
  have I_g := Lib.hid (I_g.out.drawn hD)
  have I_h := Lib.hid (I_h.out.drawn hD)
  have I_z := Lib.hid (I_z.out.drawn hD)
  have I_p := Lib.hid (I_p.out.drawn hD)
  have I_r := Lib.hid (I_r.out.drawn hD)
  have HB := Lib.hid (below_drawn HB.out hD)
  clear hD
  clear I_p C_p
  clear I_r C_r
  go_wp2_with fail
  with_reducible refine (times_any _ _ _ _ _ _ _ _ I_g.out.rd I_h.out.rd C_g.out C_h.out (lowP_PF _) (lowP_PF _) rfl).mono ?_
  rintro e W8 ⟨g_p, c_p, rfl, hc, hg, hI, hB⟩
  have I_f := Lib.hid (I_f.out.below hB)
  have I_g := Lib.hid (I_g.out.below hB)
  have I_h := Lib.hid (I_h.out.below hB)
  have I_z := Lib.hid (I_z.out.below hB)
  have I_p := Lib.hid hI
  have C_p := Lib.hid hc
  have HB := Lib.hid (below_step HB.out hB)
  clear hI hB hg hc
  go_wp2_with fail
  with_reducible refine (times_any _ _ _ _ _ _ _ _ I_f.out.rd I_p.out.rd C_f.out C_p.out (lowP_PF _) (mulS_PF _ _) rfl).mono ?_
  rintro e W9 ⟨g_r, c_r, rfl, hc, hg, hI, hB⟩
  have I_f := Lib.hid (I_f.out.below hB)
  have I_g := Lib.hid (I_g.out.below hB)
  have I_h := Lib.hid (I_h.out.below hB)
  have I_z := Lib.hid (I_z.out.below hB)
  have I_p := Lib.hid (I_p.out.below hB)
  have I_r := Lib.hid hI
  have C_r := Lib.hid hc
  have HB := Lib.hid (below_step HB.out hB)
  clear hI hB hg hc
  go_wp2_with fail
  with_reducible refine (times_any _ _ _ _ _ _ _ _ I_f.out.rd I_g.out.rd C_f.out C_g.out (lowP_PF _) (lowP_PF _) rfl).mono ?_
  rintro e W10 ⟨g_s, c_s, rfl, hc, hg, hI, hB⟩
  have I_f := Lib.hid (I_f.out.below hB)
  have I_g := Lib.hid (I_g.out.below hB)
  have I_h := Lib.hid (I_h.out.below hB)
  have I_z := Lib.hid (I_z.out.below hB)
  have I_p := Lib.hid (I_p.out.below hB)
  have I_r := Lib.hid (I_r.out.below hB)
  have I_s := Lib.hid hI
  have C_s := Lib.hid hc
  have HB := Lib.hid (below_step HB.out hB)
  clear hI hB hg hc
  go_wp2_with fail
  with_reducible refine (times_any _ _ _ _ _ _ _ _ I_s.out.rd I_h.out.rd C_s.out C_h.out (mulS_PF _ _) (lowP_PF _) rfl).mono ?_
  rintro e W11 ⟨g_u, c_u, rfl, hc, hg, hI, hB⟩
  have I_f := Lib.hid (I_f.out.below hB)
  have I_g := Lib.hid (I_g.out.below hB)
  have I_h := Lib.hid (I_h.out.below hB)
  have I_z := Lib.hid (I_z.out.below hB)
  have I_p := Lib.hid (I_p.out.below hB)
  have I_r := Lib.hid (I_r.out.below hB)
  have I_s := Lib.hid (I_s.out.below hB)
  have I_u := Lib.hid hI
  have C_u := Lib.hid hc
  have HB := Lib.hid (below_step HB.out hB)
  clear hI hB hg hc
  go_wp2_with fail
  with_reducible refine (same_any _ _ _ _ _ _ _ I_r.out.rd I_u.out.rd C_r.out C_u.out (mul_assoc' _ _ _)).mono ?_
  rintro e W12 ⟨rfl, hD⟩
  have I_f := Lib.hid (I_f.out.drawn hD)
  have I_g := Lib.hid (I_g.out.drawn hD)
  have I_h := Lib.hid (I_h.out.drawn hD)
  have I_z := Lib.hid (I_z.out.drawn hD)
  have I_p := Lib.hid (I_p.out.drawn hD)
  have I_r := Lib.hid (I_r.out.drawn hD)
  have I_s := Lib.hid (I_s.out.drawn hD)
  have I_u := Lib.hid (I_u.out.drawn hD)
  have HB := Lib.hid (below_drawn HB.out hD)
  clear hD
  clear I_p C_p
  clear I_r C_r
  clear I_s C_s
  clear I_u C_u
  go_wp2_with fail
  with_reducible refine (add_any _ _ _ _ _ _ _ _ I_g.out.rd I_h.out.rd C_g.out C_h.out (lowP_PF _) (lowP_PF _) rfl).mono ?_
  rintro e W13 ⟨g_p, c_p, rfl, hc, hg, hI, hB⟩
  have I_f := Lib.hid (I_f.out.below hB)
  have I_g := Lib.hid (I_g.out.below hB)
  have I_h := Lib.hid (I_h.out.below hB)
  have I_z := Lib.hid (I_z.out.below hB)
  have I_p := Lib.hid hI
  have C_p := Lib.hid hc
  have HB := Lib.hid (below_step HB.out hB)
  clear hI hB hg hc
  go_wp2_with fail
  with_reducible refine (times_any _ _ _ _ _ _ _ _ I_f.out.rd I_p.out.rd C_f.out C_p.out (lowP_PF _) (addS_PF _ _) rfl).mono ?_
  rintro e W14 ⟨g_r, c_r, rfl, hc, hg, hI, hB⟩
  have I_f := Lib.hid (I_f.out.below hB)
  have I_g := Lib.hid (I_g.out.below hB)
  have I_h := Lib.hid (I_h.out.below hB)
  have I_z := Lib.hid (I_z.out.below hB)
  have I_p := Lib.hid (I_p.out.below hB)
  have I_r := Lib.hid hI
  have C_r := Lib.hid hc
  have HB := Lib.hid (below_step HB.out hB)
  clear hI hB hg hc
  go_wp2_with fail
  with_reducible refine (times_any _ _ _ _ _ _ _ _ I_f.out.rd I_g.out.rd C_f.out C_g.out (lowP_PF _) (lowP_PF _) rfl).mono ?_
  rintro e W15 ⟨g_s, c_s, rfl, hc, hg, hI, hB⟩
  have I_f := Lib.hid (I_f.out.below hB)
  have I_g := Lib.hid (I_g.out.below hB)
  have I_h := Lib.hid (I_h.out.below hB)
  have I_z := Lib.hid (I_z.out.below hB)
  have I_p := Lib.hid (I_p.out.below hB)
  have I_r := Lib.hid (I_r.out.below hB)
  have I_s := Lib.hid hI
  have C_s := Lib.hid hc
  have HB := Lib.hid (below_step HB.out hB)
  clear hI hB hg hc
  go_wp2_with fail
  with_reducible refine (times_any _ _ _ _ _ _ _ _ I_f.out.rd I_h.out.rd C_f.out C_h.out (lowP_PF _) (lowP_PF _) rfl).mono ?_
  rintro e W16 ⟨g_u, c_u, rfl, hc, hg, hI, hB⟩
  have I_f := Lib.hid (I_f.out.below hB)
  have I_g := Lib.hid (I_g.out.below hB)
  have I_h := Lib.hid (I_h.out.below hB)
  have I_z := Lib.hid (I_z.out.below hB)
  have I_p := Lib.hid (I_p.out.below hB)
  have I_r := Lib.hid (I_r.out.below hB)
  have I_s := Lib.hid (I_s.out.below hB)
  have I_u := Lib.hid hI
  have C_u := Lib.hid hc
  have HB := Lib.hid (below_step HB.out hB)
  clear hI hB hg hc
  go_wp2_with fail
  with_reducible refine (add_any _ _ _ _ _ _ _ _ I_s.out.rd I_u.out.rd C_s.out C_u.out (mulS_PF _ _) (mulS_PF _ _) rfl).mono ?_
  rintro e W17 ⟨g_v, c_v, rfl, hc, hg, hI, hB⟩
  have I_f := Lib.hid (I_f.out.below hB)
  have I_g := Lib.hid (I_g.out.below hB)
  have I_h := Lib.hid (I_h.out.below hB)
  have I_z := Lib.hid (I_z.out.below hB)
  have I_p := Lib.hid (I_p.out.below hB)
  have I_r := Lib.hid (I_r.out.below hB)
  have I_s := Lib.hid (I_s.out.below hB)
  have I_u := Lib.hid (I_u.out.below hB)
  have I_v := Lib.hid hI
  have C_v := Lib.hid hc
  have HB := Lib.hid (below_step HB.out hB)
  clear hI hB hg hc
  go_wp2_with fail
  with_reducible refine (same_any _ _ _ _ _ _ _ I_r.out.rd I_v.out.rd C_r.out C_v.out (mul_add' _ _ _)).mono ?_
  rintro e W18 ⟨rfl, hD⟩
  have I_f := Lib.hid (I_f.out.drawn hD)
  have I_g := Lib.hid (I_g.out.drawn hD)
  have I_h := Lib.hid (I_h.out.drawn hD)
  have I_z := Lib.hid (I_z.out.drawn hD)
  have I_p := Lib.hid (I_p.out.drawn hD)
  have I_r := Lib.hid (I_r.out.drawn hD)
  have I_s := Lib.hid (I_s.out.drawn hD)
  have I_u := Lib.hid (I_u.out.drawn hD)
  have I_v := Lib.hid (I_v.out.drawn hD)
  have HB := Lib.hid (below_drawn HB.out hD)
  clear hD
  clear I_p C_p
  clear I_r C_r
  clear I_s C_s
  clear I_u C_u
  clear I_v C_v
  go_wp2_with fail
  with_reducible refine (sub_any _ _ _ _ _ _ _ _ I_z.out.rd I_f.out.rd C_z.out C_f.out zero_PF (lowP_PF _) rfl).mono ?_
  rintro e W19 ⟨g_p, c_p, rfl, hc, hg, hI, hB⟩
  have I_f := Lib.hid (I_f.out.below hB)
  have I_g := Lib.hid (I_g.out.below hB)
  have I_h := Lib.hid (I_h.out.below hB)
  have I_z := Lib.hid (I_z.out.below hB)
  have I_p := Lib.hid hI
  have C_p := Lib.hid hc
  have HB := Lib.hid (below_step HB.out hB)
  clear hI hB hg hc
  go_wp2_with fail
  with_reducible refine (norm1_any _ _ _ _ n1 I_p.out.rd C_p.out (subS_PF _ _) NN.out).mono ?_
  rintro e W20 ⟨rfl, hB⟩
  have I_f := Lib.hid (I_f.out.below hB)
  have I_g := Lib.hid (I_g.out.below hB)
  have I_h := Lib.hid (I_h.out.below hB)
  have I_z := Lib.hid (I_z.out.below hB)
  have I_p := Lib.hid (I_p.out.below hB)
  have HB := Lib.hid (below_step HB.out hB)
  clear hB
  go_wp2_with fail
  with_reducible refine (norm1_any _ _ _ _ n1 I_f.out.rd C_f.out (lowP_PF _) N1.out).mono ?_
  rintro e W21 ⟨rfl, hB⟩
  have I_f := Lib.hid (I_f.out.below hB)
  have I_g := Lib.hid (I_g.out.below hB)
  have I_h := Lib.hid (I_h.out.below hB)
  have I_z := Lib.hid (I_z.out.below hB)
  have I_p := Lib.hid (I_p.out.below hB)
  have HB := Lib.hid (below_step HB.out hB)
  clear hB
  go_wp2_with fail
  with_reducible refine (norm2_any _ _ _ _ _ _ _ n12 I_f.out.rd I_g.out.rd C_f.out C_g.out (lowP_PF _) (lowP_PF _) N12.out).mono ?_
  rintro e W22 ⟨rfl, hB⟩
  have I_f := Lib.hid (I_f.out.below hB)
  have I_g := Lib.hid (I_g.out.below hB)
  have I_h := Lib.hid (I_h.out.below hB)
  have I_z := Lib.hid (I_z.out.below hB)
  have I_p := Lib.hid (I_p.out.below hB)
  have HB := Lib.hid (below_step HB.out hB)
  clear hB
  go_wp2_with fail
  with_reducible refine (norm1_any _ _ _ _ n1 I_f.out.rd C_f.out (lowP_PF _) N1.out).mono ?_
  rintro e W23 ⟨rfl, hB⟩
  have I_f := Lib.hid (I_f.out.below hB)
  have I_g := Lib.hid (I_g.out.below hB)
  have I_h := Lib.hid (I_h.out.below hB)
  have I_z := Lib.hid (I_z.out.below hB)
  have I_p := Lib.hid (I_p.out.below hB)
  have HB := Lib.hid (below_step HB.out hB)
  clear hB
  go_wp2_with fail
  with_reducible refine (norm1_any _ _ _ _ n2 I_g.out.rd C_g.out (lowP_PF _) N2.out).mono ?_
  rintro e W24 ⟨rfl, hB⟩
  have I_f := Lib.hid (I_f.out.below hB)
  have I_g := Lib.hid (I_g.out.below hB)
  have I_h := Lib.hid (I_h.out.below hB)
  have I_z := Lib.hid (I_z.out.below hB)
  have I_p := Lib.hid (I_p.out.below hB)
  have HB := Lib.hid (below_step HB.out hB)
  clear hB
  by_cases hm : n1 < n2
  · have h12 := H12.out
    rw [if_pos hm] at h12
    subst h12
    go_wp2_with fail
    with_reducible refine (awake_any _).mono ?_
    rintro e W25 ⟨rfl, hB⟩
    have I_f := Lib.hid (I_f.out.below hB)
    have I_g := Lib.hid (I_g.out.below hB)
    have I_h := Lib.hid (I_h.out.below hB)
    have I_z := Lib.hid (I_z.out.below hB)
    have I_p := Lib.hid (I_p.out.below hB)
    have HB := Lib.hid (below_step HB.out hB)
    clear hB
    go_wp2
    go_ret
    exact ⟨rfl, HB.out⟩
  · have h12 := H12.out
    rw [if_neg hm] at h12
    subst h12
    go_wp2_with fail
    with_reducible refine (awake_any _).mono ?_
    rintro e W25 ⟨rfl, hB⟩
    have I_f := Lib.hid (I_f.out.below hB)
    have I_g := Lib.hid (I_g.out.below hB)
    have I_h := Lib.hid (I_h.out.below hB)
    have I_z := Lib.hid (I_z.out.below hB)
    have I_p := Lib.hid (I_p.out.below hB)
    have HB := Lib.hid (below_step HB.out hB)
    clear hB
    go_wp2
    go_ret
    exact ⟨rfl, HB.out⟩
end Go.Proofs.Ytebicdjnhogniaa.T
