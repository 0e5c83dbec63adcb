/- WaveBack: its walk (printed by gen_ring.py). -/
import Derived.Test.YtebicdjnhogniaaAwk
namespace Go.Proofs.Ytebicdjnhogniaa.T
open Go.RowKit Go.Proofs.Ytebicdjnhogniaa.PWaveRing Go.Proofs.YtebicdjnhogniaaW.PrintWords Go.Proofs.YtebicdjnhogniaaW.PrintLast Go.Proofs.YtebicdjnhogniaaW.PrintMore
attribute [local go_sem] max2_int min2_int max_two min_two
set_option linter.unusedVariables false
set_option linter.unusedSimpArgs false
theorem nm_add (f g : F) (hf : PF f) (hg : PF g) (i : Nat) (hi : i < 256) : nm (addS f g i) ≤ nm (f i) + nm (g i) := by
  have h := hf i hi
  have k := hg i hi
  unfold addS nm
  generalize f i = x at h
  generalize g i = y at k
  by_cases h0 : x + y < 8380417
  · have e : (x + y) % 8380417 = x + y := by omega
    simp only [e]
    split <;> split <;> split <;> omega
  · have e : (x + y) % 8380417 = x + y - 8380417 := by omega
    simp only [e]
    split <;> split <;> split <;> omega
theorem mxs_add (f g : F) (hf : PF f) (hg : PF g) : ∀ i, i ≤ 256 → mxs 0 (addS f g) i ≤ mxs 0 f i + mxs 0 g i
  | 0, _ => by simp [mxs]
  | i + 1, hi => by
    have ih := mxs_add f g hf hg i (by omega)
    have h := nm_add f g hf hg i (by omega)
    have b1 := mxs_bd (t := 0) (f := f) (by omega) hf i (by omega)
    have b2 := mxs_bd (t := 0) (f := g) (by omega) hg i (by omega)
    have b3 := nm_bd (hf i (by omega)).1 (hf i (by omega)).2
    have b4 := nm_bd (hg i (by omega)).1 (hg i (by omega)).2
    unfold mxs mx2
    generalize mxs 0 f i = m1 at *
    generalize mxs 0 g i = m2 at *
    generalize mxs 0 (addS f g) i = m3 at *
    generalize nm (f i) = k1 at *
    generalize nm (g i) = k2 at *
    generalize nm (addS f g i) = k3 at *
    split <;> split <;> split <;> omega
theorem nrm_add (f g : F) (hf : PF f) (hg : PF g) : nrm (addS f g) ≤ nrm f + nrm g := mxs_add f g hf hg 256 (Nat.le_refl _)
set_option maxHeartbeats 8000000 in
set_option maxRecDepth 20000 in
theorem back_walk (a1 : Option Addr) (len1 cap1 : Nat) (z1 : List Int) (a2 : Option Addr) (len2 cap2 : Nat) (z2 : List Int) (w : World) (w1 : RowIs .i64 w a1 len1 cap1 z1) (y1 : len1 * 8 ≤ 140737488351232) (w2 : RowIs .i64 w a2 len2 cap2 z2) (y2 : len2 * 8 ≤ 140737488351232) :
    Calls Try.prog 3 #[.slice a1 len1 cap1, .slice a2 len2 cap2] w fun e w' => e = .returned (.bool true) ∧ Below w.heap.size w w' := by
  obtain ⟨l1, rfl, hr1, hm1, hw1, hc1⟩ := ReadsInt.ofRowC w1
  have HC1 := Lib.hid (show Kd.C (Kd.int .i64) w a1 l1.length l1 from Kd.C_of_reads (d := (0 : Int)) (h1 := fun _ => rfl) hr1)
  have hc1 := Lib.hid hc1
  clear hr1 hw1 hm1 w1
  obtain ⟨l2, rfl, hr2, hm2, hw2, hc2⟩ := ReadsInt.ofRowC w2
  have HC2 := Lib.hid (show Kd.C (Kd.int .i64) w a2 l2.length l2 from Kd.C_of_reads (d := (0 : Int)) (h1 := fun _ => rfl) hr2)
  have hc2 := Lib.hid hc2
  clear hr2 hw2 hm2 w2
  by_cases hg1 : 300 < l1.length
  · go_enter Try.func3, Try.ntmps3
    go_wp2_with (go_at_call 11; (with_reducible refine (awake_any _).mono ?_); rintro e w' ⟨rfl, hb⟩)
    go_ret
    exact ⟨rfl, hb⟩
  by_cases hg2 : 300 < l2.length
  · go_enter Try.func3, Try.ntmps3
    go_wp2_with (go_at_call 11; (with_reducible refine (awake_any _).mono ?_); rintro e w' ⟨rfl, hb⟩)
    go_ret
    exact ⟨rfl, hb⟩
  have hadd := nrm_add (lowP l1) (lowP l2) (lowP_PF _) (lowP_PF _)
  have b1 := nrm_bd (lowP_PF l1)
  have b2 := nrm_bd (lowP_PF l2)
  obtain ⟨n1, hn1⟩ : ∃ n, nrm (lowP l1) = n := ⟨_, rfl⟩
  obtain ⟨n2, hn2⟩ : ∃ n, nrm (lowP l2) = n := ⟨_, rfl⟩
  obtain ⟨n3, hn3⟩ : ∃ n, nrm (addS (lowP l1) (lowP l2)) = n := ⟨_, rfl⟩
  rw [hn1, hn2, hn3] at hadd
  rw [hn1] at b1
  rw [hn2] at b2
  have WN : IntKind.i64.wrap (n1 + n2) = n1 + n2 := IntWalk.i64_in _ (by omega)
  have hle : decide (n3 ≤ n1 + n2) = true := decide_eq_true hadd
  have N1 := Lib.hid hn1
  have N2 := Lib.hid hn2
  have N3 := Lib.hid hn3
  have HB : Hid (Below w.heap.size w w) := Lib.hid (Below.refl _ _)
  clear hn1 hn2 hn3
  go_enter Try.func3, Try.ntmps3
  go_wp2_with fail
  with_reducible refine (low_any _ _ _ l1 _ _ (Kd.C_below HC1.out HB.out) rfl hc1.out (by omega) rfl).mono ?_
  rintro e W1 ⟨g_f, c_f, rfl, hc, hg, hI, hB⟩
  have I_f := Lib.hid hI
  have C_f := Lib.hid hc
  have HB := Lib.hid (below_step HB.out hB)
  clear hI hB hg hc
  go_wp2_with fail
  with_reducible refine (low_any _ _ _ l2 _ _ (Kd.C_below HC2.out HB.out) rfl hc2.out (by omega) rfl).mono ?_
  rintro e W2 ⟨g_g, c_g, rfl, hc, hg, hI, hB⟩
  have I_f := Lib.hid (I_f.out.below hB)
  have I_g := Lib.hid hI
  have C_g := Lib.hid hc
  have HB := Lib.hid (below_step HB.out hB)
  clear hI hB hg hc
  go_wp2_with fail
  with_reducible refine (over_any _ _ _ _ _ I_f.out.rd C_f.out (lowP_PF _) rfl).mono ?_
  rintro e W3 ⟨g_a, c_a, rfl, hc, hg, hI, hB⟩
  have I_f := Lib.hid (I_f.out.below hB)
  have I_g := Lib.hid (I_g.out.below hB)
  have I_a := Lib.hid hI
  have C_a := Lib.hid hc
  have HB := Lib.hid (below_step HB.out hB)
  clear hI hB hg hc
  go_wp2_with fail
  with_reducible refine (over_any _ _ _ _ _ I_g.out.rd C_g.out (lowP_PF _) rfl).mono ?_
  rintro e W4 ⟨g_b, c_b, rfl, hc, hg, hI, hB⟩
  have I_f := Lib.hid (I_f.out.below hB)
  have I_g := Lib.hid (I_g.out.below hB)
  have I_a := Lib.hid (I_a.out.below hB)
  have I_b := Lib.hid hI
  have C_b := Lib.hid hc
  have HB := Lib.hid (below_step HB.out hB)
  clear hI hB hg hc
  go_wp2_with fail
  with_reducible refine (back_any _ _ _ _ _ I_a.out.rd C_a.out (overS_PF _) rfl).mono ?_
  rintro e W5 ⟨g_p, c_p, rfl, hc, hg, hI, hB⟩
  have I_f := Lib.hid (I_f.out.below hB)
  have I_g := Lib.hid (I_g.out.below hB)
  have I_a := Lib.hid (I_a.out.below hB)
  have I_b := Lib.hid (I_b.out.below hB)
  have I_p := Lib.hid hI
  have C_p := Lib.hid hc
  have HB := Lib.hid (below_step HB.out hB)
  clear hI hB hg hc
  go_wp2_with fail
  with_reducible refine (same_any _ _ _ _ _ _ _ I_p.out.rd I_f.out.rd C_p.out C_f.out (back_over _ (lowP_PF _))).mono ?_
  rintro e W6 ⟨rfl, hD⟩
  have I_f := Lib.hid (I_f.out.drawn hD)
  have I_g := Lib.hid (I_g.out.drawn hD)
  have I_a := Lib.hid (I_a.out.drawn hD)
  have I_b := Lib.hid (I_b.out.drawn hD)
  have I_p := Lib.hid (I_p.out.drawn hD)
  have HB := Lib.hid (below_drawn HB.out hD)
  clear hD
  clear I_p C_p
  go_wp2_with fail
  with_reducible refine (back_any _ _ _ _ _ I_f.out.rd C_f.out (lowP_PF _) rfl).mono ?_
  rintro e W7 ⟨g_p, c_p, rfl, hc, hg, hI, hB⟩
  have I_f := Lib.hid (I_f.out.below hB)
  have I_g := Lib.hid (I_g.out.below hB)
  have I_a := Lib.hid (I_a.out.below hB)
  have I_b := Lib.hid (I_b.out.below hB)
  have I_p := Lib.hid hI
  have C_p := Lib.hid hc
  have HB := Lib.hid (below_step HB.out hB)
  clear hI hB hg hc
  go_wp2_with fail
  with_reducible refine (over_any _ _ _ _ _ I_p.out.rd C_p.out (backS_PF _) rfl).mono ?_
  rintro e W8 ⟨g_r, c_r, rfl, hc, hg, hI, hB⟩
  have I_f := Lib.hid (I_f.out.below hB)
  have I_g := Lib.hid (I_g.out.below hB)
  have I_a := Lib.hid (I_a.out.below hB)
  have I_b := Lib.hid (I_b.out.below hB)
  have I_p := Lib.hid (I_p.out.below hB)
  have I_r := Lib.hid hI
  have C_r := Lib.hid hc
  have HB := Lib.hid (below_step HB.out hB)
  clear hI hB hg hc
  go_wp2_with fail
  with_reducible refine (same_any _ _ _ _ _ _ _ I_r.out.rd I_f.out.rd C_r.out C_f.out (over_back _ (lowP_PF _))).mono ?_
  rintro e W9 ⟨rfl, hD⟩
  have I_f := Lib.hid (I_f.out.drawn hD)
  have I_g := Lib.hid (I_g.out.drawn hD)
  have I_a := Lib.hid (I_a.out.drawn hD)
  have I_b := Lib.hid (I_b.out.drawn hD)
  have I_p := Lib.hid (I_p.out.drawn hD)
  have I_r := Lib.hid (I_r.out.drawn hD)
  have HB := Lib.hid (below_drawn HB.out hD)
  clear hD
  clear I_p C_p
  clear I_r C_r
  go_wp2_with fail
  with_reducible refine (add_any _ _ _ _ _ _ _ _ I_f.out.rd I_g.out.rd C_f.out C_g.out (lowP_PF _) (lowP_PF _) rfl).mono ?_
  rintro e W10 ⟨g_p, c_p, rfl, hc, hg, hI, hB⟩
  have I_f := Lib.hid (I_f.out.below hB)
  have I_g := Lib.hid (I_g.out.below hB)
  have I_a := Lib.hid (I_a.out.below hB)
  have I_b := Lib.hid (I_b.out.below hB)
  have I_p := Lib.hid hI
  have C_p := Lib.hid hc
  have HB := Lib.hid (below_step HB.out hB)
  clear hI hB hg hc
  go_wp2_with fail
  with_reducible refine (over_any _ _ _ _ _ I_p.out.rd C_p.out (addS_PF _ _) rfl).mono ?_
  rintro e W11 ⟨g_r, c_r, rfl, hc, hg, hI, hB⟩
  have I_f := Lib.hid (I_f.out.below hB)
  have I_g := Lib.hid (I_g.out.below hB)
  have I_a := Lib.hid (I_a.out.below hB)
  have I_b := Lib.hid (I_b.out.below hB)
  have I_p := Lib.hid (I_p.out.below hB)
  have I_r := Lib.hid hI
  have C_r := Lib.hid hc
  have HB := Lib.hid (below_step HB.out hB)
  clear hI hB hg hc
  go_wp2_with fail
  with_reducible refine (add_any _ _ _ _ _ _ _ _ I_a.out.rd I_b.out.rd C_a.out C_b.out (overS_PF _) (overS_PF _) rfl).mono ?_
  rintro e W12 ⟨g_s, c_s, rfl, hc, hg, hI, hB⟩
  have I_f := Lib.hid (I_f.out.below hB)
  have I_g := Lib.hid (I_g.out.below hB)
  have I_a := Lib.hid (I_a.out.below hB)
  have I_b := Lib.hid (I_b.out.below hB)
  have I_p := Lib.hid (I_p.out.below hB)
  have I_r := Lib.hid (I_r.out.below hB)
  have I_s := Lib.hid hI
  have C_s := Lib.hid hc
  have HB := Lib.hid (below_step HB.out hB)
  clear hI hB hg hc
  go_wp2_with fail
  with_reducible refine (same_any _ _ _ _ _ _ _ I_r.out.rd I_s.out.rd C_r.out C_s.out (over_add _ _)).mono ?_
  rintro e W13 ⟨rfl, hD⟩
  have I_f := Lib.hid (I_f.out.drawn hD)
  have I_g := Lib.hid (I_g.out.drawn hD)
  have I_a := Lib.hid (I_a.out.drawn hD)
  have I_b := Lib.hid (I_b.out.drawn hD)
  have I_p := Lib.hid (I_p.out.drawn hD)
  have I_r := Lib.hid (I_r.out.drawn hD)
  have I_s := Lib.hid (I_s.out.drawn hD)
  have HB := Lib.hid (below_drawn HB.out hD)
  clear hD
  clear I_p C_p
  clear I_r C_r
  clear I_s C_s
  go_wp2_with fail
  with_reducible refine (add_any _ _ _ _ _ _ _ _ I_f.out.rd I_g.out.rd C_f.out C_g.out (lowP_PF _) (lowP_PF _) rfl).mono ?_
  rintro e W14 ⟨g_p, c_p, rfl, hc, hg, hI, hB⟩
  have I_f := Lib.hid (I_f.out.below hB)
  have I_g := Lib.hid (I_g.out.below hB)
  have I_a := Lib.hid (I_a.out.below hB)
  have I_b := Lib.hid (I_b.out.below hB)
  have I_p := Lib.hid hI
  have C_p := Lib.hid hc
  have HB := Lib.hid (below_step HB.out hB)
  clear hI hB hg hc
  go_wp2_with fail
  with_reducible refine (norm1_any _ _ _ _ n3 I_p.out.rd C_p.out (addS_PF _ _) N3.out).mono ?_
  rintro e W15 ⟨rfl, hB⟩
  have I_f := Lib.hid (I_f.out.below hB)
  have I_g := Lib.hid (I_g.out.below hB)
  have I_a := Lib.hid (I_a.out.below hB)
  have I_b := Lib.hid (I_b.out.below hB)
  have I_p := Lib.hid (I_p.out.below hB)
  have HB := Lib.hid (below_step HB.out hB)
  clear hB
  go_wp2_with fail
  with_reducible refine (norm1_any _ _ _ _ n1 I_f.out.rd C_f.out (lowP_PF _) N1.out).mono ?_
  rintro e W16 ⟨rfl, hB⟩
  have I_f := Lib.hid (I_f.out.below hB)
  have I_g := Lib.hid (I_g.out.below hB)
  have I_a := Lib.hid (I_a.out.below hB)
  have I_b := Lib.hid (I_b.out.below hB)
  have I_p := Lib.hid (I_p.out.below hB)
  have HB := Lib.hid (below_step HB.out hB)
  clear hB
  go_wp2_with fail
  with_reducible refine (norm1_any _ _ _ _ n2 I_g.out.rd C_g.out (lowP_PF _) N2.out).mono ?_
  rintro e W17 ⟨rfl, hB⟩
  have I_f := Lib.hid (I_f.out.below hB)
  have I_g := Lib.hid (I_g.out.below hB)
  have I_a := Lib.hid (I_a.out.below hB)
  have I_b := Lib.hid (I_b.out.below hB)
  have I_p := Lib.hid (I_p.out.below hB)
  have HB := Lib.hid (below_step HB.out hB)
  clear hB
  go_wp2_with fail
  with_reducible refine (awake_any _).mono ?_
  rintro e W18 ⟨rfl, hB⟩
  have I_f := Lib.hid (I_f.out.below hB)
  have I_g := Lib.hid (I_g.out.below hB)
  have I_a := Lib.hid (I_a.out.below hB)
  have I_b := Lib.hid (I_b.out.below hB)
  have I_p := Lib.hid (I_p.out.below hB)
  have HB := Lib.hid (below_step HB.out hB)
  clear hB
  go_wp2
  all_goals (go_ret; exact ⟨rfl, HB.out⟩)
end Go.Proofs.Ytebicdjnhogniaa.T
