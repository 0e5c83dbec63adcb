/- WavePolys: its walk (printed by gen_polys.py). -/
import Derived.Test.YtebicdjnhogniaaShp
namespace Go.Proofs.Ytebicdjnhogniaa.T
open Go.RowKit Go.Proofs.Ytebicdjnhogniaa.PWavePolys Go.Proofs.YtebicdjnhogniaaW.PrintWords Go.Proofs.YtebicdjnhogniaaW.PrintLast Go.Proofs.YtebicdjnhogniaaW.PrintMore
attribute [local go_sem] max2_int min2_int max_two min_two
set_option linter.unusedVariables false
set_option linter.unusedSimpArgs false
/-- what was lent. -/
def IL (w : World) (g : Nat) (f : F) : Prop := RK .i64 3 w 0 g (256 + 3) (ls f ++ List.replicate 3 (-777))
section
variable {w w1 : World} {g g' c : Nat} {f : F}
theorem IL.below (h : IL w g f) (hb : Below w.heap.size w w1) : IL w1 g f := Kd.R_below h hb
theorem IL.drawn (h : IL w g f) (d : Drawn0 w w1) : IL w1 g f := by
  obtain ⟨n, rfl⟩ := d
  exact Kd.R_drewN h n
theorem rd_of_C {A : Option Addr} (h : Kd.C (Kd.int .i64) w A (ls f).length (ls f)) : RD w A f := by
  have h1 := Kd.reads_of_C (enc := Value.int .i64) (d := (0 : Int)) (h1 := fun _ => rfl) h
  obtain ⟨ad, e, hc⟩ := h1.2.2 (by rw [ls_len]; omega)
  refine ⟨ad, e, fun i hi => ?_⟩
  rw [hc i (by rw [ls_len]; exact hi), List.getD_eq_getElem?_getD, ls_get f i hi]
  rfl
theorem IL.C (h : IL w g f) : Kd.C (Kd.int .i64) w (some ⟨g, 0, none⟩) ((ls f).length + 3) (ls f ++ List.replicate 3 (-777)) ∧ Kd.C (Kd.int .i64) w (some ⟨g, 0, none⟩) (ls f).length (ls f) := lent_C h (ls_len f).symm
theorem IL.rd (h : IL w g f) : RD w (some ⟨g, 0, none⟩) f := rd_of_C h.C.2
theorem IL.kept (h : IL w g f) (hk : Kept w w1 (fun j => some j = (sl g' c).ownBlock)) (hne : g ≠ g') : IL w1 g f := kept_row h hk (fun j hj e => by
  have e1 : j = g := by simpa [Value.ownBlock] using hj.symm
  have e2 : j = g' := by simpa [Value.ownBlock] using e
  omega)
theorem IR.kept (h : IR w g f) (hk : Kept w w1 (fun j => some j = (sl g' c).ownBlock)) (hne : g ≠ g') : IR w1 g f := by
  obtain ⟨cs, h1, h2⟩ := h
  refine ⟨cs, blk_kept h1 hk (fun e => ?_), h2⟩
  have e2 : g = g' := by simpa [Value.ownBlock] using e
  exact hne e2
theorem IS.kept {c2 : Nat} (h : IS c2 w g f) (hk : Kept w w1 (fun j => some j = (sl g' c).ownBlock)) (hne : g ≠ g') : IS c2 w1 g f := by
  obtain ⟨cs, h1, h2⟩ := h
  refine ⟨cs, blk_kept h1 hk (fun e => ?_), h2⟩
  have e2 : g = g' := by simpa [Value.ownBlock] using e
  exact hne e2
end
theorem lend_any (A : Option Addr) (c : Nat) (f : F) (w : World) (hA : RD w A f) :
    Calls Try.prog 24 #[.slice A 256 c] w fun e w' => ∃ g, e = .returned (.slice (some ⟨g, 0, none⟩) 256 (256 + 3)) ∧ w.heap.size ≤ g ∧ IL w' g f ∧ Below w.heap.size w w' := by
  refine (lendInts_any A 256 c (ls f) w hA.C (ls_len f).symm (by rw [ls_len]; omega)).mono ?_
  rintro e w' ⟨g, rfl, hR, hB, hg⟩
  exact ⟨g, rfl, hg, Kd.R_lower hR (Nat.zero_le _), hB⟩
theorem keptP_any (g : Nat) (A : Option Addr) (c : Nat) (f : F) (w : World) (hL : IL w g f) (hA : RD w A f) (hc : 256 ≤ c) :
    Calls Try.prog 33 #[.slice (some ⟨g, 0, none⟩) 256 (256 + 3), .slice A 256 c] w fun e w' => e = .returned (.bool true) ∧ Drawn0 w w' :=
  keptInts_any g 256 A 256 c (ls f) w hL.C.1 hA.C (ls_len f).symm (ls_len f).symm hc (by rw [ls_len]; omega)
theorem il_lt {w : World} {g : Nat} {f : F} (h : IL w g f) : g < w.heap.size := by
  obtain ⟨g2, c2, e, _, hlt, _⟩ := Kd.R_form h (by rw [List.length_append, ls_len]; omega)
  have e2 : g = g2 := by
    injection e with e3
    injection e3 with e4
    injection e4
  omega
set_option maxHeartbeats 8000000 in
set_option maxRecDepth 20000 in
theorem polys_walk (a1 : Option Addr) (len1 cap1 : Nat) (z1 : List Int) (a2 : Option Addr) (len2 cap2 : Nat) (z2 : List Int) (w : World) (w1 : RowIs .i64 w a1 len1 cap1 z1) (y1 : len1 * 8 ≤ 140737488351232) (w2 : RowIs .i64 w a2 len2 cap2 z2) (y2 : len2 * 8 ≤ 140737488351232) :
    Calls Try.prog 7 #[.slice a1 len1 cap1, .slice a2 len2 cap2] w fun e w' => e = .returned (.bool true) ∧ Below w.heap.size w w' := by
  obtain ⟨l1, rfl, hr1, hm1, hw1, hc1⟩ := ReadsInt.ofRowC w1
  have HC1 := Lib.hid (show Kd.C (Kd.int .i64) w a1 l1.length l1 from Kd.C_of_reads (d := (0 : Int)) (h1 := fun _ => rfl) hr1)
  have hc1 := Lib.hid hc1
  clear hr1 hw1 hm1 w1
  obtain ⟨l2, rfl, hr2, hm2, hw2, hc2⟩ := ReadsInt.ofRowC w2
  have HC2 := Lib.hid (show Kd.C (Kd.int .i64) w a2 l2.length l2 from Kd.C_of_reads (d := (0 : Int)) (h1 := fun _ => rfl) hr2)
  have hc2 := Lib.hid hc2
  clear hr2 hw2 hm2 w2
  by_cases hg1 : 300 < l1.length
  · go_enter Try.func7, Try.ntmps7
    go_wp2_with (go_at_call 11; (with_reducible refine (awake_any _).mono ?_); rintro e w' ⟨rfl, hb⟩)
    go_ret
    exact ⟨rfl, hb⟩
  by_cases hg2 : 300 < l2.length
  · go_enter Try.func7, Try.ntmps7
    go_wp2_with (go_at_call 11; (with_reducible refine (awake_any _).mono ?_); rintro e w' ⟨rfl, hb⟩)
    go_ret
    exact ⟨rfl, hb⟩
  obtain ⟨n12, hn12⟩ : ∃ n, nrm2 (lowP l1) (lowP l2) = n := ⟨_, rfl⟩
  have N12 := Lib.hid hn12
  have HB : Hid (Below w.heap.size w w) := Lib.hid (Below.refl _ _)
  clear hn12
  go_enter Try.func7, Try.ntmps7
  go_wp2_with fail
  with_reducible refine (low_any _ _ _ l1 _ _ (Kd.C_below HC1.out HB.out) rfl hc1.out (by omega) rfl).mono ?_
  rintro e W1 ⟨g_f, c_f, rfl, hc, hg, hI, hB⟩
  have I_f := Lib.hid hI
  have C_f := Lib.hid hc
  have HB := Lib.hid (below_step HB.out hB)
  clear hI hB hg hc
  go_wp2_with fail
  with_reducible refine (low_any _ _ _ l2 _ _ (Kd.C_below HC2.out HB.out) rfl hc2.out (by omega) rfl).mono ?_
  rintro e W2 ⟨g_g, c_g, rfl, hc, hg, hI, hB⟩
  have I_f := Lib.hid (I_f.out.below hB)
  have I_g := Lib.hid hI
  have C_g := Lib.hid hc
  have HB := Lib.hid (below_step HB.out hB)
  clear hI hB hg hc
  go_wp2_with fail
  with_reducible refine (lend_any _ _ _ _ I_f.out.rd).mono ?_
  rintro e W3 ⟨g_x, rfl, hg, hI, hB⟩
  have DX := Lib.hid (show g_f < g_x from Nat.lt_of_lt_of_le I_f.out.lt hg)
  have I_f := Lib.hid (I_f.out.below hB)
  have I_g := Lib.hid (I_g.out.below hB)
  have I_x := Lib.hid hI
  have C_x : Hid (256 ≤ 256 + 3) := Lib.hid (by omega)
  have HB := Lib.hid (below_step HB.out hB)
  clear hI hB hg
  go_wp2_with fail
  with_reducible refine (addS_any _ _ _ _ _ _ _ _ I_x.out.rd I_g.out.rd C_x.out C_g.out (lowP_PF _) (lowP_PF _) rfl).mono ?_
  rintro e W4 ⟨g_a, c_a, rfl, hg, hI, hB⟩
  have D_a := Lib.hid (show g_f < g_a ∧ g_x < g_a from ⟨Nat.lt_of_lt_of_le I_f.out.lt hg, Nat.lt_of_lt_of_le (il_lt I_x.out) hg⟩)
  have U_a := Lib.hid (show w.heap.size ≤ g_a from Nat.le_trans HB.out.size hg)
  have I_f := Lib.hid (I_f.out.below hB)
  have I_g := Lib.hid (I_g.out.below hB)
  have I_x := Lib.hid (I_x.out.below hB)
  have C_a := Lib.hid hI.room
  have I_a := Lib.hid hI
  have HB := Lib.hid (below_step HB.out hB)
  clear hI hB hg
  go_wp2_with fail
  with_reducible refine (sub_any _ _ _ _ _ _ _ _ I_x.out.rd I_g.out.rd C_x.out C_g.out (lowP_PF _) (lowP_PF _) rfl).mono ?_
  rintro e W5 ⟨g_b, c_b, rfl, hc, hg, hI, hB⟩
  have I_f := Lib.hid (I_f.out.below hB)
  have I_g := Lib.hid (I_g.out.below hB)
  have I_x := Lib.hid (I_x.out.below hB)
  have I_a := Lib.hid (I_a.out.below hB)
  have I_b := Lib.hid hI
  have C_b := Lib.hid hc
  have HB := Lib.hid (below_step HB.out hB)
  clear hI hB hg hc
  go_wp2_with fail
  with_reducible refine (over_any _ _ _ _ _ I_x.out.rd C_x.out (lowP_PF _) rfl).mono ?_
  rintro e W6 ⟨g_c, c_c, rfl, hc, hg, hI, hB⟩
  have I_f := Lib.hid (I_f.out.below hB)
  have I_g := Lib.hid (I_g.out.below hB)
  have I_x := Lib.hid (I_x.out.below hB)
  have I_a := Lib.hid (I_a.out.below hB)
  have I_b := Lib.hid (I_b.out.below hB)
  have I_c := Lib.hid hI
  have C_c := Lib.hid hc
  have HB := Lib.hid (below_step HB.out hB)
  clear hI hB hg hc
  go_wp2_with fail
  with_reducible refine (backS_any _ _ _ _ _ I_x.out.rd C_x.out (lowP_PF _) rfl).mono ?_
  rintro e W7 ⟨g_d, c_d, rfl, hg, hI, hB⟩
  have D_d := Lib.hid (show g_f < g_d ∧ g_x < g_d ∧ g_a < g_d from ⟨Nat.lt_of_lt_of_le I_f.out.lt hg, Nat.lt_of_lt_of_le (il_lt I_x.out) hg, Nat.lt_of_lt_of_le I_a.out.lt hg⟩)
  have U_d := Lib.hid (show w.heap.size ≤ g_d from Nat.le_trans HB.out.size hg)
  have I_f := Lib.hid (I_f.out.below hB)
  have I_g := Lib.hid (I_g.out.below hB)
  have I_x := Lib.hid (I_x.out.below hB)
  have I_a := Lib.hid (I_a.out.below hB)
  have I_b := Lib.hid (I_b.out.below hB)
  have I_c := Lib.hid (I_c.out.below hB)
  have C_d := Lib.hid hI.room
  have I_d := Lib.hid hI
  have HB := Lib.hid (below_step HB.out hB)
  clear hI hB hg
  go_wp2_with fail
  with_reducible refine (times_any _ _ _ _ _ _ _ _ I_x.out.rd I_g.out.rd C_x.out C_g.out (lowP_PF _) (lowP_PF _) rfl).mono ?_
  rintro e W8 ⟨g_e, c_e, rfl, hc, hg, hI, hB⟩
  have I_f := Lib.hid (I_f.out.below hB)
  have I_g := Lib.hid (I_g.out.below hB)
  have I_x := Lib.hid (I_x.out.below hB)
  have I_a := Lib.hid (I_a.out.below hB)
  have I_b := Lib.hid (I_b.out.below hB)
  have I_c := Lib.hid (I_c.out.below hB)
  have I_d := Lib.hid (I_d.out.below hB)
  have I_e := Lib.hid hI
  have C_e := Lib.hid hc
  have HB := Lib.hid (below_step HB.out hB)
  clear hI hB hg hc
  go_wp2_with fail
  with_reducible refine (rAdd_any _ _ _ _ _ _ _ _ I_f.out.rd I_g.out.rd C_f.out C_g.out (lowP_PF _) (lowP_PF _) rfl).mono ?_
  rintro e W9 ⟨g_r, c_r, rfl, hc, hg, hI, hB⟩
  have I_f := Lib.hid (I_f.out.below hB)
  have I_g := Lib.hid (I_g.out.below hB)
  have I_x := Lib.hid (I_x.out.below hB)
  have I_a := Lib.hid (I_a.out.below hB)
  have I_b := Lib.hid (I_b.out.below hB)
  have I_c := Lib.hid (I_c.out.below hB)
  have I_d := Lib.hid (I_d.out.below hB)
  have I_e := Lib.hid (I_e.out.below hB)
  have I_r := Lib.hid hI
  have C_r := Lib.hid hc
  have HB := Lib.hid (below_step HB.out hB)
  clear hI hB hg hc
  go_wp2_with fail
  with_reducible refine (same_any _ _ _ _ _ _ _ I_a.out.rd I_r.out.rd C_a.out C_r.out (fun _ _ => rfl)).mono ?_
  rintro e W10 ⟨rfl, hD⟩
  have I_f := Lib.hid (I_f.out.drawn hD)
  have I_g := Lib.hid (I_g.out.drawn hD)
  have I_x := Lib.hid (I_x.out.drawn hD)
  have I_a := Lib.hid (I_a.out.drawn hD)
  have I_b := Lib.hid (I_b.out.drawn hD)
  have I_c := Lib.hid (I_c.out.drawn hD)
  have I_d := Lib.hid (I_d.out.drawn hD)
  have I_e := Lib.hid (I_e.out.drawn hD)
  have I_r := Lib.hid (I_r.out.drawn hD)
  have HB := Lib.hid (below_drawn HB.out hD)
  clear hD
  clear I_r C_r
  go_wp2_with fail
  with_reducible refine (rSub_any _ _ _ _ _ _ _ _ I_f.out.rd I_g.out.rd C_f.out C_g.out (lowP_PF _) (lowP_PF _) rfl).mono ?_
  rintro e W11 ⟨g_r, c_r, rfl, hc, hg, hI, hB⟩
  have I_f := Lib.hid (I_f.out.below hB)
  have I_g := Lib.hid (I_g.out.below hB)
  have I_x := Lib.hid (I_x.out.below hB)
  have I_a := Lib.hid (I_a.out.below hB)
  have I_b := Lib.hid (I_b.out.below hB)
  have I_c := Lib.hid (I_c.out.below hB)
  have I_d := Lib.hid (I_d.out.below hB)
  have I_e := Lib.hid (I_e.out.below hB)
  have I_r := Lib.hid hI
  have C_r := Lib.hid hc
  have HB := Lib.hid (below_step HB.out hB)
  clear hI hB hg hc
  go_wp2_with fail
  with_reducible refine (same_any _ _ _ _ _ _ _ I_b.out.rd I_r.out.rd C_b.out C_r.out (fun _ _ => rfl)).mono ?_
  rintro e W12 ⟨rfl, hD⟩
  have I_f := Lib.hid (I_f.out.drawn hD)
  have I_g := Lib.hid (I_g.out.drawn hD)
  have I_x := Lib.hid (I_x.out.drawn hD)
  have I_a := Lib.hid (I_a.out.drawn hD)
  have I_b := Lib.hid (I_b.out.drawn hD)
  have I_c := Lib.hid (I_c.out.drawn hD)
  have I_d := Lib.hid (I_d.out.drawn hD)
  have I_e := Lib.hid (I_e.out.drawn hD)
  have I_r := Lib.hid (I_r.out.drawn hD)
  have HB := Lib.hid (below_drawn HB.out hD)
  clear hD
  clear I_r C_r
  go_wp2_with fail
  with_reducible refine (rover_any _ _ _ _ _ I_f.out.rd C_f.out (lowP_PF _) rfl).mono ?_
  rintro e W13 ⟨g_r, c_r, rfl, hc, hg, hI, hB⟩
  have I_f := Lib.hid (I_f.out.below hB)
  have I_g := Lib.hid (I_g.out.below hB)
  have I_x := Lib.hid (I_x.out.below hB)
  have I_a := Lib.hid (I_a.out.below hB)
  have I_b := Lib.hid (I_b.out.below hB)
  have I_c := Lib.hid (I_c.out.below hB)
  have I_d := Lib.hid (I_d.out.below hB)
  have I_e := Lib.hid (I_e.out.below hB)
  have I_r := Lib.hid hI
  have C_r := Lib.hid hc
  have HB := Lib.hid (below_step HB.out hB)
  clear hI hB hg hc
  go_wp2_with fail
  with_reducible refine (same_any _ _ _ _ _ _ _ I_c.out.rd I_r.out.rd C_c.out C_r.out (fun _ _ => rfl)).mono ?_
  rintro e W14 ⟨rfl, hD⟩
  have I_f := Lib.hid (I_f.out.drawn hD)
  have I_g := Lib.hid (I_g.out.drawn hD)
  have I_x := Lib.hid (I_x.out.drawn hD)
  have I_a := Lib.hid (I_a.out.drawn hD)
  have I_b := Lib.hid (I_b.out.drawn hD)
  have I_c := Lib.hid (I_c.out.drawn hD)
  have I_d := Lib.hid (I_d.out.drawn hD)
  have I_e := Lib.hid (I_e.out.drawn hD)
  have I_r := Lib.hid (I_r.out.drawn hD)
  have HB := Lib.hid (below_drawn HB.out hD)
  clear hD
  clear I_r C_r
  go_wp2_with fail
  with_reducible refine (rback_any _ _ _ _ _ I_f.out.rd C_f.out (lowP_PF _) rfl).mono ?_
  rintro e W15 ⟨g_r, c_r, rfl, hc, hg, hI, hB⟩
  have I_f := Lib.hid (I_f.out.below hB)
  have I_g := Lib.hid (I_g.out.below hB)
  have I_x := Lib.hid (I_x.out.below hB)
  have I_a := Lib.hid (I_a.out.below hB)
  have I_b := Lib.hid (I_b.out.below hB)
  have I_c := Lib.hid (I_c.out.below hB)
  have I_d := Lib.hid (I_d.out.below hB)
  have I_e := Lib.hid (I_e.out.below hB)
  have I_r := Lib.hid hI
  have C_r := Lib.hid hc
  have HB := Lib.hid (below_step HB.out hB)
  clear hI hB hg hc
  go_wp2_with fail
  with_reducible refine (same_any _ _ _ _ _ _ _ I_d.out.rd I_r.out.rd C_d.out C_r.out (fun _ _ => rfl)).mono ?_
  rintro e W16 ⟨rfl, hD⟩
  have I_f := Lib.hid (I_f.out.drawn hD)
  have I_g := Lib.hid (I_g.out.drawn hD)
  have I_x := Lib.hid (I_x.out.drawn hD)
  have I_a := Lib.hid (I_a.out.drawn hD)
  have I_b := Lib.hid (I_b.out.drawn hD)
  have I_c := Lib.hid (I_c.out.drawn hD)
  have I_d := Lib.hid (I_d.out.drawn hD)
  have I_e := Lib.hid (I_e.out.drawn hD)
  have I_r := Lib.hid (I_r.out.drawn hD)
  have HB := Lib.hid (below_drawn HB.out hD)
  clear hD
  clear I_r C_r
  go_wp2_with fail
  with_reducible refine (rTimes_any _ _ _ _ _ _ _ _ I_f.out.rd I_g.out.rd C_f.out C_g.out (lowP_PF _) (lowP_PF _) rfl).mono ?_
  rintro e W17 ⟨g_r, c_r, rfl, hc, hg, hI, hB⟩
  have I_f := Lib.hid (I_f.out.below hB)
  have I_g := Lib.hid (I_g.out.below hB)
  have I_x := Lib.hid (I_x.out.below hB)
  have I_a := Lib.hid (I_a.out.below hB)
  have I_b := Lib.hid (I_b.out.below hB)
  have I_c := Lib.hid (I_c.out.below hB)
  have I_d := Lib.hid (I_d.out.below hB)
  have I_e := Lib.hid (I_e.out.below hB)
  have I_r := Lib.hid hI
  have C_r := Lib.hid hc
  have HB := Lib.hid (below_step HB.out hB)
  clear hI hB hg hc
  go_wp2_with fail
  with_reducible refine (same_any _ _ _ _ _ _ _ I_e.out.rd I_r.out.rd C_e.out C_r.out (fun _ _ => rfl)).mono ?_
  rintro e W18 ⟨rfl, hD⟩
  have I_f := Lib.hid (I_f.out.drawn hD)
  have I_g := Lib.hid (I_g.out.drawn hD)
  have I_x := Lib.hid (I_x.out.drawn hD)
  have I_a := Lib.hid (I_a.out.drawn hD)
  have I_b := Lib.hid (I_b.out.drawn hD)
  have I_c := Lib.hid (I_c.out.drawn hD)
  have I_d := Lib.hid (I_d.out.drawn hD)
  have I_e := Lib.hid (I_e.out.drawn hD)
  have I_r := Lib.hid (I_r.out.drawn hD)
  have HB := Lib.hid (below_drawn HB.out hD)
  clear hD
  clear I_r C_r
  go_wp2_with fail
  with_reducible refine (norm2_any _ _ _ _ _ _ _ n12 I_x.out.rd I_g.out.rd C_x.out C_g.out (lowP_PF _) (lowP_PF _) N12.out).mono ?_
  rintro e W19 ⟨rfl, hB⟩
  have I_f := Lib.hid (I_f.out.below hB)
  have I_g := Lib.hid (I_g.out.below hB)
  have I_x := Lib.hid (I_x.out.below hB)
  have I_a := Lib.hid (I_a.out.below hB)
  have I_b := Lib.hid (I_b.out.below hB)
  have I_c := Lib.hid (I_c.out.below hB)
  have I_d := Lib.hid (I_d.out.below hB)
  have I_e := Lib.hid (I_e.out.below hB)
  have HB := Lib.hid (below_step HB.out hB)
  clear hB
  go_wp2_with fail
  with_reducible refine (rnorm2_any _ _ _ _ _ _ _ n12 I_f.out.rd I_g.out.rd C_f.out C_g.out (lowP_PF _) (lowP_PF _) N12.out).mono ?_
  rintro e W20 ⟨rfl, hB⟩
  have I_f := Lib.hid (I_f.out.below hB)
  have I_g := Lib.hid (I_g.out.below hB)
  have I_x := Lib.hid (I_x.out.below hB)
  have I_a := Lib.hid (I_a.out.below hB)
  have I_b := Lib.hid (I_b.out.below hB)
  have I_c := Lib.hid (I_c.out.below hB)
  have I_d := Lib.hid (I_d.out.below hB)
  have I_e := Lib.hid (I_e.out.below hB)
  have HB := Lib.hid (below_step HB.out hB)
  clear hB
  clear I_b C_b
  clear I_c C_c
  clear I_e C_e
  clear I_g
  go_wp2_with fail
  with_reducible refine (overI_any w _ _ _ _ HB.out U_a.out (I_a.out.R (Nat.le_refl _)) (by rw [ls_len]; omega)).mono ?_
  rintro e W21 ⟨rfl, hB, hK⟩
  have I_f := Lib.hid (I_f.out.kept hK (by have := D_a.out; omega))
  have I_x := Lib.hid (I_x.out.kept hK (by have := D_a.out; omega))
  have I_d := Lib.hid (I_d.out.kept hK (by have := D_d.out; omega))
  have HB := Lib.hid hB
  clear hB hK I_a
  go_wp2_with fail
  with_reducible refine (overI_any w _ _ _ _ HB.out U_d.out (I_d.out.R (Nat.le_refl _)) (by rw [ls_len]; omega)).mono ?_
  rintro e W22 ⟨rfl, hB, hK⟩
  have I_f := Lib.hid (I_f.out.kept hK (by have := D_d.out; omega))
  have I_x := Lib.hid (I_x.out.kept hK (by have := D_d.out; omega))
  have HB := Lib.hid hB
  clear hB hK I_d
  go_wp2_with fail
  with_reducible refine (keptP_any _ _ _ _ _ I_x.out I_f.out.rd C_f.out).mono ?_
  rintro e W23 ⟨rfl, hD⟩
  have I_f := Lib.hid (I_f.out.drawn hD)
  have I_x := Lib.hid (I_x.out.drawn hD)
  have HB := Lib.hid (below_drawn HB.out hD)
  clear hD
  go_wp2_with fail
  with_reducible refine (awake_any _).mono ?_
  rintro e W24 ⟨rfl, hB⟩
  have I_f := Lib.hid (I_f.out.below hB)
  have I_x := Lib.hid (I_x.out.below hB)
  have HB := Lib.hid (below_step HB.out hB)
  clear hB
  go_wp2
  go_ret
  exact ⟨rfl, HB.out⟩
end Go.Proofs.Ytebicdjnhogniaa.T
