/- WaveTells: its walk (printed by gen_tells.py). -/
import Derived.Test.YtebicdjnhogniaaRo
namespace Go.Proofs.Ytebicdjnhogniaa.T
open Go.RowKit Go.Proofs.Ytebicdjnhogniaa.PWavePolys Go.Proofs.YtebicdjnhogniaaW.PrintWords Go.Proofs.YtebicdjnhogniaaW.PrintLast Go.Proofs.YtebicdjnhogniaaW.PrintMore
attribute [local go_sem] max2_int min2_int max_two min_two
set_option linter.unusedVariables false
set_option linter.unusedSimpArgs false
/-- what was lent. -/
def LX (b : Nat) (w : World) (g : Nat) (xs : List Int) : Prop := RK .i64 3 w b g (xs.length + 3) (xs ++ List.replicate 3 (-777))
section
variable {w w1 : World} {g b : Nat} {xs ys : List Int} {u v : Value}
theorem LX.below (h : LX b w g xs) (hb : Below w.heap.size w w1) : LX b w1 g xs := Kd.R_below h hb
theorem LX.drawn (h : LX b w g xs) (d : Drawn0 w w1) : LX b w1 g xs := by
  obtain ⟨n, rfl⟩ := d
  exact Kd.R_drewN h n
theorem LX.C (h : LX b w g xs) : Kd.C (Kd.int .i64) w (some ⟨g, 0, none⟩) (xs.length + 3) (xs ++ List.replicate 3 (-777)) ∧ Kd.C (Kd.int .i64) w (some ⟨g, 0, none⟩) xs.length xs := lent_C h rfl
theorem LX.inn (h : LX b w g xs) (hl : xs.length ≤ 300) : IN w (.slice (some ⟨g, 0, none⟩) xs.length (xs.length + 3)) xs := ⟨_, _, rfl, h.C.2, by omega, hl⟩
theorem LX.lt (h : LX b w g xs) : g < w.heap.size := by
  obtain ⟨g2, c2, e, _, hlt, _⟩ := Kd.R_form h (by rw [List.length_append, List.length_replicate]; omega)
  have e2 : g = g2 := by
    injection e with e3
    injection e3 with e4
    injection e4
  omega
theorem LX.kept (h : LX b w g xs) (hk : Kept w w1 (fun j => some j = u.ownBlock)) (hne : some g ≠ u.ownBlock) : LX b w1 g xs := kept_row h hk (fun j hj e => by
  have e1 : j = g := by simpa [Value.ownBlock] using hj.symm
  subst e1
  exact hne e)
end
theorem norm2_o (W : World) (v u : Value) (xs ys : List Int) (r : Int) (hv : IN W v xs) (hu : IN W u ys) (hr : normO (fun i => rd_L1 [xs, ys] (i : Int)) 2 = r) :
    Calls Try.prog 17 #[.slice (some ⟨W.heap.size, 0, none⟩) 2 2] (W.alloc (.cells #[v, u] 22)) fun e w' => e = .returned (.int .i64 r) ∧ Below W.heap.size W w' := by
  have hb := below_alloc1 W (.cells #[v, u] 22)
  refine (norm_o ⟨W.heap.size, 0, none⟩ 2 2 (fun i => if i = 0 then v else u) _ r _ (by omega) (fun i hi => ?_) (fun i hi => ?_) hr).mono ?_
  · rw [add_at, cell_of_row _ _ _ _ _ _ (heap_alloc_new W _)]
    match i, hi with
    | 0, _ => rfl
    | 1, _ => rfl
  · match i, hi with
    | 0, _ => exact hv.below hb
    | 1, _ => exact hu.below hb
  · rintro e w' ⟨rfl, hB⟩
    exact ⟨rfl, below_step hb hB⟩
theorem rnorm2_o (W : World) (v u : Value) (xs ys : List Int) (r : Int) (hv : IN W v xs) (hu : IN W u ys) (hr : normO (fun i => rd_L1 [xs, ys] (i : Int)) 2 = r) :
    Calls Try.prog 31 #[.slice (some ⟨W.heap.size, 0, none⟩) 2 2] (W.alloc (.cells #[v, u] 22)) fun e w' => e = .returned (.int .i64 r) ∧ Below W.heap.size W w' := by
  have hb := below_alloc1 W (.cells #[v, u] 22)
  refine (rnorm_o ⟨W.heap.size, 0, none⟩ 2 (fun i => if i = 0 then v else u) [xs, ys] 2 r _ rfl (by omega) (by omega) (fun i hi => ?_) (fun i hi => ?_) hr).mono ?_
  · rw [add_at, cell_of_row _ _ _ _ _ _ (heap_alloc_new W _)]
    match i, hi with
    | 0, _ => rfl
    | 1, _ => rfl
  · match i, hi with
    | 0, _ => exact hv.below hb
    | 1, _ => exact hu.below hb
  · rintro e w' ⟨rfl, hB⟩
    exact ⟨rfl, below_step hb hB⟩
set_option maxHeartbeats 8000000 in
set_option maxRecDepth 20000 in
theorem tells_walk (a1 : Option Addr) (len1 cap1 : Nat) (z1 : List Int) (a2 : Option Addr) (len2 cap2 : Nat) (z2 : List Int) (i : Int) (w : World) (w1 : RowIs .i64 w a1 len1 cap1 z1) (y1 : len1 * 8 ≤ 140737488351232) (w2 : RowIs .i64 w a2 len2 cap2 z2) (y2 : len2 * 8 ≤ 140737488351232) (_wi : (Lit.int .i64 i).wf = true) :
    Calls Try.prog 10 #[.slice a1 len1 cap1, .slice a2 len2 cap2, .int .i64 i] w fun e w' => e = .returned (.bool true) ∧ Below w.heap.size w w' := by
  obtain ⟨l1, rfl, hr1, hm1, hw1, hc1⟩ := ReadsInt.ofRowC w1
  have HC1 := Lib.hid (show Kd.C (Kd.int .i64) w a1 l1.length l1 from Kd.C_of_reads (d := (0 : Int)) (h1 := fun _ => rfl) hr1)
  have hc1 := Lib.hid hc1
  clear hr1 hw1 hm1 w1
  obtain ⟨l2, rfl, hr2, hm2, hw2, hc2⟩ := ReadsInt.ofRowC w2
  have HC2 := Lib.hid (show Kd.C (Kd.int .i64) w a2 l2.length l2 from Kd.C_of_reads (d := (0 : Int)) (h1 := fun _ => rfl) hr2)
  have hc2 := Lib.hid hc2
  clear hr2 hw2 hm2 w2
  by_cases hg1 : 300 < l1.length
  · go_enter Try.func10, Try.ntmps10
    go_wp2_with (go_at_call 11; (with_reducible refine (awake_any _).mono ?_); rintro e w' ⟨rfl, hb⟩)
    go_ret
    exact ⟨rfl, hb⟩
  by_cases hg2 : 300 < l2.length
  · go_enter Try.func10, Try.ntmps10
    go_wp2_with (go_at_call 11; (with_reducible refine (awake_any _).mono ?_); rintro e w' ⟨rfl, hb⟩)
    go_ret
    exact ⟨rfl, hb⟩
  have Hl1 : Hid (l1.length ≤ 300) := Lib.hid (by omega)
  have Hl2 : Hid (l2.length ≤ 300) := Lib.hid (by omega)
  have HF : Hid (IN w (.slice a1 l1.length cap1) l1) := Lib.hid ⟨_, _, rfl, HC1.out, hc1.out, Hl1.out⟩
  have HG : Hid (IN w (.slice a2 l2.length cap2) l2) := Lib.hid ⟨_, _, rfl, HC2.out, hc2.out, Hl2.out⟩
  obtain ⟨nn, hn⟩ : ∃ n, normO (fun i => rd_L1 [l1, l2] (i : Int)) 2 = n := ⟨_, rfl⟩
  have HN := Lib.hid hn
  obtain ⟨rt, hrt⟩ : ∃ n, zS (i % 256).toNat = n := ⟨_, rfl⟩
  have HRT := Lib.hid hrt
  obtain ⟨mb, hmb⟩ : ∃ n, decide (P l1) = n := ⟨_, rfl⟩
  have HM := Lib.hid hmb
  have HB : Hid (Below w.heap.size w w) := Lib.hid (Below.refl _ _)
  clear hn hrt hmb
  go_enter Try.func10, Try.ntmps10
  go_wp2_with fail
  with_reducible refine (lendInts_any _ _ _ l1 _ (Kd.C_below HC1.out HB.out) rfl Hl1.out).mono ?_
  rintro e W1 ⟨g_x, rfl, hR, hB, hg⟩
  have L_x := Lib.hid (show LX _ _ g_x l1 from hR)
  clear hR hg
  have HB := Lib.hid (below_step HB.out hB)
  clear hB
  go_wp2_with fail
  with_reducible refine (add_o _ _ l1 l2 _ _ (L_x.out.inn Hl1.out) ((HG.out).below HB.out) rfl).mono ?_
  rintro e W2 ⟨v_a, rfl, hI, hB⟩
  have L_x0 := L_x
  have L_x := Lib.hid (L_x.out.below hB)
  have I_a := Lib.hid hI
  have U_a := Lib.hid HB.out.size
  have D_xa := Lib.hid L_x0.out.lt
  clear hI
  have HB := Lib.hid (below_step HB.out hB)
  clear hB
  go_wp2_with fail
  with_reducible refine (sub_o _ _ l1 l2 _ _ (L_x.out.inn Hl1.out) ((HG.out).below HB.out) rfl).mono ?_
  rintro e W3 ⟨v_b, rfl, hI, hB⟩
  have L_x := Lib.hid (L_x.out.below hB)
  have I_a := Lib.hid (I_a.out.below hB)
  have I_b := Lib.hid hI.inn
  clear hI
  have HB := Lib.hid (below_step HB.out hB)
  clear hB
  go_wp2_with fail
  with_reducible refine (over_o _ l1 _ _ (L_x.out.inn Hl1.out) rfl).mono ?_
  rintro e W4 ⟨v_c, rfl, hI, hB⟩
  have L_x0 := L_x
  have I_a0 := I_a
  have L_x := Lib.hid (L_x.out.below hB)
  have I_a := Lib.hid (I_a.out.below hB)
  have I_b := Lib.hid (I_b.out.below hB)
  have I_c := Lib.hid hI
  have U_c := Lib.hid HB.out.size
  have D_xc := Lib.hid L_x0.out.lt
  have D_ac := Lib.hid I_a0.out.hi
  clear hI L_x0 I_a0
  have HB := Lib.hid (below_step HB.out hB)
  clear hB
  go_wp2_with fail
  with_reducible refine (back_o _ l1 _ _ (L_x.out.inn Hl1.out) rfl).mono ?_
  rintro e W5 ⟨v_d, rfl, hI, hB⟩
  have L_x := Lib.hid (L_x.out.below hB)
  have I_a := Lib.hid (I_a.out.below hB)
  have I_b := Lib.hid (I_b.out.below hB)
  have I_c := Lib.hid (I_c.out.below hB)
  have I_d := Lib.hid hI.inn
  clear hI
  have HB := Lib.hid (below_step HB.out hB)
  clear hB
  go_wp2_with fail
  with_reducible refine (times_o _ _ l1 l2 _ _ (L_x.out.inn Hl1.out) ((HG.out).below HB.out) rfl).mono ?_
  rintro e W6 ⟨v_e, rfl, hI, hB⟩
  have L_x := Lib.hid (L_x.out.below hB)
  have I_a := Lib.hid (I_a.out.below hB)
  have I_b := Lib.hid (I_b.out.below hB)
  have I_c := Lib.hid (I_c.out.below hB)
  have I_d := Lib.hid (I_d.out.below hB)
  have I_e := Lib.hid hI.inn
  clear hI
  have HB := Lib.hid (below_step HB.out hB)
  clear hB
  go_wp2_with fail
  with_reducible refine (rAdd_o _ _ l1 l2 _ _ ((HF.out).below HB.out) ((HG.out).below HB.out) rfl).mono ?_
  rintro e W7 ⟨v_r, rfl, hI, hB⟩
  have L_x := Lib.hid (L_x.out.below hB)
  have I_a := Lib.hid (I_a.out.below hB)
  have I_b := Lib.hid (I_b.out.below hB)
  have I_c := Lib.hid (I_c.out.below hB)
  have I_d := Lib.hid (I_d.out.below hB)
  have I_e := Lib.hid (I_e.out.below hB)
  have I_r := Lib.hid hI.inn
  clear hI
  have HB := Lib.hid (below_step HB.out hB)
  clear hB
  go_wp2_with fail
  with_reducible refine (same_o _ _ _ _ _ I_a.out.inn I_r.out rfl).mono ?_
  rintro e W8 ⟨rfl, hD⟩
  have L_x := Lib.hid (L_x.out.drawn hD)
  have I_a := Lib.hid (I_a.out.drawn hD)
  have I_b := Lib.hid (I_b.out.drawn hD)
  have I_c := Lib.hid (I_c.out.drawn hD)
  have I_d := Lib.hid (I_d.out.drawn hD)
  have I_e := Lib.hid (I_e.out.drawn hD)
  have I_r := Lib.hid (I_r.out.drawn hD)
  have HB := Lib.hid (below_drawn HB.out hD)
  clear hD
  clear I_r
  go_wp2_with fail
  with_reducible refine (rSub_o _ _ l1 l2 _ _ ((HF.out).below HB.out) ((HG.out).below HB.out) rfl).mono ?_
  rintro e W9 ⟨v_r, rfl, hI, hB⟩
  have L_x := Lib.hid (L_x.out.below hB)
  have I_a := Lib.hid (I_a.out.below hB)
  have I_b := Lib.hid (I_b.out.below hB)
  have I_c := Lib.hid (I_c.out.below hB)
  have I_d := Lib.hid (I_d.out.below hB)
  have I_e := Lib.hid (I_e.out.below hB)
  have I_r := Lib.hid hI.inn
  clear hI
  have HB := Lib.hid (below_step HB.out hB)
  clear hB
  go_wp2_with fail
  with_reducible refine (same_o _ _ _ _ _ I_b.out I_r.out rfl).mono ?_
  rintro e W10 ⟨rfl, hD⟩
  have L_x := Lib.hid (L_x.out.drawn hD)
  have I_a := Lib.hid (I_a.out.drawn hD)
  have I_b := Lib.hid (I_b.out.drawn hD)
  have I_c := Lib.hid (I_c.out.drawn hD)
  have I_d := Lib.hid (I_d.out.drawn hD)
  have I_e := Lib.hid (I_e.out.drawn hD)
  have I_r := Lib.hid (I_r.out.drawn hD)
  have HB := Lib.hid (below_drawn HB.out hD)
  clear hD
  clear I_r
  go_wp2_with fail
  with_reducible refine (rover_o _ l1 _ _ ((HF.out).below HB.out) rfl).mono ?_
  rintro e W11 ⟨v_r, rfl, hI, hB⟩
  have L_x := Lib.hid (L_x.out.below hB)
  have I_a := Lib.hid (I_a.out.below hB)
  have I_b := Lib.hid (I_b.out.below hB)
  have I_c := Lib.hid (I_c.out.below hB)
  have I_d := Lib.hid (I_d.out.below hB)
  have I_e := Lib.hid (I_e.out.below hB)
  have I_r := Lib.hid hI.inn
  clear hI
  have HB := Lib.hid (below_step HB.out hB)
  clear hB
  go_wp2_with fail
  with_reducible refine (same_o _ _ _ _ _ I_c.out.inn I_r.out rfl).mono ?_
  rintro e W12 ⟨rfl, hD⟩
  have L_x := Lib.hid (L_x.out.drawn hD)
  have I_a := Lib.hid (I_a.out.drawn hD)
  have I_b := Lib.hid (I_b.out.drawn hD)
  have I_c := Lib.hid (I_c.out.drawn hD)
  have I_d := Lib.hid (I_d.out.drawn hD)
  have I_e := Lib.hid (I_e.out.drawn hD)
  have I_r := Lib.hid (I_r.out.drawn hD)
  have HB := Lib.hid (below_drawn HB.out hD)
  clear hD
  clear I_r
  go_wp2_with fail
  with_reducible refine (rback_o _ l1 _ _ ((HF.out).below HB.out) rfl).mono ?_
  rintro e W13 ⟨v_r, rfl, hI, hB⟩
  have L_x := Lib.hid (L_x.out.below hB)
  have I_a := Lib.hid (I_a.out.below hB)
  have I_b := Lib.hid (I_b.out.below hB)
  have I_c := Lib.hid (I_c.out.below hB)
  have I_d := Lib.hid (I_d.out.below hB)
  have I_e := Lib.hid (I_e.out.below hB)
  have I_r := Lib.hid hI.inn
  clear hI
  have HB := Lib.hid (below_step HB.out hB)
  clear hB
  go_wp2_with fail
  with_reducible refine (same_o _ _ _ _ _ I_d.out I_r.out rfl).mono ?_
  rintro e W14 ⟨rfl, hD⟩
  have L_x := Lib.hid (L_x.out.drawn hD)
  have I_a := Lib.hid (I_a.out.drawn hD)
  have I_b := Lib.hid (I_b.out.drawn hD)
  have I_c := Lib.hid (I_c.out.drawn hD)
  have I_d := Lib.hid (I_d.out.drawn hD)
  have I_e := Lib.hid (I_e.out.drawn hD)
  have I_r := Lib.hid (I_r.out.drawn hD)
  have HB := Lib.hid (below_drawn HB.out hD)
  clear hD
  clear I_r
  go_wp2_with fail
  with_reducible refine (rTimes_o _ _ l1 l2 _ _ ((HF.out).below HB.out) ((HG.out).below HB.out) rfl).mono ?_
  rintro e W15 ⟨v_r, rfl, hI, hB⟩
  have L_x := Lib.hid (L_x.out.below hB)
  have I_a := Lib.hid (I_a.out.below hB)
  have I_b := Lib.hid (I_b.out.below hB)
  have I_c := Lib.hid (I_c.out.below hB)
  have I_d := Lib.hid (I_d.out.below hB)
  have I_e := Lib.hid (I_e.out.below hB)
  have I_r := Lib.hid hI.inn
  clear hI
  have HB := Lib.hid (below_step HB.out hB)
  clear hB
  go_wp2_with fail
  with_reducible refine (same_o _ _ _ _ _ I_e.out I_r.out rfl).mono ?_
  rintro e W16 ⟨rfl, hD⟩
  have L_x := Lib.hid (L_x.out.drawn hD)
  have I_a := Lib.hid (I_a.out.drawn hD)
  have I_b := Lib.hid (I_b.out.drawn hD)
  have I_c := Lib.hid (I_c.out.drawn hD)
  have I_d := Lib.hid (I_d.out.drawn hD)
  have I_e := Lib.hid (I_e.out.drawn hD)
  have I_r := Lib.hid (I_r.out.drawn hD)
  have HB := Lib.hid (below_drawn HB.out hD)
  clear hD
  clear I_r
  clear I_b I_d I_e
  go_wp2_with fail
  with_reducible refine (may_o _ l1 mb _ (L_x.out.inn Hl1.out) HM.out).mono ?_
  rintro e W17 ⟨rfl, hw⟩
  rw [hw]
  clear hw
  go_wp2_with fail
  with_reducible refine (rmay_o _ l1 mb _ ((HF.out).below HB.out) HM.out).mono ?_
  rintro e W18 ⟨rfl, hB⟩
  have L_x := Lib.hid (L_x.out.below hB)
  have I_a := Lib.hid (I_a.out.below hB)
  have I_c := Lib.hid (I_c.out.below hB)
  have HB := Lib.hid (below_step HB.out hB)
  clear hB
  go_wp2_with fail
  with_reducible refine (root_o _ rt _ HRT.out).mono ?_
  rintro e W19 ⟨rfl, hB⟩
  have L_x := Lib.hid (L_x.out.below hB)
  have I_a := Lib.hid (I_a.out.below hB)
  have I_c := Lib.hid (I_c.out.below hB)
  have HB := Lib.hid (below_step HB.out hB)
  clear hB
  go_wp2_with fail
  with_reducible refine (rroot_o _ rt _ HRT.out).mono ?_
  rintro e W20 ⟨rfl, hB⟩
  have L_x := Lib.hid (L_x.out.below hB)
  have I_a := Lib.hid (I_a.out.below hB)
  have I_c := Lib.hid (I_c.out.below hB)
  have HB := Lib.hid (below_step HB.out hB)
  clear hB
  go_wp2_with fail
  with_reducible refine (norm2_o _ _ _ l1 l2 nn (L_x.out.inn Hl1.out) ((HG.out).below HB.out) HN.out).mono ?_
  rintro e W21 ⟨rfl, hB⟩
  have L_x := Lib.hid (L_x.out.below hB)
  have I_a := Lib.hid (I_a.out.below hB)
  have I_c := Lib.hid (I_c.out.below hB)
  have HB := Lib.hid (below_step HB.out hB)
  clear hB
  go_wp2_with fail
  with_reducible refine (rnorm2_o _ _ _ l1 l2 nn ((HF.out).below HB.out) ((HG.out).below HB.out) HN.out).mono ?_
  rintro e W22 ⟨rfl, hB⟩
  have L_x := Lib.hid (L_x.out.below hB)
  have I_a := Lib.hid (I_a.out.below hB)
  have I_c := Lib.hid (I_c.out.below hB)
  have HB := Lib.hid (below_step HB.out hB)
  clear hB
  go_wp2_with fail
  with_reducible refine (overI_o _ _ _ w _ I_a.out HB.out U_a.out).mono ?_
  rintro e W23 ⟨rfl, hB, hK⟩
  have I_c := Lib.hid (I_c.out.kept hK (fun j hj e => by have h1 := I_c.out.lo j hj; have h2 := D_ac.out j e; omega))
  have L_x := Lib.hid (L_x.out.kept hK (fun e => by have h1 := I_a.out.lo _ e; have h2 := D_xa.out; omega))
  have HB := Lib.hid hB
  clear hB hK
  go_wp2_with fail
  with_reducible refine (overI_o _ _ _ w _ I_c.out HB.out U_c.out).mono ?_
  rintro e W24 ⟨rfl, hB, hK⟩
  have L_x := Lib.hid (L_x.out.kept hK (fun e => by have h1 := I_c.out.lo _ e; have h2 := D_xc.out; omega))
  have HB := Lib.hid hB
  clear hB hK
  clear I_a I_c
  go_wp2_with fail
  with_reducible refine (keptInts_any _ _ _ _ _ l1 _ L_x.out.C.1 (Kd.C_below HC1.out HB.out) rfl rfl hc1.out Hl1.out).mono ?_
  rintro e W25 ⟨rfl, hD⟩
  have L_x := Lib.hid (L_x.out.drawn hD)
  have HB := Lib.hid (below_drawn HB.out hD)
  clear hD
  go_wp2_with fail
  with_reducible refine (awake_any _).mono ?_
  rintro e W26 ⟨rfl, hB⟩
  have L_x := Lib.hid (L_x.out.below hB)
  have HB := Lib.hid (below_step HB.out hB)
  clear hB
  go_wp2
  go_ret
  exact ⟨rfl, HB.out⟩
end Go.Proofs.Ytebicdjnhogniaa.T
