/- Iota: its walks, the program's and the reference's. -/
import Derived.Test.YtooelompkmocnaaWtab
namespace Go.Proofs.Ytooelompkmocnaa.T
open Go.RowKit
set_option linter.unusedVariables false
set_option linter.unusedSimpArgs false
set_option maxHeartbeats 1000000 in
set_option maxRecDepth 20000 in
theorem iota_any (a : L) (r : Int) (w : World) :
    Calls Try.prog 17 #[.agg (av 25 a), .int .i64 r] w fun e w' => e = .returned (.agg (av 25 (iotaS a r))) ∧ Below w.heap.size w w' := by
  obtain ⟨i23, hi23, hz23⟩ := info_zero zero23
  have I23 := Lib.hid hi23
  have Z23 := Lib.hid hz23
  obtain ⟨i35, hi35, hz35⟩ := info_zero zero35
  have I35 := Lib.hid hi35
  have Z35 := Lib.hid hz35
  clear hi23 hz23 hi35 hz35
  by_cases hr : 0 ≤ r ∧ r < 24
  · obtain ⟨n, rfl⟩ := Int.eq_ofNat_of_zero_le hr.1
    have hn : n < 24 := by omega
    have hni : (n : Int) < 24 := by omega
    have t1 : decide ((n : Int) < 0) = false := decide_eq_false (by omega)
    have t2 : decide ((n : Int) > 23) = false := decide_eq_false (by omega)
    have t3 : decide ((23 : Int) < (n : Int)) = false := decide_eq_false (by omega)
    obtain ⟨v0, hv0⟩ : ∃ v, a 0 = v := ⟨_, rfl⟩
    obtain ⟨x0, hx0⟩ : ∃ v, words n = v := ⟨_, rfl⟩
    obtain ⟨z0, hz0⟩ : ∃ v, v0 ^^^ x0 = v := ⟨_, rfl⟩
    have hxor := xor_bv v0 x0
    rw [hz0] at hxor
    have E := Lib.hid (show upd a 0 z0 = iotaS a (n : Int) by rw [← iotaS_in a n hn, hv0, hx0, hz0])
    have X0 := Lib.hid hx0
    have V0 := Lib.hid hv0
    clear hz0 hx0 hv0 hr
    go_enter Try.func17, Try.ntmps17
    go_wp2_with (first
      | ((with_reducible refine gate_dst (N := 2) rfl ?_); refine box_av rfl 23 _ rfl 25 a rfl ?_; intro g1 w1 hA hB hg hl; have A1 := Lib.hid hA; have B1 := Lib.hid hB; have G1 := Lib.hid hg; clear hA hB hg)
      | ((with_reducible refine gate_dst (N := 4) rfl ?_); refine alloc_av rfl 23 rfl 25 i23 _ I23.out Z23.out rfl ?_; intro g2 w2 hA hB hg hl2; have A1 := Lib.hid (A1.out.below hB); have A2 := Lib.hid hA; have B2 := Lib.hid (below_step B1.out hB); have G2 := Lib.hid hg; clear hA hB hg)
      | ((with_reducible refine gate_dst (N := 13) rfl ?_); refine build_av rfl 35 _ rfl 24 words (by rw [av_words]; kernel_rfl) ?_)
      | ((with_reducible refine gate_dst (N := 5) rfl ?_); refine alloc_av rfl 35 rfl 24 i35 _ I35.out Z35.out rfl ?_; intro g3 w3 hA hB hg hl3; have A1 := Lib.hid (A1.out.below hB); have A2 := Lib.hid (A2.out.below hB); have A3 := Lib.hid hA; have B3 := Lib.hid (below_step B2.out hB); have G3 := Lib.hid hg; clear hA hB hg)
      | ((with_reducible refine gate_store (t := 35) (p := 5) rfl ?_); have D13 := Lib.hid (show g1 ≠ g3 by have := G2.out; have := G3.out; omega); have D23 := Lib.hid (show g2 ≠ g3 by have := G3.out; omega); have D12 := Lib.hid (show g2 ≠ g1 by have := G2.out; omega); have G3w := Lib.hid (show w.heap.size ≤ g3 by have := G1.out; have := G2.out; have := G3.out; omega); have G2w := Lib.hid (show w.heap.size ≤ g2 by have := G1.out; have := G2.out; omega); refine store_av rfl rfl 35 (.tmp 5) (.tmp 13) rfl g3 24 35 _ words rfl rfl A3.out size35 ?_; intro w4 hA hO hB; have A1 := Lib.hid (hO _ _ _ _ A1.out D13.out); have A2 := Lib.hid (hO _ _ _ _ A2.out D23.out); have A3 := Lib.hid hA; have B3 := Lib.hid (hB _ _ B3.out G3w.out); clear hA hO hB; have hc1 := A1.out.cell 0 (by omega); rw [V0.out] at hc1; have hf1 := A1.out.frozen 0; have hc3 := A3.out.cell n hn; rw [X0.out] at hc3; clear hl hl2 hl3))
    refine wp_region_still_tail 7 (by kernel_rfl) (by kernel_rfl) ?_
    simp only [List.take_succ_cons, List.take_zero, List.drop_succ_cons, List.drop_zero]
    repeat still_step
    refine wpStill_nil ?_
    change wpList _ _ _ _ _ w4.drew
    have A1 := Lib.hid (show AR w4.drew g1 23 25 a from A1.out)
    have A2 := Lib.hid (show AR w4.drew g2 23 25 (fun _ => 0) from A2.out)
    have B := Lib.hid (show Below w.heap.size w w4.drew from B3.out.drew)
    have hf := A1.out.frozen 0
    have hc := A1.out.cell 0 (by omega)
    generalize w4.drew = w5 at A1 A2 B hf hc ⊢
    go_wp2_with (first
      | ((with_reducible refine gate_dst (N := 21) rfl ?_); have A1 := Lib.hid (show AR (w5.setCell ⟨g1, 0, none⟩ (.int .u64 (z0.toNat : Int))) g1 23 25 (iotaS a (n : Int)) by rw [← E.out]; exact A1.out.set 0 z0); have A2 := Lib.hid (A2.out.other D12.out 0 (.int .u64 (z0.toNat : Int))); have B := Lib.hid (show Below w.heap.size w (w5.setCell ⟨g1, 0, none⟩ (.int .u64 (z0.toNat : Int))) from B.out.setCell G1.out _); refine load_av rfl 23 _ rfl g1 25 23 (iotaS a (n : Int)) _ rfl A1.out Try.underlying23 rfl size23 ?_)
      | (refine store_av rfl rfl 23 (.tmp 4) (.tmp 21) rfl g2 25 23 _ (iotaS a (n : Int)) rfl rfl A2.out size23 ?_; intro w6 hA hO hB; have A2 := Lib.hid hA; have B := Lib.hid (hB _ _ B.out G2w.out); clear hA hO hB))
    exact bodyPost_ret (v := .agg (av 25 (iotaS a n))) (results_cell_row (p := 4) (ty := 23) rfl _ _ g2 23 _ (0, 0) _ rfl A2.out Try.underlying23 rfl (by rw [av_size]; exact size23)) rfl ⟨rfl, B.out⟩
  · have E := Lib.hid (iotaS_out a r hr)
    have hE : Ending.returned (.agg (av 25 a)) = .returned (.agg (av 25 (iotaS a r))) := by rw [E.out]
    have HE := Lib.hid hE
    clear hE
    by_cases h0 : r < 0
    · have t1 : decide (r < 0) = true := decide_eq_true h0
      go_enter Try.func17, Try.ntmps17
      go_wp2_with (first
        | ((with_reducible refine gate_dst (N := 2) rfl ?_); refine box_av rfl 23 _ rfl 25 a rfl ?_; intro g1 w1 hA hB hg hl; have A1 := Lib.hid hA; have B1 := Lib.hid hB; have G1 := Lib.hid hg; clear hA hB hg)
        | ((with_reducible refine gate_dst (N := 4) rfl ?_); refine alloc_av rfl 23 rfl 25 i23 _ I23.out Z23.out rfl ?_; intro g2 w2 hA hB hg hl2; have A1 := Lib.hid (A1.out.below hB); have A2 := Lib.hid hA; have B2 := Lib.hid (below_step B1.out hB); have G2 := Lib.hid hg; have G2w := Lib.hid (show w.heap.size ≤ g2 by have := G1.out; have := G2.out; omega); clear hA hB hg)
        | ((with_reducible refine gate_dst (N := 12) rfl ?_); refine load_av rfl 23 _ rfl g1 25 23 a _ rfl A1.out Try.underlying23 rfl size23 ?_)
        | (refine store_av rfl rfl 23 (.tmp 4) (.tmp 12) rfl g2 25 23 _ a rfl rfl A2.out size23 ?_; intro w6 hA hO hB; have A2 := Lib.hid hA; have B := Lib.hid (hB _ _ B2.out G2w.out); clear hA hO hB))
      exact bodyPost_ret (v := .agg (av 25 a)) (results_cell_row (p := 4) (ty := 23) rfl _ _ g2 23 _ (0, 0) _ rfl A2.out Try.underlying23 rfl (by rw [av_size]; exact size23)) rfl ⟨HE.out, B.out⟩
    · have t1 : decide (r < 0) = false := decide_eq_false h0
      have t2 : decide (r > 23) = true := decide_eq_true (by omega)
      have t3 : decide (23 < r) = true := decide_eq_true (by omega)
      go_enter Try.func17, Try.ntmps17
      go_wp2_with (first
        | ((with_reducible refine gate_dst (N := 2) rfl ?_); refine box_av rfl 23 _ rfl 25 a rfl ?_; intro g1 w1 hA hB hg hl; have A1 := Lib.hid hA; have B1 := Lib.hid hB; have G1 := Lib.hid hg; clear hA hB hg)
        | ((with_reducible refine gate_dst (N := 4) rfl ?_); refine alloc_av rfl 23 rfl 25 i23 _ I23.out Z23.out rfl ?_; intro g2 w2 hA hB hg hl2; have A1 := Lib.hid (A1.out.below hB); have A2 := Lib.hid hA; have B2 := Lib.hid (below_step B1.out hB); have G2 := Lib.hid hg; have G2w := Lib.hid (show w.heap.size ≤ g2 by have := G1.out; have := G2.out; omega); clear hA hB hg)
        | ((with_reducible refine gate_dst (N := 12) rfl ?_); refine load_av rfl 23 _ rfl g1 25 23 a _ rfl A1.out Try.underlying23 rfl size23 ?_)
        | (refine store_av rfl rfl 23 (.tmp 4) (.tmp 12) rfl g2 25 23 _ a rfl rfl A2.out size23 ?_; intro w6 hA hO hB; have A2 := Lib.hid hA; have B := Lib.hid (hB _ _ B2.out G2w.out); clear hA hO hB))
      exact bodyPost_ret (v := .agg (av 25 a)) (results_cell_row (p := 4) (ty := 23) rfl _ _ g2 23 _ (0, 0) _ rfl A2.out Try.underlying23 rfl (by rw [av_size]; exact size23)) rfl ⟨HE.out, B.out⟩
end Go.Proofs.Ytooelompkmocnaa.T
