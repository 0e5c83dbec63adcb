/- Chi: its walks, the program's and the reference's (printed by gen_pc.py). -/
import Derived.Test.YtooelompkmocnaaPi
namespace Go.Proofs.Ytooelompkmocnaa.T
open Go.RowKit
set_option linter.unusedVariables false
set_option linter.unusedSimpArgs false
set_option maxHeartbeats 2000000 in
set_option maxRecDepth 20000 in
theorem chi_any (a : L) (w : World) :
    Calls Try.prog 15 #[.agg (av 25 a)] w fun e w' => e = .returned (.agg (av 25 (chiS a))) ∧ Below w.heap.size w w' := by
  obtain ⟨i23, hi23, hz23⟩ := info_zero zero23
  have I23 := Lib.hid hi23
  have Z23 := Lib.hid hz23
  clear hi23 hz23
  go_enter Try.func15, Try.ntmps15
  go_wp2_with (first
    | ((with_reducible refine gate_dst (N := 1) rfl ?_); refine box_av rfl 23 _ rfl 25 a rfl ?_; intro g1 w1 hA hB hg hl; have A1 := Lib.hid hA; have B1 := Lib.hid hB; have G1 := Lib.hid hg; clear hA hB hg)
    | ((with_reducible refine gate_dst (N := 2) rfl ?_); refine alloc_av rfl 23 rfl 25 i23 _ I23.out Z23.out rfl ?_; intro g2 w2 hA hB hg hl2; have A1 := Lib.hid (A1.out.below hB); have A2 := Lib.hid hA; have B2 := Lib.hid (below_step B1.out hB); have G2 := Lib.hid hg; clear hA hB hg)
    | ((with_reducible refine gate_dst (N := 6) rfl ?_); refine load_av rfl 23 _ rfl g1 25 23 a _ rfl A1.out Try.underlying23 rfl size23 ?_)
    | ((with_reducible refine gate_dst (N := 3) rfl ?_); refine alloc_av rfl 23 rfl 25 i23 _ I23.out Z23.out rfl ?_; intro g3 w3 hA hB hg hl3; have A1 := Lib.hid (A1.out.below hB); have A2 := Lib.hid (A2.out.below hB); have A3 := Lib.hid hA; have B3 := Lib.hid (below_step B2.out hB); have G3 := Lib.hid hg; clear hA hB hg)
    | ((with_reducible refine gate_store (t := 23) (p := 3) rfl ?_); have D13 := Lib.hid (show g1 ≠ g3 by have := G2.out; have := G3.out; omega); have D23 := Lib.hid (show g2 ≠ g3 by have := G3.out; omega); have G3w := Lib.hid (show w.heap.size ≤ g3 by have := G1.out; have := G2.out; have := G3.out; omega); refine store_av rfl rfl 23 (.tmp 3) (.tmp 6) rfl g3 25 23 _ a rfl rfl A3.out size23 ?_; intro w4 hA hO hB; have A1 := Lib.hid (hO _ _ _ _ A1.out D13.out); have A2 := Lib.hid (hO _ _ _ _ A2.out D23.out); have A3 := Lib.hid hA; have B3 := Lib.hid (hB _ _ B3.out G3w.out); clear hA hO hB))
  have G2w : Hid (w.heap.size ≤ g2) := by show w.heap.size ≤ g2; have := G1.out; have := G2.out; omega
  clear hl hl2 hl3
  go_loopw [7] (fun v w' => ORel dnP (chiS a) a a w g1 g2 g3 v w') (fun v _ => (5 - intOf v).toNat)
  case atStart => exact ⟨0, by omega, rfl, A1.out, A2.out, A3.out.ext (fun j _ => dnP_start (chiS a) a j), B3.out⟩
  case round =>
    clear A1 A2 A3 B1 B2 B3
    obtain ⟨p, hp, rfl, hF⟩ := hrel
    by_cases hlt : p < 5
    · have HF := Lib.hid hF
      clear hF
      have hpd : decide ((p : Int) < 5) = true := decide_eq_true (by omega)
      go_wp2
      go_loopw [10] (fun v w' => IRel dnP (chiS a) a a w g1 g2 g3 p v w') (fun v _ => (5 - intOf v).toNat)
      case atStart => exact ⟨0, by omega, rfl, HF.out⟩
      case round =>
        clear HF
        obtain ⟨q, hq, rfl, hA1, hA2, hA3, hB⟩ := hrel
        by_cases hltq : q < 5
        · obtain ⟨k, hk⟩ : ∃ k, 5 * p + q = k := ⟨_, rfl⟩
          have kb : k < 25 := by omega
          have ki : (k : Int) < 25 := by omega
          have hkm : k % 5 = q := by omega
          have hkd : k / 5 = p := by omega
          have ex : ((q : Nat) : Int) % 5 = q := by omega
          have ey : ((p : Nat) : Int) % 5 = p := by omega
          have hc3 := hA3.cell k kb
          have hf := hA3.frozen k
          obtain ⟨s, hs⟩ : ∃ s, (q + 1) % 5 + 5 * p = s := ⟨_, rfl⟩
          obtain ⟨r, hr⟩ : ∃ s, (q + 2) % 5 + 5 * p = s := ⟨_, rfl⟩
          have sb : s < 25 := by omega
          have si : (s : Int) < 25 := by omega
          have rb : r < 25 := by omega
          have ri : (r : Int) < 25 := by omega
          have hcs := hA1.cell s sb
          have hcr := hA1.cell r rb
          have hck := hA1.cell k kb
          obtain ⟨v0, hv0⟩ : ∃ v, a k = v := ⟨_, rfl⟩
          obtain ⟨v1, hv1⟩ : ∃ v, a s = v := ⟨_, rfl⟩
          obtain ⟨v2, hv2⟩ : ∃ v, a r = v := ⟨_, rfl⟩
          obtain ⟨n1, hn1⟩ : ∃ v, ~~~ v1 = v := ⟨_, rfl⟩
          obtain ⟨u1, hu1⟩ : ∃ v, n1 &&& v2 = v := ⟨_, rfl⟩
          obtain ⟨z0, hz0⟩ : ∃ v, v0 ^^^ u1 = v := ⟨_, rfl⟩
          rw [hv1] at hcs
          rw [hv2] at hcr
          rw [hv0] at hck
          have hold : fill (dnP p q) (chiS a) a k = v0 := by rw [← hv0]; unfold fill dnP; rw [if_neg (by simp; omega)]
          rw [hold] at hc3
          have hnot := not_bv v1
          rw [hn1] at hnot
          have hand := and_bv n1 v2
          rw [hu1] at hand
          have hxor := xor_bv v0 u1
          rw [hz0] at hxor
          have hnew : (chiS a) k = z0 := by show a k ^^^ (~~~ a _ &&& a _) = z0; rw [hkm, hkd, hs, hr, hv0, hv1, hv2, hn1, hu1, hz0]
          have W1 : IntKind.i64.wrap ((q : Int) + 1) = (q : Int) + 1 := IntWalk.i64_in _ (by omega)
          have W2 : IntKind.i64.wrap ((q : Int) + 2) = (q : Int) + 2 := IntWalk.i64_in _ (by omega)
          have HK := Lib.hid (fun W => at_any (q : Int) (p : Int) (k : Int) W (by omega) (by omega) (by omega) (by omega) (by rw [ex, ey]; omega))
          have HS := Lib.hid (fun W => at_any ((q : Int) + 1) (p : Int) (s : Int) W (by omega) (by omega) (by omega) (by omega) (by rw [ey]; omega))
          have HR := Lib.hid (fun W => at_any ((q : Int) + 2) (p : Int) (r : Int) W (by omega) (by omega) (by omega) (by omega) (by rw [ey]; omega))
          have E := Lib.hid (show ∀ j, j < 25 → upd (fill (dnP p q) (chiS a) a) k z0 j = fill (dnP p (q + 1)) (chiS a) a j from fun j hj => by rw [← hnew]; exact dnP_step (chiS a) a p q k (by omega) j hj)
          have A1 := Lib.hid hA1
          have A2 := Lib.hid hA2
          have A3 := Lib.hid hA3
          have B := Lib.hid hB
          clear hA1 hA2 hA3 hB hk hkm hkd ex ey hs hv0 hnew hr hv1 hv2 hn1 hu1 hz0 hold
          go_wp2_with fail
          refine wp_region_still_tail 21 (by kernel_rfl) (by kernel_rfl) ?_
          simp only [List.take_succ_cons, List.take_zero, List.drop_succ_cons, List.drop_zero]
          repeat still_step
          still_call (HK.out _)
          repeat still_step
          still_call (HS.out _)
          repeat still_step
          still_call (HR.out _)
          repeat still_step
          refine wpStill_nil ?_
          change wpList _ _ _ _ _ wr.drew
          have A1 := Lib.hid (show AR wr.drew g1 23 25 a from A1.out)
          have A2 := Lib.hid (show AR wr.drew g2 23 25 (fun _ => 0) from A2.out)
          have A3 := Lib.hid (show AR wr.drew g3 23 25 (fill (dnP p q) (chiS a) a) from A3.out)
          have B := Lib.hid (show Below w.heap.size w wr.drew from B.out.drew)
          have hf := A3.out.frozen k
          have hc := A3.out.cell k kb
          generalize wr.drew = w5 at A1 A2 A3 B hf hc ⊢
          go_wp2
          go_roundw
          case rel =>
            have hrel : IRel dnP (chiS a) a a w g1 g2 g3 p (.int .i64 ((q : Int) + 1)) (w5.setCell ⟨g3, k, none⟩ (.int .u64 (z0.toNat : Int))) := ⟨q + 1, by omega, by go_num, A1.out.other D13.out _ _, A2.out.other D23.out _ _, (A3.out.set k z0).ext (fun j hj => E.out j hj), B.out.setCell G3w.out _⟩
            first
            | exact hrel
            | (repeat apply Exists.intro
               exact ⟨hrel, rfl⟩)
          case measure => simp [intOf]; omega
        · have e : q = 5 := by omega
          subst e
          have A1 := Lib.hid hA1
          have A2 := Lib.hid hA2
          have A3 := Lib.hid (hA3.ext (fun j hj => dnP_next (chiS a) a p j))
          have B := Lib.hid hB
          clear hA1 hA2 hA3 hB hq hltq
          go_wp2
          go_roundw
          case rel =>
            have hrel : ORel dnP (chiS a) a a w g1 g2 g3 (.int .i64 ((p : Int) + 1)) wr := ⟨p + 1, by omega, by go_num, A1.out, A2.out, A3.out, B.out⟩
            first
            | exact hrel
            | (repeat apply Exists.intro
               exact ⟨hrel, rfl⟩)
          case measure => simp [intOf]; omega
    · have e : p = 5 := by omega
      subst e
      obtain ⟨hA1, hA2, hA3, hB⟩ := hF
      have A3 := Lib.hid (hA3.ext (f' := (chiS a)) (fun j hj => dnP_end (chiS a) a j hj))
      have A2 := Lib.hid hA2
      have B := Lib.hid hB
      clear hA1 hA2 hA3 hB hp hlt
      go_wp2_with (first
    | ((with_reducible refine gate_dst (N := 36) rfl ?_); refine load_av rfl 23 _ rfl g3 25 23 (chiS a) _ rfl A3.out Try.underlying23 rfl size23 ?_)
    | (refine store_av rfl rfl 23 (.tmp 2) (.tmp 36) rfl g2 25 23 _ (chiS a) rfl rfl A2.out size23 ?_; intro w6 hA hO hB; have A2 := Lib.hid hA; have B := Lib.hid (hB _ _ B.out G2w.out); clear hA hO hB))
      exact bodyPost_ret (v := .agg (av 25 (chiS a))) (results_cell_row (p := 2) (ty := 23) rfl _ _ g2 23 _ (0, 0) _ rfl A2.out Try.underlying23 rfl (by rw [av_size]; exact size23)) rfl ⟨rfl, B.out⟩
set_option maxHeartbeats 2000000 in
set_option maxRecDepth 20000 in
theorem rchi_any (a : L) (w : World) :
    Calls Try.prog 16 #[.agg (av 25 a)] w fun e w' => e = .returned (.agg (av 25 (chiS a))) ∧ Below w.heap.size w w' := by
  obtain ⟨i23, hi23, hz23⟩ := info_zero zero23
  have I23 := Lib.hid hi23
  have Z23 := Lib.hid hz23
  clear hi23 hz23
  go_enter Try.func16, Try.ntmps16
  go_wp2_with (first
    | ((with_reducible refine gate_dst (N := 1) rfl ?_); refine box_av rfl 23 _ rfl 25 a rfl ?_; intro g1 w1 hA hB hg hl; have A1 := Lib.hid hA; have B1 := Lib.hid hB; have G1 := Lib.hid hg; clear hA hB hg)
    | ((with_reducible refine gate_dst (N := 2) rfl ?_); refine alloc_av rfl 23 rfl 25 i23 _ I23.out Z23.out rfl ?_; intro g2 w2 hA hB hg hl2; have A1 := Lib.hid (A1.out.below hB); have A2 := Lib.hid hA; have B2 := Lib.hid (below_step B1.out hB); have G2 := Lib.hid hg; clear hA hB hg)
    | ((with_reducible refine gate_dst (N := 3) rfl ?_); refine alloc_av rfl 23 rfl 25 i23 _ I23.out Z23.out rfl ?_; intro g3 w3 hA hB hg hl3; have A1 := Lib.hid (A1.out.below hB); have A2 := Lib.hid (A2.out.below hB); have A3 := Lib.hid hA; have B3 := Lib.hid (below_step B2.out hB); have G3 := Lib.hid hg; clear hA hB hg))
  have D13 : Hid (g1 ≠ g3) := by show g1 ≠ g3; have := G2.out; have := G3.out; omega
  have D23 : Hid (g2 ≠ g3) := by show g2 ≠ g3; have := G3.out; omega
  have G3w : Hid (w.heap.size ≤ g3) := by show w.heap.size ≤ g3; have := G1.out; have := G2.out; have := G3.out; omega
  have G2w : Hid (w.heap.size ≤ g2) := by show w.heap.size ≤ g2; have := G1.out; have := G2.out; omega
  clear hl hl2 hl3
  go_loopw [4] (fun v w' => ORel dnR (chiS a) (fun _ => 0) a w g1 g2 g3 v w') (fun v _ => (5 - intOf v).toNat)
  case atStart => exact ⟨0, by omega, rfl, A1.out, A2.out, A3.out.ext (fun j _ => dnR_start (chiS a) (fun _ => 0) j), B3.out⟩
  case round =>
    clear A1 A2 A3 B1 B2 B3
    obtain ⟨p, hp, rfl, hF⟩ := hrel
    by_cases hlt : p < 5
    · have HF := Lib.hid hF
      clear hF
      have hpd : decide ((p : Int) < 5) = true := decide_eq_true (by omega)
      go_wp2
      go_loopw [5] (fun v w' => IRel dnR (chiS a) (fun _ => 0) a w g1 g2 g3 p v w') (fun v _ => (5 - intOf v).toNat)
      case atStart => exact ⟨0, by omega, rfl, HF.out⟩
      case round =>
        clear HF
        obtain ⟨q, hq, rfl, hA1, hA2, hA3, hB⟩ := hrel
        by_cases hltq : q < 5
        · obtain ⟨k, hk⟩ : ∃ k, 5 * q + p = k := ⟨_, rfl⟩
          have kb : k < 25 := by omega
          have ki : (k : Int) < 25 := by omega
          have hkm : k % 5 = p := by omega
          have hkd : k / 5 = q := by omega
          have ex : ((p : Nat) : Int) % 5 = p := by omega
          have ey : ((q : Nat) : Int) % 5 = q := by omega
          have hc3 := hA3.cell k kb
          have hf := hA3.frozen k
          obtain ⟨s, hs⟩ : ∃ s, (p + 1) % 5 + 5 * q = s := ⟨_, rfl⟩
          obtain ⟨r, hr⟩ : ∃ s, (p + 2) % 5 + 5 * q = s := ⟨_, rfl⟩
          have sb : s < 25 := by omega
          have si : (s : Int) < 25 := by omega
          have rb : r < 25 := by omega
          have ri : (r : Int) < 25 := by omega
          have hcs := hA1.cell s sb
          have hcr := hA1.cell r rb
          have hck := hA1.cell k kb
          obtain ⟨v0, hv0⟩ : ∃ v, a k = v := ⟨_, rfl⟩
          obtain ⟨v1, hv1⟩ : ∃ v, a s = v := ⟨_, rfl⟩
          obtain ⟨v2, hv2⟩ : ∃ v, a r = v := ⟨_, rfl⟩
          obtain ⟨n1, hn1⟩ : ∃ v, ~~~ v1 = v := ⟨_, rfl⟩
          obtain ⟨u1, hu1⟩ : ∃ v, n1 &&& v2 = v := ⟨_, rfl⟩
          obtain ⟨z0, hz0⟩ : ∃ v, v0 ^^^ u1 = v := ⟨_, rfl⟩
          rw [hv1] at hcs
          rw [hv2] at hcr
          rw [hv0] at hck
          have hnot := not_bv v1
          rw [hn1] at hnot
          have hand := and_bv n1 v2
          rw [hu1] at hand
          have hxor := xor_bv v0 u1
          rw [hz0] at hxor
          have hnew : (chiS a) k = z0 := by show a k ^^^ (~~~ a _ &&& a _) = z0; rw [hkm, hkd, hs, hr, hv0, hv1, hv2, hn1, hu1, hz0]
          have W1 : IntKind.i64.wrap ((p : Int) + 1) = (p : Int) + 1 := IntWalk.i64_in _ (by omega)
          have W2 : IntKind.i64.wrap ((p : Int) + 2) = (p : Int) + 2 := IntWalk.i64_in _ (by omega)
          have HK := Lib.hid (fun W => rat_any (p : Int) (q : Int) (k : Int) W (by omega) (by omega) (by omega) (by omega) (by rw [ex, ey]; omega))
          have HS := Lib.hid (fun W => rat_any ((p : Int) + 1) (q : Int) (s : Int) W (by omega) (by omega) (by omega) (by omega) (by rw [ey]; omega))
          have HR := Lib.hid (fun W => rat_any ((p : Int) + 2) (q : Int) (r : Int) W (by omega) (by omega) (by omega) (by omega) (by rw [ey]; omega))
          have E := Lib.hid (show ∀ j, j < 25 → upd (fill (dnR p q) (chiS a) (fun _ => 0)) k z0 j = fill (dnR p (q + 1)) (chiS a) (fun _ => 0) j from fun j hj => by rw [← hnew]; exact dnR_step (chiS a) (fun _ => 0) p q k (by omega) (by omega) j hj)
          have A1 := Lib.hid hA1
          have A2 := Lib.hid hA2
          have A3 := Lib.hid hA3
          have B := Lib.hid hB
          clear hA1 hA2 hA3 hB hk hkm hkd ex ey hs hv0 hnew hr hv1 hv2 hn1 hu1 hz0 
          go_wp2_with fail
          refine wp_region_still_tail 24 (by kernel_rfl) (by kernel_rfl) ?_
          simp only [List.take_succ_cons, List.take_zero, List.drop_succ_cons, List.drop_zero]
          repeat still_step
          still_call (HK.out _)
          repeat still_step
          still_call (HK.out _)
          repeat still_step
          still_call (HS.out _)
          repeat still_step
          still_call (HR.out _)
          repeat still_step
          refine wpStill_nil ?_
          change wpList _ _ _ _ _ wr.drew
          have A1 := Lib.hid (show AR wr.drew g1 23 25 a from A1.out)
          have A2 := Lib.hid (show AR wr.drew g2 23 25 (fun _ => 0) from A2.out)
          have A3 := Lib.hid (show AR wr.drew g3 23 25 (fill (dnR p q) (chiS a) (fun _ => 0)) from A3.out)
          have B := Lib.hid (show Below w.heap.size w wr.drew from B.out.drew)
          have hf := A3.out.frozen k
          have hc := A3.out.cell k kb
          generalize wr.drew = w5 at A1 A2 A3 B hf hc ⊢
          go_wp2
          go_roundw
          case rel =>
            have hrel : IRel dnR (chiS a) (fun _ => 0) a w g1 g2 g3 p (.int .i64 ((q : Int) + 1)) (w5.setCell ⟨g3, k, none⟩ (.int .u64 (z0.toNat : Int))) := ⟨q + 1, by omega, by go_num, A1.out.other D13.out _ _, A2.out.other D23.out _ _, (A3.out.set k z0).ext (fun j hj => E.out j hj), B.out.setCell G3w.out _⟩
            first
            | exact hrel
            | (repeat apply Exists.intro
               exact ⟨hrel, rfl⟩)
          case measure => simp [intOf]; omega
        · have e : q = 5 := by omega
          subst e
          have A1 := Lib.hid hA1
          have A2 := Lib.hid hA2
          have A3 := Lib.hid (hA3.ext (fun j hj => dnR_next (chiS a) (fun _ => 0) p j hj))
          have B := Lib.hid hB
          clear hA1 hA2 hA3 hB hq hltq
          go_wp2
          go_roundw
          case rel =>
            have hrel : ORel dnR (chiS a) (fun _ => 0) a w g1 g2 g3 (.int .i64 ((p : Int) + 1)) wr := ⟨p + 1, by omega, by go_num, A1.out, A2.out, A3.out, B.out⟩
            first
            | exact hrel
            | (repeat apply Exists.intro
               exact ⟨hrel, rfl⟩)
          case measure => simp [intOf]; omega
    · have e : p = 5 := by omega
      subst e
      obtain ⟨hA1, hA2, hA3, hB⟩ := hF
      have A3 := Lib.hid (hA3.ext (f' := (chiS a)) (fun j hj => dnR_end (chiS a) (fun _ => 0) j hj))
      have A2 := Lib.hid hA2
      have B := Lib.hid hB
      clear hA1 hA2 hA3 hB hp hlt
      go_wp2_with (first
    | ((with_reducible refine gate_dst (N := 38) rfl ?_); refine load_av rfl 23 _ rfl g3 25 23 (chiS a) _ rfl A3.out Try.underlying23 rfl size23 ?_)
    | (refine store_av rfl rfl 23 (.tmp 2) (.tmp 38) rfl g2 25 23 _ (chiS a) rfl rfl A2.out size23 ?_; intro w6 hA hO hB; have A2 := Lib.hid hA; have B := Lib.hid (hB _ _ B.out G2w.out); clear hA hO hB))
      exact bodyPost_ret (v := .agg (av 25 (chiS a))) (results_cell_row (p := 2) (ty := 23) rfl _ _ g2 23 _ (0, 0) _ rfl A2.out Try.underlying23 rfl (by rw [av_size]; exact size23)) rfl ⟨rfl, B.out⟩
end Go.Proofs.Ytooelompkmocnaa.T
