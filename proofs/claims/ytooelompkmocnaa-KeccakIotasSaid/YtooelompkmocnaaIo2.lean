/- Iota of the reference; a round; all rounds (printed by gen_io2.py). -/
import Derived.Test.YtooelompkmocnaaEq
namespace Go.Proofs.Ytooelompkmocnaa.T
open Go.RowKit
open Go.Proofs.YtooelompkmocnaaW.PrintWords Go.Proofs.YtooelompkmocnaaW.PrintLast
set_option linter.unusedVariables false
set_option linter.unusedSimpArgs false
def T18_2 : Bool × List (List Nat × List Nat) := (true, [([], []), ([0], [0]), ([], []), ([], []), ([2, 3], [2, 3]), ([1, 4], [1, 4]), ([0, 1, 2, 3, 4, 5], []), ([6, 5, 2, 0, 1, 2, 3, 4, 5], [5, 6])])
theorem tab18_2 : rtab .any (opsOf Try.f18 2) = T18_2 := by kernel_rfl
def T23_1 : Bool × List (List Nat × List Nat) := (true, [([], []), ([], []), ([0, 1, 1], [0, 1]), ([2, 2, 0, 1, 2], [2])])
theorem tab23_1 : rtab .any (opsOf Try.f23 1) = T23_1 := by kernel_rfl
set_option maxHeartbeats 1000000 in
set_option maxRecDepth 20000 in
theorem riota_any (a : L) (r : Int) (w : World) :
    Calls Try.prog 18 #[.agg (av 25 a), .int .i64 r] w fun e w' => e = .returned (.agg (av 25 (iotaS a r))) ∧ Below w.heap.size w w' := by
  obtain ⟨i23, hi23, hz23⟩ := info_zero zero23
  have I23 := Lib.hid hi23
  have Z23 := Lib.hid hz23
  clear hi23 hz23
  by_cases hr : 0 ≤ r ∧ r < 24
  · obtain ⟨n, rfl⟩ := Int.eq_ofNat_of_zero_le hr.1
    have hn : n < 24 := by omega
    have hni : (n : Int) < 24 := by omega
    have t1 : decide ((n : Int) ≥ 0) = true := decide_eq_true (by omega)
    have t2 : decide ((n : Int) < 24) = true := decide_eq_true (by omega)
    have t3 : decide (0 ≤ (n : Int)) = true := decide_eq_true (by omega)
    obtain ⟨v0, hv0⟩ : ∃ v, a 0 = v := ⟨_, rfl⟩
    obtain ⟨x0, hx0⟩ : ∃ v, words n = v := ⟨_, rfl⟩
    obtain ⟨z0, hz0⟩ : ∃ v, v0 ^^^ x0 = v := ⟨_, rfl⟩
    have hxor := xor_bv v0 x0
    rw [hz0] at hxor
    have E := Lib.hid (show upd a 0 z0 = iotaS a (n : Int) by rw [← iotaS_in a n hn, hv0, hx0, hz0])
    have X0 := Lib.hid hx0
    have V0 := Lib.hid hv0
    clear hz0 hx0 hv0 hr
    go_enter Try.func18, Try.ntmps18
    go_wp2_with (first
      | ((with_reducible refine gate_dst (N := 2) rfl ?_); refine box_av rfl 23 _ rfl 25 a rfl ?_; intro g1 w1 hA hB hg hl; have A1 := Lib.hid hA; have B1 := Lib.hid hB; have G1 := Lib.hid hg; clear hA hB hg)
      | ((with_reducible refine gate_dst (N := 4) rfl ?_); refine alloc_av rfl 23 rfl 25 i23 _ I23.out Z23.out rfl ?_; intro g2 w2 hA hB hg hl2; have A1 := Lib.hid (A1.out.below hB); have A2 := Lib.hid hA; have B2 := Lib.hid (below_step B1.out hB); have G2 := Lib.hid hg; have D12 := Lib.hid (show g2 ≠ g1 by have := hl; omega); have G2w := Lib.hid (show w.heap.size ≤ g2 by have := G1.out; have := hl; omega); clear hA hB hg))
    have HS : Hid (AR w2.drew g1 23 25 a ∧ AR w2.drew g2 23 25 (fun _ => 0) ∧ Below w.heap.size w w2.drew) := Lib.hid ⟨A1.out, A2.out, B2.out.drew⟩
    clear A1 A2 B1 B2 hl hl2
    refine start_ (n := 8) (S := fun w' => AR w' g1 23 25 a ∧ AR w' g2 23 25 (fun _ => 0) ∧ Below w.heap.size w w') (ds := [7]) #[false, false, false, false, false, false, false, false] (by kernel_rfl) rfl rfl HS.out (fun hHeld => ?_); refine with_tab tab18_2 (fun HT_ => ?_)
    refine pure_ (i := 0) (N := some 11) (v := ?_) (a' := ?_) #[true, false, false, false, false, false, false, false] rfl rfl (any_of HT_.out (by kernel_rfl)) (fun _ _ _ h => h) (Or.inl ⟨by rfl, ?_⟩) ?_ ?_
    rotate_left
    · intro w'
      go_simp
      with_reducible rfl
    rotate_left
    · simp only [Act.put, List.setIfInBounds_toArray, List.set_cons_zero, List.set_cons_succ, i64_w, i32_w]
      rfl
    refine take_ (i := 1) (N := some 12) (v := ?_) (a' := ?_) #[true, true, false, false, false, false, false, false] rfl rfl (take_of HT_.out (by kernel_rfl)) (fun _ _ _ h => h) (Or.inl ⟨by rfl, ?_⟩) hHeld ?_ ?_
    rotate_left
    · intro w' s0
      have hc := s0.1.cell 0 (by omega)
      rw [V0.out] at hc
      go_simp
      with_reducible rfl
    rotate_left
    · simp only [Act.put, List.setIfInBounds_toArray, List.set_cons_zero, List.set_cons_succ, i64_w, i32_w]
      rfl
    refine pure_ (i := 3) (N := some 14) (v := ?_) (a' := ?_) #[true, true, false, true, false, false, false, false] rfl rfl (any_of HT_.out (by kernel_rfl)) (fun _ _ _ h => h) (Or.inl ⟨by rfl, ?_⟩) ?_ ?_
    rotate_left
    · intro w'
      go_simp
      with_reducible rfl
    rotate_left
    · simp only [Act.put, List.setIfInBounds_toArray, List.set_cons_zero, List.set_cons_succ, i64_w, i32_w]
      rfl
    refine one_ (i := 2) (N := some 13) #[true, true, true, true, false, false, false, false] rfl rfl (one_of HT_.out (by kernel_rfl)) (by decide) (fun K hK => ?_)
    refine goes_ Try.func29 (by kernel_rfl) rfl #[] (by rfl) rfl rfl (by (try simp only [List.map_toArray, List.map_cons, List.map_nil]); first | done | rfl) ?_
    with_reducible refine (words_any _).mono ?_
    rintro e w3 ⟨rfl, hB⟩
    refine ⟨_, rfl, ?_⟩
    refine hK.out _ _ ⟨hHeld.1.below hB, hHeld.2.1.below hB, below_step hHeld.2.2 hB⟩ (fun hHeld => ?_)
    clear hK K
    refine norm_ (a' := ?_) ?_ ?_
    rotate_left
    · show Act.put _ (some 13) _ = _
      simp only [Act.put, List.setIfInBounds_toArray, List.set_cons_zero, List.set_cons_succ, i64_w, i32_w]
      rfl
    refine pure_ (i := 4) (N := some 15) (v := ?_) (a' := ?_) #[true, true, true, true, true, false, false, false] rfl rfl (any_of HT_.out (by kernel_rfl)) (fun _ _ _ h => h) (Or.inl ⟨by rfl, ?_⟩) ?_ ?_
    rotate_left
    · intro w'
      refine (exec_index_av rfl rfl rfl rfl hn und35).trans ?_
      rw [X0.out]
    rotate_left
    · simp only [Act.put, List.setIfInBounds_toArray, List.set_cons_zero, List.set_cons_succ, i64_w, i32_w]
      rfl
    refine pure_ (i := 5) (N := some 16) (v := ?_) (a' := ?_) #[true, true, true, true, true, true, false, false] rfl rfl (any_of HT_.out (by kernel_rfl)) (fun _ _ _ h => h) (Or.inl ⟨by rfl, ?_⟩) ?_ ?_
    rotate_left
    · intro w'
      go_simp
      with_reducible rfl
    rotate_left
    · simp only [Act.put, List.setIfInBounds_toArray, List.set_cons_zero, List.set_cons_succ, i64_w, i32_w]
      rfl
    refine pure_ (i := 6) (N := some 17) (v := ?_) (a' := ?_) #[true, true, true, true, true, true, true, false] rfl rfl (any_of HT_.out (by kernel_rfl)) (fun _ _ _ h => h) (Or.inl ⟨by rfl, ?_⟩) ?_ ?_
    rotate_left
    · intro w'
      go_simp
      with_reducible rfl
    rotate_left
    · simp only [Act.put, List.setIfInBounds_toArray, List.set_cons_zero, List.set_cons_succ, i64_w, i32_w]
      rfl
    have hc := hHeld.1.cell 0 (by omega)
    have hf := hHeld.1.frozen 0
    refine last_ (i := 7) (N := none) #[true, true, true, true, true, true, true, true] rfl rfl (one_of HT_.out (by kernel_rfl)) (by decide) (fun K hK => ?_)
    refine skip_ (w1 := ?_) (by rfl) rfl (by go_simp; rfl) ?_
    refine hK.out _ _ ?_
    clear hK K
    refine done_ (done_of HT_.out (by kernel_rfl)) ?_
    have A1 := Lib.hid (show AR (w3.setCell ⟨g1, 0, none⟩ (.int .u64 (z0.toNat : Int))) g1 23 25 (iotaS a (n : Int)) by rw [← E.out]; exact hHeld.1.set 0 z0)
    have A2 := Lib.hid (hHeld.2.1.other D12.out 0 (.int .u64 (z0.toNat : Int)))
    have B := Lib.hid (show Below w.heap.size w (w3.setCell ⟨g1, 0, none⟩ (.int .u64 (z0.toNat : Int))) from hHeld.2.2.setCell G1.out _)
    generalize w3.setCell ⟨g1, 0, none⟩ (.int .u64 (z0.toNat : Int)) = w5 at A1 A2 B ⊢
    go_wp2_with (first
      | ((with_reducible refine gate_dst (N := 18) rfl ?_); refine load_av rfl 23 _ rfl g1 25 23 (iotaS a (n : Int)) _ rfl A1.out Try.underlying23 rfl size23 ?_)
      | (refine store_av rfl rfl 23 (.tmp 4) (.tmp 18) rfl g2 25 23 _ (iotaS a (n : Int)) rfl rfl A2.out size23 ?_; intro w6 hA hO hB; have A2 := Lib.hid hA; have B := Lib.hid (hB _ _ B.out G2w.out); clear hA hO hB))
    exact bodyPost_ret (v := .agg (av 25 (iotaS a n))) (results_cell_row (p := 4) (ty := 23) rfl _ _ g2 23 _ (0, 0) _ rfl A2.out Try.underlying23 rfl (by rw [av_size]; exact size23)) rfl ⟨rfl, B.out⟩
  · have E := Lib.hid (iotaS_out a r hr)
    have hE : Ending.returned (.agg (av 25 a)) = .returned (.agg (av 25 (iotaS a r))) := by rw [E.out]
    have HE := Lib.hid hE
    clear hE
    by_cases h0 : r < 0
    · have t1 : decide (r ≥ 0) = false := decide_eq_false (by omega)
      have t2 : decide (0 ≤ r) = false := decide_eq_false (by omega)
      go_enter Try.func18, Try.ntmps18
      go_wp2_with (first
      | ((with_reducible refine gate_dst (N := 2) rfl ?_); refine box_av rfl 23 _ rfl 25 a rfl ?_; intro g1 w1 hA hB hg hl; have A1 := Lib.hid hA; have B1 := Lib.hid hB; have G1 := Lib.hid hg; clear hA hB hg)
      | ((with_reducible refine gate_dst (N := 4) rfl ?_); refine alloc_av rfl 23 rfl 25 i23 _ I23.out Z23.out rfl ?_; intro g2 w2 hA hB hg hl2; have A1 := Lib.hid (A1.out.below hB); have A2 := Lib.hid hA; have B2 := Lib.hid (below_step B1.out hB); have G2 := Lib.hid hg; have D12 := Lib.hid (show g2 ≠ g1 by have := hl; omega); have G2w := Lib.hid (show w.heap.size ≤ g2 by have := G1.out; have := hl; omega); clear hA hB hg)
      | ((with_reducible refine gate_dst (N := 18) rfl ?_); refine load_av rfl 23 _ rfl g1 25 23 a _ rfl A1.out Try.underlying23 rfl size23 ?_)
      | (refine store_av rfl rfl 23 (.tmp 4) (.tmp 18) rfl g2 25 23 _ a rfl rfl A2.out size23 ?_; intro w6 hA hO hB; have A2 := Lib.hid hA; have B := Lib.hid (hB _ _ B2.out G2w.out); clear hA hO hB))
      exact bodyPost_ret (v := .agg (av 25 a)) (results_cell_row (p := 4) (ty := 23) rfl _ _ g2 23 _ (0, 0) _ rfl A2.out Try.underlying23 rfl (by rw [av_size]; exact size23)) rfl ⟨HE.out, B.out⟩
    · have t1 : decide (r ≥ 0) = true := decide_eq_true (by omega)
      have t2 : decide (0 ≤ r) = true := decide_eq_true (by omega)
      have t3 : decide (r < 24) = false := decide_eq_false (by omega)
      go_enter Try.func18, Try.ntmps18
      go_wp2_with (first
      | ((with_reducible refine gate_dst (N := 2) rfl ?_); refine box_av rfl 23 _ rfl 25 a rfl ?_; intro g1 w1 hA hB hg hl; have A1 := Lib.hid hA; have B1 := Lib.hid hB; have G1 := Lib.hid hg; clear hA hB hg)
      | ((with_reducible refine gate_dst (N := 4) rfl ?_); refine alloc_av rfl 23 rfl 25 i23 _ I23.out Z23.out rfl ?_; intro g2 w2 hA hB hg hl2; have A1 := Lib.hid (A1.out.below hB); have A2 := Lib.hid hA; have B2 := Lib.hid (below_step B1.out hB); have G2 := Lib.hid hg; have D12 := Lib.hid (show g2 ≠ g1 by have := hl; omega); have G2w := Lib.hid (show w.heap.size ≤ g2 by have := G1.out; have := hl; omega); clear hA hB hg)
      | ((with_reducible refine gate_dst (N := 18) rfl ?_); refine load_av rfl 23 _ rfl g1 25 23 a _ rfl A1.out Try.underlying23 rfl size23 ?_)
      | (refine store_av rfl rfl 23 (.tmp 4) (.tmp 18) rfl g2 25 23 _ a rfl rfl A2.out size23 ?_; intro w6 hA hO hB; have A2 := Lib.hid hA; have B := Lib.hid (hB _ _ B2.out G2w.out); clear hA hO hB))
      exact bodyPost_ret (v := .agg (av 25 a)) (results_cell_row (p := 4) (ty := 23) rfl _ _ g2 23 _ (0, 0) _ rfl A2.out Try.underlying23 rfl (by rw [av_size]; exact size23)) rfl ⟨HE.out, B.out⟩
end Go.Proofs.Ytooelompkmocnaa.T
