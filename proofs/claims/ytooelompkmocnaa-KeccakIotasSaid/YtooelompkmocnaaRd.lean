/- A round, and all rounds: the program's and the reference's (printed by gen_rd.py). -/
import Derived.Test.YtooelompkmocnaaIo2
import Derived.Test.YtooelompkmocnaaRho
namespace Go.Proofs.Ytooelompkmocnaa.T
open Go.RowKit
open Go.Proofs.YtooelompkmocnaaW.PrintWords Go.Proofs.YtooelompkmocnaaW.PrintLast
set_option linter.unusedVariables false
set_option linter.unusedSimpArgs false
def stepS (a : L) : L := chiS (piS (rhoS (thetaS a)))
def roundS (a : L) (r : Int) : L := iotaS (stepS a) r
def permS (a : L) : Nat → L
  | 0 => a
  | i + 1 => roundS (permS a i) (i : Int)
set_option maxHeartbeats 1000000 in
set_option maxRecDepth 20000 in
theorem round_any (a : L) (r : Int) (w : World) :
    Calls Try.prog 19 #[.agg (av 25 a), .int .i64 r] w fun e w' => e = .returned (.agg (av 25 (roundS a r))) ∧ Below w.heap.size w w' := by
  obtain ⟨i23, hi23, hz23⟩ := info_zero zero23
  have I23 := Lib.hid hi23
  have Z23 := Lib.hid hz23
  clear hi23 hz23
  go_enter Try.func19, Try.ntmps19
  go_wp2_with (first
      | ((with_reducible refine gate_dst (N := 2) rfl ?_); refine box_av rfl 23 _ rfl 25 a rfl ?_; intro g1 w1 hA hB hg hl; have A1 := Lib.hid hA; have B1 := Lib.hid hB; have G1 := Lib.hid hg; clear hA hB hg)
      | ((with_reducible refine gate_dst (N := 4) rfl ?_); refine alloc_av rfl 23 rfl 25 i23 _ I23.out Z23.out rfl ?_; intro g2 w2 hA hB hg hl2; have A1 := Lib.hid (A1.out.below hB); have A2 := Lib.hid hA; have B2 := Lib.hid (below_step B1.out hB); have G2 := Lib.hid hg; have D12 := Lib.hid (show g2 ≠ g1 by have := hl; omega); have G2w := Lib.hid (show w.heap.size ≤ g2 by have := G1.out; have := hl; omega); clear hA hB hg)
      | ((with_reducible refine gate_dst (N := 5) rfl ?_); refine load_av rfl 23 _ rfl g1 25 23 a _ rfl A1.out Try.underlying23 rfl size23 ?_)
      | (go_at_call 9; (with_reducible refine (theta_any _ _).mono ?_); rintro e w7 ⟨rfl, hB⟩; have A1 := Lib.hid (A1.out.below hB); have A2 := Lib.hid (A2.out.below hB); have B2 := Lib.hid (below_step B2.out hB); clear hB)
      | (go_at_call 11; (with_reducible refine (rho_any _ _).mono ?_); rintro e w7 ⟨rfl, hB⟩; have A1 := Lib.hid (A1.out.below hB); have A2 := Lib.hid (A2.out.below hB); have B2 := Lib.hid (below_step B2.out hB); clear hB)
      | (go_at_call 13; (with_reducible refine (pi_any _ _).mono ?_); rintro e w7 ⟨rfl, hB⟩; have A1 := Lib.hid (A1.out.below hB); have A2 := Lib.hid (A2.out.below hB); have B2 := Lib.hid (below_step B2.out hB); clear hB)
      | (go_at_call 15; (with_reducible refine (chi_any _ _).mono ?_); rintro e w7 ⟨rfl, hB⟩; have A1 := Lib.hid (A1.out.below hB); have A2 := Lib.hid (A2.out.below hB); have B2 := Lib.hid (below_step B2.out hB); clear hB)
      | (go_at_call 17; (with_reducible refine (iota_any _ _ _).mono ?_); rintro e w7 ⟨rfl, hB⟩; have A1 := Lib.hid (A1.out.below hB); have A2 := Lib.hid (A2.out.below hB); have B2 := Lib.hid (below_step B2.out hB); clear hB)
      | (refine store_av rfl rfl 23 (.tmp 4) (.tmp 11) rfl g2 25 23 _ (roundS a r) rfl rfl A2.out size23 ?_; intro w6 hA hO hB; have A2 := Lib.hid hA; have B2 := Lib.hid (hB _ _ B2.out G2w.out); clear hA hO hB))
  exact bodyPost_ret (v := .agg (av 25 (roundS a r))) (results_cell_row (p := 4) (ty := 23) rfl _ _ g2 23 _ (0, 0) _ rfl A2.out Try.underlying23 rfl (by rw [av_size]; exact size23)) rfl ⟨rfl, B2.out⟩
set_option maxHeartbeats 1000000 in
set_option maxRecDepth 20000 in
theorem rround_any (a : L) (r : Int) (w : World) :
    Calls Try.prog 20 #[.agg (av 25 a), .int .i64 r] w fun e w' => e = .returned (.agg (av 25 (roundS a r))) ∧ Below w.heap.size w w' := by
  obtain ⟨i23, hi23, hz23⟩ := info_zero zero23
  have I23 := Lib.hid hi23
  have Z23 := Lib.hid hz23
  clear hi23 hz23
  go_enter Try.func20, Try.ntmps20
  go_wp2_with (first
      | ((with_reducible refine gate_dst (N := 2) rfl ?_); refine box_av rfl 23 _ rfl 25 a rfl ?_; intro g1 w1 hA hB hg hl; have A1 := Lib.hid hA; have B1 := Lib.hid hB; have G1 := Lib.hid hg; clear hA hB hg)
      | ((with_reducible refine gate_dst (N := 4) rfl ?_); refine alloc_av rfl 23 rfl 25 i23 _ I23.out Z23.out rfl ?_; intro g2 w2 hA hB hg hl2; have A1 := Lib.hid (A1.out.below hB); have A2 := Lib.hid hA; have B2 := Lib.hid (below_step B1.out hB); have G2 := Lib.hid hg; have D12 := Lib.hid (show g2 ≠ g1 by have := hl; omega); have G2w := Lib.hid (show w.heap.size ≤ g2 by have := G1.out; have := hl; omega); clear hA hB hg)
      | ((with_reducible refine gate_dst (N := 5) rfl ?_); refine load_av rfl 23 _ rfl g1 25 23 a _ rfl A1.out Try.underlying23 rfl size23 ?_)
      | (go_at_call 10; (with_reducible refine (rtheta_any _ _).mono ?_); rintro e w7 ⟨rfl, hB⟩; have A1 := Lib.hid (A1.out.below hB); have A2 := Lib.hid (A2.out.below hB); have B2 := Lib.hid (below_step B2.out hB); clear hB)
      | (go_at_call 12; (with_reducible refine (rrho_any _ _).mono ?_); rintro e w7 ⟨rfl, hB⟩; have A1 := Lib.hid (A1.out.below hB); have A2 := Lib.hid (A2.out.below hB); have B2 := Lib.hid (below_step B2.out hB); clear hB)
      | (go_at_call 14; (with_reducible refine (rpi_any _ _).mono ?_); rintro e w7 ⟨rfl, hB⟩; have A1 := Lib.hid (A1.out.below hB); have A2 := Lib.hid (A2.out.below hB); have B2 := Lib.hid (below_step B2.out hB); clear hB)
      | (go_at_call 16; (with_reducible refine (rchi_any _ _).mono ?_); rintro e w7 ⟨rfl, hB⟩; have A1 := Lib.hid (A1.out.below hB); have A2 := Lib.hid (A2.out.below hB); have B2 := Lib.hid (below_step B2.out hB); clear hB)
      | (go_at_call 18; (with_reducible refine (riota_any _ _ _).mono ?_); rintro e w7 ⟨rfl, hB⟩; have A1 := Lib.hid (A1.out.below hB); have A2 := Lib.hid (A2.out.below hB); have B2 := Lib.hid (below_step B2.out hB); clear hB)
      | (refine store_av rfl rfl 23 (.tmp 4) (.tmp 11) rfl g2 25 23 _ (roundS a r) rfl rfl A2.out size23 ?_; intro w6 hA hO hB; have A2 := Lib.hid hA; have B2 := Lib.hid (hB _ _ B2.out G2w.out); clear hA hO hB))
  exact bodyPost_ret (v := .agg (av 25 (roundS a r))) (results_cell_row (p := 4) (ty := 23) rfl _ _ g2 23 _ (0, 0) _ rfl A2.out Try.underlying23 rfl (by rw [av_size]; exact size23)) rfl ⟨rfl, B2.out⟩
def PRel (a : L) (w : World) (g1 g2 : Nat) (v : Value) (w' : World) : Prop := ∃ i : Nat, i ≤ 24 ∧ v = .int .i64 i ∧ AR w' g1 23 25 (permS a i) ∧ AR w' g2 23 25 (fun _ => 0) ∧ Below w.heap.size w w'
set_option maxHeartbeats 1000000 in
set_option maxRecDepth 20000 in
theorem perm_any (a : L) (w : World) :
    Calls Try.prog 22 #[.agg (av 25 a)] w fun e w' => e = .returned (.agg (av 25 (permS a 24))) ∧ Below w.heap.size w w' := by
  obtain ⟨i23, hi23, hz23⟩ := info_zero zero23
  have I23 := Lib.hid hi23
  have Z23 := Lib.hid hz23
  clear hi23 hz23
  go_enter Try.func22, Try.ntmps22
  go_wp2_with (first
      | ((with_reducible refine gate_dst (N := 1) rfl ?_); refine box_av rfl 23 _ rfl 25 a rfl ?_; intro g1 w1 hA hB hg hl; have A1 := Lib.hid hA; have B1 := Lib.hid hB; have G1 := Lib.hid hg; clear hA hB hg)
      | ((with_reducible refine gate_dst (N := 2) rfl ?_); refine alloc_av rfl 23 rfl 25 i23 _ I23.out Z23.out rfl ?_; intro g2 w2 hA hB hg hl2; have A1 := Lib.hid (A1.out.below hB); have A2 := Lib.hid hA; have B2 := Lib.hid (below_step B1.out hB); have G2 := Lib.hid hg; have D12 := Lib.hid (show g2 ≠ g1 by have := hl; omega); have G2w := Lib.hid (show w.heap.size ≤ g2 by have := G1.out; have := hl; omega); clear hA hB hg))
  clear hl hl2
  have G1w : Hid (w.heap.size ≤ g1) := G1
  go_loopw [4] (fun v w' => PRel a w g1 g2 v w') (fun v _ => (24 - intOf v).toNat)
  case atStart => exact ⟨0, by omega, rfl, A1.out, A2.out, B2.out⟩
  case round =>
    clear A1 A2 B1 B2
    obtain ⟨i, hi, rfl, hA1, hA2, hB⟩ := hrel
    by_cases hlt : i < 24
    · have hpd : decide ((i : Int) < 24) = true := decide_eq_true (by omega)
      obtain ⟨b, hb⟩ : ∃ b, permS a i = b := ⟨_, rfl⟩
      have E : Hid (permS a (i + 1) = roundS b (i : Int)) := Lib.hid (by rw [← hb]; rfl)
      rw [hb] at hA1
      have A1 := Lib.hid hA1
      have A2 := Lib.hid hA2
      have B2 := Lib.hid hB
      clear hA1 hA2 hB hb
      go_wp2_with (first
      | ((with_reducible refine gate_dst (N := 7) rfl ?_); refine load_av rfl 23 _ rfl g1 25 23 b _ rfl A1.out Try.underlying23 rfl size23 ?_)
      | (go_at_call 19; (with_reducible refine (round_any _ _ _).mono ?_); rintro e w7 ⟨rfl, hB⟩; have A1 := Lib.hid (A1.out.below hB); have A2 := Lib.hid (A2.out.below hB); have B2 := Lib.hid (below_step B2.out hB); clear hB)
      | (refine store_av rfl rfl 23 (.tmp 1) (.tmp 9) rfl g1 25 23 _ (roundS b (i : Int)) rfl rfl A1.out size23 ?_; intro w6 hA hO hB; have A1 := Lib.hid hA; have A2 := Lib.hid (hO _ _ _ _ A2.out D12.out); have B2 := Lib.hid (hB _ _ B2.out G1w.out); clear hA hO hB))
      go_roundw
      case rel =>
        have hrel : PRel a w g1 g2 (.int .i64 ((i : Int) + 1)) w6 := ⟨i + 1, by omega, by go_num, by rw [E.out]; exact A1.out, A2.out, B2.out⟩
        first
        | exact hrel
        | (repeat apply Exists.intro
           exact ⟨hrel, rfl⟩)
      case measure => simp [intOf]; omega
    · have e : i = 24 := by omega
      subst e
      have A1 := Lib.hid hA1
      have A2 := Lib.hid hA2
      have B2 := Lib.hid hB
      clear hA1 hA2 hB hi hlt
      go_wp2_with (first
      | ((with_reducible refine gate_dst (N := 11) rfl ?_); refine load_av rfl 23 _ rfl g1 25 23 (permS a 24) _ rfl A1.out Try.underlying23 rfl size23 ?_)
      | (refine store_av rfl rfl 23 (.tmp 2) (.tmp 11) rfl g2 25 23 _ (permS a 24) rfl rfl A2.out size23 ?_; intro w6 hA hO hB; have A2 := Lib.hid hA; have B2 := Lib.hid (hB _ _ B2.out G2w.out); clear hA hO hB))
      exact bodyPost_ret (v := .agg (av 25 (permS a 24))) (results_cell_row (p := 2) (ty := 23) rfl _ _ g2 23 _ (0, 0) _ rfl A2.out Try.underlying23 rfl (by rw [av_size]; exact size23)) rfl ⟨rfl, B2.out⟩
set_option maxHeartbeats 1000000 in
set_option maxRecDepth 20000 in
theorem with_any (a : L) (w : World) :
    Calls Try.prog 30 #[.agg (av 25 a), .agg (av 24 words)] w fun e w' => e = .returned (.agg (av 25 (permS a 24))) ∧ Below w.heap.size w w' := by
  obtain ⟨i23, hi23, hz23⟩ := info_zero zero23
  have I23 := Lib.hid hi23
  have Z23 := Lib.hid hz23
  clear hi23 hz23
  go_enter Try.func30, Try.ntmps30
  go_wp2_with (first
      | ((with_reducible refine gate_dst (N := 2) rfl ?_); refine box_av rfl 23 _ rfl 25 a rfl ?_; intro g1 w1 hA hB hg hl; have A1 := Lib.hid hA; have B1 := Lib.hid hB; have G1 := Lib.hid hg; clear hA hB hg)
      | ((with_reducible refine gate_dst (N := 3) rfl ?_); refine box_av rfl 35 _ rfl 24 words rfl ?_; intro g3 w3 hA hB hg hl3; have A1 := Lib.hid (A1.out.below hB); have A3 := Lib.hid hA; have B3 := Lib.hid (below_step B1.out hB); have G3 := Lib.hid hg; have D31 := Lib.hid (show g3 ≠ g1 by have := hl; omega); clear hA hB hg)
      | ((with_reducible refine gate_dst (N := 4) rfl ?_); refine alloc_av rfl 23 rfl 25 i23 _ I23.out Z23.out rfl ?_; intro g2 w2 hA hB hg hl2; have A1 := Lib.hid (A1.out.below hB); have A3 := Lib.hid (A3.out.below hB); have A2 := Lib.hid hA; have B2 := Lib.hid (below_step B3.out hB); have G2 := Lib.hid hg; have D12 := Lib.hid (show g2 ≠ g1 by have := hl; have := G3.out; omega); have G2w := Lib.hid (show w.heap.size ≤ g2 by have := G1.out; have := hl; have := G3.out; omega); clear hA hB hg))
  clear hl hl2 hl3
  have G1w : Hid (w.heap.size ≤ g1) := G1
  go_loopw [5] (fun v w' => PRel a w g1 g2 v w' ∧ AR w' g3 35 24 words) (fun v _ => (24 - intOf v).toNat)
  case atStart => exact ⟨⟨0, by omega, rfl, A1.out, A2.out, B2.out⟩, A3.out⟩
  case round =>
    clear A1 A2 A3 B1 B2 B3
    obtain ⟨⟨i, hi, rfl, hA1, hA2, hB⟩, hA3⟩ := hrel
    by_cases hlt : i < 24
    · have hpd : decide ((i : Int) < 24) = true := decide_eq_true (by omega)
      have hii : (i : Int) < 24 := by omega
      obtain ⟨b, hb⟩ : ∃ b, permS a i = b := ⟨_, rfl⟩
      have E0 : permS a (i + 1) = roundS b (i : Int) := by rw [← hb]; rfl
      rw [hb] at hA1
      obtain ⟨c, hc⟩ : ∃ c, stepS b = c := ⟨_, rfl⟩
      obtain ⟨v0, hv0⟩ : ∃ v, c 0 = v := ⟨_, rfl⟩
      obtain ⟨x0, hx0⟩ : ∃ v, words i = v := ⟨_, rfl⟩
      obtain ⟨z0, hz0⟩ : ∃ v, v0 ^^^ x0 = v := ⟨_, rfl⟩
      have hxor := xor_bv v0 x0
      rw [hz0] at hxor
      have E := Lib.hid (show upd c 0 z0 = permS a (i + 1) by rw [E0]; unfold roundS; rw [hc, ← iotaS_in c i hlt, hv0, hx0, hz0])
      have C := Lib.hid hc
      have V0 := Lib.hid hv0
      have X0 := Lib.hid hx0
      have A1 := Lib.hid hA1
      have A2 := Lib.hid hA2
      have A3 := Lib.hid hA3
      have B2 := Lib.hid hB
      clear hA1 hA2 hA3 hB hb hc hv0 hx0 hz0 E0
      go_wp2_with (first
      | ((with_reducible refine gate_dst (N := 10) rfl ?_); refine load_av rfl 23 _ rfl g1 25 23 b _ rfl A1.out Try.underlying23 rfl size23 ?_)
      | (go_at_call 10; (with_reducible refine (rtheta_any _ _).mono ?_); rintro e w7 ⟨rfl, hB⟩; have A1 := Lib.hid (A1.out.below hB); have A2 := Lib.hid (A2.out.below hB); have A3 := Lib.hid (A3.out.below hB); have B2 := Lib.hid (below_step B2.out hB); clear hB)
      | (go_at_call 12; (with_reducible refine (rrho_any _ _).mono ?_); rintro e w7 ⟨rfl, hB⟩; have A1 := Lib.hid (A1.out.below hB); have A2 := Lib.hid (A2.out.below hB); have A3 := Lib.hid (A3.out.below hB); have B2 := Lib.hid (below_step B2.out hB); clear hB)
      | (go_at_call 14; (with_reducible refine (rpi_any _ _).mono ?_); rintro e w7 ⟨rfl, hB⟩; have A1 := Lib.hid (A1.out.below hB); have A2 := Lib.hid (A2.out.below hB); have A3 := Lib.hid (A3.out.below hB); have B2 := Lib.hid (below_step B2.out hB); clear hB)
      | (go_at_call 16; (with_reducible refine (rchi_any _ _).mono ?_); rintro e w7 ⟨rfl, hB⟩; have A1 := Lib.hid (A1.out.below hB); have A2 := Lib.hid (A2.out.below hB); have A3 := Lib.hid (A3.out.below hB); have B2 := Lib.hid (below_step B2.out hB); clear hB)
      | (refine store_av rfl rfl 23 (.tmp 2) (.tmp 14) rfl g1 25 23 _ (stepS b) rfl rfl A1.out size23 ?_; intro w6 hA hO hB; have A1 := Lib.hid hA; have A2 := Lib.hid (hO _ _ _ _ A2.out D12.out); have A3 := Lib.hid (hO _ _ _ _ A3.out D31.out); have B2 := Lib.hid (hB _ _ B2.out G1w.out); clear hA hO hB; have hA1 := A1.out; rw [C.out] at hA1; have A1 := Lib.hid hA1; clear hA1; have hc1 := A1.out.cell 0 (by omega); rw [V0.out] at hc1; have hc3 := A3.out.cell i hlt; rw [X0.out] at hc3; have hf := A1.out.frozen 0))
      refine wp_region_still_tail 7 (by kernel_rfl) (by kernel_rfl) ?_
      simp only [List.take_succ_cons, List.take_zero, List.drop_succ_cons, List.drop_zero]
      repeat still_step
      refine wpStill_nil ?_
      change wpList _ _ _ _ _ w6.drew
      have A1 := Lib.hid (show AR w6.drew g1 23 25 c from A1.out)
      have A2 := Lib.hid (show AR w6.drew g2 23 25 (fun _ => 0) from A2.out)
      have A3 := Lib.hid (show AR w6.drew g3 35 24 words from A3.out)
      have B2 := Lib.hid (show Below w.heap.size w w6.drew from B2.out.drew)
      have hf := A1.out.frozen 0
      have hc := A1.out.cell 0 (by omega)
      generalize w6.drew = w5 at A1 A2 A3 B2 hf hc ⊢
      go_wp2
      go_roundw
      case rel =>
        have hrel : PRel a w g1 g2 (.int .i64 ((i : Int) + 1)) (w5.setCell ⟨g1, 0, none⟩ (.int .u64 (z0.toNat : Int))) ∧ AR (w5.setCell ⟨g1, 0, none⟩ (.int .u64 (z0.toNat : Int))) g3 35 24 words := ⟨⟨i + 1, by omega, by go_num, by rw [← E.out]; exact A1.out.set 0 z0, A2.out.other D12.out _ _, B2.out.setCell G1w.out _⟩, A3.out.other D31.out _ _⟩
        first
        | exact hrel
        | (repeat apply Exists.intro
           exact ⟨hrel, rfl⟩)
      case measure => simp [intOf]; omega
    · have e : i = 24 := by omega
      subst e
      have A1 := Lib.hid hA1
      have A2 := Lib.hid hA2
      have B2 := Lib.hid hB
      clear hA1 hA2 hA3 hB hi hlt
      go_wp2_with (first
      | ((with_reducible refine gate_dst (N := 22) rfl ?_); refine load_av rfl 23 _ rfl g1 25 23 (permS a 24) _ rfl A1.out Try.underlying23 rfl size23 ?_)
      | (refine store_av rfl rfl 23 (.tmp 4) (.tmp 22) rfl g2 25 23 _ (permS a 24) rfl rfl A2.out size23 ?_; intro w6 hA hO hB; have A2 := Lib.hid hA; have B2 := Lib.hid (hB _ _ B2.out G2w.out); clear hA hO hB))
      exact bodyPost_ret (v := .agg (av 25 (permS a 24))) (results_cell_row (p := 4) (ty := 23) rfl _ _ g2 23 _ (0, 0) _ rfl A2.out Try.underlying23 rfl (by rw [av_size]; exact size23)) rfl ⟨rfl, B2.out⟩
set_option maxHeartbeats 1000000 in
set_option maxRecDepth 20000 in
theorem rperm_any (a : L) (w : World) :
    Calls Try.prog 23 #[.agg (av 25 a)] w fun e w' => e = .returned (.agg (av 25 (permS a 24))) ∧ Below w.heap.size w w' := by
  obtain ⟨i23, hi23, hz23⟩ := info_zero zero23
  have I23 := Lib.hid hi23
  have Z23 := Lib.hid hz23
  clear hi23 hz23
  go_enter Try.func23, Try.ntmps23
  go_wp2_with (first
      | ((with_reducible refine gate_dst (N := 1) rfl ?_); refine box_av rfl 23 _ rfl 25 a rfl ?_; intro g1 w1 hA hB hg hl; have A1 := Lib.hid hA; have B1 := Lib.hid hB; have G1 := Lib.hid hg; clear hA hB hg)
      | ((with_reducible refine gate_dst (N := 2) rfl ?_); refine alloc_av rfl 23 rfl 25 i23 _ I23.out Z23.out rfl ?_; intro g2 w2 hA hB hg hl2; have A1 := Lib.hid (A1.out.below hB); have A2 := Lib.hid hA; have B2 := Lib.hid (below_step B1.out hB); have G2 := Lib.hid hg; have D12 := Lib.hid (show g2 ≠ g1 by have := hl; omega); have G2w := Lib.hid (show w.heap.size ≤ g2 by have := G1.out; have := hl; omega); clear hA hB hg))
  have HS : Hid (AR w2.drew g1 23 25 a ∧ AR w2.drew g2 23 25 (fun _ => 0) ∧ Below w.heap.size w w2.drew) := Lib.hid ⟨A1.out, A2.out, B2.out.drew⟩
  clear A1 A2 B1 B2 hl hl2
  refine start_ (n := 4) (S := fun w' => AR w' g1 23 25 a ∧ AR w' g2 23 25 (fun _ => 0) ∧ Below w.heap.size w w') (ds := [3]) #[false, false, false, false] (by kernel_rfl) rfl rfl HS.out (fun hHeld => ?_); refine with_tab tab23_1 (fun HT_ => ?_)
  refine take_ (i := 0) (N := some 3) (v := ?_) (a' := ?_) #[true, false, false, false] rfl rfl (take_of HT_.out (by kernel_rfl)) (fun _ _ _ h => h) (Or.inl ⟨by rfl, ?_⟩) hHeld ?_ ?_
  rotate_left
  · intro w' s0
    refine (exec_load_av rfl rfl s0.1 Try.underlying23 rfl size23).trans ?_
    with_reducible rfl
  rotate_left
  · simp only [Act.put, List.setIfInBounds_toArray, List.set_cons_zero, List.set_cons_succ, i64_w, i32_w]
    rfl
  refine one_ (i := 1) (N := some 4) #[true, true, false, false] rfl rfl (one_of HT_.out (by kernel_rfl)) (by decide) (fun K hK => ?_)
  refine goes_ Try.func29 (by kernel_rfl) rfl #[] (by rfl) rfl rfl (by (try simp only [List.map_toArray, List.map_cons, List.map_nil]); first | done | rfl) ?_
  with_reducible refine (words_any _).mono ?_
  rintro e w3 ⟨rfl, hB⟩
  refine ⟨_, rfl, ?_⟩
  refine hK.out _ _ ⟨hHeld.1.below hB, hHeld.2.1.below hB, below_step hHeld.2.2 hB⟩ (fun hHeld => ?_)
  clear hK K
  refine norm_ (a' := ?_) ?_ ?_
  rotate_left
  · show Act.put _ (some 4) _ = _
    simp only [Act.put, List.setIfInBounds_toArray, List.set_cons_zero, List.set_cons_succ, i64_w, i32_w]
    rfl
  refine one_ (i := 2) (N := some 5) #[true, true, true, false] rfl rfl (one_of HT_.out (by kernel_rfl)) (by decide) (fun K hK => ?_)
  refine goes_ Try.func30 (by kernel_rfl) rfl #[.agg (av 25 a), .agg (av 24 words)] (by rfl) rfl rfl (by (try simp only [List.map_toArray, List.map_cons, List.map_nil]); first | done | rfl) ?_
  with_reducible refine (with_any _ _).mono ?_
  rintro e w4 ⟨rfl, hB⟩
  refine ⟨_, rfl, ?_⟩
  refine hK.out _ _ ⟨hHeld.1.below hB, hHeld.2.1.below hB, below_step hHeld.2.2 hB⟩ (fun hHeld => ?_)
  clear hK K
  refine norm_ (a' := ?_) ?_ ?_
  rotate_left
  · show Act.put _ (some 5) _ = _
    simp only [Act.put, List.setIfInBounds_toArray, List.set_cons_zero, List.set_cons_succ, i64_w, i32_w]
    rfl
  refine last_ (i := 3) (N := none) #[true, true, true, true] rfl rfl (one_of HT_.out (by kernel_rfl)) (by decide) (fun K hK => ?_)
  refine skip_ (w1 := ?_) (by rfl) rfl (by refine (exec_store_av (g := g2) (n := 25) (T := 23) (f := fun _ => 0) (f' := permS a 24) rfl rfl rfl hHeld.2.1 size23).trans ?_; rfl) ?_
  refine hK.out _ _ ?_
  clear hK K
  refine done_ (done_of HT_.out (by kernel_rfl)) ?_
  have A2 := Lib.hid (setRow_AR (f' := permS a 24) hHeld.2.1)
  have B2 := Lib.hid (below_setRow hHeld.2.2 G2w.out (av 25 (permS a 24)))
  go_wp2
  exact bodyPost_ret (v := .agg (av 25 (permS a 24))) (results_cell_row (p := 2) (ty := 23) rfl _ _ g2 23 _ (0, 0) _ rfl A2.out Try.underlying23 rfl (by rw [av_size]; exact size23)) rfl ⟨rfl, B2.out⟩
end Go.Proofs.Ytooelompkmocnaa.T
