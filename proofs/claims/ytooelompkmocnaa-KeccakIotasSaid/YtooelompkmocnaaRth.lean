/- The reference's Theta: its walk (printed by gen_rth.py). -/
import Derived.Test.YtooelompkmocnaaAt
namespace Go.Proofs.Ytooelompkmocnaa.T
open Go.RowKit
set_option linter.unusedVariables false
set_option linter.unusedSimpArgs false
def th3 (a : L) (i : Nat) : L := fill (fun j => decide (j < i)) (thetaS a) (fun _ => 0)
theorem th3_succ (a : L) (i j : Nat) : upd (th3 a i) i (thetaS a i) j = th3 a (i + 1) j :=
  fill_upd _ _ _ _ i (j + 1) (fun m _ => by rw [← Bool.decide_or]; apply decide_eq_decide.2; omega) j (by omega)
def RThRel (a : L) (w : World) (g1 g2 g3 g5 : Nat) (x : Value) (w' : World) : Prop :=
  ∃ i : Nat, i ≤ 25 ∧ x = .int .i64 i ∧ AR w' g1 23 25 a ∧ AR w' g2 23 25 (fun _ => 0) ∧ AR w' g3 33 5 (csum a 25) ∧ AR w' g5 23 25 (th3 a i) ∧ Below w.heap.size w w'
set_option maxHeartbeats 1000000 in
set_option maxRecDepth 20000 in
theorem rtheta_any (a : L) (w : World) :
    Calls Try.prog 10 #[.agg (av 25 a)] w fun e w' => e = .returned (.agg (av 25 (thetaS a))) ∧ Below w.heap.size w w' := by
  obtain ⟨i23, hi23, hz23⟩ := info_zero zero23
  have I23 := Lib.hid hi23
  have Z23 := Lib.hid hz23
  clear hi23 hz23
  obtain ⟨i33, hi33, hz33⟩ := info_zero zero33
  have I33 := Lib.hid hi33
  have Z33 := Lib.hid hz33
  clear hi33 hz33
  go_enter Try.func10, Try.ntmps10
  go_wp2_with (first
    | ((with_reducible refine gate_dst (N := 1) rfl ?_); refine box_av rfl 23 _ rfl 25 a rfl ?_; intro g1 w1 hA hB hg hl; have A1 := Lib.hid hA; have B1 := Lib.hid hB; have G1 := Lib.hid hg; clear hA hB hg)
    | ((with_reducible refine gate_dst (N := 2) rfl ?_); refine alloc_av rfl 23 rfl 25 i23 _ I23.out Z23.out rfl ?_; intro g2 w2 hA hB hg hl2; have A1 := Lib.hid (A1.out.below hB); have A2 := Lib.hid hA; have B2 := Lib.hid (below_step B1.out hB); have G2 := Lib.hid hg; clear hA hB hg)
    | ((with_reducible refine gate_dst (N := 3) rfl ?_); refine alloc_av rfl 33 rfl 5 i33 _ I33.out Z33.out rfl ?_; intro g3 w3 hA hB hg hl3; have A1 := Lib.hid (A1.out.below hB); have A2 := Lib.hid (A2.out.below hB); have A3 := Lib.hid hA; have B3 := Lib.hid (below_step B2.out hB); have G3 := Lib.hid hg; clear hA hB hg))
  have D13 : Hid (g1 ≠ g3) := by show g1 ≠ g3; have := G2.out; have := G3.out; omega
  have D23 : Hid (g2 ≠ g3) := by show g2 ≠ g3; have := G3.out; omega
  have G3w : Hid (w.heap.size ≤ g3) := by show w.heap.size ≤ g3; have := G1.out; have := G2.out; have := G3.out; omega
  have G2w : Hid (w.heap.size ≤ g2) := by show w.heap.size ≤ g2; have := G1.out; have := G2.out; omega
  have HL : Hid (g1 < w3.heap.size ∧ g2 < w3.heap.size ∧ g3 < w3.heap.size) := by show _ ∧ _; have := G2.out; have := G3.out; omega
  clear hl hl2 hl3
  go_loopw [4] (fun x w' => ThRel a w g1 g2 g3 x w' ∧ w3.heap.size ≤ w'.heap.size) (fun x _ => (25 - intOf x).toNat)
  case atStart => exact ⟨⟨0, by omega, rfl, A1.out, A2.out, A3.out, B3.out⟩, Nat.le_refl _⟩
  case round =>
    clear A1 A2 A3 B1 B2 B3
    obtain ⟨⟨i, hi, rfl, hA1, hA2, hA3, hB⟩, hsz⟩ := hrel
    by_cases hlt : i < 25
    · have hx := hA1.cell i hlt
      have hc := hA3.cell (i % 5) (by omega)
      have hf := hA3.frozen (i % 5)
      obtain ⟨m, hm⟩ : ∃ m, i % 5 = m := ⟨_, rfl⟩
      have mi : (m : Int) < 5 := by omega
      have p1 : (i : Int).tmod 5 = (m : Int) := by rw [Int.tmod_eq_emod_of_nonneg (by omega)]; omega
      have p2 : (i : Int) % 5 = (m : Int) := by omega
      obtain ⟨c0, hc0⟩ : ∃ c0, csum a i (i % 5) = c0 := ⟨_, rfl⟩
      obtain ⟨x0, hx0⟩ : ∃ c0, a i = c0 := ⟨_, rfl⟩
      obtain ⟨z0, hz0⟩ : ∃ z, c0 ^^^ x0 = z := ⟨_, rfl⟩
      have hxor := xor_bv c0 x0
      rw [hz0] at hxor
      rw [hc0, hm] at hc
      rw [hx0] at hx
      rw [hm] at hf
      have A1 := Lib.hid hA1
      have A2 := Lib.hid hA2
      have A3 := Lib.hid hA3
      have B := Lib.hid hB
      have S := Lib.hid hsz
      have E := Lib.hid (show csum a (i + 1) = upd (csum a i) m z0 by rw [← hz0, ← hc0, ← hx0, ← hm]; rfl)
      clear hA1 hA2 hA3 hB hc0 hx0 hz0 hsz hm
      go_wp2_with fail
      refine wp_region_still_tail 11 (by kernel_rfl) (by kernel_rfl) ?_
      simp only [List.take_succ_cons, List.take_zero, List.drop_succ_cons, List.drop_zero]
      repeat still_step
      refine wpStill_nil ?_
      change wpList _ _ _ _ _ wr.drew
      have A1 := Lib.hid (show AR wr.drew g1 23 25 a from A1.out)
      have A2 := Lib.hid (show AR wr.drew g2 23 25 (fun _ => 0) from A2.out)
      have A3 := Lib.hid (show AR wr.drew g3 33 5 (csum a i) from A3.out)
      have B := Lib.hid (show Below w.heap.size w wr.drew from B.out.drew)
      have S := Lib.hid (show w3.heap.size ≤ wr.drew.heap.size from S.out)
      have hf := A3.out.frozen m
      have hc := A3.out.cell m (by omega)
      generalize wr.drew = w5 at A1 A2 A3 B S hf hc ⊢
      go_wp2
      go_roundw
      case rel =>
        have hrel : ThRel a w g1 g2 g3 (.int .i64 ((i : Int) + 1)) (w5.setCell ⟨g3, m, none⟩ (.int .u64 (z0.toNat : Int))) ∧ w3.heap.size ≤ (w5.setCell ⟨g3, m, none⟩ (.int .u64 (z0.toNat : Int))).heap.size := ⟨⟨i + 1, by omega, by go_num, A1.out.other D13.out _ _, A2.out.other D23.out _ _, by rw [E.out]; exact A3.out.set _ z0, B.out.setCell G3w.out _⟩, by have := S.out; simpa using this⟩
        first
        | exact hrel
        | (repeat apply Exists.intro
           exact ⟨hrel, rfl⟩)
      case measure => simp [intOf]; omega
    · have e : i = 25 := by omega
      subst e
      have A1 := Lib.hid hA1
      have A2 := Lib.hid hA2
      have A3 := Lib.hid hA3
      have B := Lib.hid hB
      have S := Lib.hid hsz
      clear hA1 hA2 hA3 hB hi hlt hsz
      go_wp2_with (first
    | ((with_reducible refine gate_dst (N := 5) rfl ?_); refine alloc_av rfl 23 rfl 25 i23 _ I23.out Z23.out rfl ?_; intro g5 w5 hA hB hg hl5; have A1 := Lib.hid (A1.out.below hB); have A2 := Lib.hid (A2.out.below hB); have A3 := Lib.hid (A3.out.below hB); have A5 := Lib.hid hA; have B5 := Lib.hid (below_step B.out hB); have G5 := Lib.hid hg; clear hA hB hg))
      have D15 : Hid (g1 ≠ g5) := by show g1 ≠ g5; have := G5.out; have := S.out; have := HL.out; omega
      have D25 : Hid (g2 ≠ g5) := by show g2 ≠ g5; have := G5.out; have := S.out; have := HL.out; omega
      have D35 : Hid (g3 ≠ g5) := by show g3 ≠ g5; have := G5.out; have := S.out; have := HL.out; omega
      have G5w : Hid (w.heap.size ≤ g5) := by show w.heap.size ≤ g5; have := G5.out; have := B.out.size; omega
      clear hl5
      go_loopw [6] (fun x w' => RThRel a w g1 g2 g3 g5 x w') (fun x _ => (25 - intOf x).toNat)
      case atStart => exact ⟨0, by omega, rfl, A1.out, A2.out, A3.out, A5.out.ext (fun j hj => by simp [th3, fill]), B5.out⟩
      case round =>
        clear A1 A2 A3 A5 B B5
        obtain ⟨i, hi, rfl, hA1, hA2, hA3, hA5, hB⟩ := hrel
        by_cases hlt : i < 25
        · have hc := hA1.cell i hlt
          have hf := hA5.frozen i
          have hc5 := hA5.cell i hlt
          obtain ⟨m4, hm4⟩ : ∃ m, (i % 5 + 4) % 5 = m := ⟨_, rfl⟩
          obtain ⟨m1, hm1⟩ : ∃ m, (i % 5 + 1) % 5 = m := ⟨_, rfl⟩
          have m4b : m4 < 5 := by omega
          have m1b : m1 < 5 := by omega
          have m4i : (m4 : Int) < 5 := by omega
          have m1i : (m1 : Int) < 5 := by omega
          have p4 : (IntKind.i64.wrap ((i : Int) + 4)).tmod 5 = (m4 : Int) := by rw [IntWalk.i64_in _ (by omega), Int.tmod_eq_emod_of_nonneg (by omega)]; omega
          have p1 : (IntKind.i64.wrap ((i : Int) + 1)).tmod 5 = (m1 : Int) := by rw [IntWalk.i64_in _ (by omega), Int.tmod_eq_emod_of_nonneg (by omega)]; omega
          have hc4 := hA3.cell m4 m4b
          have hc1 := hA3.cell m1 m1b
          obtain ⟨x0, hx0⟩ : ∃ c0, a i = c0 := ⟨_, rfl⟩
          obtain ⟨y4, hy4⟩ : ∃ c0, csum a 25 m4 = c0 := ⟨_, rfl⟩
          obtain ⟨y1, hy1⟩ : ∃ c0, csum a 25 m1 = c0 := ⟨_, rfl⟩
          obtain ⟨r1, hr1⟩ : ∃ c0, y1.rotateLeft 1 = c0 := ⟨_, rfl⟩
          obtain ⟨u1, hu1⟩ : ∃ c0, x0 ^^^ y4 = c0 := ⟨_, rfl⟩
          obtain ⟨z0, hz0⟩ : ∃ c0, u1 ^^^ r1 = c0 := ⟨_, rfl⟩
          rw [hx0] at hc
          rw [hy4] at hc4
          rw [hy1] at hc1
          have hxor1 := xor_bv x0 y4
          rw [hu1] at hxor1
          have hxor2 := xor_bv u1 r1
          rw [hz0] at hxor2
          have hz : thetaS a i = z0 := by rw [← hz0, ← hu1, ← hr1, ← hy4, ← hy1, ← hx0, ← hm4, ← hm1, BitVec.xor_assoc]; rfl
          have E := Lib.hid (show ∀ j, upd (th3 a i) i z0 j = th3 a (i + 1) j from fun j => by rw [← hz]; exact th3_succ a i j)
          have hrot := fun W => rot1 y1 W
          rw [hr1] at hrot
          have ROT := Lib.hid hrot
          have A1 := Lib.hid hA1
          have A2 := Lib.hid hA2
          have A3 := Lib.hid hA3
          have A5 := Lib.hid hA5
          have B := Lib.hid hB
          clear hA1 hA2 hA3 hA5 hB hx0 hy4 hy1 hr1 hu1 hz0 hrot hm4 hm1 hz
          go_wp2_with fail
          refine wp_region_still_tail 18 (by kernel_rfl) (by kernel_rfl) ?_
          simp only [List.take_succ_cons, List.take_zero, List.drop_succ_cons, List.drop_zero]
          repeat still_step
          still_call (ROT.out _)
          repeat still_step
          refine wpStill_nil ?_
          change wpList _ _ _ _ _ wr.drew
          have A1 := Lib.hid (show AR wr.drew g1 23 25 a from A1.out)
          have A2 := Lib.hid (show AR wr.drew g2 23 25 (fun _ => 0) from A2.out)
          have A3 := Lib.hid (show AR wr.drew g3 33 5 (csum a 25) from A3.out)
          have A5 := Lib.hid (show AR wr.drew g5 23 25 (th3 a i) from A5.out)
          have B := Lib.hid (show Below w.heap.size w wr.drew from B.out.drew)
          have hf := A5.out.frozen i
          have hc := A5.out.cell i hlt
          generalize wr.drew = w5 at A1 A2 A3 A5 B hf hc ⊢
          go_wp2
          go_roundw
          case rel =>
            have hrel : RThRel a w g1 g2 g3 g5 (.int .i64 ((i : Int) + 1)) (w5.setCell ⟨g5, i, none⟩ (.int .u64 (z0.toNat : Int))) := ⟨i + 1, by omega, by go_num, A1.out.other D15.out _ _, A2.out.other D25.out _ _, A3.out.other D35.out _ _, (A5.out.set i z0).ext (fun j _ => E.out j), B.out.setCell G5w.out _⟩
            first
            | exact hrel
            | (repeat apply Exists.intro
               exact ⟨hrel, rfl⟩)
          case measure => simp [intOf]; omega
        · have e : i = 25 := by omega
          subst e
          have A5 := Lib.hid (hA5.ext (f' := thetaS a) (fun j hj => by simp [th3, fill, hj]))
          have A2 := Lib.hid hA2
          have B := Lib.hid hB
          clear hA1 hA2 hA3 hA5 hB hi hlt
          go_wp2_with (first
    | ((with_reducible refine gate_dst (N := 44) rfl ?_); refine load_av rfl 23 _ rfl g5 25 23 (thetaS a) _ rfl A5.out Try.underlying23 rfl size23 ?_)
    | (refine store_av rfl rfl 23 (.tmp 2) (.tmp 44) rfl g2 25 23 _ (thetaS a) rfl rfl A2.out size23 ?_; intro w6 hA hO hB; have A2 := Lib.hid hA; have B := Lib.hid (hB _ _ B.out G2w.out); clear hA hO hB))
          exact bodyPost_ret (v := .agg (av 25 (thetaS a))) (results_cell_row (p := 2) (ty := 23) rfl _ _ g2 23 _ (0, 0) _ rfl A2.out Try.underlying23 rfl (by rw [av_size]; exact size23)) rfl ⟨rfl, B.out⟩
end Go.Proofs.Ytooelompkmocnaa.T
