/- Theta: its walk. -/
import Derived.Test.YtooelompkmocnaaFns
import Derived.IntWalk
namespace Go.Proofs.Ytooelompkmocnaa.T
open Go.RowKit
set_option linter.unusedVariables false
set_option linter.unusedSimpArgs false
theorem zero23 : (Try.prog.info? 23).map (fun i => i.zero) = some (some (.agg (av 25 fun _ => 0))) := by kernel_rfl
theorem zero33 : (Try.prog.info? 33).map (fun i => i.zero) = some (some (.agg (av 5 fun _ => 0))) := by kernel_rfl
theorem size23 : (Try.prog.info? 23).map (·.size) = some 25 := by kernel_rfl
theorem size33 : (Try.prog.info? 33).map (·.size) = some 5 := by kernel_rfl
theorem info_zero {P : Program} {T : TypeId} {z : Value} (h : (P.info? T).map (fun i => i.zero) = some (some z)) : ∃ i, P.info? T = some i ∧ i.zero = some z := by
  obtain ⟨i, hi, hz⟩ := Option.map_eq_some_iff.1 h
  exact ⟨i, hi, hz⟩
theorem info22 : (Try.prog.info? 22).map (·.size) = some 1 := by kernel_rfl
theorem run_index_av {P : Program} (T e : TypeId) (n : Nat) (f : L) (i : Nat) (hi : i < n) (hu : P.underlying T = some (.array n e)) (hue : P.underlying e = some (.int .u64)) (hs : (P.info? e).map (·.size) = some 1) (w : World) :
    (Instr.index T (.agg (av n f)) (.int .i64 (i : Int))).run P w = .ok (.int .u64 ((f i).toNat : Int)) w := by
  obtain ⟨ie, hie, hsz⟩ := Option.map_eq_some_iff.1 hs
  have hg := av_get n f i hi
  have hlt : (i : Int) < (n : Int) := by omega
  simp [Instr.index, run_underlying hu, asIntOf, sizeOf, typeInfo, hie, hsz, part, isAgg, run_underlying hue, hi, hg, enc]
def csum (a : L) : Nat → L
  | 0 => fun _ => 0
  | i + 1 => upd (csum a i) (i % 5) (csum a i (i % 5) ^^^ a i)
def thetaS (a : L) : L := fun i => a i ^^^ (csum a 25 ((i % 5 + 4) % 5) ^^^ (csum a 25 ((i % 5 + 1) % 5)).rotateLeft 1)
def ThRel (a : L) (w : World) (g1 g2 g3 : Nat) (x : Value) (w' : World) : Prop :=
  ∃ i : Nat, i ≤ 25 ∧ x = .int .i64 i ∧ AR w' g1 23 25 a ∧ AR w' g2 23 25 (fun _ => 0) ∧ AR w' g3 33 5 (csum a i) ∧ Below w.heap.size w w'
def th2 (a : L) (i : Nat) : L := fun j => if j < i then thetaS a j else a j
theorem th2_succ (a : L) (i : Nat) : upd (th2 a i) i (thetaS a i) = th2 a (i + 1) := by
  funext j
  unfold upd th2
  by_cases h : j = i
  · subst h; simp
  · rw [if_neg h]
    by_cases h2 : j < i
    · rw [if_pos h2, if_pos (by omega)]
    · rw [if_neg h2, if_neg (by omega)]
theorem th2_at (a : L) (i : Nat) : th2 a i i = a i := by simp [th2]
theorem th2_all (a : L) (j : Nat) (h : j < 25) : th2 a 25 j = thetaS a j := by simp [th2, h]
def Th2Rel (a : L) (w : World) (g1 g2 g3 : Nat) (x : Value) (w' : World) : Prop :=
  ∃ i : Nat, i ≤ 25 ∧ x = .int .i64 i ∧ AR w' g1 23 25 (th2 a i) ∧ AR w' g2 23 25 (fun _ => 0) ∧ AR w' g3 33 5 (csum a 25) ∧ Below w.heap.size w w'
theorem rot1 (x : BitVec 64) (w : World) : Calls Try.prog 26 #[.int .u64 (x.toNat : Int), .int .i64 1] w fun e w' => e = .returned (.int .u64 ((x.rotateLeft 1).toNat : Int)) ∧ w' = w := rot_any x 1 w (by omega)
set_option maxHeartbeats 1000000 in
theorem theta_any (a : L) (w : World) :
    Calls Try.prog 9 #[.agg (av 25 a)] w fun e w' => e = .returned (.agg (av 25 (thetaS a))) ∧ Below w.heap.size w w' := by
  obtain ⟨i23, hi23, hz23⟩ := info_zero zero23
  obtain ⟨i33, hi33, hz33⟩ := info_zero zero33
  have I23 := Lib.hid hi23
  have I33 := Lib.hid hi33
  have Z23 := Lib.hid hz23
  have Z33 := Lib.hid hz33
  clear hi23 hi33 hz23 hz33
  go_enter Try.func9, Try.ntmps9
  go_wp2_with (first
    | ((with_reducible refine gate_dst (N := 1) rfl ?_); refine box_av rfl 23 _ rfl 25 a rfl ?_; intro g1 w1 hA hB hg hl; have A1 := Lib.hid hA; have B1 := Lib.hid hB; have G1 := Lib.hid hg; clear hA hB hg)
    | ((with_reducible refine gate_dst (N := 2) rfl ?_); refine alloc_av rfl 23 rfl 25 i23 _ I23.out Z23.out rfl ?_; intro g2 w2 hA hB hg hl2; have A1 := Lib.hid (A1.out.below hB); have A2 := Lib.hid hA; have B2 := Lib.hid (below_step B1.out hB); have G2 := Lib.hid hg; clear hA hB hg)
    | ((with_reducible refine gate_dst (N := 3) rfl ?_); refine alloc_av rfl 33 rfl 5 i33 _ I33.out Z33.out rfl ?_; intro g3 w3 hA hB hg hl3; have A1 := Lib.hid (A1.out.below hB); have A2 := Lib.hid (A2.out.below hB); have A3 := Lib.hid hA; have B3 := Lib.hid (below_step B2.out hB); have G3 := Lib.hid hg; clear hA hB hg)
    | ((with_reducible refine gate_dst (N := 8) rfl ?_); refine load_av rfl 23 _ rfl g1 25 23 a _ rfl A1.out Try.underlying23 rfl size23 ?_))
  have D13 : Hid (g1 ≠ g3) := by show g1 ≠ g3; have := G2.out; have := G3.out; omega
  have D23 : Hid (g2 ≠ g3) := by show g2 ≠ g3; have := G3.out; omega
  have D12 : Hid (g2 ≠ g1) := by show g2 ≠ g1; have := G2.out; omega
  have D31 : Hid (g3 ≠ g1) := by show g3 ≠ g1; have := G2.out; have := G3.out; omega
  have G3w : Hid (w.heap.size ≤ g3) := by show w.heap.size ≤ g3; have := G1.out; have := G2.out; have := G3.out; omega
  have G2w : Hid (w.heap.size ≤ g2) := by show w.heap.size ≤ g2; have := G1.out; have := G2.out; omega
  clear hl hl2 hl3
  have IX := Lib.hid (fun (i : Nat) (hi : i < 25) (W : World) => run_index_av (P := Try.prog) 23 22 25 a i hi Try.underlying23 Try.underlying22 info22 W)
  go_loopw [9] (fun x w' => ThRel a w g1 g2 g3 x w') (fun x _ => (25 - intOf x).toNat)
  case atStart => exact ⟨0, by omega, rfl, A1.out, A2.out, A3.out, B3.out⟩
  case round =>
    clear A1 A2 A3 B3
    obtain ⟨i, hi, rfl, hA1, hA2, hA3, hB⟩ := hrel
    by_cases hlt : i < 25
    · have hx := IX.out i hlt
      have hc := hA3.cell (i % 5) (by omega)
      have hf := hA3.frozen (i % 5)
      obtain ⟨c0, hc0⟩ : ∃ c0, csum a i (i % 5) = c0 := ⟨_, rfl⟩
      obtain ⟨x0, hx0⟩ : ∃ c0, a i = c0 := ⟨_, rfl⟩
      obtain ⟨z0, hz0⟩ : ∃ z, c0 ^^^ x0 = z := ⟨_, rfl⟩
      have hxor := xor_bv c0 x0
      rw [hz0] at hxor
      rw [hc0] at hc
      rw [hx0] at hx
      have A1 := Lib.hid hA1
      have A2 := Lib.hid hA2
      have A3 := Lib.hid hA3
      have B := Lib.hid hB
      have E := Lib.hid (show csum a (i + 1) = upd (csum a i) (i % 5) z0 by rw [← hz0, ← hc0, ← hx0]; rfl)
      clear hA1 hA2 hA3 hB hc0 hx0 hz0
      go_wp2
      go_roundw
      case rel => exact ⟨i + 1, by omega, by go_num, A1.out.other D13.out _ _, A2.out.other D23.out _ _, by rw [E.out]; exact A3.out.set _ z0, B.out.setCell G3w.out _⟩
      case measure => simp [intOf]; omega
    · have e : i = 25 := by omega
      subst e
      have A1 := Lib.hid hA1
      have A2 := Lib.hid hA2
      have A3 := Lib.hid hA3
      have B := Lib.hid hB
      clear hA1 hA2 hA3 hB hi hlt
      go_wp2
      go_loopw [21] (fun x w' => Th2Rel a w g1 g2 g3 x w') (fun x _ => (25 - intOf x).toNat)
      case atStart => exact ⟨0, by omega, rfl, A1.out.ext (fun j hj => by simp [th2]), A2.out, A3.out, B.out⟩
      case round =>
        clear A1 A2 A3 B
        obtain ⟨i, hi, rfl, hA1, hA2, hA3, hB⟩ := hrel
        by_cases hlt : i < 25
        · have hc := hA1.cell i hlt
          have hf := hA1.frozen i
          obtain ⟨m4, hm4⟩ : ∃ m, (i % 5 + 4) % 5 = m := ⟨_, rfl⟩
          obtain ⟨m1, hm1⟩ : ∃ m, (i % 5 + 1) % 5 = m := ⟨_, rfl⟩
          have m4b : m4 < 5 := by omega
          have m1b : m1 < 5 := by omega
          have m4i : (m4 : Int) < 5 := by omega
          have m1i : (m1 : Int) < 5 := by omega
          have p4 : (IntKind.i64.wrap ((i : Int) % 5 + 4)).tmod 5 = (m4 : Int) := by rw [IntWalk.i64_in _ (by omega), Int.tmod_eq_emod_of_nonneg (by omega)]; omega
          have p1 : (IntKind.i64.wrap ((i : Int) % 5 + 1)).tmod 5 = (m1 : Int) := by rw [IntWalk.i64_in _ (by omega), Int.tmod_eq_emod_of_nonneg (by omega)]; omega
          have hc4 := hA3.cell m4 m4b
          have hc1 := hA3.cell m1 m1b
          rw [th2_at] at hc
          obtain ⟨x0, hx0⟩ : ∃ c0, a i = c0 := ⟨_, rfl⟩
          obtain ⟨y4, hy4⟩ : ∃ c0, csum a 25 m4 = c0 := ⟨_, rfl⟩
          obtain ⟨y1, hy1⟩ : ∃ c0, csum a 25 m1 = c0 := ⟨_, rfl⟩
          obtain ⟨r1, hr1⟩ : ∃ c0, y1.rotateLeft 1 = c0 := ⟨_, rfl⟩
          obtain ⟨u1, hu1⟩ : ∃ c0, y4 ^^^ r1 = c0 := ⟨_, rfl⟩
          obtain ⟨z0, hz0⟩ : ∃ c0, x0 ^^^ u1 = c0 := ⟨_, rfl⟩
          rw [hx0] at hc
          rw [hy4] at hc4
          rw [hy1] at hc1
          have hxor1 := xor_bv y4 r1
          rw [hu1] at hxor1
          have hxor2 := xor_bv x0 u1
          rw [hz0] at hxor2
          have E := Lib.hid (show th2 a (i + 1) = upd (th2 a i) i z0 by rw [← th2_succ, ← hz0, ← hu1, ← hr1, ← hy4, ← hy1, ← hx0, ← hm4, ← hm1]; rfl)
          have hrot := fun W => rot1 y1 W
          rw [hr1] at hrot
          have ROT := Lib.hid hrot
          have A1 := Lib.hid hA1
          have A2 := Lib.hid hA2
          have A3 := Lib.hid hA3
          have B := Lib.hid hB
          clear hA1 hA2 hA3 hB hx0 hy4 hy1 hr1 hu1 hz0 hrot hm4 hm1
          go_wp2_with fail
          refine wp_region_still_tail 17 (by kernel_rfl) (by kernel_rfl) ?_
          simp only [List.take_succ_cons, List.take_zero, List.drop_succ_cons, List.drop_zero]
          repeat still_step
          still_call (ROT.out _)
          repeat still_step
          refine wpStill_nil ?_
          change wpList _ _ _ _ _ wr.drew
          have A1 := Lib.hid (show AR wr.drew g1 23 25 (th2 a i) from A1.out)
          have A2 := Lib.hid (show AR wr.drew g2 23 25 (fun _ => 0) from A2.out)
          have A3 := Lib.hid (show AR wr.drew g3 33 5 (csum a 25) from A3.out)
          have B := Lib.hid (show Below w.heap.size w wr.drew from B.out.drew)
          have hf := A1.out.frozen i
          have hc := A1.out.cell i hlt
          generalize wr.drew = w5 at A1 A2 A3 B hf hc ⊢
          go_wp2
          go_roundw
          case rel =>
            have hrel : Th2Rel a w g1 g2 g3 (.int .i64 ((i : Int) + 1)) (w5.setCell ⟨g1, i, none⟩ (.int .u64 (z0.toNat : Int))) := ⟨i + 1, by omega, by go_num, by rw [E.out]; exact A1.out.set _ z0, A2.out.other D12.out _ _, A3.out.other D31.out _ _, B.out.setCell G1.out _⟩
            repeat apply Exists.intro
            exact ⟨hrel, rfl⟩
          case measure => simp [intOf]; omega
        · have e : i = 25 := by omega
          subst e
          have A1 := Lib.hid (hA1.ext (fun j hj => th2_all a j hj))
          have A2 := Lib.hid hA2
          have B := Lib.hid hB
          clear hA1 hA2 hA3 hB hi hlt
          go_wp2_with (first
            | ((with_reducible refine gate_dst (N := 44) rfl ?_); refine load_av rfl 23 _ rfl g1 25 23 (thetaS a) _ rfl A1.out Try.underlying23 rfl size23 ?_)
            | (refine store_av rfl rfl 23 (.tmp 2) (.tmp 44) rfl g2 25 23 _ (thetaS a) rfl rfl A2.out size23 ?_; intro w6 hA hO hB; have A2 := Lib.hid hA; have B := Lib.hid (hB _ _ B.out G2w.out); clear hA hO hB))
          exact bodyPost_ret (v := .agg (av 25 (thetaS a))) (results_cell_row (p := 2) (ty := 23) rfl _ _ g2 23 _ (0, 0) _ rfl A2.out Try.underlying23 rfl (by rw [av_size]; exact size23)) rfl ⟨rfl, B.out⟩
end Go.Proofs.Ytooelompkmocnaa.T
