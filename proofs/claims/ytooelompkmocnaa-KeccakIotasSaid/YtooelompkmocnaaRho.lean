/- Rho: its walks (printed by gen_rho.py). -/
import Derived.Test.YtooelompkmocnaaAt
namespace Go.Proofs.Ytooelompkmocnaa.T
open Go.RowKit
set_option linter.unusedVariables false
set_option linter.unusedSimpArgs false
def RhoRel (a : L) (w : World) (g1 g2 : Nat) (x y t : Value) (w' : World) : Prop :=
  ∃ k : Nat, k ≤ 24 ∧ x = .int .i64 ((xy k).1 : Int) ∧ y = .int .i64 ((xy k).2 : Int) ∧ t = .int .i64 ((k : Int) + 1) ∧ AR w' g1 23 25 (rhoN a k) ∧ AR w' g2 23 25 (fun _ => 0) ∧ Below w.heap.size w w'
def RRhoRel (a : L) (w : World) (g1 g2 g3 : Nat) (x y t : Value) (w' : World) : Prop :=
  ∃ k : Nat, k ≤ 24 ∧ x = .int .i64 ((xy k).1 : Int) ∧ y = .int .i64 ((xy k).2 : Int) ∧ t = .int .i64 (k : Int) ∧ AR w' g1 23 25 a ∧ AR w' g2 23 25 (fun _ => 0) ∧ AR w' g3 23 25 (rhoN a k) ∧ Below w.heap.size w w'
set_option maxHeartbeats 1000000 in
set_option maxRecDepth 20000 in
theorem rho_any (a : L) (w : World) :
    Calls Try.prog 11 #[.agg (av 25 a)] w fun e w' => e = .returned (.agg (av 25 (rhoS a))) ∧ Below w.heap.size w w' := by
  obtain ⟨i23, hi23, hz23⟩ := info_zero zero23
  have I23 := Lib.hid hi23
  have Z23 := Lib.hid hz23
  clear hi23 hz23
  go_enter Try.func11, Try.ntmps11
  go_wp2_with (first
    | ((with_reducible refine gate_dst (N := 1) rfl ?_); refine box_av rfl 23 _ rfl 25 a rfl ?_; intro g1 w1 hA hB hg hl; have A1 := Lib.hid hA; have B1 := Lib.hid hB; have G1 := Lib.hid hg; clear hA hB hg)
    | ((with_reducible refine gate_dst (N := 2) rfl ?_); refine alloc_av rfl 23 rfl 25 i23 _ I23.out Z23.out rfl ?_; intro g2 w2 hA hB hg hl2; have A1 := Lib.hid (A1.out.below hB); have A2 := Lib.hid hA; have B2 := Lib.hid (below_step B1.out hB); have G2 := Lib.hid hg; clear hA hB hg))
  have D12 : Hid (g1 ≠ g2) := by show g1 ≠ g2; have := G2.out; omega
  have D21 : Hid (g2 ≠ g1) := by show g2 ≠ g1; have := G2.out; omega
  have G2w : Hid (w.heap.size ≤ g2) := by show w.heap.size ≤ g2; have := G1.out; have := G2.out; omega
  clear hl hl2
  go_loopw [3, 4, 5] (fun x y t w' => RhoRel a w g1 g2 x y t w') (fun _ _ t _ => (25 - intOf t).toNat)
  case atStart => exact ⟨0, by omega, rfl, rfl, rfl, by rw [rhoN_zero]; exact A1.out, A2.out, B2.out⟩
  case round =>
    clear A1 A2 B1 B2
    obtain ⟨k, hk, rfl, rfl, rfl, hA1, hA2, hB⟩ := hrel
    by_cases hlt : k < 24
    · have hc := hA1.cell (pos k) (pos_lt k)
      have hfz := hA1.frozen (pos k)
      rw [rhoN_at a k hlt] at hc
      have hsucc := rhoN_succ a k
      have hx := xy_lt k
      obtain ⟨x, hxx⟩ : ∃ x, (xy k).1 = x := ⟨_, rfl⟩
      obtain ⟨y, hyy⟩ : ∃ x, (xy k).2 = x := ⟨_, rfl⟩
      obtain ⟨x', hxx'⟩ : ∃ x, (xy (k + 1)).1 = x := ⟨_, rfl⟩
      obtain ⟨y', hyy'⟩ : ∃ x, (xy (k + 1)).2 = x := ⟨_, rfl⟩
      have ex' : x' = y := by rw [← hxx', ← hyy]; rfl
      have ey' : (2 * x + 3 * y) % 5 = y' := by rw [← hxx, ← hyy, ← hyy']; rfl
      obtain ⟨m, hm⟩ : ∃ m, pos k = m := ⟨_, rfl⟩
      have hml := pos_lt k
      have hmv : (x : Int) % 5 + 5 * ((y : Int) % 5) = m := by rw [← hm]; unfold pos; rw [hxx, hyy]; rw [hxx, hyy] at hx; omega
      obtain ⟨f, hf⟩ : ∃ m, off k = m := ⟨_, rfl⟩
      have hfl : f ≤ 63 := by rw [← hf]; unfold off; omega
      have hfn := off_val k hlt
      rw [hf] at hfn
      rw [hm] at hml
      rw [hxx, hyy] at hx
      obtain ⟨x5, y5⟩ := hx
      rw [hm] at hc hfz hsucc
      rw [hf] at hsucc
      obtain ⟨v, hv⟩ : ∃ v, a m = v := ⟨_, rfl⟩
      obtain ⟨r, hr⟩ : ∃ r, v.rotateLeft f = r := ⟨_, rfl⟩
      rw [hv] at hc hsucc
      rw [hr] at hsucc
      rw [hxx, hyy]
      have hb := off_bd k hlt
      obtain ⟨hb0, hb1⟩ := hb
      have hey : (2 * (x : Int) + 3 * (y : Int)) % 5 = (y' : Int) := by omega
      have HAT := Lib.hid (fun W => at_any (x : Int) (y : Int) (m : Int) W (by omega) (by omega) (by omega) (by omega) hmv)
      have HROT := Lib.hid (fun W => rot_int v f (f : Int) W hfl rfl r hr)
      have E := Lib.hid hsucc
      have HX' := Lib.hid hxx'
      have HY' := Lib.hid hyy'
      have A1 := Lib.hid hA1
      have A2 := Lib.hid hA2
      have B := Lib.hid hB
      have mi : (m : Int) < 25 := by omega
      subst ex'
      clear hsucc hxx hyy hxx' hyy' hm hmv hf hv hr hA1 hA2 hB ey'
      go_wp2_with (first
        | (go_at_call 27; (with_reducible refine (HAT.out _).mono ?_); rintro e w' ⟨rfl, rfl⟩)
        | (go_at_call 26; (with_reducible refine (HROT.out _).mono ?_); rintro e w' ⟨rfl, rfl⟩))
      go_roundw
      case rel => exact ⟨k + 1, by omega, by rw [HX'.out], by rw [HY'.out]; exact congrArg (Value.int .i64) hey, rfl, by rw [← E.out]; exact A1.out.set m r, A2.out.other D21.out _ _, B.out.setCell G1.out _⟩
      case measure => simp [intOf]; omega
    · have e : k = 24 := by omega
      subst e
      have A1 := Lib.hid (show AR wr g1 23 25 (rhoS a) from hA1)
      have A2 := Lib.hid hA2
      have B := Lib.hid hB
      clear hA1 hA2 hB hk hlt
      go_wp2_with (first
    | ((with_reducible refine gate_dst (N := 33) rfl ?_); refine load_av rfl 23 _ rfl g1 25 23 (rhoS a) _ rfl A1.out Try.underlying23 rfl size23 ?_)
    | (refine store_av rfl rfl 23 (.tmp 2) (.tmp 33) rfl g2 25 23 _ (rhoS a) rfl rfl A2.out size23 ?_; intro w6 hA hO hB; have A2 := Lib.hid hA; have B := Lib.hid (hB _ _ B.out G2w.out); clear hA hO hB))
      exact bodyPost_ret (v := .agg (av 25 (rhoS a))) (results_cell_row (p := 2) (ty := 23) rfl _ _ g2 23 _ (0, 0) _ rfl A2.out Try.underlying23 rfl (by rw [av_size]; exact size23)) rfl ⟨rfl, B.out⟩
set_option maxHeartbeats 1000000 in
set_option maxRecDepth 20000 in
theorem rrho_any (a : L) (w : World) :
    Calls Try.prog 12 #[.agg (av 25 a)] w fun e w' => e = .returned (.agg (av 25 (rhoS a))) ∧ Below w.heap.size w w' := by
  obtain ⟨i23, hi23, hz23⟩ := info_zero zero23
  have I23 := Lib.hid hi23
  have Z23 := Lib.hid hz23
  clear hi23 hz23
  go_enter Try.func12, Try.ntmps12
  go_wp2_with (first
    | ((with_reducible refine gate_dst (N := 1) rfl ?_); refine box_av rfl 23 _ rfl 25 a rfl ?_; intro g1 w1 hA hB hg hl; have A1 := Lib.hid hA; have B1 := Lib.hid hB; have G1 := Lib.hid hg; clear hA hB hg)
    | ((with_reducible refine gate_dst (N := 2) rfl ?_); refine alloc_av rfl 23 rfl 25 i23 _ I23.out Z23.out rfl ?_; intro g2 w2 hA hB hg hl2; have A1 := Lib.hid (A1.out.below hB); have A2 := Lib.hid hA; have B2 := Lib.hid (below_step B1.out hB); have G2 := Lib.hid hg; clear hA hB hg)
    | ((with_reducible refine gate_dst (N := 7) rfl ?_); refine load_av rfl 23 _ rfl g1 25 23 a _ rfl A1.out Try.underlying23 rfl size23 ?_)
    | ((with_reducible refine gate_dst (N := 3) rfl ?_); refine alloc_av rfl 23 rfl 25 i23 _ I23.out Z23.out rfl ?_; intro g3 w3 hA hB hg hl3; have A1 := Lib.hid (A1.out.below hB); have A2 := Lib.hid (A2.out.below hB); have A3 := Lib.hid hA; have B3 := Lib.hid (below_step B2.out hB); have G3 := Lib.hid hg; clear hA hB hg)
    | ((with_reducible refine gate_store (t := 23) (p := 3) rfl ?_); have D13 := Lib.hid (show g1 ≠ g3 by have := G2.out; have := G3.out; omega); have D23 := Lib.hid (show g2 ≠ g3 by have := G3.out; omega); have G3w := Lib.hid (show w.heap.size ≤ g3 by have := G1.out; have := G2.out; have := G3.out; omega); refine store_av rfl rfl 23 (.tmp 3) (.tmp 7) rfl g3 25 23 _ a rfl rfl A3.out size23 ?_; intro w4 hA hO hB; have A1 := Lib.hid (hO _ _ _ _ A1.out D13.out); have A2 := Lib.hid (hO _ _ _ _ A2.out D23.out); have A3 := Lib.hid hA; have B3 := Lib.hid (hB _ _ B3.out G3w.out); clear hA hO hB))
  have D31 : Hid (g3 ≠ g1) := by show g3 ≠ g1; have := G2.out; have := G3.out; omega
  have D32 : Hid (g3 ≠ g2) := by show g3 ≠ g2; have := G3.out; omega
  have G2w : Hid (w.heap.size ≤ g2) := by show w.heap.size ≤ g2; have := G1.out; have := G2.out; omega
  clear hl hl2 hl3
  go_loopw [4, 5, 6] (fun x y t w' => RRhoRel a w g1 g2 g3 x y t w') (fun _ _ t _ => (24 - intOf t).toNat)
  case atStart => exact ⟨0, by omega, rfl, rfl, rfl, A1.out, A2.out, by rw [rhoN_zero]; exact A3.out, B3.out⟩
  case round =>
    clear A1 A2 A3 B1 B2 B3
    obtain ⟨k, hk, rfl, rfl, rfl, hA1, hA2, hA3, hB⟩ := hrel
    by_cases hlt : k < 24
    · have hc := hA1.cell (pos k) (pos_lt k)
      have hc3 := hA3.cell (pos k) (pos_lt k)
      have hfz := hA3.frozen (pos k)
      have hsucc := rhoN_succ a k
      have hx := xy_lt k
      obtain ⟨x, hxx⟩ : ∃ x, (xy k).1 = x := ⟨_, rfl⟩
      obtain ⟨y, hyy⟩ : ∃ x, (xy k).2 = x := ⟨_, rfl⟩
      obtain ⟨x', hxx'⟩ : ∃ x, (xy (k + 1)).1 = x := ⟨_, rfl⟩
      obtain ⟨y', hyy'⟩ : ∃ x, (xy (k + 1)).2 = x := ⟨_, rfl⟩
      have ex' : x' = y := by rw [← hxx', ← hyy]; rfl
      have ey' : (2 * x + 3 * y) % 5 = y' := by rw [← hxx, ← hyy, ← hyy']; rfl
      obtain ⟨m, hm⟩ : ∃ m, pos k = m := ⟨_, rfl⟩
      have hml := pos_lt k
      have hmv : (x : Int) % 5 + 5 * ((y : Int) % 5) = m := by rw [← hm]; unfold pos; rw [hxx, hyy]; rw [hxx, hyy] at hx; omega
      obtain ⟨f, hf⟩ : ∃ m, off k = m := ⟨_, rfl⟩
      have hfl : f ≤ 63 := by rw [← hf]; unfold off; omega
      have hfn := off_val2 k hlt
      rw [hf] at hfn
      rw [hm] at hml
      rw [hxx, hyy] at hx
      obtain ⟨x5, y5⟩ := hx
      rw [hm] at hc hfz hsucc hc3
      rw [hf] at hsucc
      obtain ⟨v, hv⟩ : ∃ v, a m = v := ⟨_, rfl⟩
      obtain ⟨r, hr⟩ : ∃ r, v.rotateLeft f = r := ⟨_, rfl⟩
      rw [hv] at hc hsucc
      rw [hr] at hsucc
      rw [hxx, hyy]
      have hb := off_bd2 k hlt
      obtain ⟨hb0, hb1⟩ := hb
      have hey : (2 * (x : Int) + 3 * (y : Int)) % 5 = (y' : Int) := by omega
      have HAT := Lib.hid (fun W => rat_any (x : Int) (y : Int) (m : Int) W (by omega) (by omega) (by omega) (by omega) hmv)
      have HROT := Lib.hid (fun W => rot_int v f (f : Int) W hfl rfl r hr)
      have E := Lib.hid hsucc
      have HX' := Lib.hid hxx'
      have HY' := Lib.hid hyy'
      have A1 := Lib.hid hA1
      have A2 := Lib.hid hA2
      have A3 := Lib.hid hA3
      have B := Lib.hid hB
      have mi : (m : Int) < 25 := by omega
      subst ex'
      clear hsucc hxx hyy hxx' hyy' hm hmv hf hv hr hA1 hA2 hA3 hB ey'
      go_wp2_with (first
        | (go_at_call 28; (with_reducible refine (HAT.out _).mono ?_); rintro e w' ⟨rfl, rfl⟩)
        | (go_at_call 26; (with_reducible refine (HROT.out _).mono ?_); rintro e w' ⟨rfl, rfl⟩))
      go_roundw
      case rel => exact ⟨k + 1, by omega, by rw [HX'.out], by rw [HY'.out]; exact congrArg (Value.int .i64) hey, rfl, A1.out.other D13.out _ _, A2.out.other D23.out _ _, by rw [← E.out]; exact A3.out.set m r, B.out.setCell G3w.out _⟩
      case measure => simp [intOf]; omega
    · have e : k = 24 := by omega
      subst e
      have A3 := Lib.hid (show AR wr g3 23 25 (rhoS a) from hA3)
      have A2 := Lib.hid hA2
      have B := Lib.hid hB
      clear hA1 hA2 hA3 hB hk hlt
      go_wp2_with (first
    | ((with_reducible refine gate_dst (N := 36) rfl ?_); refine load_av rfl 23 _ rfl g3 25 23 (rhoS a) _ rfl A3.out Try.underlying23 rfl size23 ?_)
    | (refine store_av rfl rfl 23 (.tmp 2) (.tmp 36) rfl g2 25 23 _ (rhoS a) rfl rfl A2.out size23 ?_; intro w6 hA hO hB; have A2 := Lib.hid hA; have B := Lib.hid (hB _ _ B.out G2w.out); clear hA hO hB))
      exact bodyPost_ret (v := .agg (av 25 (rhoS a))) (results_cell_row (p := 2) (ty := 23) rfl _ _ g2 23 _ (0, 0) _ rfl A2.out Try.underlying23 rfl (by rw [av_size]; exact size23)) rfl ⟨rfl, B.out⟩
end Go.Proofs.Ytooelompkmocnaa.T
