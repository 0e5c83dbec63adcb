/- Pi: its walks, the program's and the reference's (printed by gen_pc.py). -/
import Derived.Test.YtooelompkmocnaaRth
namespace Go.Proofs.Ytooelompkmocnaa.T
open Go.RowKit
set_option linter.unusedVariables false
set_option linter.unusedSimpArgs false
def dnP (y x : Nat) : Nat → Bool := fun j => decide (j < 5 * y + x)
def dnR (x y : Nat) : Nat → Bool := fun j => decide (j % 5 < x ∨ (j % 5 = x ∧ j / 5 < y))
theorem dnP_step (new old : L) (y x k : Nat) (hk : k = 5 * y + x) (j : Nat) (hj : j < 25) : upd (fill (dnP y x) new old) k (new k) j = fill (dnP y (x + 1)) new old j :=
  fill_upd _ _ _ _ k 25 (fun m _ => by unfold dnP; rw [← Bool.decide_or]; apply decide_eq_decide.2; omega) j hj
theorem dnR_step (new old : L) (x y k : Nat) (hx : x < 5) (hk : k = 5 * y + x) (j : Nat) (hj : j < 25) : upd (fill (dnR x y) new old) k (new k) j = fill (dnR x (y + 1)) new old j :=
  fill_upd _ _ _ _ k 25 (fun m _ => by unfold dnR; rw [← Bool.decide_or]; apply decide_eq_decide.2; omega) j hj
theorem dnP_next (new old : L) (y j : Nat) : fill (dnP y 5) new old j = fill (dnP (y + 1) 0) new old j := by
  unfold fill dnP
  rw [show 5 * y + 5 = 5 * (y + 1) + 0 by omega]
theorem dnR_next (new old : L) (x j : Nat) (hj : j < 25) : fill (dnR x 5) new old j = fill (dnR (x + 1) 0) new old j := by
  unfold fill dnR
  have e : decide (j % 5 < x ∨ (j % 5 = x ∧ j / 5 < 5)) = decide (j % 5 < x + 1 ∨ (j % 5 = x + 1 ∧ j / 5 < 0)) := decide_eq_decide.2 (by omega)
  rw [e]
theorem dnP_start (new old : L) (j : Nat) : old j = fill (dnP 0 0) new old j := by simp [fill, dnP]
theorem dnR_start (new old : L) (j : Nat) : old j = fill (dnR 0 0) new old j := by simp [fill, dnR]
theorem dnP_end (new old : L) (j : Nat) (hj : j < 25) : fill (dnP 5 0) new old j = new j := by simp [fill, dnP, hj]
theorem dnR_end (new old : L) (j : Nat) (hj : j < 25) : fill (dnR 5 0) new old j = new j := by
  unfold fill dnR
  rw [if_pos]
  exact decide_eq_true (by omega)
theorem not_bv (v : BitVec 64) : bits .xor .u64 (if IntKind.u64.signed = true then -1 else IntKind.u64.max) (v.toNat : Int) = ((~~~v).toNat : Int) := by
  rw [show (if IntKind.u64.signed = true then -1 else IntKind.u64.max) = (18446744073709551615 : Int) from by decide]
  have h : ((18446744073709551615#64).toNat : Int) = 18446744073709551615 := by decide
  rw [← h, xor_bv]
  congr 2
def piS (a : L) : L := fun j => a ((j % 5 + 3 * (j / 5)) % 5 + 5 * (j % 5))
def chiS (a : L) : L := fun j => a j ^^^ (~~~ a ((j % 5 + 1) % 5 + 5 * (j / 5)) &&& a ((j % 5 + 2) % 5 + 5 * (j / 5)))
def FRel (dn : Nat → Nat → Nat → Bool) (new old a : L) (w : World) (g1 g2 g3 p q : Nat) (w' : World) : Prop :=
  AR w' g1 23 25 a ∧ AR w' g2 23 25 (fun _ => 0) ∧ AR w' g3 23 25 (fill (dn p q) new old) ∧ Below w.heap.size w w'
def ORel (dn : Nat → Nat → Nat → Bool) (new old a : L) (w : World) (g1 g2 g3 : Nat) (v : Value) (w' : World) : Prop :=
  ∃ p : Nat, p ≤ 5 ∧ v = .int .i64 p ∧ FRel dn new old a w g1 g2 g3 p 0 w'
def IRel (dn : Nat → Nat → Nat → Bool) (new old a : L) (w : World) (g1 g2 g3 p : Nat) (v : Value) (w' : World) : Prop :=
  ∃ q : Nat, q ≤ 5 ∧ v = .int .i64 q ∧ FRel dn new old a w g1 g2 g3 p q w'
set_option maxHeartbeats 2000000 in
set_option maxRecDepth 20000 in
theorem pi_any (a : L) (w : World) :
    Calls Try.prog 13 #[.agg (av 25 a)] w fun e w' => e = .returned (.agg (av 25 (piS a))) ∧ Below w.heap.size w w' := by
  obtain ⟨i23, hi23, hz23⟩ := info_zero zero23
  have I23 := Lib.hid hi23
  have Z23 := Lib.hid hz23
  clear hi23 hz23
  go_enter Try.func13, Try.ntmps13
  go_wp2_with (first
    | ((with_reducible refine gate_dst (N := 1) rfl ?_); refine box_av rfl 23 _ rfl 25 a rfl ?_; intro g1 w1 hA hB hg hl; have A1 := Lib.hid hA; have B1 := Lib.hid hB; have G1 := Lib.hid hg; clear hA hB hg)
    | ((with_reducible refine gate_dst (N := 2) rfl ?_); refine alloc_av rfl 23 rfl 25 i23 _ I23.out Z23.out rfl ?_; intro g2 w2 hA hB hg hl2; have A1 := Lib.hid (A1.out.below hB); have A2 := Lib.hid hA; have B2 := Lib.hid (below_step B1.out hB); have G2 := Lib.hid hg; clear hA hB hg)
    | ((with_reducible refine gate_dst (N := 3) rfl ?_); refine alloc_av rfl 23 rfl 25 i23 _ I23.out Z23.out rfl ?_; intro g3 w3 hA hB hg hl3; have A1 := Lib.hid (A1.out.below hB); have A2 := Lib.hid (A2.out.below hB); have A3 := Lib.hid hA; have B3 := Lib.hid (below_step B2.out hB); have G3 := Lib.hid hg; clear hA hB hg))
  have D13 : Hid (g1 ≠ g3) := by show g1 ≠ g3; have := G2.out; have := G3.out; omega
  have D23 : Hid (g2 ≠ g3) := by show g2 ≠ g3; have := G3.out; omega
  have G3w : Hid (w.heap.size ≤ g3) := by show w.heap.size ≤ g3; have := G1.out; have := G2.out; have := G3.out; omega
  have G2w : Hid (w.heap.size ≤ g2) := by show w.heap.size ≤ g2; have := G1.out; have := G2.out; omega
  clear hl hl2 hl3
  go_loopw [6] (fun v w' => ORel dnP (piS a) (fun _ => 0) a w g1 g2 g3 v w') (fun v _ => (5 - intOf v).toNat)
  case atStart => exact ⟨0, by omega, rfl, A1.out, A2.out, A3.out.ext (fun j _ => dnP_start (piS a) (fun _ => 0) j), B3.out⟩
  case round =>
    clear A1 A2 A3 B1 B2 B3
    obtain ⟨p, hp, rfl, hF⟩ := hrel
    by_cases hlt : p < 5
    · have HF := Lib.hid hF
      clear hF
      have hpd : decide ((p : Int) < 5) = true := decide_eq_true (by omega)
      go_wp2
      go_loopw [9] (fun v w' => IRel dnP (piS a) (fun _ => 0) a w g1 g2 g3 p v w') (fun v _ => (5 - intOf v).toNat)
      case atStart => exact ⟨0, by omega, rfl, HF.out⟩
      case round =>
        clear HF
        obtain ⟨q, hq, rfl, hA1, hA2, hA3, hB⟩ := hrel
        by_cases hltq : q < 5
        · obtain ⟨k, hk⟩ : ∃ k, 5 * p + q = k := ⟨_, rfl⟩
          have kb : k < 25 := by omega
          have ki : (k : Int) < 25 := by omega
          have hkm : k % 5 = q := by omega
          have hkd : k / 5 = p := by omega
          have ex : ((q : Nat) : Int) % 5 = q := by omega
          have ey : ((p : Nat) : Int) % 5 = p := by omega
          have hc3 := hA3.cell k kb
          have hf := hA3.frozen k
          obtain ⟨s, hs⟩ : ∃ s, (q + 3 * p) % 5 + 5 * q = s := ⟨_, rfl⟩
          have sb : s < 25 := by omega
          have si : (s : Int) < 25 := by omega
          have hc := hA1.cell s sb
          obtain ⟨v0, hv0⟩ : ∃ v, a s = v := ⟨_, rfl⟩
          rw [hv0] at hc
          have hnew : (piS a) k = v0 := by show a _ = v0; rw [hkm, hkd, hs, hv0]
          have HK := Lib.hid (fun W => at_any (q : Int) (p : Int) (k : Int) W (by omega) (by omega) (by omega) (by omega) (by rw [ex, ey]; omega))
          have HS := Lib.hid (fun W => at_any ((q : Int) + 3 * (p : Int)) (q : Int) (s : Int) W (by omega) (by omega) (by omega) (by omega) (by rw [ex]; omega))
          have E := Lib.hid (show ∀ j, j < 25 → upd (fill (dnP p q) (piS a) (fun _ => 0)) k v0 j = fill (dnP p (q + 1)) (piS a) (fun _ => 0) j from fun j hj => by rw [← hnew]; exact dnP_step (piS a) (fun _ => 0) p q k (by omega) j hj)
          have A1 := Lib.hid hA1
          have A2 := Lib.hid hA2
          have A3 := Lib.hid hA3
          have B := Lib.hid hB
          clear hA1 hA2 hA3 hB hk hkm hkd ex ey hs hv0 hnew
          go_wp2_with (first
            | (go_at_call 27; (with_reducible refine (HK.out _).mono ?_); rintro e w' ⟨rfl, rfl⟩)
            | (go_at_call 27; (with_reducible refine (HS.out _).mono ?_); rintro e w' ⟨rfl, rfl⟩))
          go_roundw
          case rel =>
            have hrel := fun {W : World} (A1 : AR W g1 23 25 a) (A2 : AR W g2 23 25 (fun _ => 0)) (A3 : AR W g3 23 25 (fill (dnP p q) (piS a) (fun _ => 0))) (B : Below w.heap.size w W) => (show IRel dnP (piS a) (fun _ => 0) a w g1 g2 g3 p (.int .i64 ((q : Int) + 1)) (W.setCell ⟨g3, k, none⟩ (.int .u64 (v0.toNat : Int))) from ⟨q + 1, by omega, by go_num, A1.other D13.out _ _, A2.other D23.out _ _, (A3.set k v0).ext (fun j hj => E.out j hj), B.setCell G3w.out _⟩)
            first
            | exact hrel A1.out A2.out A3.out B.out
            | (repeat apply Exists.intro
               exact ⟨hrel A1.out A2.out A3.out B.out, rfl⟩)
          case measure => simp [intOf]; omega
        · have e : q = 5 := by omega
          subst e
          have A1 := Lib.hid hA1
          have A2 := Lib.hid hA2
          have A3 := Lib.hid (hA3.ext (fun j hj => dnP_next (piS a) (fun _ => 0) p j))
          have B := Lib.hid hB
          clear hA1 hA2 hA3 hB hq hltq
          go_wp2
          go_roundw
          case rel =>
            have hrel : ORel dnP (piS a) (fun _ => 0) a w g1 g2 g3 (.int .i64 ((p : Int) + 1)) wr := ⟨p + 1, by omega, by go_num, A1.out, A2.out, A3.out, B.out⟩
            first
            | exact hrel
            | (repeat apply Exists.intro
               exact ⟨hrel, rfl⟩)
          case measure => simp [intOf]; omega
    · have e : p = 5 := by omega
      subst e
      obtain ⟨hA1, hA2, hA3, hB⟩ := hF
      have A3 := Lib.hid (hA3.ext (f' := (piS a)) (fun j hj => dnP_end (piS a) (fun _ => 0) j hj))
      have A2 := Lib.hid hA2
      have B := Lib.hid hB
      clear hA1 hA2 hA3 hB hp hlt
      go_wp2_with (first
    | ((with_reducible refine gate_dst (N := 26) rfl ?_); refine load_av rfl 23 _ rfl g3 25 23 (piS a) _ rfl A3.out Try.underlying23 rfl size23 ?_)
    | (refine store_av rfl rfl 23 (.tmp 2) (.tmp 26) rfl g2 25 23 _ (piS a) rfl rfl A2.out size23 ?_; intro w6 hA hO hB; have A2 := Lib.hid hA; have B := Lib.hid (hB _ _ B.out G2w.out); clear hA hO hB))
      exact bodyPost_ret (v := .agg (av 25 (piS a))) (results_cell_row (p := 2) (ty := 23) rfl _ _ g2 23 _ (0, 0) _ rfl A2.out Try.underlying23 rfl (by rw [av_size]; exact size23)) rfl ⟨rfl, B.out⟩
set_option maxHeartbeats 2000000 in
set_option maxRecDepth 20000 in
theorem rpi_any (a : L) (w : World) :
    Calls Try.prog 14 #[.agg (av 25 a)] w fun e w' => e = .returned (.agg (av 25 (piS a))) ∧ Below w.heap.size w w' := by
  obtain ⟨i23, hi23, hz23⟩ := info_zero zero23
  have I23 := Lib.hid hi23
  have Z23 := Lib.hid hz23
  clear hi23 hz23
  go_enter Try.func14, Try.ntmps14
  go_wp2_with (first
    | ((with_reducible refine gate_dst (N := 1) rfl ?_); refine box_av rfl 23 _ rfl 25 a rfl ?_; intro g1 w1 hA hB hg hl; have A1 := Lib.hid hA; have B1 := Lib.hid hB; have G1 := Lib.hid hg; clear hA hB hg)
    | ((with_reducible refine gate_dst (N := 2) rfl ?_); refine alloc_av rfl 23 rfl 25 i23 _ I23.out Z23.out rfl ?_; intro g2 w2 hA hB hg hl2; have A1 := Lib.hid (A1.out.below hB); have A2 := Lib.hid hA; have B2 := Lib.hid (below_step B1.out hB); have G2 := Lib.hid hg; clear hA hB hg)
    | ((with_reducible refine gate_dst (N := 3) rfl ?_); refine alloc_av rfl 23 rfl 25 i23 _ I23.out Z23.out rfl ?_; intro g3 w3 hA hB hg hl3; have A1 := Lib.hid (A1.out.below hB); have A2 := Lib.hid (A2.out.below hB); have A3 := Lib.hid hA; have B3 := Lib.hid (below_step B2.out hB); have G3 := Lib.hid hg; clear hA hB hg))
  have D13 : Hid (g1 ≠ g3) := by show g1 ≠ g3; have := G2.out; have := G3.out; omega
  have D23 : Hid (g2 ≠ g3) := by show g2 ≠ g3; have := G3.out; omega
  have G3w : Hid (w.heap.size ≤ g3) := by show w.heap.size ≤ g3; have := G1.out; have := G2.out; have := G3.out; omega
  have G2w : Hid (w.heap.size ≤ g2) := by show w.heap.size ≤ g2; have := G1.out; have := G2.out; omega
  clear hl hl2 hl3
  go_loopw [4] (fun v w' => ORel dnR (piS a) (fun _ => 0) a w g1 g2 g3 v w') (fun v _ => (5 - intOf v).toNat)
  case atStart => exact ⟨0, by omega, rfl, A1.out, A2.out, A3.out.ext (fun j _ => dnR_start (piS a) (fun _ => 0) j), B3.out⟩
  case round =>
    clear A1 A2 A3 B1 B2 B3
    obtain ⟨p, hp, rfl, hF⟩ := hrel
    by_cases hlt : p < 5
    · have HF := Lib.hid hF
      clear hF
      have hpd : decide ((p : Int) < 5) = true := decide_eq_true (by omega)
      go_wp2
      go_loopw [5] (fun v w' => IRel dnR (piS a) (fun _ => 0) a w g1 g2 g3 p v w') (fun v _ => (5 - intOf v).toNat)
      case atStart => exact ⟨0, by omega, rfl, HF.out⟩
      case round =>
        clear HF
        obtain ⟨q, hq, rfl, hA1, hA2, hA3, hB⟩ := hrel
        by_cases hltq : q < 5
        · obtain ⟨k, hk⟩ : ∃ k, 5 * q + p = k := ⟨_, rfl⟩
          have kb : k < 25 := by omega
          have ki : (k : Int) < 25 := by omega
          have hkm : k % 5 = p := by omega
          have hkd : k / 5 = q := by omega
          have ex : ((p : Nat) : Int) % 5 = p := by omega
          have ey : ((q : Nat) : Int) % 5 = q := by omega
          have hc3 := hA3.cell k kb
          have hf := hA3.frozen k
          obtain ⟨s, hs⟩ : ∃ s, (p + 3 * q) % 5 + 5 * p = s := ⟨_, rfl⟩
          have sb : s < 25 := by omega
          have si : (s : Int) < 25 := by omega
          have hc := hA1.cell s sb
          obtain ⟨v0, hv0⟩ : ∃ v, a s = v := ⟨_, rfl⟩
          rw [hv0] at hc
          have hnew : (piS a) k = v0 := by show a _ = v0; rw [hkm, hkd, hs, hv0]
          have HK := Lib.hid (fun W => rat_any (p : Int) (q : Int) (k : Int) W (by omega) (by omega) (by omega) (by omega) (by rw [ex, ey]; omega))
          have HS := Lib.hid (fun W => rat_any ((p : Int) + 3 * (q : Int)) (p : Int) (s : Int) W (by omega) (by omega) (by omega) (by omega) (by rw [ex]; omega))
          have E := Lib.hid (show ∀ j, j < 25 → upd (fill (dnR p q) (piS a) (fun _ => 0)) k v0 j = fill (dnR p (q + 1)) (piS a) (fun _ => 0) j from fun j hj => by rw [← hnew]; exact dnR_step (piS a) (fun _ => 0) p q k (by omega) (by omega) j hj)
          have A1 := Lib.hid hA1
          have A2 := Lib.hid hA2
          have A3 := Lib.hid hA3
          have B := Lib.hid hB
          clear hA1 hA2 hA3 hB hk hkm hkd ex ey hs hv0 hnew
          go_wp2_with (first
            | (go_at_call 28; (with_reducible refine (HK.out _).mono ?_); rintro e w' ⟨rfl, rfl⟩)
            | (go_at_call 28; (with_reducible refine (HS.out _).mono ?_); rintro e w' ⟨rfl, rfl⟩))
          go_roundw
          case rel =>
            have hrel := fun {W : World} (A1 : AR W g1 23 25 a) (A2 : AR W g2 23 25 (fun _ => 0)) (A3 : AR W g3 23 25 (fill (dnR p q) (piS a) (fun _ => 0))) (B : Below w.heap.size w W) => (show IRel dnR (piS a) (fun _ => 0) a w g1 g2 g3 p (.int .i64 ((q : Int) + 1)) (W.setCell ⟨g3, k, none⟩ (.int .u64 (v0.toNat : Int))) from ⟨q + 1, by omega, by go_num, A1.other D13.out _ _, A2.other D23.out _ _, (A3.set k v0).ext (fun j hj => E.out j hj), B.setCell G3w.out _⟩)
            first
            | exact hrel A1.out A2.out A3.out B.out
            | (repeat apply Exists.intro
               exact ⟨hrel A1.out A2.out A3.out B.out, rfl⟩)
          case measure => simp [intOf]; omega
        · have e : q = 5 := by omega
          subst e
          have A1 := Lib.hid hA1
          have A2 := Lib.hid hA2
          have A3 := Lib.hid (hA3.ext (fun j hj => dnR_next (piS a) (fun _ => 0) p j hj))
          have B := Lib.hid hB
          clear hA1 hA2 hA3 hB hq hltq
          go_wp2
          go_roundw
          case rel =>
            have hrel : ORel dnR (piS a) (fun _ => 0) a w g1 g2 g3 (.int .i64 ((p : Int) + 1)) wr := ⟨p + 1, by omega, by go_num, A1.out, A2.out, A3.out, B.out⟩
            first
            | exact hrel
            | (repeat apply Exists.intro
               exact ⟨hrel, rfl⟩)
          case measure => simp [intOf]; omega
    · have e : p = 5 := by omega
      subst e
      obtain ⟨hA1, hA2, hA3, hB⟩ := hF
      have A3 := Lib.hid (hA3.ext (f' := (piS a)) (fun j hj => dnR_end (piS a) (fun _ => 0) j hj))
      have A2 := Lib.hid hA2
      have B := Lib.hid hB
      clear hA1 hA2 hA3 hB hp hlt
      go_wp2_with (first
    | ((with_reducible refine gate_dst (N := 26) rfl ?_); refine load_av rfl 23 _ rfl g3 25 23 (piS a) _ rfl A3.out Try.underlying23 rfl size23 ?_)
    | (refine store_av rfl rfl 23 (.tmp 2) (.tmp 26) rfl g2 25 23 _ (piS a) rfl rfl A2.out size23 ?_; intro w6 hA hO hB; have A2 := Lib.hid hA; have B := Lib.hid (hB _ _ B.out G2w.out); clear hA hO hB))
      exact bodyPost_ret (v := .agg (av 25 (piS a))) (results_cell_row (p := 2) (ty := 23) rfl _ _ g2 23 _ (0, 0) _ rfl A2.out Try.underlying23 rfl (by rw [av_size]; exact size23)) rfl ⟨rfl, B.out⟩
end Go.Proofs.Ytooelompkmocnaa.T
