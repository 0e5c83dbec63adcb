/- roots, Clone: their walks. -/
import Derived.Test.YtebicdjnhogniaaEach
import Derived.WalkSpells
namespace Go.Proofs.Ytebicdjnhogniaa.T
open Go.RowKit Go.Proofs.Ytebicdjnhogniaa.PWaveRing Go.Proofs.YtebicdjnhogniaaW.PrintWords Go.Proofs.YtebicdjnhogniaaW.PrintLast
set_option linter.unusedVariables false
set_option linter.unusedSimpArgs false
def tn8 (i : Nat) : Nat := i % 2 * 128 + i / 2 % 2 * 64 + i / 4 % 2 * 32 + i / 8 % 2 * 16 + i / 16 % 2 * 8 + i / 32 % 2 * 4 + i / 64 % 2 * 2 + i / 128 % 2
theorem turn_tab : ∀ i ∈ List.range 256, bits_Turn.f 300 8 (i : Int) = some (tn8 i : Int) := by decide +kernel
theorem tn8_lt (i : Nat) : tn8 i < 256 := by unfold tn8; omega
theorem turn_any (i : Nat) (w : World) (h : i < 256) : Calls Try.prog 50 #[.int .i64 8, .int .i64 (i : Int)] w fun e w' => e = .returned (.int .i64 (tn8 i : Int)) ∧ Drawn0 w w' :=
  bits_Turn.calls 300 8 i _ w (turn_tab i (List.mem_range.2 h))
def pw : Nat → Int
  | 0 => 1
  | i + 1 => pw i * 1753 % 8380417
theorem pw_bd : ∀ i, 0 ≤ pw i ∧ pw i < 8380417
  | 0 => by simp [pw]
  | i + 1 => ⟨Int.emod_nonneg _ (by omega), Int.emod_lt_of_pos _ (by omega)⟩
def rs : Nat → F
  | 0 => fun _ => 0
  | i + 1 => upd (rs i) (tn8 i) (pw i)
def zS : F := rs 256
def RootRel (w : World) (g1 : Nat) (z v : Value) (w' : World) : Prop := ∃ i : Nat, i ≤ 256 ∧ z = .int .i64 (pw i) ∧ v = .int .i64 i ∧ IR w' g1 (rs i) ∧ Below w.heap.size w w'
theorem below_drawn {w W W2 : World} (h : Below w.heap.size w W) (d : Drawn0 W W2) : Below w.heap.size w W2 := by
  obtain ⟨n, rfl⟩ := d
  exact pw_below_drewN h n
theorem IR.drawn {W W2 : World} {g : Nat} {f : F} (h : IR W g f) (d : Drawn0 W W2) : IR W2 g f := by
  obtain ⟨n, rfl⟩ := d
  exact h
set_option maxHeartbeats 1000000 in
set_option maxRecDepth 20000 in
theorem roots_any (w : World) :
    Calls Try.prog 41 #[] w fun e w' => ∃ g1 c1, e = .returned (sl g1 c1) ∧ 256 ≤ c1 ∧ w.heap.size ≤ g1 ∧ IR w' g1 zS ∧ Below w.heap.size w w' := by
  go_enter Try.func41, Try.ntmps41
  go_wp2_with ((with_reducible refine gate_dst (N := 4) rfl ?_); refine make_IR rfl rfl rfl ?_; intro g1 c1 w1 hc1 hI hB hg; have I1 := Lib.hid hI; have B1 := Lib.hid hB; have G1 := Lib.hid hg; clear hI hB hg)
  have C1 := Lib.hid hc1
  clear hc1
  go_loopw [2, 7] (fun z v w' => RootRel w g1 z v w') (fun _ v _ => (256 - intOf v).toNat)
  case atStart => exact ⟨0, by omega, rfl, rfl, I1.out, B1.out⟩
  case round =>
    clear I1 B1
    obtain ⟨i, hi, rfl, rfl, hI, hBl⟩ := hrel
    by_cases hlt : i < 256
    · have hpd : decide ((i : Int) < 256) = true := decide_eq_true (by omega)
      have E := Lib.hid (show upd (rs i) (tn8 i) (pw i) = rs (i + 1) from rfl)
      have ez : pw (i + 1) = pw i * 1753 % 8380417 := rfl
      have pb := pw_bd i
      obtain ⟨z0, hz0⟩ : ∃ z, pw i = z := ⟨_, rfl⟩
      rw [hz0] at E pb ez
      rw [hz0]
      obtain ⟨t, ht⟩ : ∃ t, tn8 i = t := ⟨_, rfl⟩
      have htl := tn8_lt i
      rw [ht] at E htl
      have hti : (t : Int) < 256 := by omega
      have TN : Hid (∀ W, Calls Try.prog 50 #[.int .i64 8, .int .i64 (i : Int)] W fun e w' => e = .returned (.int .i64 (t : Int)) ∧ Drawn0 W w') := Lib.hid (fun W => by rw [← ht]; exact turn_any i W hlt)
      have W1 : IntKind.i64.wrap (z0 * 1753) = z0 * 1753 := IntWalk.i64_in _ (by omega)
      obtain ⟨p0, hp0⟩ : ∃ p, z0 * 1753 = p := ⟨_, rfl⟩
      rw [hp0] at W1 ez
      have hm : Int.tmod p0 8380417 = pw (i + 1) := by rw [Int.tmod_eq_emod_of_nonneg (by omega), ez]
      obtain ⟨z1, hz1⟩ : ∃ z, pw (i + 1) = z := ⟨_, rfl⟩
      rw [hz1] at hm
      have Z1 := Lib.hid hz1
      have HI := Lib.hid hI
      have BL := Lib.hid hBl
      have hc := hI.cell t htl
      have hfz := hI.frozen t
      clear hI hBl hz0 ht pb ez hz1
      go_wp2_with (go_at_call 50; (with_reducible refine (TN.out _).mono ?_); rintro e w9 ⟨rfl, hD⟩; have HI := Lib.hid (HI.out.drawn hD); have BL := Lib.hid (below_drawn BL.out hD); have hc := HI.out.cell t htl; have hfz := HI.out.frozen t; clear hD)
      go_roundw
      case rel =>
        have hrel : RootRel w g1 (.int .i64 z1) (.int .i64 ((i : Int) + 1)) (w9.setCell ⟨g1, t, none⟩ (.int .i64 z0)) := ⟨i + 1, by omega, by rw [Z1.out], by go_num, by rw [← E.out]; exact HI.out.set t z0, BL.out.setCell G1.out _⟩
        first
        | exact hrel
        | (repeat apply Exists.intro
           exact ⟨hrel, rfl⟩)
      case measure => simp [intOf]; omega
    · have e : i = 256 := by omega
      subst e
      have HI := Lib.hid hI
      have BL := Lib.hid hBl
      clear hI hBl hi hlt
      go_wp2
      go_ret
      exact ⟨_, _, rfl, C1.out, G1.out, HI.out, BL.out⟩
set_option maxHeartbeats 1000000 in
set_option maxRecDepth 20000 in
theorem clone_any (A : Option Addr) (c : Nat) (f : F) (w : World) (hA : RD w A f) (hc : 256 ≤ c) :
    Calls Try.prog 40 #[.slice A 256 c] w fun e w' => ∃ g1 c1, e = .returned (sl g1 c1) ∧ 256 ≤ c1 ∧ w.heap.size ≤ g1 ∧ IR w' g1 f ∧ Below w.heap.size w w' := by
  obtain ⟨ad, rfl, hcell⟩ := hA
  have HA : Hid (RD w (some ad) f) := Lib.hid ⟨ad, rfl, hcell⟩
  clear hcell
  have hE := Lib.run_eql_slice_nil (P := Try.prog) w 22 3 (some ad) 256 c 0 0 Try.underlying22
  go_enter Try.func40, Try.ntmps40
  go_wp2_with (first
    | ((with_reducible refine gate_dst (N := 5) rfl ?_); refine Kd.R_lit (Kd.int .i64) w.heap.size 3 rfl (N := 5) rfl (w0 := w) (xs := []) (inner := []) (okp := fun _ => False) (ok := fun _ => True) ?aR ?aP (fun _ h => h.elim) trivial (Below.refl _ _) (Nat.le_refl _) (by decide) ?_; (case aR => first | (go_simp; done) | (go_simp; rfl)); (case aP => exact Reps.none _ _); intro v1 w1 ho hb hg _; have HR1 := Lib.hid ho; have HB1 := Lib.hid hb; have HC1 := Lib.hid (show Kd.C (Kd.int .i64) w1 (some ad) 256 (ls f) by have h := (HA.out.below hb).C; rw [ls_len] at h; exact h); clear ho hb hg)
    | (at_builtin; refine Kd.R_append_rows (Kd.int .i64) (Rr := fun x cs => cs = [Value.int .i64 x]) (w0 := w) w.heap.size rfl (.tmp 5) (.tmp 6) 22 3 (.int .i64 0) 8 rfl Try.underlying22 info3 rfl (by decide) (by omega) v1 [] (ls f) (some ad) 256 c (fun _ => True) (fun _ => False) rfl rfl ?aO ?aR (fun _ _ h => h) (fun _ hk => hk.elim) (fun _ _ => trivial) ?aB ?aS ?aL ?_; (case aB => exact HB1.out); (case aO => exact HR1.out); (case aR => exact HC1.out); (case aS => exact HB1.out.size); (case aL => simp only [List.length_nil]; omega); intro v2 w2 ho hb hg hat; rw [List.nil_append] at ho; obtain ⟨g2, c2, rfl, hc2, hg2, hI2⟩ := ir_of_R (f := f) ho (ls_len f) (fun i hi => ls_get f i hi); have I2 := Lib.hid hI2; have B2 := Lib.hid hb; clear ho hb hg hat hI2))
  go_ret
  exact ⟨g2, c2, rfl, hc2, hg2, I2.out, B2.out⟩
end Go.Proofs.Ytebicdjnhogniaa.T
