/- The reference's Over: its walk (printed by gen_rob.py out of Over's). -/
import Derived.Test.YtebicdjnhogniaaRfa
namespace Go.Proofs.Ytebicdjnhogniaa.T
open Go.RowKit Go.Proofs.Ytebicdjnhogniaa.PWavePolys Go.Proofs.YtebicdjnhogniaaW.PrintWords Go.Proofs.YtebicdjnhogniaaW.PrintLast
set_option linter.unusedVariables false
set_option linter.unusedSimpArgs false
def R0 (w : World) (gf : Nat) (f : F) (w' : World) : Prop := IR w' gf f ∧ Below w.heap.size w w'
def R1 (w : World) (gf : Nat) (f : F) (m n : Value) (w' : World) : Prop := ∃ s : Nat, s ≤ 8 ∧ m = .int .i64 ((2 ^ s : Nat) - 1 : Int) ∧ n = .int .i64 ((128 / 2 ^ s : Nat) : Int) ∧ R0 w gf (overL f s) w'
def R2 (w : World) (gf n nb : Nat) (new old : F) (m st : Value) (w' : World) : Prop := ∃ b t : Nat, b ≤ nb ∧ t = 2 * n * b ∧ m = .int .i64 (((nb + b : Nat) : Int) - 1) ∧ st = .int .i64 (t : Int) ∧ R0 w gf (pst n t t new old) w'
def R3 (w : World) (gf n t : Nat) (new old : F) (jv : Value) (w' : World) : Prop := ∃ j : Nat, t ≤ j ∧ j ≤ t + n ∧ jv = .int .i64 (j : Int) ∧ R0 w gf (pst n t j new old) w'
set_option maxHeartbeats 4000000 in
set_option maxRecDepth 20000 in
theorem rover_any (A : Option Addr) (c : Nat) (f r : F) (w : World) (hA : RD w A f) (hc : 256 ≤ c) (hf : PF f) (hr : overS f = r) :
    Calls Try.prog 28 #[.slice A 256 c] w fun e w' => ∃ g1 c1, e = .returned (sl g1 c1) ∧ 256 ≤ c1 ∧ w.heap.size ≤ g1 ∧ IR w' g1 r ∧ Below w.heap.size w w' := by
  have MA := Lib.hid (rmay_any A c f w hA hc hf)
  have HA := Lib.hid hA
  have PFf := Lib.hid hf
  have HR := Lib.hid hr
  clear hA hf hr
  go_enter Try.func28, Try.ntmps28
  go_wp2_with (first
    | (go_at_call 37; (with_reducible refine MA.out.mono ?_); rintro e w1 ⟨rfl, hB⟩; have B1 := Lib.hid hB; have HC := Lib.hid (show Kd.C (Kd.int .i64) w1 A 256 (ls f) by have h := (HA.out.below hB).C; rw [ls_len] at h; exact h); clear hB)
    | (at_builtin; refine Kd.R_append_rows (Kd.int .i64) (Rr := fun x cs => cs = [Value.int .i64 x]) (w0 := w1) w1.heap.size rfl (.const (.slice none 0 0)) (.tmp 13) 22 3 (.int .i64 0) 8 rfl Try.underlying22 info3 rfl (by decide) (by omega) (.slice none 0 0) [] (ls f) A 256 c (fun _ => True) (fun _ => False) rfl rfl ?aO ?aR (fun _ _ h => h) (fun _ hk => hk.elim) (fun _ _ => trivial) ?aB ?aS ?aL ?_; (case aB => exact (Below.refl _ _)); (case aO => exact (Kd.R_nil _ _ _ _ _)); (case aR => exact HC.out); (case aS => exact Nat.le_refl _); (case aL => simp only [List.length_nil]; omega); intro v2 w2 ho hb hg hat; rw [List.nil_append] at ho; obtain ⟨gf, cf, rfl, hcf, hgf, hI2⟩ := ir_of_R (f := f) ho (ls_len f) (fun i hi => ls_get f i hi); have If := Lib.hid hI2; have B2 := Lib.hid (below_step B1.out hb); have Gf := Lib.hid (show w.heap.size ≤ gf from Nat.le_trans B1.out.size hgf); have Cf := Lib.hid hcf; clear ho hb hg hat hI2 hgf hcf))
  clear MA B1 HC HA
  go_loopw [4, 5] (fun m n w' => R1 w gf f m n w') (fun _ n _ => (intOf n).toNat)
  case atStart => exact ⟨0, by omega, rfl, rfl, If.out, B2.out⟩
  case round =>
    clear If B2
    obtain ⟨s, hs, rfl, rfl, hO⟩ := hrel
    by_cases hlt : s < 8
    · obtain ⟨z1, z2, z3, z4, z5, z6, z7⟩ := sizes s hlt
      have hold := overL_PF f PFf.out s
      have hnext : overL f (s + 1) = lay (128 / 2 ^ s) (2 ^ s) zS (overL f s) := rfl
      obtain ⟨n, hn⟩ : ∃ n, 128 / 2 ^ s = n := ⟨_, rfl⟩
      obtain ⟨nb, hnb⟩ : ∃ n, 2 ^ s = n := ⟨_, rfl⟩
      obtain ⟨old, ho⟩ : ∃ o, overL f s = o := ⟨_, rfl⟩
      rw [hn, hnb, ho] at hnext
      rw [hn, hnb] at z1
      rw [hn] at z2 z3 z4
      rw [hnb] at z5 z6 z7
      rw [ho] at hO hold
      rw [hn, hnb]
      obtain ⟨new, hw⟩ : ∃ o, lay n nb zS old = o := ⟨_, rfl⟩
      rw [hw] at hnext
      have NX := Lib.hid hnext
      have NW := Lib.hid hw
      have POLD := Lib.hid hold
      have hq : Int.tdiv (n : Int) 2 = ((128 / 2 ^ (s + 1) : Nat) : Int) := by rw [← z4, Int.tdiv_eq_ediv_of_nonneg (by omega)]; omega
      obtain ⟨n2, hn2⟩ : ∃ k, 128 / 2 ^ (s + 1) = k := ⟨_, rfl⟩
      rw [hn2] at hq
      have HN2 := Lib.hid hn2
      have Z7 := Lib.hid z7
      have hpd : decide ((n : Int) ≥ 1) = true := decide_eq_true (by omega)
      have hpd2 : decide (1 ≤ (n : Int)) = true := decide_eq_true (by omega)
      have HO := Lib.hid hO
      have hn21 : n2 < n := by omega
      clear hO hn hnb ho hold hnext hw hn2 z4 z7
      go_wp2
      go_loopw [4, 6] (fun m st w' => R2 w gf n nb new old m st w') (fun _ st _ => (256 - intOf st).toNat)
      case atStart => exact ⟨0, 0, by omega, by omega, by simp, rfl, by rw [← pst_start]; exact HO.out⟩
      case round =>
        clear HO
        obtain ⟨b, t, hb, ht, rfl, rfl, hO⟩ := hrel
        by_cases hbl : b < nb
        · have htb : t + 2 * n ≤ 256 := by
            have h1 : 2 * n * (b + 1) ≤ 2 * n * nb := Nat.mul_le_mul_left _ (by omega)
            rw [z1, Nat.mul_add, Nat.mul_one, ← ht] at h1
            exact h1
          have htn : t + 2 * n = 2 * n * (b + 1) := by rw [Nat.mul_add, Nat.mul_one, ← ht]
          have HT := Lib.hid ht
          have HTN := Lib.hid htn
          have hpd3 : decide ((t : Int) < 256) = true := decide_eq_true (by omega)
          have WM : IntKind.i64.wrap (((nb + b : Nat) : Int) - 1 + 1) = ((nb + b : Nat) : Int) := by rw [IntWalk.i64_in _ (by omega)]; omega
          obtain ⟨m, hm⟩ : ∃ m, nb + b = m := ⟨_, rfl⟩
          have hmb : m < 256 := by omega
          have hmi : (m : Int) < 256 := by omega
          rw [hm] at WM
          rw [hm]
          have HM := Lib.hid hm
          have HO := Lib.hid hO
          have bz := rs_PF 256 m hmb
          have RT := Lib.hid (fun W => root_any m W hmb)
          obtain ⟨z0, hz0⟩ : ∃ x, zS m = x := ⟨_, rfl⟩
          rw [show rs 256 m = z0 from hz0] at bz
          rw [hz0] at RT
          have BZ := Lib.hid bz
          have HZ := Lib.hid hz0
          clear hO ht htn hm hz0 bz
          go_wp2_with (go_at_call 39; (with_reducible refine (RT.out _).mono ?_); rintro e w9 ⟨rfl, hB⟩; have HO := Lib.hid (show R0 w gf (pst n t t new old) w9 from ⟨HO.out.1.below hB, below_step HO.out.2 hB⟩); clear hB)
          go_loopw [8] (fun jv w' => R3 w gf n t new old jv w') (fun jv _ => (t + n - intOf jv).toNat)
          case atStart => exact ⟨t, by omega, by omega, rfl, HO.out⟩
          case round =>
            clear HO
            obtain ⟨j, hj1, hj2, rfl, hIf, hBl⟩ := hrel
            have WT : IntKind.i64.wrap ((t : Int) + (n : Int)) = ((t + n : Nat) : Int) := by rw [IntWalk.i64_in _ (by omega)]; omega
            by_cases hjl : j < t + n
            · have hpd4 : decide ((j : Int) < ((t + n : Nat) : Int)) = true := decide_eq_true (by omega)
              have hji : (j : Int) < 256 := by omega
              have hjl256 : j < 256 := by omega
              have hjn256 : j + n < 256 := by omega
              have b0 := POLD.out j hjl256
              have b1 := POLD.out (j + n) hjn256
              have bz := BZ.out
              have hlo := lay_lo n nb zS old b j (by have := HT.out; omega) (by have := HT.out; omega)
              have hhi := lay_hi n nb zS old b j (by have := HT.out; omega) (by have := HT.out; omega)
              rw [NW.out, HM.out] at hlo hhi
              have hpl := pst_lo new old hj1 hjl
              have hph := pst_hi new old hj1 hjl
              have hst := pst_step new old hj1 hjl
              have hcj := hIf.cell j hjl256
              have hcjn := hIf.cell (j + n) hjn256
              rw [hpl] at hcj
              rw [hph] at hcjn
              obtain ⟨jn, hjn⟩ : ∃ k, j + n = k := ⟨_, rfl⟩
              obtain ⟨x0, hx0⟩ : ∃ x, old j = x := ⟨_, rfl⟩
              rw [hx0] at b0 hcj hlo hhi
              rw [hjn] at hcjn hst hph hhi hlo b1 hjn256
              obtain ⟨y0, hy0⟩ : ∃ x, old jn = x := ⟨_, rfl⟩
              rw [hy0] at b1 hcjn hlo hhi
              rw [HZ.out] at hlo hhi
              have mb := mul_bd bz.1 bz.2 b1.1 (show y0 ≤ 20000000 by omega)
              have hjni : (jn : Int) < 256 := by omega
              have hne : j ≠ jn := by omega
              have WJ : IntKind.i64.wrap ((j : Int) + (n : Int)) = (jn : Int) := by rw [IntWalk.i64_in _ (by omega)]; omega
              have WP0 : IntKind.i64.wrap (z0 * y0) = z0 * y0 := IntWalk.i64_in _ (by omega)
              obtain ⟨p0, hp0⟩ : ∃ p, z0 * y0 = p := ⟨_, rfl⟩
              have WP : IntKind.i64.wrap (z0 * y0) = p0 := WP0.trans hp0
              rw [hp0] at mb hlo hhi
              have tb := mod_bd p0
              have TP : Int.tmod p0 8380417 = p0 % 8380417 := Int.tmod_eq_emod_of_nonneg (by omega)
              obtain ⟨t0, ht0⟩ : ∃ p, p0 % 8380417 = p := ⟨_, rfl⟩
              rw [ht0] at TP tb hlo hhi
              have W10 : IntKind.i64.wrap (x0 - t0) = x0 - t0 := IntWalk.i64_in _ (by omega)
              obtain ⟨u1, hu1⟩ : ∃ p, x0 - t0 = p := ⟨_, rfl⟩
              have W1 : IntKind.i64.wrap (x0 - t0) = u1 := W10.trans hu1
              have W20 : IntKind.i64.wrap (u1 + 8380417) = u1 + 8380417 := IntWalk.i64_in _ (by omega)
              have T2 : Int.tmod (u1 + 8380417) 8380417 = new jn := by rw [Int.tmod_eq_emod_of_nonneg (by omega), hhi]; congr 1; omega
              obtain ⟨u2, hu2⟩ : ∃ p, u1 + 8380417 = p := ⟨_, rfl⟩
              have W2 : IntKind.i64.wrap (u1 + 8380417) = u2 := W20.trans hu2
              rw [hu2] at T2
              have W30 : IntKind.i64.wrap (x0 + t0) = x0 + t0 := IntWalk.i64_in _ (by omega)
              have T3 : Int.tmod (x0 + t0) 8380417 = new j := by rw [Int.tmod_eq_emod_of_nonneg (by omega), ← hlo]
              obtain ⟨u3, hu3⟩ : ∃ p, x0 + t0 = p := ⟨_, rfl⟩
              have W3 : IntKind.i64.wrap (x0 + t0) = u3 := W30.trans hu3
              rw [hu3] at T3
              obtain ⟨v1, hv1⟩ : ∃ p, new jn = p := ⟨_, rfl⟩
              obtain ⟨v0, hv0⟩ : ∃ p, new j = p := ⟨_, rfl⟩
              rw [hv1] at T2 hst
              rw [hv0] at T3 hst
              have ST := Lib.hid hst
              have HIf := Lib.hid hIf
              have HBl := Lib.hid hBl
              clear WP0 W10 W20 W30 hIf hBl hlo hhi hpl hph hst hx0 hy0 hp0 ht0 hu1 hu2 hu3 hv0 hv1 b0 b1 bz mb tb hjn
              have hfj := HIf.out.frozen j
              have hfjn := HIf.out.frozen jn
              have I2 := Lib.hid (HIf.out.set jn v1)
              have hcj2 : (wr.setCell ⟨gf, jn, none⟩ (.int .i64 v1)).cell? ⟨gf, j, none⟩ = some (.int .i64 x0) := by
                have h1 := I2.out.cell j hjl256
                rw [h1]
                unfold upd
                rw [if_neg hne]
                have h2 := HIf.out.cell j hjl256
                rw [hcj] at h2
                exact h2.symm
              have hfj2 := I2.out.frozen j
              go_wp2
              go_roundw
              case rel =>
                have hrel : R3 w gf n t new old (.int .i64 ((j : Int) + 1)) ((wr.setCell ⟨gf, jn, none⟩ (.int .i64 v1)).setCell ⟨gf, j, none⟩ (.int .i64 v0)) := ⟨j + 1, by omega, by omega, by go_num, by rw [← ST.out]; exact I2.out.set j v0, (HBl.out.setCell Gf.out _).setCell Gf.out _⟩
                first
                | exact hrel
                | (repeat apply Exists.intro
                   exact ⟨hrel, rfl⟩)
              case measure => simp [intOf]; omega
            · have e : j = t + n := by omega
              subst e
              rw [pst_next] at hIf
              have HIf := Lib.hid hIf
              have HBl := Lib.hid hBl
              have W2n : IntKind.i64.wrap (2 * (n : Int)) = 2 * (n : Int) := IntWalk.i64_in _ (by omega)
              have WS : IntKind.i64.wrap ((t : Int) + 2 * (n : Int)) = ((t + 2 * n : Nat) : Int) := by rw [IntWalk.i64_in _ (by omega)]; omega
              clear hIf hBl hj1 hj2 hjl
              go_wp2
              go_roundw
              case rel =>
                have hrel : R2 w gf n nb new old (.int .i64 (m : Int)) (.int .i64 ((t + 2 * n : Nat) : Int)) wr := ⟨b + 1, t + 2 * n, by omega, HTN.out, by have := HM.out; congr 1; omega, rfl, HIf.out, HBl.out⟩
                first
                | exact hrel
                | (repeat apply Exists.intro
                   exact ⟨hrel, rfl⟩)
              case measure => simp [intOf]; omega
        · have e : b = nb := by omega
          subst e
          rw [z1] at ht
          subst ht
          have HO := Lib.hid hO
          clear hO hb hbl
          go_wp2
          go_roundw
          case rel =>
            have hrel : R1 w gf f (.int .i64 (((b + b : Nat) : Int) - 1)) (.int .i64 (n2 : Int)) wr := ⟨s + 1, by omega, by rw [Z7.out], by rw [HN2.out], HO.out.1.ext (fun k hk => by rw [NX.out, pst_all n new old k hk]), HO.out.2⟩
            first
            | exact hrel
            | (repeat apply Exists.intro
               exact ⟨hrel, rfl⟩)
          case measure => simp [intOf]; omega
    · have e : s = 8 := by omega
      subst e
      have h0 : ((128 / 2 ^ 8 : Nat) : Int) = 0 := by decide
      rw [h0]
      have HO := Lib.hid hO
      clear hO hs hlt h0
      go_wp2
      go_ret
      exact ⟨gf, cf, rfl, Cf.out, Gf.out, by rw [← HR.out]; exact HO.out.1, HO.out.2⟩
end Go.Proofs.Ytebicdjnhogniaa.T
