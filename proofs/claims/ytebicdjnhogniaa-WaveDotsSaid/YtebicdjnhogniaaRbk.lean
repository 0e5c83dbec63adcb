/- The reference's Back: its walk (printed by gen_rob.py out of Back's). -/
import Derived.Test.YtebicdjnhogniaaRov
namespace Go.Proofs.Ytebicdjnhogniaa.T
open Go.RowKit Go.Proofs.Ytebicdjnhogniaa.PWavePolys Go.Proofs.YtebicdjnhogniaaW.PrintWords Go.Proofs.YtebicdjnhogniaaW.PrintLast
set_option linter.unusedVariables false
set_option linter.unusedSimpArgs false
theorem bk_same (z x y : Int) : (8380417 - z) * ((x - y + 8380417) % 8380417) % 8380417 = z * (y + 8380417 - x) % 8380417 := by
  refine M.eq ?_ (mod_bd _) (mod_bd _)
  refine (M.emod _).trans (((M.refl _).mul (M.emod _)).trans (M.trans ⟨x - y + 8380417 - 2 * z, ?_⟩ (M.emod _).symm))
  grind
def Q1 (w : World) (gf : Nat) (f : F) (m n : Value) (w' : World) : Prop := ∃ s : Nat, s ≤ 8 ∧ m = .int .i64 ((256 / 2 ^ s : Nat) : Int) ∧ n = .int .i64 ((2 ^ s : Nat) : Int) ∧ R0 w gf (backL f s) w'
def Q2 (w : World) (gf n nb : Nat) (new old : F) (m st : Value) (w' : World) : Prop := ∃ b t M : Nat, b ≤ nb ∧ t = 2 * n * b ∧ M + b = nb + nb ∧ m = .int .i64 (M : Int) ∧ st = .int .i64 (t : Int) ∧ R0 w gf (pst n t t new old) w'
set_option maxHeartbeats 4000000 in
set_option maxRecDepth 20000 in
theorem rback_any (A : Option Addr) (c : Nat) (f r : F) (w : World) (hA : RD w A f) (hc : 256 ≤ c) (hf : PF f) (hr : backS f = r) :
    Calls Try.prog 29 #[.slice A 256 c] w fun e w' => ∃ g1 c1, e = .returned (sl g1 c1) ∧ 256 ≤ c1 ∧ w.heap.size ≤ g1 ∧ IR w' g1 r ∧ Below w.heap.size w w' := by
  have MA := Lib.hid (rmay_any A c f w hA hc hf)
  have HA := Lib.hid hA
  have PFf := Lib.hid hf
  have HR := Lib.hid hr
  clear hA hf hr
  go_enter Try.func29, Try.ntmps29
  go_wp2_with (first
    | (go_at_call 37; (with_reducible refine MA.out.mono ?_); rintro e w1 ⟨rfl, hB⟩; have B1 := Lib.hid hB; have HC := Lib.hid (show Kd.C (Kd.int .i64) w1 A 256 (ls f) by have h := (HA.out.below hB).C; rw [ls_len] at h; exact h); clear hB)
    | (at_builtin; refine Kd.R_append_rows (Kd.int .i64) (Rr := fun x cs => cs = [Value.int .i64 x]) (w0 := w1) w1.heap.size rfl (.const (.slice none 0 0)) (.tmp 14) 22 3 (.int .i64 0) 8 rfl Try.underlying22 info3 rfl (by decide) (by omega) (.slice none 0 0) [] (ls f) A 256 c (fun _ => True) (fun _ => False) rfl rfl ?aO ?aR (fun _ _ h => h) (fun _ hk => hk.elim) (fun _ _ => trivial) ?aB ?aS ?aL ?_; (case aB => exact (Below.refl _ _)); (case aO => exact (Kd.R_nil _ _ _ _ _)); (case aR => exact HC.out); (case aS => exact Nat.le_refl _); (case aL => simp only [List.length_nil]; omega); intro v2 w2 ho hb hg hat; rw [List.nil_append] at ho; obtain ⟨gf, cf, rfl, hcf, hgf, hI2⟩ := ir_of_R (f := f) ho (ls_len f) (fun i hi => ls_get f i hi); have If := Lib.hid hI2; have B2 := Lib.hid (below_step B1.out hb); have Gf := Lib.hid (show w.heap.size ≤ gf from Nat.le_trans B1.out.size hgf); have Cf := Lib.hid hcf; clear ho hb hg hat hI2 hgf hcf))
  clear MA B1 HC HA
  go_loopw [4, 5] (fun m n w' => Q1 w gf f m n w') (fun _ n _ => (256 - intOf n).toNat)
  case atStart => exact ⟨0, by omega, rfl, rfl, If.out, B2.out⟩
  case round =>
    clear If B2
    obtain ⟨s, hs, rfl, rfl, hO⟩ := hrel
    by_cases hlt : s < 8
    · obtain ⟨z1, z2, z3, z4, z5, z6, z7, z8⟩ := sizes2 s hlt
      have hold := backL_PF f PFf.out s
      have hnext : backL f (s + 1) = bay (2 ^ s) (128 / 2 ^ s) zS (backL f s) := rfl
      rw [z7]
      obtain ⟨n, hn⟩ : ∃ n, 2 ^ s = n := ⟨_, rfl⟩
      obtain ⟨nb, hnb⟩ : ∃ k, 128 / 2 ^ s = k := ⟨_, rfl⟩
      obtain ⟨old, ho⟩ : ∃ o, backL f s = o := ⟨_, rfl⟩
      rw [hnb, ho, hn] at hnext
      rw [hnb, hn] at z1
      rw [hn] at z2 z3 z4
      rw [hnb] at z5 z6 z8
      rw [ho] at hO hold
      rw [hnb, hn]
      obtain ⟨new, hw⟩ : ∃ o, bay n nb zS old = o := ⟨_, rfl⟩
      rw [hw] at hnext
      have NX := Lib.hid hnext
      have NW := Lib.hid hw
      have POLD := Lib.hid hold
      obtain ⟨n2, hn2⟩ : ∃ k, 2 ^ (s + 1) = k := ⟨_, rfl⟩
      rw [hn2] at z4
      have HQ : Hid (IntKind.i64.wrap (2 * (n : Int)) = (n2 : Int)) := Lib.hid (by rw [IntWalk.i64_in _ (by omega)]; omega)
      have HN2 := Lib.hid hn2
      have Z8 := Lib.hid z8
      have hpd : decide ((n : Int) ≤ 128) = true := decide_eq_true (by omega)
      have HO := Lib.hid hO
      have hn21 : n < n2 := by omega
      clear hO hn hnb ho hold hnext hw hn2 z4 z7 z8
      go_wp2
      go_loopw [4, 6] (fun m st w' => Q2 w gf n nb new old m st w') (fun _ st _ => (256 - intOf st).toNat)
      case atStart => exact ⟨0, 0, nb + nb, by omega, by omega, by omega, rfl, rfl, by rw [← pst_start]; exact HO.out⟩
      case round =>
        clear HO
        obtain ⟨b, t, M, hb, ht, hMb, rfl, rfl, hO⟩ := hrel
        by_cases hbl : b < nb
        · have htb : t + 2 * n ≤ 256 := by
            have h1 : 2 * n * (b + 1) ≤ 2 * n * nb := Nat.mul_le_mul_left _ (by omega)
            rw [z1, Nat.mul_add, Nat.mul_one, ← ht] at h1
            exact h1
          have htn : t + 2 * n = 2 * n * (b + 1) := by rw [Nat.mul_add, Nat.mul_one, ← ht]
          have HT := Lib.hid ht
          have HTN := Lib.hid htn
          have hpd3 : decide ((t : Int) < 256) = true := decide_eq_true (by omega)
          have hbnb : b < nb := hbl
          obtain ⟨m, hm⟩ : ∃ m, 2 * nb - 1 - b = m := ⟨_, rfl⟩
          have WM : IntKind.i64.wrap ((M : Int) - 1) = (m : Int) := by rw [IntWalk.i64_in _ (by omega)]; omega
          have hmb : m < 256 := by omega
          have hmi : (m : Int) < 256 := by omega
          have HMB : Hid (m + (b + 1) = nb + nb) := Lib.hid (by omega)
          have HM := Lib.hid hm
          have HO := Lib.hid hO
          have bz := rs_PF 256 m hmb
          have RT := Lib.hid (fun W => root_any m W hmb)
          obtain ⟨z0, hz0⟩ : ∃ x, zS m = x := ⟨_, rfl⟩
          rw [show rs 256 m = z0 from hz0] at bz
          rw [hz0] at RT
          have BZ := Lib.hid bz
          have HZ := Lib.hid hz0
          have WZ0 : IntKind.i64.wrap (8380417 - z0) = 8380417 - z0 := IntWalk.i64_in _ (by omega)
          obtain ⟨zz, hzz⟩ : ∃ x, 8380417 - z0 = x := ⟨_, rfl⟩
          have WZ : IntKind.i64.wrap (8380417 - z0) = zz := WZ0.trans hzz
          have HZZ := Lib.hid hzz
          clear hO ht htn hm hz0 bz WZ0 hzz
          go_wp2_with (go_at_call 39; (with_reducible refine (RT.out _).mono ?_); rintro e w9 ⟨rfl, hB⟩; have HO := Lib.hid (show R0 w gf (pst n t t new old) w9 from ⟨HO.out.1.below hB, below_step HO.out.2 hB⟩); clear hB)
          clear WZ
          go_loopw [8] (fun jv w' => R3 w gf n t new old jv w') (fun jv _ => (t + n - intOf jv).toNat)
          case atStart => exact ⟨t, by omega, by omega, rfl, HO.out⟩
          case round =>
            clear HO
            obtain ⟨j, hj1, hj2, rfl, hIf, hBl⟩ := hrel
            have WT : IntKind.i64.wrap ((t : Int) + (n : Int)) = ((t + n : Nat) : Int) := by rw [IntWalk.i64_in _ (by omega)]; omega
            by_cases hjl : j < t + n
            · have hpd4 : decide ((j : Int) < ((t + n : Nat) : Int)) = true := decide_eq_true (by omega)
              have hji : (j : Int) < 256 := by omega
              have hjl256 : j < 256 := by omega
              have hjn256 : j + n < 256 := by omega
              have b0 := POLD.out j hjl256
              have b1 := POLD.out (j + n) hjn256
              have bz := BZ.out
              have hlo := bay_lo n nb zS old b j (by have := HT.out; omega) (by have := HT.out; omega)
              have hhi := bay_hi n nb zS old b j (by have := HT.out; omega) (by have := HT.out; omega)
              rw [NW.out] at hlo hhi
              rw [HM.out] at hhi
              have hpl := pst_lo new old hj1 hjl
              have hph := pst_hi new old hj1 hjl
              have hst := pst_step2 new old hj1 hjl
              have hcj := hIf.cell j hjl256
              have hcjn := hIf.cell (j + n) hjn256
              rw [hpl] at hcj
              rw [hph] at hcjn
              obtain ⟨jn, hjn⟩ : ∃ k, j + n = k := ⟨_, rfl⟩
              obtain ⟨x0, hx0⟩ : ∃ x, old j = x := ⟨_, rfl⟩
              rw [hx0] at b0 hcj hlo hhi
              rw [hjn] at hcjn hst hph hhi hlo b1 hjn256
              obtain ⟨y0, hy0⟩ : ∃ x, old jn = x := ⟨_, rfl⟩
              rw [hy0] at b1 hcjn hlo hhi
              rw [HZ.out] at hhi
              have hjni : (jn : Int) < 256 := by omega
              have hne : jn ≠ j := by omega
              have WJ : IntKind.i64.wrap ((j : Int) + (n : Int)) = (jn : Int) := by rw [IntWalk.i64_in _ (by omega)]; omega
              have WA0 : IntKind.i64.wrap (x0 + y0) = x0 + y0 := IntWalk.i64_in _ (by omega)
              have TA : Int.tmod (x0 + y0) 8380417 = new j := by rw [Int.tmod_eq_emod_of_nonneg (by omega), ← hlo]
              obtain ⟨s0, hs0⟩ : ∃ p, x0 + y0 = p := ⟨_, rfl⟩
              have WA : IntKind.i64.wrap (x0 + y0) = s0 := WA0.trans hs0
              rw [hs0] at TA
              have WB0 : IntKind.i64.wrap (x0 - y0) = x0 - y0 := IntWalk.i64_in _ (by omega)
              have WC0 : IntKind.i64.wrap (x0 - y0 + 8380417) = x0 - y0 + 8380417 := IntWalk.i64_in _ (by omega)
              have TC0 : Int.tmod (x0 - y0 + 8380417) 8380417 = (x0 - y0 + 8380417) % 8380417 := Int.tmod_eq_emod_of_nonneg (by omega)
              have ub := mod_bd (x0 - y0 + 8380417)
              have hbk := bk_same z0 x0 y0
              rw [HZZ.out, ← hhi] at hbk
              obtain ⟨u1, hu1⟩ : ∃ p, x0 - y0 = p := ⟨_, rfl⟩
              have WB : IntKind.i64.wrap (x0 - y0) = u1 := WB0.trans hu1
              rw [hu1] at WC0 TC0 ub hbk
              obtain ⟨u2, hu2⟩ : ∃ p, u1 + 8380417 = p := ⟨_, rfl⟩
              have WC : IntKind.i64.wrap (u1 + 8380417) = u2 := WC0.trans hu2
              rw [hu2] at TC0 ub hbk
              obtain ⟨u3, hu3⟩ : ∃ p, u2 % 8380417 = p := ⟨_, rfl⟩
              have TC : Int.tmod u2 8380417 = u3 := TC0.trans hu3
              rw [hu3] at ub hbk
              have zb : 0 ≤ zz ∧ zz ≤ 8380417 := by have := HZZ.out; omega
              have mb : 0 ≤ zz * u3 ∧ zz * u3 ≤ 8380417 * 8380417 := ⟨Int.mul_nonneg zb.1 ub.1, Int.mul_le_mul zb.2 (by omega) ub.1 (by omega)⟩
              have WP0 : IntKind.i64.wrap (zz * u3) = zz * u3 := IntWalk.i64_in _ (by omega)
              have TP : Int.tmod (zz * u3) 8380417 = new jn := by rw [Int.tmod_eq_emod_of_nonneg mb.1, hbk]
              obtain ⟨p0, hp0⟩ : ∃ p, zz * u3 = p := ⟨_, rfl⟩
              have WP : IntKind.i64.wrap (zz * u3) = p0 := WP0.trans hp0
              rw [hp0] at TP
              obtain ⟨v1, hv1⟩ : ∃ p, new jn = p := ⟨_, rfl⟩
              obtain ⟨v0, hv0⟩ : ∃ p, new j = p := ⟨_, rfl⟩
              rw [hv1] at TP hst
              rw [hv0] at TA hst
              have ST := Lib.hid hst
              have HIf := Lib.hid hIf
              have HBl := Lib.hid hBl
              clear WP0 WA0 WB0 WC0 TC0 hIf hBl hlo hhi hbk hpl hph hst hx0 hy0 hp0 hs0 hu1 hu2 hu3 hv0 hv1 b0 b1 bz mb ub zb hjn
              have hfj := HIf.out.frozen j
              have I2 := Lib.hid (HIf.out.set j v0)
              have hcjn2 : (wr.setCell ⟨gf, j, none⟩ (.int .i64 v0)).cell? ⟨gf, jn, none⟩ = some (.int .i64 y0) := by
                have h1 := I2.out.cell jn hjn256
                rw [h1]
                unfold upd
                rw [if_neg hne]
                have h2 := HIf.out.cell jn hjn256
                rw [hcjn] at h2
                exact h2.symm
              have hfjn := I2.out.frozen jn
              go_wp2
              go_roundw
              case rel =>
                have hrel : R3 w gf n t new old (.int .i64 ((j : Int) + 1)) ((wr.setCell ⟨gf, j, none⟩ (.int .i64 v0)).setCell ⟨gf, jn, none⟩ (.int .i64 v1)) := ⟨j + 1, by omega, by omega, by go_num, by rw [← ST.out]; exact I2.out.set jn v1, (HBl.out.setCell Gf.out _).setCell Gf.out _⟩
                first
                | exact hrel
                | (repeat apply Exists.intro
                   exact ⟨hrel, rfl⟩)
              case measure => simp [intOf]; omega
            · have e : j = t + n := by omega
              subst e
              rw [pst_next] at hIf
              have HIf := Lib.hid hIf
              have HBl := Lib.hid hBl
              have W2n : IntKind.i64.wrap (2 * (n : Int)) = 2 * (n : Int) := IntWalk.i64_in _ (by omega)
              have WS : IntKind.i64.wrap ((t : Int) + 2 * (n : Int)) = ((t + 2 * n : Nat) : Int) := by rw [IntWalk.i64_in _ (by omega)]; omega
              clear hIf hBl hj1 hj2 hjl
              go_wp2
              go_roundw
              case rel =>
                have hrel : Q2 w gf n nb new old (.int .i64 (m : Int)) (.int .i64 ((t + 2 * n : Nat) : Int)) wr := ⟨b + 1, t + 2 * n, m, by omega, HTN.out, HMB.out, rfl, rfl, HIf.out, HBl.out⟩
                first
                | exact hrel
                | (repeat apply Exists.intro
                   exact ⟨hrel, rfl⟩)
              case measure => simp [intOf]; omega
        · have e : b = nb := by omega
          subst e
          rw [z1] at ht
          subst ht
          have HO := Lib.hid hO
          have hq := HQ.out
          clear hO hb hbl
          go_wp2
          go_roundw
          case rel =>
            have hrel : Q1 w gf f (.int .i64 (M : Int)) (.int .i64 (n2 : Int)) wr := ⟨s + 1, by omega, by rw [Z8.out, show M = b by omega], by rw [HN2.out], HO.out.1.ext (fun k hk => by rw [NX.out, pst_all n new old k hk]), HO.out.2⟩
            first
            | exact hrel
            | (repeat apply Exists.intro
               exact ⟨hrel, rfl⟩)
          case measure => simp [intOf]; omega
    · have e : s = 8 := by omega
      subst e
      have h0 : ((2 ^ 8 : Nat) : Int) = 256 := by decide
      have h1 : ((256 / 2 ^ 8 : Nat) : Int) = 1 := by decide
      rw [h0, h1]
      have hp8 := backL_PF f PFf.out 8
      have hbs : backS f = scS (backL f 8) := rfl
      obtain ⟨p, hp⟩ : ∃ p, backL f 8 = p := ⟨_, rfl⟩
      rw [hp] at hO hp8 hbs
      have PP := Lib.hid hp8
      have BS := Lib.hid (hbs.symm.trans HR.out)
      have IP := Lib.hid hO.1
      have BP := Lib.hid hO.2
      clear hO hs hlt h0 h1 hp8 hbs hp
      go_wp2
      go_loopw [10] (fun v w' => P4 w gf p v w') (fun v _ => (256 - intOf v).toNat)
      case atStart => exact ⟨0, by omega, rfl, by have e : scP 0 p = p := (by funext k; simp [scP]); rw [e]; exact IP.out, BP.out⟩
      case round =>
        clear IP BP
        obtain ⟨i, hi, rfl, hI, hB⟩ := hrel
        by_cases hlt : i < 256
        · have hpd : decide ((i : Int) < 256) = true := decide_eq_true (by omega)
          have hii : (i : Int) < 256 := by omega
          have b0 := PP.out i hlt
          have hst := scP_step i p
          have hci := hI.cell i hlt
          have hv : scP i p i = p i := by unfold scP; rw [if_neg (by omega)]
          rw [hv] at hci
          have hsc : scS p i = p i * 8347681 % 8380417 := rfl
          obtain ⟨x0, hx0⟩ : ∃ x, p i = x := ⟨_, rfl⟩
          rw [hx0] at hci b0 hsc
          have WP0 : IntKind.i64.wrap (x0 * 8347681) = x0 * 8347681 := IntWalk.i64_in _ (by omega)
          have TP : Int.tmod (x0 * 8347681) 8380417 = scS p i := by rw [Int.tmod_eq_emod_of_nonneg (by omega), hsc]
          obtain ⟨p0, hp0⟩ : ∃ k, x0 * 8347681 = k := ⟨_, rfl⟩
          have WP : IntKind.i64.wrap (x0 * 8347681) = p0 := WP0.trans hp0
          rw [hp0] at TP
          obtain ⟨v0, hv0⟩ : ∃ k, scS p i = k := ⟨_, rfl⟩
          rw [hv0] at TP hst
          have hfi := hI.frozen i
          have ST := Lib.hid hst
          have HI := Lib.hid hI
          have HB := Lib.hid hB
          clear WP0 hI hB b0 hst hv hsc hx0 hp0 hv0
          go_wp2
          go_roundw
          case rel =>
            have hrel : P4 w gf p (.int .i64 ((i : Int) + 1)) (wr.setCell ⟨gf, i, none⟩ (.int .i64 v0)) := ⟨i + 1, by omega, by go_num, by rw [← ST.out]; exact HI.out.set i v0, HB.out.setCell Gf.out _⟩
            first
            | exact hrel
            | (repeat apply Exists.intro
               exact ⟨hrel, rfl⟩)
          case measure => simp [intOf]; omega
        · have e : i = 256 := by omega
          subst e
          have HI := Lib.hid (hI.ext (f' := r) (fun k hk => by rw [← BS.out]; unfold scP; rw [if_pos hk]))
          have HB := Lib.hid hB
          clear hI hB hi hlt
          go_wp2
          go_ret
          exact ⟨gf, cf, rfl, Cf.out, Gf.out, HI.out, HB.out⟩
end Go.Proofs.Ytebicdjnhogniaa.T
