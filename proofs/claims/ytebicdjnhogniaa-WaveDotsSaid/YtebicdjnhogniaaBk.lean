/- Back: its walk. -/
import Derived.Test.YtebicdjnhogniaaOv
namespace Go.Proofs.Ytebicdjnhogniaa.T
open Go.RowKit Go.Proofs.Ytebicdjnhogniaa.PWaveRing Go.Proofs.YtebicdjnhogniaaW.PrintWords Go.Proofs.YtebicdjnhogniaaW.PrintLast
set_option linter.unusedVariables false
set_option linter.unusedSimpArgs false
def bay (n nb : Nat) (z f : F) : F := fun k => if k % (2 * n) < n then (f k + f (k + n)) % 8380417 else z (2 * nb - 1 - k / (2 * n)) * (f k + 8380417 - f (k - n)) % 8380417
theorem bay_lo (n nb : Nat) (z f : F) (b k : Nat) (h1 : 2 * n * b ≤ k) (h2 : k < 2 * n * b + n) : bay n nb z f k = (f k + f (k + n)) % 8380417 := by
  obtain ⟨e1, e2⟩ := div_at h1 (show k < 2 * n * b + 2 * n by omega)
  unfold bay
  rw [e2, if_pos (by omega)]
theorem bay_hi (n nb : Nat) (z f : F) (b k : Nat) (h1 : 2 * n * b ≤ k) (h2 : k < 2 * n * b + n) : bay n nb z f (k + n) = z (2 * nb - 1 - b) * (f (k + n) + 8380417 - f k) % 8380417 := by
  obtain ⟨e1, e2⟩ := div_at (n := n) (b := b) (k := k + n) (by omega) (by omega)
  unfold bay
  rw [e1, e2, if_neg (by omega), Nat.add_sub_cancel]
theorem bay_PF (n nb : Nat) (z f : F) : PF (bay n nb z f) := fun k _ => by
  unfold bay
  split
  · exact mod_bd _
  · exact mod_bd _
theorem pst_step2 {n st j : Nat} (new old : F) (h : st ≤ j) (h2 : j < st + n) : upd (upd (pst n st j new old) j (new j)) (j + n) (new (j + n)) = pst n st (j + 1) new old := by
  rw [← pst_step new old h h2]
  funext k
  unfold upd
  by_cases e : k = j + n
  · rw [if_pos e, if_neg (by omega), if_pos e]
  · rw [if_neg e]
    by_cases e2 : k = j
    · rw [if_pos e2, if_pos e2]
    · rw [if_neg e2, if_neg e2, if_neg e]
def backL (f : F) : Nat → F
  | 0 => f
  | s + 1 => bay (2 ^ s) (128 / 2 ^ s) zS (backL f s)
def scS (f : F) : F := fun k => f k * 8347681 % 8380417
def backS (f : F) : F := scS (backL f 8)
theorem backL_PF (f : F) (h : PF f) : ∀ s, PF (backL f s)
  | 0 => h
  | s + 1 => bay_PF _ _ _ _
theorem backS_PF (f : F) : PF (backS f) := fun k _ => mod_bd _
theorem sizes2 : ∀ s, s < 8 → 2 * 2 ^ s * (128 / 2 ^ s) = 256 ∧ 1 ≤ 2 ^ s ∧ 2 ^ s ≤ 128 ∧ 2 ^ s * 2 = 2 ^ (s + 1) ∧ 1 ≤ 128 / 2 ^ s ∧ 128 / 2 ^ s ≤ 128 ∧ 256 / 2 ^ s = 128 / 2 ^ s + 128 / 2 ^ s ∧ 256 / 2 ^ (s + 1) = 128 / 2 ^ s := by decide
def P1 (w : World) (gf gz : Nat) (f : F) (m n : Value) (w' : World) : Prop := ∃ s : Nat, s ≤ 8 ∧ m = .int .i64 ((256 / 2 ^ s : Nat) : Int) ∧ n = .int .i64 ((2 ^ s : Nat) : Int) ∧ O0 w gf gz (backL f s) w'
def P2 (w : World) (gf gz n nb : Nat) (new old : F) (m st : Value) (w' : World) : Prop := ∃ b t M : Nat, b ≤ nb ∧ t = 2 * n * b ∧ M + b = nb + nb ∧ m = .int .i64 (M : Int) ∧ st = .int .i64 (t : Int) ∧ O0 w gf gz (pst n t t new old) w'
def scP (i : Nat) (f : F) : F := fun k => if k < i then scS f k else f k
theorem scP_step (i : Nat) (f : F) : upd (scP i f) i (scS f i) = scP (i + 1) f := by
  funext k
  unfold upd scP
  by_cases e : k = i
  · subst e; rw [if_pos rfl, if_pos (by omega)]
  · rw [if_neg e]
    by_cases h : k < i
    · rw [if_pos h, if_pos (by omega)]
    · rw [if_neg h, if_neg (by omega)]
def P4 (w : World) (gf : Nat) (f : F) (v : Value) (w' : World) : Prop := ∃ i : Nat, i ≤ 256 ∧ v = .int .i64 (i : Int) ∧ IR w' gf (scP i f) ∧ Below w.heap.size w w'
set_option maxHeartbeats 4000000 in
set_option maxRecDepth 20000 in
theorem back_any (A : Option Addr) (c : Nat) (f r : F) (w : World) (hA : RD w A f) (hc : 256 ≤ c) (hf : PF f) (hr : backS f = r) :
    Calls Try.prog 15 #[.slice A 256 c] w fun e w' => ∃ g1 c1, e = .returned (sl g1 c1) ∧ 256 ≤ c1 ∧ w.heap.size ≤ g1 ∧ IR w' g1 r ∧ Below w.heap.size w w' := by
  have MA := Lib.hid (may_any A c f w hA hc hf)
  have CL := Lib.hid (clone_any A c f w hA hc)
  have PFf := Lib.hid hf
  have HR := Lib.hid hr
  clear hA hf hr
  go_enter Try.func15, Try.ntmps15
  go_wp2_with (first
    | (go_at_call 36; (with_reducible refine MA.out.mono ?_); rintro e w9 ⟨rfl, hw⟩; rw [hw]; clear hw)
    | (go_at_call 40; (with_reducible refine CL.out.mono ?_); rintro e w1 ⟨gf, cf, rfl, hcf, hgf, hI, hB⟩; have If := Lib.hid hI; have B1 := Lib.hid hB; have Gf := Lib.hid hgf; have Cf := Lib.hid hcf; clear hI hB hgf hcf)
    | (go_at_call 41; (with_reducible refine (roots_any _).mono ?_); rintro e w2 ⟨gz, cz, rfl, hcz, hgz, hI, hB⟩; have D := Lib.hid (show gf < gz from Nat.lt_of_lt_of_le If.out.lt hgz); have If := Lib.hid (If.out.below hB); have Iz := Lib.hid hI; have B2 := Lib.hid (below_step B1.out hB); clear hI hB hgz hcz))
  clear MA CL B1
  go_loopw [4, 5] (fun m n w' => P1 w gf gz f m n w') (fun _ n _ => (256 - intOf n).toNat)
  case atStart => exact ⟨0, by omega, rfl, rfl, If.out, Iz.out, B2.out⟩
  case round =>
    clear If Iz B2
    obtain ⟨s, hs, rfl, rfl, hO⟩ := hrel
    by_cases hlt : s < 8
    · obtain ⟨z1, z2, z3, z4, z5, z6, z7, z8⟩ := sizes2 s hlt
      have hold := backL_PF f PFf.out s
      have hnext : backL f (s + 1) = bay (2 ^ s) (128 / 2 ^ s) zS (backL f s) := rfl
      rw [z7]
      obtain ⟨n, hn⟩ : ∃ n, 2 ^ s = n := ⟨_, rfl⟩
      obtain ⟨nb, hnb⟩ : ∃ k, 128 / 2 ^ s = k := ⟨_, rfl⟩
      obtain ⟨old, ho⟩ : ∃ o, backL f s = o := ⟨_, rfl⟩
      rw [hnb, ho, hn] at hnext
      rw [hnb, hn] at z1
      rw [hn] at z2 z3 z4
      rw [hnb] at z5 z6 z8
      rw [ho] at hO hold
      rw [hnb, hn]
      obtain ⟨new, hw⟩ : ∃ o, bay n nb zS old = o := ⟨_, rfl⟩
      rw [hw] at hnext
      have NX := Lib.hid hnext
      have NW := Lib.hid hw
      have POLD := Lib.hid hold
      obtain ⟨n2, hn2⟩ : ∃ k, 2 ^ (s + 1) = k := ⟨_, rfl⟩
      rw [hn2] at z4
      have hq : IntKind.i64.wrap ((n : Int) * 2) = (n2 : Int) := by rw [IntWalk.i64_in _ (by omega)]; omega
      have HN2 := Lib.hid hn2
      have Z8 := Lib.hid z8
      have hpd : decide ((n : Int) ≤ 128) = true := decide_eq_true (by omega)
      have HO := Lib.hid hO
      have hn21 : n < n2 := by omega
      clear hO hn hnb ho hold hnext hw hn2 z4 z7 z8
      go_wp2
      go_loopw [4, 6] (fun m st w' => P2 w gf gz n nb new old m st w') (fun _ st _ => (256 - intOf st).toNat)
      case atStart => exact ⟨0, 0, nb + nb, by omega, by omega, by omega, rfl, rfl, by rw [← pst_start]; exact HO.out⟩
      case round =>
        clear HO
        obtain ⟨b, t, M, hb, ht, hMb, rfl, rfl, hO⟩ := hrel
        by_cases hbl : b < nb
        · have htb : t + 2 * n ≤ 256 := by
            have h1 : 2 * n * (b + 1) ≤ 2 * n * nb := Nat.mul_le_mul_left _ (by omega)
            rw [z1, Nat.mul_add, Nat.mul_one, ← ht] at h1
            exact h1
          have htn : t + 2 * n = 2 * n * (b + 1) := by rw [Nat.mul_add, Nat.mul_one, ← ht]
          have HT := Lib.hid ht
          have HTN := Lib.hid htn
          have hpd3 : decide ((t : Int) < 256) = true := decide_eq_true (by omega)
          have hbnb : b < nb := hbl
          obtain ⟨m, hm⟩ : ∃ m, 2 * nb - 1 - b = m := ⟨_, rfl⟩
          have WM : IntKind.i64.wrap ((M : Int) - 1) = (m : Int) := by rw [IntWalk.i64_in _ (by omega)]; omega
          have hmb : m < 256 := by omega
          have hmi : (m : Int) < 256 := by omega
          have HMB : Hid (m + (b + 1) = nb + nb) := Lib.hid (by omega)
          have HM := Lib.hid hm
          have HO := Lib.hid hO
          clear hO ht htn hm
          go_wp2
          go_loopw [7] (fun jv w' => O3 w gf gz n t new old jv w') (fun jv _ => (t + n - intOf jv).toNat)
          case atStart => exact ⟨t, by omega, by omega, rfl, HO.out⟩
          case round =>
            clear HO
            obtain ⟨j, hj1, hj2, rfl, hIf, hIz, hBl⟩ := hrel
            have WT : IntKind.i64.wrap ((t : Int) + (n : Int)) = ((t + n : Nat) : Int) := by rw [IntWalk.i64_in _ (by omega)]; omega
            by_cases hjl : j < t + n
            · have hpd4 : decide ((j : Int) < ((t + n : Nat) : Int)) = true := decide_eq_true (by omega)
              have hji : (j : Int) < 256 := by omega
              have hjl256 : j < 256 := by omega
              have hjn256 : j + n < 256 := by omega
              have b0 := POLD.out j hjl256
              have b1 := POLD.out (j + n) hjn256
              have bz := rs_PF 256 m hmb
              have hlo := bay_lo n nb zS old b j (by have := HT.out; omega) (by have := HT.out; omega)
              have hhi := bay_hi n nb zS old b j (by have := HT.out; omega) (by have := HT.out; omega)
              rw [NW.out] at hlo hhi
              rw [HM.out] at hhi
              have hpl := pst_lo new old hj1 hjl
              have hph := pst_hi new old hj1 hjl
              have hst := pst_step2 new old hj1 hjl
              have hcj := hIf.cell j hjl256
              have hcjn := hIf.cell (j + n) hjn256
              have hcz := hIz.cell m hmb
              rw [hpl] at hcj
              rw [hph] at hcjn
              obtain ⟨jn, hjn⟩ : ∃ k, j + n = k := ⟨_, rfl⟩
              obtain ⟨x0, hx0⟩ : ∃ x, old j = x := ⟨_, rfl⟩
              rw [hx0] at b0 hcj hlo hhi
              rw [hjn] at hcjn hst hph hhi hlo b1 hjn256
              obtain ⟨y0, hy0⟩ : ∃ x, old jn = x := ⟨_, rfl⟩
              obtain ⟨z0, hz0⟩ : ∃ x, zS m = x := ⟨_, rfl⟩
              rw [hy0] at b1 hcjn hlo hhi
              rw [hz0] at hcz hhi
              rw [show rs 256 m = z0 from hz0] at bz
              have hjni : (jn : Int) < 256 := by omega
              have hne : jn ≠ j := by omega
              have WJ : IntKind.i64.wrap ((j : Int) + (n : Int)) = (jn : Int) := by rw [IntWalk.i64_in _ (by omega)]; omega
              have WA0 : IntKind.i64.wrap (x0 + y0) = x0 + y0 := IntWalk.i64_in _ (by omega)
              have TA : Int.tmod (x0 + y0) 8380417 = new j := by rw [Int.tmod_eq_emod_of_nonneg (by omega), ← hlo]
              obtain ⟨s0, hs0⟩ : ∃ p, x0 + y0 = p := ⟨_, rfl⟩
              have WA : IntKind.i64.wrap (x0 + y0) = s0 := WA0.trans hs0
              rw [hs0] at TA
              have WB0 : IntKind.i64.wrap (y0 + 8380417) = y0 + 8380417 := IntWalk.i64_in _ (by omega)
              obtain ⟨u1, hu1⟩ : ∃ p, y0 + 8380417 = p := ⟨_, rfl⟩
              have WB : IntKind.i64.wrap (y0 + 8380417) = u1 := WB0.trans hu1
              rw [hu1] at hhi
              have WC0 : IntKind.i64.wrap (u1 - x0) = u1 - x0 := IntWalk.i64_in _ (by omega)
              have mb := mul_bd bz.1 bz.2 (show 0 ≤ u1 - x0 by omega) (show u1 - x0 ≤ 20000000 by omega)
              obtain ⟨u2, hu2⟩ : ∃ p, u1 - x0 = p := ⟨_, rfl⟩
              have WC : IntKind.i64.wrap (u1 - x0) = u2 := WC0.trans hu2
              rw [hu2] at mb hhi
              have WP0 : IntKind.i64.wrap (z0 * u2) = z0 * u2 := IntWalk.i64_in _ (by omega)
              have TP : Int.tmod (z0 * u2) 8380417 = new jn := by rw [Int.tmod_eq_emod_of_nonneg (by omega), ← hhi]
              obtain ⟨p0, hp0⟩ : ∃ p, z0 * u2 = p := ⟨_, rfl⟩
              have WP : IntKind.i64.wrap (z0 * u2) = p0 := WP0.trans hp0
              rw [hp0] at TP
              obtain ⟨v1, hv1⟩ : ∃ p, new jn = p := ⟨_, rfl⟩
              obtain ⟨v0, hv0⟩ : ∃ p, new j = p := ⟨_, rfl⟩
              rw [hv1] at TP hst
              rw [hv0] at TA hst
              have ST := Lib.hid hst
              have HIf := Lib.hid hIf
              have HIz := Lib.hid hIz
              have HBl := Lib.hid hBl
              clear WP0 WA0 WB0 WC0 hIf hIz hBl hlo hhi hpl hph hst hx0 hy0 hz0 hp0 hs0 hu1 hu2 hv0 hv1 b0 b1 bz mb hjn
              have hfj := HIf.out.frozen j
              have I2 := Lib.hid (HIf.out.set j v0)
              have Iz2 := Lib.hid (HIz.out.other (by have := D.out; omega : gz ≠ gf) j (.int .i64 v0))
              have B2' := Lib.hid (show Below w.heap.size w (wr.setCell ⟨gf, j, none⟩ (.int .i64 v0)) from HBl.out.setCell Gf.out _)
              have hcjn2 : (wr.setCell ⟨gf, j, none⟩ (.int .i64 v0)).cell? ⟨gf, jn, none⟩ = some (.int .i64 y0) := by
                have h1 := I2.out.cell jn hjn256
                rw [h1]
                unfold upd
                rw [if_neg hne]
                have h2 := HIf.out.cell jn hjn256
                rw [hcjn] at h2
                exact h2.symm
              have hcz2 : (wr.setCell ⟨gf, j, none⟩ (.int .i64 v0)).cell? ⟨gz, m, none⟩ = some (.int .i64 z0) := by
                have h1 := Iz2.out.cell m hmb
                rw [h1]
                have h2 := HIz.out.cell m hmb
                rw [hcz] at h2
                exact h2.symm
              go_wp2_with fail
              clear hcj hcjn hcz hfj
              generalize wr.setCell ⟨gf, j, none⟩ (.int .i64 v0) = w4 at I2 Iz2 B2' hcjn2 hcz2 ⊢
              refine wp_region_still_tail 20 (by kernel_rfl) (by kernel_rfl) ?_
              simp only [List.take_succ_cons, List.take_zero, List.drop_succ_cons, List.drop_zero]
              repeat still_step
              refine wpStill_nil ?_
              change wpList _ _ _ _ _ w4.drew
              have I2 : Hid (IR w4.drew gf (upd (pst n t j new old) j v0)) := Lib.hid I2.out
              have Iz2 : Hid (IR w4.drew gz zS) := Lib.hid Iz2.out
              have B2' := Lib.hid B2'.out.drew
              have hfjn := I2.out.frozen jn
              have hcx := I2.out.cell jn hjn256
              generalize w4.drew = w5 at I2 Iz2 B2' hfjn hcx ⊢
              clear hcjn2 hcz2
              go_wp2
              go_roundw
              case rel =>
                have hrel : O3 w gf gz n t new old (.int .i64 ((j : Int) + 1)) (w5.setCell ⟨gf, jn, none⟩ (.int .i64 v1)) := ⟨j + 1, by omega, by omega, by go_num, by rw [← ST.out]; exact I2.out.set jn v1, Iz2.out.other (by have := D.out; omega) _ _, B2'.out.setCell Gf.out _⟩
                first
                | exact hrel
                | (repeat apply Exists.intro
                   exact ⟨hrel, rfl⟩)
              case measure => simp [intOf]; omega
            · have e : j = t + n := by omega
              subst e
              rw [pst_next] at hIf
              have HIf := Lib.hid hIf
              have HIz := Lib.hid hIz
              have HBl := Lib.hid hBl
              have W2n : IntKind.i64.wrap (2 * (n : Int)) = 2 * (n : Int) := IntWalk.i64_in _ (by omega)
              have WS : IntKind.i64.wrap ((t : Int) + 2 * (n : Int)) = ((t + 2 * n : Nat) : Int) := by rw [IntWalk.i64_in _ (by omega)]; omega
              clear hIf hIz hBl hj1 hj2 hjl
              go_wp2
              go_roundw
              case rel =>
                have hrel : P2 w gf gz n nb new old (.int .i64 (m : Int)) (.int .i64 ((t + 2 * n : Nat) : Int)) wr := ⟨b + 1, t + 2 * n, m, by omega, HTN.out, HMB.out, rfl, rfl, HIf.out, HIz.out, HBl.out⟩
                first
                | exact hrel
                | (repeat apply Exists.intro
                   exact ⟨hrel, rfl⟩)
              case measure => simp [intOf]; omega
        · have e : b = nb := by omega
          subst e
          rw [z1] at ht
          subst ht
          have HO := Lib.hid hO
          clear hO hb hbl
          go_wp2
          go_roundw
          case rel =>
            have hrel : P1 w gf gz f (.int .i64 (M : Int)) (.int .i64 (n2 : Int)) wr := ⟨s + 1, by omega, by rw [Z8.out, show M = b by omega], by rw [HN2.out], HO.out.1.ext (fun k hk => by rw [NX.out, pst_all n new old k hk]), HO.out.2.1, HO.out.2.2⟩
            first
            | exact hrel
            | (repeat apply Exists.intro
               exact ⟨hrel, rfl⟩)
          case measure => simp [intOf]; omega
    · have e : s = 8 := by omega
      subst e
      have h0 : ((2 ^ 8 : Nat) : Int) = 256 := by decide
      have h1 : ((256 / 2 ^ 8 : Nat) : Int) = 1 := by decide
      rw [h0, h1]
      have hp8 := backL_PF f PFf.out 8
      have hbs : backS f = scS (backL f 8) := rfl
      obtain ⟨p, hp⟩ : ∃ p, backL f 8 = p := ⟨_, rfl⟩
      rw [hp] at hO hp8 hbs
      have PP := Lib.hid hp8
      have BS := Lib.hid (hbs.symm.trans HR.out)
      have IP := Lib.hid hO.1
      have BP := Lib.hid hO.2.2
      clear hO hs hlt h0 h1 hp8 hbs hp
      go_wp2
      go_loopw [74] (fun v w' => P4 w gf p v w') (fun v _ => (256 - intOf v).toNat)
      case atStart => exact ⟨0, by omega, rfl, by have e : scP 0 p = p := (by funext k; simp [scP]); rw [e]; exact IP.out, BP.out⟩
      case round =>
        clear IP BP
        obtain ⟨i, hi, rfl, hI, hB⟩ := hrel
        by_cases hlt : i < 256
        · have hpd : decide ((i : Int) < 256) = true := decide_eq_true (by omega)
          have hii : (i : Int) < 256 := by omega
          have b0 := PP.out i hlt
          have hst := scP_step i p
          have hci := hI.cell i hlt
          have hv : scP i p i = p i := by unfold scP; rw [if_neg (by omega)]
          rw [hv] at hci
          have hsc : scS p i = p i * 8347681 % 8380417 := rfl
          obtain ⟨x0, hx0⟩ : ∃ x, p i = x := ⟨_, rfl⟩
          rw [hx0] at hci b0 hsc
          have WP0 : IntKind.i64.wrap (x0 * 8347681) = x0 * 8347681 := IntWalk.i64_in _ (by omega)
          have TP : Int.tmod (x0 * 8347681) 8380417 = scS p i := by rw [Int.tmod_eq_emod_of_nonneg (by omega), hsc]
          obtain ⟨p0, hp0⟩ : ∃ k, x0 * 8347681 = k := ⟨_, rfl⟩
          have WP : IntKind.i64.wrap (x0 * 8347681) = p0 := WP0.trans hp0
          rw [hp0] at TP
          obtain ⟨v0, hv0⟩ : ∃ k, scS p i = k := ⟨_, rfl⟩
          rw [hv0] at TP hst
          have hfi := hI.frozen i
          have ST := Lib.hid hst
          have HI := Lib.hid hI
          have HB := Lib.hid hB
          clear WP0 hI hB b0 hst hv hsc hx0 hp0 hv0
          go_wp2
          go_roundw
          case rel =>
            have hrel : P4 w gf p (.int .i64 ((i : Int) + 1)) (wr.setCell ⟨gf, i, none⟩ (.int .i64 v0)) := ⟨i + 1, by omega, by go_num, by rw [← ST.out]; exact HI.out.set i v0, HB.out.setCell Gf.out _⟩
            first
            | exact hrel
            | (repeat apply Exists.intro
               exact ⟨hrel, rfl⟩)
          case measure => simp [intOf]; omega
        · have e : i = 256 := by omega
          subst e
          have HI := Lib.hid (hI.ext (f' := r) (fun k hk => by rw [← BS.out]; unfold scP; rw [if_pos hk]))
          have HB := Lib.hid hB
          clear hI hB hi hlt
          go_wp2
          go_ret
          exact ⟨gf, cf, rfl, Cf.out, Gf.out, HI.out, HB.out⟩
end Go.Proofs.Ytebicdjnhogniaa.T
