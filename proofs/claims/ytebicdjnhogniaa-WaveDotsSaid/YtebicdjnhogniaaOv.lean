/- Over: its walk. -/
import Derived.Test.YtebicdjnhogniaaRt
namespace Go.Proofs.Ytebicdjnhogniaa.T
open Go.RowKit Go.Proofs.Ytebicdjnhogniaa.PWaveRing Go.Proofs.YtebicdjnhogniaaW.PrintWords Go.Proofs.YtebicdjnhogniaaW.PrintLast
set_option linter.unusedVariables false
set_option linter.unusedSimpArgs false
def lay (n nb : Nat) (z f : F) : F := fun k => if k % (2 * n) < n then (f k + z (nb + k / (2 * n)) * f (k + n) % 8380417) % 8380417 else (f (k - n) + 8380417 - z (nb + k / (2 * n)) * f k % 8380417) % 8380417
theorem div_at {n b k : Nat} (h1 : 2 * n * b ≤ k) (h2 : k < 2 * n * b + 2 * n) : k / (2 * n) = b ∧ k % (2 * n) = k - 2 * n * b := by
  have hn : 0 < 2 * n := by omega
  have h3 : k / (2 * n) = b := by
    apply Nat.div_eq_of_lt_le
    · rw [Nat.mul_comm]; exact h1
    · rw [Nat.mul_comm, Nat.mul_add, Nat.mul_one]; exact h2
  refine ⟨h3, ?_⟩
  have h4 := Nat.div_add_mod k (2 * n)
  rw [h3] at h4
  omega
theorem lay_lo (n nb : Nat) (z f : F) (b k : Nat) (h1 : 2 * n * b ≤ k) (h2 : k < 2 * n * b + n) : lay n nb z f k = (f k + z (nb + b) * f (k + n) % 8380417) % 8380417 := by
  obtain ⟨e1, e2⟩ := div_at h1 (show k < 2 * n * b + 2 * n by omega)
  unfold lay
  rw [e1, e2, if_pos (by omega)]
theorem lay_hi (n nb : Nat) (z f : F) (b k : Nat) (h1 : 2 * n * b ≤ k) (h2 : k < 2 * n * b + n) : lay n nb z f (k + n) = (f k + 8380417 - z (nb + b) * f (k + n) % 8380417) % 8380417 := by
  obtain ⟨e1, e2⟩ := div_at (n := n) (b := b) (k := k + n) (by omega) (by omega)
  unfold lay
  rw [e1, e2, if_neg (by omega), Nat.add_sub_cancel]
theorem mod_bd (a : Int) : 0 ≤ a % 8380417 ∧ a % 8380417 < 8380417 := ⟨Int.emod_nonneg _ (by omega), Int.emod_lt_of_pos _ (by omega)⟩
theorem lay_PF (n nb : Nat) (z f : F) : PF (lay n nb z f) := fun k _ => by
  unfold lay
  split
  · exact mod_bd _
  · exact mod_bd _
/-- some pairs done. -/
def pst (n st j : Nat) (new old : F) : F := fun k => if k < st ∨ (st ≤ k ∧ k < j) ∨ (st + n ≤ k ∧ k < j + n) then new k else old k
theorem pst_lo {n st j : Nat} (new old : F) (h : st ≤ j) (h2 : j < st + n) : pst n st j new old j = old j := by
  unfold pst; rw [if_neg (by omega)]
theorem pst_hi {n st j : Nat} (new old : F) (h : st ≤ j) (h2 : j < st + n) : pst n st j new old (j + n) = old (j + n) := by
  unfold pst; rw [if_neg (by omega)]
theorem pst_step {n st j : Nat} (new old : F) (h : st ≤ j) (h2 : j < st + n) : upd (upd (pst n st j new old) (j + n) (new (j + n))) j (new j) = pst n st (j + 1) new old := by
  funext k
  unfold upd pst
  by_cases e : k = j
  · subst e; rw [if_pos rfl, if_pos (by omega)]
  · rw [if_neg e]
    by_cases e2 : k = j + n
    · subst e2; rw [if_pos rfl, if_pos (by omega)]
    · rw [if_neg e2]
      by_cases h3 : k < st ∨ (st ≤ k ∧ k < j) ∨ (st + n ≤ k ∧ k < j + n)
      · rw [if_pos h3, if_pos (by omega)]
      · rw [if_neg h3, if_neg (by omega)]
theorem pst_next {n st : Nat} (new old : F) : pst n st (st + n) new old = pst n (st + 2 * n) (st + 2 * n) new old := by
  funext k
  unfold pst
  by_cases h : k < st + 2 * n
  · rw [if_pos (by omega), if_pos (by omega)]
  · rw [if_neg (by omega), if_neg (by omega)]
theorem pst_start (n : Nat) (new old : F) : old = pst n 0 0 new old := by
  funext k; unfold pst; rw [if_neg (by omega)]
theorem pst_all (n : Nat) (new old : F) (k : Nat) (hk : k < 256) : pst n 256 256 new old k = new k := by
  unfold pst; rw [if_pos (by omega)]
def overL (f : F) : Nat → F
  | 0 => f
  | s + 1 => lay (128 / 2 ^ s) (2 ^ s) zS (overL f s)
def overS (f : F) : F := overL f 8
theorem rs_PF : ∀ n, PF (rs n)
  | 0 => fun i _ => by simp [rs]
  | n + 1 => fun i hi => by
    unfold rs upd
    split
    · exact pw_bd n
    · exact rs_PF n i hi
theorem overL_PF (f : F) (h : PF f) : ∀ s, PF (overL f s)
  | 0 => h
  | s + 1 => lay_PF _ _ _ _
theorem sizes : ∀ s, s < 8 → 2 * (128 / 2 ^ s) * 2 ^ s = 256 ∧ 1 ≤ 128 / 2 ^ s ∧ 128 / 2 ^ s ≤ 128 ∧ 128 / 2 ^ s / 2 = 128 / 2 ^ (s + 1) ∧ 1 ≤ 2 ^ s ∧ 2 ^ s ≤ 128 ∧ 2 ^ (s + 1) = 2 ^ s + 2 ^ s := by decide
def O0 (w : World) (gf gz : Nat) (f : F) (w' : World) : Prop := IR w' gf f ∧ IR w' gz zS ∧ Below w.heap.size w w'
def O1 (w : World) (gf gz : Nat) (f : F) (m n : Value) (w' : World) : Prop := ∃ s : Nat, s ≤ 8 ∧ m = .int .i64 ((2 ^ s : Nat) - 1 : Int) ∧ n = .int .i64 ((128 / 2 ^ s : Nat) : Int) ∧ O0 w gf gz (overL f s) w'
def O2 (w : World) (gf gz n nb : Nat) (new old : F) (m st : Value) (w' : World) : Prop := ∃ b t : Nat, b ≤ nb ∧ t = 2 * n * b ∧ m = .int .i64 (((nb + b : Nat) : Int) - 1) ∧ st = .int .i64 (t : Int) ∧ O0 w gf gz (pst n t t new old) w'
def O3 (w : World) (gf gz n t : Nat) (new old : F) (jv : Value) (w' : World) : Prop := ∃ j : Nat, t ≤ j ∧ j ≤ t + n ∧ jv = .int .i64 (j : Int) ∧ O0 w gf gz (pst n t j new old) w'
set_option maxHeartbeats 4000000 in
set_option maxRecDepth 20000 in
theorem over_any (A : Option Addr) (c : Nat) (f r : F) (w : World) (hA : RD w A f) (hc : 256 ≤ c) (hf : PF f) (hr : overS f = r) :
    Calls Try.prog 13 #[.slice A 256 c] w fun e w' => ∃ g1 c1, e = .returned (sl g1 c1) ∧ 256 ≤ c1 ∧ w.heap.size ≤ g1 ∧ IR w' g1 r ∧ Below w.heap.size w w' := by
  have MA := Lib.hid (may_any A c f w hA hc hf)
  have CL := Lib.hid (clone_any A c f w hA hc)
  have PFf := Lib.hid hf
  have HR := Lib.hid hr
  clear hA hf hr
  go_enter Try.func13, Try.ntmps13
  go_wp2_with (first
    | (go_at_call 36; (with_reducible refine MA.out.mono ?_); rintro e w9 ⟨rfl, hw⟩; rw [hw]; clear hw)
    | (go_at_call 40; (with_reducible refine CL.out.mono ?_); rintro e w1 ⟨gf, cf, rfl, hcf, hgf, hI, hB⟩; have If := Lib.hid hI; have B1 := Lib.hid hB; have Gf := Lib.hid hgf; have Cf := Lib.hid hcf; clear hI hB hgf hcf)
    | (go_at_call 41; (with_reducible refine (roots_any _).mono ?_); rintro e w2 ⟨gz, cz, rfl, hcz, hgz, hI, hB⟩; have D := Lib.hid (show gf < gz from Nat.lt_of_lt_of_le If.out.lt hgz); have If := Lib.hid (If.out.below hB); have Iz := Lib.hid hI; have B2 := Lib.hid (below_step B1.out hB); clear hI hB hgz hcz))
  clear MA CL B1
  go_loopw [4, 5] (fun m n w' => O1 w gf gz f m n w') (fun _ n _ => (intOf n).toNat)
  case atStart => exact ⟨0, by omega, rfl, rfl, If.out, Iz.out, B2.out⟩
  case round =>
    clear If Iz B2
    obtain ⟨s, hs, rfl, rfl, hO⟩ := hrel
    by_cases hlt : s < 8
    · obtain ⟨z1, z2, z3, z4, z5, z6, z7⟩ := sizes s hlt
      have hold := overL_PF f PFf.out s
      have hnext : overL f (s + 1) = lay (128 / 2 ^ s) (2 ^ s) zS (overL f s) := rfl
      obtain ⟨n, hn⟩ : ∃ n, 128 / 2 ^ s = n := ⟨_, rfl⟩
      obtain ⟨nb, hnb⟩ : ∃ n, 2 ^ s = n := ⟨_, rfl⟩
      obtain ⟨old, ho⟩ : ∃ o, overL f s = o := ⟨_, rfl⟩
      rw [hn, hnb, ho] at hnext
      rw [hn, hnb] at z1
      rw [hn] at z2 z3 z4
      rw [hnb] at z5 z6 z7
      rw [ho] at hO hold
      rw [hn, hnb]
      obtain ⟨new, hw⟩ : ∃ o, lay n nb zS old = o := ⟨_, rfl⟩
      rw [hw] at hnext
      have NX := Lib.hid hnext
      have NW := Lib.hid hw
      have POLD := Lib.hid hold
      have hq : Int.tdiv (n : Int) 2 = ((128 / 2 ^ (s + 1) : Nat) : Int) := by rw [← z4, Int.tdiv_eq_ediv_of_nonneg (by omega)]; omega
      obtain ⟨n2, hn2⟩ : ∃ k, 128 / 2 ^ (s + 1) = k := ⟨_, rfl⟩
      rw [hn2] at hq
      have HN2 := Lib.hid hn2
      have Z7 := Lib.hid z7
      have hpd : decide ((n : Int) ≥ 1) = true := decide_eq_true (by omega)
      have hpd2 : decide (1 ≤ (n : Int)) = true := decide_eq_true (by omega)
      have HO := Lib.hid hO
      have hn21 : n2 < n := by omega
      clear hO hn hnb ho hold hnext hw hn2 z4 z7
      go_wp2
      go_loopw [4, 6] (fun m st w' => O2 w gf gz n nb new old m st w') (fun _ st _ => (256 - intOf st).toNat)
      case atStart => exact ⟨0, 0, by omega, by omega, by simp, rfl, by rw [← pst_start]; exact HO.out⟩
      case round =>
        clear HO
        obtain ⟨b, t, hb, ht, rfl, rfl, hO⟩ := hrel
        by_cases hbl : b < nb
        · have htb : t + 2 * n ≤ 256 := by
            have h1 : 2 * n * (b + 1) ≤ 2 * n * nb := Nat.mul_le_mul_left _ (by omega)
            rw [z1, Nat.mul_add, Nat.mul_one, ← ht] at h1
            exact h1
          have htn : t + 2 * n = 2 * n * (b + 1) := by rw [Nat.mul_add, Nat.mul_one, ← ht]
          have HT := Lib.hid ht
          have HTN := Lib.hid htn
          have hpd3 : decide ((t : Int) < 256) = true := decide_eq_true (by omega)
          have WM : IntKind.i64.wrap (((nb + b : Nat) : Int) - 1 + 1) = ((nb + b : Nat) : Int) := by rw [IntWalk.i64_in _ (by omega)]; omega
          obtain ⟨m, hm⟩ : ∃ m, nb + b = m := ⟨_, rfl⟩
          have hmb : m < 256 := by omega
          have hmi : (m : Int) < 256 := by omega
          rw [hm] at WM
          rw [hm]
          have HM := Lib.hid hm
          have HO := Lib.hid hO
          clear hO ht htn hm
          go_wp2
          go_loopw [7] (fun jv w' => O3 w gf gz n t new old jv w') (fun jv _ => (t + n - intOf jv).toNat)
          case atStart => exact ⟨t, by omega, by omega, rfl, HO.out⟩
          case round =>
            clear HO
            obtain ⟨j, hj1, hj2, rfl, hIf, hIz, hBl⟩ := hrel
            have WT : IntKind.i64.wrap ((t : Int) + (n : Int)) = ((t + n : Nat) : Int) := by rw [IntWalk.i64_in _ (by omega)]; omega
            by_cases hjl : j < t + n
            · have hpd4 : decide ((j : Int) < ((t + n : Nat) : Int)) = true := decide_eq_true (by omega)
              have hji : (j : Int) < 256 := by omega
              have hjl256 : j < 256 := by omega
              have hjn256 : j + n < 256 := by omega
              have b0 := POLD.out j hjl256
              have b1 := POLD.out (j + n) hjn256
              have bz := rs_PF 256 m hmb
              have hlo := lay_lo n nb zS old b j (by have := HT.out; omega) (by have := HT.out; omega)
              have hhi := lay_hi n nb zS old b j (by have := HT.out; omega) (by have := HT.out; omega)
              rw [NW.out, HM.out] at hlo hhi
              have hpl := pst_lo new old hj1 hjl
              have hph := pst_hi new old hj1 hjl
              have hst := pst_step new old hj1 hjl
              have hcj := hIf.cell j hjl256
              have hcjn := hIf.cell (j + n) hjn256
              have hcz := hIz.cell m hmb
              rw [hpl] at hcj
              rw [hph] at hcjn
              obtain ⟨jn, hjn⟩ : ∃ k, j + n = k := ⟨_, rfl⟩
              obtain ⟨x0, hx0⟩ : ∃ x, old j = x := ⟨_, rfl⟩
              rw [hx0] at b0 hcj hlo hhi
              rw [hjn] at hcjn hst hph hhi hlo b1 hjn256
              obtain ⟨y0, hy0⟩ : ∃ x, old jn = x := ⟨_, rfl⟩
              obtain ⟨z0, hz0⟩ : ∃ x, zS m = x := ⟨_, rfl⟩
              rw [hy0] at b1 hcjn hlo hhi
              rw [hz0] at hcz hlo hhi
              rw [show rs 256 m = z0 from hz0] at bz
              have mb := mul_bd bz.1 bz.2 b1.1 (show y0 ≤ 20000000 by omega)
              have hjni : (jn : Int) < 256 := by omega
              have hne : j ≠ jn := by omega
              have WJ : IntKind.i64.wrap ((j : Int) + (n : Int)) = (jn : Int) := by rw [IntWalk.i64_in _ (by omega)]; omega
              have WP0 : IntKind.i64.wrap (z0 * y0) = z0 * y0 := IntWalk.i64_in _ (by omega)
              obtain ⟨p0, hp0⟩ : ∃ p, z0 * y0 = p := ⟨_, rfl⟩
              have WP : IntKind.i64.wrap (z0 * y0) = p0 := WP0.trans hp0
              rw [hp0] at mb hlo hhi
              have tb := mod_bd p0
              have TP : Int.tmod p0 8380417 = p0 % 8380417 := Int.tmod_eq_emod_of_nonneg (by omega)
              obtain ⟨t0, ht0⟩ : ∃ p, p0 % 8380417 = p := ⟨_, rfl⟩
              rw [ht0] at TP tb hlo hhi
              have W10 : IntKind.i64.wrap (x0 + 8380417) = x0 + 8380417 := IntWalk.i64_in _ (by omega)
              obtain ⟨u1, hu1⟩ : ∃ p, x0 + 8380417 = p := ⟨_, rfl⟩
              have W1 : IntKind.i64.wrap (x0 + 8380417) = u1 := W10.trans hu1
              rw [hu1] at hhi
              have W20 : IntKind.i64.wrap (u1 - t0) = u1 - t0 := IntWalk.i64_in _ (by omega)
              have T2 : Int.tmod (u1 - t0) 8380417 = new jn := by rw [Int.tmod_eq_emod_of_nonneg (by omega), ← hhi]
              obtain ⟨u2, hu2⟩ : ∃ p, u1 - t0 = p := ⟨_, rfl⟩
              have W2 : IntKind.i64.wrap (u1 - t0) = u2 := W20.trans hu2
              rw [hu2] at T2
              have W30 : IntKind.i64.wrap (x0 + t0) = x0 + t0 := IntWalk.i64_in _ (by omega)
              have T3 : Int.tmod (x0 + t0) 8380417 = new j := by rw [Int.tmod_eq_emod_of_nonneg (by omega), ← hlo]
              obtain ⟨u3, hu3⟩ : ∃ p, x0 + t0 = p := ⟨_, rfl⟩
              have W3 : IntKind.i64.wrap (x0 + t0) = u3 := W30.trans hu3
              rw [hu3] at T3
              obtain ⟨v1, hv1⟩ : ∃ p, new jn = p := ⟨_, rfl⟩
              obtain ⟨v0, hv0⟩ : ∃ p, new j = p := ⟨_, rfl⟩
              rw [hv1] at T2 hst
              rw [hv0] at T3 hst
              have ST := Lib.hid hst
              have HIf := Lib.hid hIf
              have HIz := Lib.hid hIz
              have HBl := Lib.hid hBl
              clear WP0 W10 W20 W30 hIf hIz hBl hlo hhi hpl hph hst hx0 hy0 hz0 hp0 ht0 hu1 hu2 hu3 hv0 hv1 b0 b1 bz mb tb hjn
              go_wp2_with fail
              refine wp_region_still_tail 12 (by kernel_rfl) (by kernel_rfl) ?_
              simp only [List.take_succ_cons, List.take_zero, List.drop_succ_cons, List.drop_zero]
              repeat still_step
              refine wpStill_nil ?_
              change wpList _ _ _ _ _ wr.drew
              have HIf : Hid (IR wr.drew gf (pst n t j new old)) := Lib.hid HIf.out
              have HIz : Hid (IR wr.drew gz zS) := Lib.hid HIz.out
              have HBl := Lib.hid HBl.out.drew
              have hcj : wr.drew.cell? ⟨gf, j, none⟩ = some (.int .i64 x0) := hcj
              have hcjn : wr.drew.cell? ⟨gf, jn, none⟩ = some (.int .i64 y0) := hcjn
              have hfj := HIf.out.frozen j
              have hfjn := HIf.out.frozen jn
              generalize wr.drew = w5 at HIf HIz HBl hcj hcjn hfj hfjn ⊢
              have I2 := Lib.hid (HIf.out.set jn v1)
              have hcj2 : (w5.setCell ⟨gf, jn, none⟩ (.int .i64 v1)).cell? ⟨gf, j, none⟩ = some (.int .i64 x0) := by
                have h1 := I2.out.cell j hjl256
                rw [h1]
                unfold upd
                rw [if_neg hne]
                have h2 := HIf.out.cell j hjl256
                rw [hcj] at h2
                exact h2.symm
              have hfj2 := I2.out.frozen j
              clear hcz
              go_wp2
              go_roundw
              case rel =>
                have hrel : O3 w gf gz n t new old (.int .i64 ((j : Int) + 1)) ((w5.setCell ⟨gf, jn, none⟩ (.int .i64 v1)).setCell ⟨gf, j, none⟩ (.int .i64 v0)) := ⟨j + 1, by omega, by omega, by go_num, by rw [← ST.out]; exact I2.out.set j v0, (HIz.out.other (by have := D.out; omega) _ _).other (by have := D.out; omega) _ _, (HBl.out.setCell Gf.out _).setCell Gf.out _⟩
                first
                | exact hrel
                | (repeat apply Exists.intro
                   exact ⟨hrel, rfl⟩)
              case measure => simp [intOf]; omega
            · have e : j = t + n := by omega
              subst e
              rw [pst_next] at hIf
              have HIf := Lib.hid hIf
              have HIz := Lib.hid hIz
              have HBl := Lib.hid hBl
              have W2n : IntKind.i64.wrap (2 * (n : Int)) = 2 * (n : Int) := IntWalk.i64_in _ (by omega)
              have WS : IntKind.i64.wrap ((t : Int) + 2 * (n : Int)) = ((t + 2 * n : Nat) : Int) := by rw [IntWalk.i64_in _ (by omega)]; omega
              clear hIf hIz hBl hj1 hj2 hjl
              go_wp2
              go_roundw
              case rel =>
                have hrel : O2 w gf gz n nb new old (.int .i64 (m : Int)) (.int .i64 ((t + 2 * n : Nat) : Int)) wr := ⟨b + 1, t + 2 * n, by omega, HTN.out, by have := HM.out; congr 1; omega, rfl, HIf.out, HIz.out, HBl.out⟩
                first
                | exact hrel
                | (repeat apply Exists.intro
                   exact ⟨hrel, rfl⟩)
              case measure => simp [intOf]; omega
        · have e : b = nb := by omega
          subst e
          rw [z1] at ht
          subst ht
          have HO := Lib.hid hO
          clear hO hb hbl
          go_wp2
          go_roundw
          case rel =>
            have hrel : O1 w gf gz f (.int .i64 (((b + b : Nat) : Int) - 1)) (.int .i64 (n2 : Int)) wr := ⟨s + 1, by omega, by rw [Z7.out], by rw [HN2.out], HO.out.1.ext (fun k hk => by rw [NX.out, pst_all n new old k hk]), HO.out.2.1, HO.out.2.2⟩
            first
            | exact hrel
            | (repeat apply Exists.intro
               exact ⟨hrel, rfl⟩)
          case measure => simp [intOf]; omega
    · have e : s = 8 := by omega
      subst e
      have h0 : ((128 / 2 ^ 8 : Nat) : Int) = 0 := by decide
      rw [h0]
      have HO := Lib.hid hO
      clear hO hs hlt h0
      go_wp2
      go_ret
      exact ⟨gf, cf, rfl, Cf.out, Gf.out, by rw [← HR.out]; exact HO.out.1, HO.out.2.2⟩
end Go.Proofs.Ytebicdjnhogniaa.T
