/- WaveUnits: its walk (printed by gen_units.py). -/
import Derived.Test.YtebicdjnhogniaaRf
namespace Go.Proofs.Ytebicdjnhogniaa.T
open Go.RowKit Go.Proofs.Ytebicdjnhogniaa.PWaveRing Go.Proofs.YtebicdjnhogniaaW.PrintWords Go.Proofs.YtebicdjnhogniaaW.PrintLast Go.Proofs.YtebicdjnhogniaaW.PrintMore
attribute [local go_sem] max2_int min2_int max_two min_two
set_option linter.unusedVariables false
set_option linter.unusedSimpArgs false
def rev (i : Nat) : Nat → Nat
  | 0 => 0
  | k + 1 => 2 * rev i k + i / 2 ^ k % 2
theorem rev_bd (i : Nat) : ∀ k, rev i k < 2 ^ k
  | 0 => by simp [rev]
  | k + 1 => by
    have := rev_bd i k
    unfold rev
    rw [Nat.pow_succ]
    omega
theorem rev_8 (i : Nat) : rev i 8 = tn8 i := by
  unfold tn8
  simp only [rev, Nat.reducePow]
  omega
def UO (w : World) (g : Nat) (o : F) (v : Value) (w' : World) : Prop := ∃ i : Nat, i ≤ 256 ∧ v = .int .i64 (i : Int) ∧ IR w' g o ∧ Below w.heap.size w w'
def UI (w : World) (g : Nat) (o : F) (i : Nat) (r v : Value) (w' : World) : Prop := ∃ k : Nat, k ≤ 8 ∧ r = .int .i64 (rev i k : Int) ∧ v = .int .i64 (k : Int) ∧ IR w' g o ∧ Below w.heap.size w w'
def T4_13 : Bool × List (List Nat × List Nat) := (true, [([], []), ([], []), ([0, 1], [0, 1]), ([2], [2]), ([], []), ([4], [4]), ([5], [5]), ([], []), ([6, 7], [6, 7]), ([8], [8]), ([3, 9], [3, 9])])
theorem tab4_13 : rtab .any (opsOf Try.f4 13) = T4_13 := by kernel_rfl
set_option maxHeartbeats 4000000 in
set_option maxRecDepth 20000 in
theorem units_walk (a0 : Int) (w : World) (_w0 : (Lit.int .i64 a0).wf = true) :
    Calls Try.prog 4 #[.int .i64 a0] w fun e w' => e = .returned (.bool true) ∧ Below w.heap.size w w' := by
  obtain ⟨nI, hnI⟩ : ∃ r, lowS a0 256 = r := ⟨_, rfl⟩
  have hnb := lowS_bd a0 256 (by omega)
  rw [hnI] at hnb
  obtain ⟨n, rfl⟩ := Int.eq_ofNat_of_zero_le hnb.1
  have hn : n < 256 := by omega
  have LOW := Lib.hid (fun W => llow_any a0 256 (n : Int) W (by omega) (by omega) hnI)
  obtain ⟨o, ho⟩ : ∃ o, overS (unitS n) = o := ⟨_, rfl⟩
  have HO := Lib.hid ho
  have OVA : Hid (∀ i, i < 256 → o i = ((1753 ^ ((2 * tn8 i + 1) * n) % 8380417 : Nat) : Int)) := Lib.hid (fun i hi => by rw [← ho]; exact over_unit n i hn hi)
  clear hnI hnb ho _w0
  go_enter Try.func4, Try.ntmps4
  go_wp2_with fail
  with_reducible refine (LOW.out _).mono ?_
  rintro e w1 ⟨rfl, hD⟩
  have HB := Lib.hid (below_of_drawn hD)
  clear hD
  go_wp2_with fail
  with_reducible refine (unit_any n _ _ hn rfl).mono ?_
  rintro e w2 ⟨g1, c1, rfl, hc1, hg1, hI1, hB1⟩
  have I1 := Lib.hid hI1
  have HB := Lib.hid (below_step HB.out hB1)
  clear hI1 hB1 hg1
  go_wp2_with fail
  with_reducible refine (over_any _ _ _ o _ I1.out.rd hc1 (unit_PF n) HO.out).mono ?_
  rintro e w3 ⟨g, c2, rfl, hc2, hg2, hI2, hB2⟩
  have I2 := Lib.hid hI2
  have HB := Lib.hid (below_step HB.out hB2)
  clear hI2 hB2 hg2 hc1 I1
  go_wp2
  go_loopw [4] (fun v w' => UO w g o v w') (fun v _ => (256 - intOf v).toNat)
  case atStart => exact ⟨0, by omega, rfl, I2.out, HB.out⟩
  case round =>
    clear I2 HB
    obtain ⟨i, hi, rfl, hI, hB⟩ := hrel
    by_cases hlt : i < 256
    · have hpd : decide ((i : Int) < 256) = true := decide_eq_true (by omega)
      have HI := Lib.hid hI
      have HB := Lib.hid hB
      clear hI hB
      go_wp2
      go_loopw [5, 6] (fun r v w' => UI w g o i r v w') (fun _ v _ => (8 - intOf v).toNat)
      case atStart => exact ⟨0, by omega, rfl, rfl, HI.out, HB.out⟩
      case round =>
        clear HI HB
        obtain ⟨k, hk, rfl, rfl, hI, hB⟩ := hrel
        by_cases hkl : k < 8
        · have hpd2 : decide ((k : Int) < 8) = true := decide_eq_true (by omega)
          have hrb := rev_bd i k
          have hp : 2 ^ k ≤ 128 := Nat.le_trans (Nat.pow_le_pow_right (by omega) (show k ≤ 7 by omega)) (by decide)
          have hr1 : rev i (k + 1) = 2 * rev i k + i / 2 ^ k % 2 := rfl
          obtain ⟨r0, hr0⟩ : ∃ r, rev i k = r := ⟨_, rfl⟩
          rw [hr0] at hrb hr1
          rw [hr0]
          have hmk : min ((k : Int)).toNat 64 = k := by omega
          have hki : (0 : Int) ≤ (k : Int) := by omega
          obtain ⟨d0, hd0⟩ : ∃ d, i / 2 ^ k = d := ⟨_, rfl⟩
          have hdiv : (i : Int) / 2 ^ k = (d0 : Int) := by rw [← hd0]; simp
          have hdb : d0 ≤ 256 := by rw [← hd0]; exact Nat.le_trans (Nat.div_le_self _ _) (by omega)
          rw [hd0] at hr1
          have hand : bits .and .i64 (d0 : Int) 1 = ((d0 % 2 : Nat) : Int) := by
            have h := bits_mask .i64 63 (by decide) (fun n h0 h1 => IntWalk.i64_in n (by omega)) 1 (by decide) (d0 : Int) (by omega) (by omega)
            have e : ((2 : Int) ^ 1 - 1) = 1 := by decide
            rw [e] at h
            rw [h]; omega
          obtain ⟨b0, hb0⟩ : ∃ d, d0 % 2 = d := ⟨_, rfl⟩
          rw [hb0] at hand hr1
          have W1 : IntKind.i64.wrap (2 * (r0 : Int)) = 2 * (r0 : Int) := IntWalk.i64_in _ (by omega)
          have W2 : IntKind.i64.wrap (2 * (r0 : Int) + (b0 : Int)) = ((2 * r0 + b0 : Nat) : Int) := by rw [IntWalk.i64_in _ (by omega)]; omega
          have R1 := Lib.hid hr1
          have HI := Lib.hid hI
          have HB := Lib.hid hB
          clear hI hB hr1 hr0 hd0 hb0 hrb hp
          go_wp2
          go_roundw
          case rel =>
            have hrel : UI w g o i (.int .i64 ((2 * r0 + b0 : Nat) : Int)) (.int .i64 ((k : Int) + 1)) wr := ⟨k + 1, by omega, by rw [R1.out], by go_num, HI.out, HB.out⟩
            first
            | exact hrel
            | (repeat apply Exists.intro
               exact ⟨hrel, rfl⟩)
          case measure => simp [intOf]; omega
        · have e : k = 8 := by omega
          subst e
          rw [rev_8]
          have hii : (i : Int) < 256 := by omega
          have htl := tn8_lt i
          have hov := OVA.out i hlt
          obtain ⟨r0, hr0⟩ : ∃ r, tn8 i = r := ⟨_, rfl⟩
          rw [hr0] at htl hov
          rw [hr0]
          have hmulb : (2 * r0 + 1) * n ≤ 511 * 256 := Nat.mul_le_mul (by omega) (by omega)
          obtain ⟨x4, hx4⟩ : ∃ x, (2 * r0 + 1) * n = x := ⟨_, rfl⟩
          have hx4i : (2 * (r0 : Int) + 1) * (n : Int) = (x4 : Int) := by rw [← hx4]; simp
          rw [hx4] at hov hmulb
          have W2 : Hid (IntKind.i64.wrap (2 * (r0 : Int)) = 2 * (r0 : Int)) := Lib.hid (IntWalk.i64_in _ (by omega))
          have W3 : Hid (IntKind.i64.wrap (2 * (r0 : Int) + 1) = 2 * (r0 : Int) + 1) := Lib.hid (IntWalk.i64_in _ (by omega))
          have W4 : Hid (IntKind.i64.wrap ((2 * (r0 : Int) + 1) * (n : Int)) = (x4 : Int)) := Lib.hid (by rw [hx4i]; exact IntWalk.i64_in _ (by omega))
          obtain ⟨y0, hy0⟩ : ∃ y, o i = y := ⟨_, rfl⟩
          have PW : Hid (∀ W, Calls Try.prog 20 #[.int .i64 1753, .int .i64 (x4 : Int)] W fun e w' => e = .returned (.int .i64 y0) ∧ Drawn0 W w') := Lib.hid (fun W => pow_any 1753 (x4 : Int) y0 W (by omega) (by omega) (by omega) (by omega) (by
            rw [← hy0, hov]
            unfold powS
            rw [if_neg (by omega), Int.toNat_natCast]
            have e1 : (1753 : Int) % 8380417 = ((1753 : Nat) : Int) := by decide
            rw [e1, ← Int.natCast_pow]
            simp))
          have OV := Lib.hid hy0
          have HS : Hid (IR wr.drew g o ∧ Below w.heap.size w wr.drew) := Lib.hid ⟨hI, hB.drew⟩
          clear hI hB hov hr0 hx4 hx4i hy0 hmulb htl
          go_wp2_with fail
          refine start_ (n := 11) (S := fun w' => IR w' g o ∧ Below w.heap.size w w') (ds := []) #[false, false, false, false, false, false, false, false, false, false, false] (by kernel_rfl) rfl rfl HS.out (fun hHeld => ?_); refine with_tab tab4_13 (fun HT_ => ?_)
          refine pure_ (i := 0) (N := some 30) (v := ?_) (a' := ?_) #[true, false, false, false, false, false, false, false, false, false, false] rfl rfl (any_of HT_.out (by kernel_rfl)) (fun _ _ _ h => h) (Or.inl ⟨by rfl, ?_⟩) ?_ ?_
          rotate_left
          · intro w'
            go_simp
            with_reducible rfl
          rotate_left
          · simp only [Act.put, List.setIfInBounds_toArray, List.set_cons_zero, List.set_cons_succ, i64_w, i32_w]
            rfl
          refine pure_ (i := 1) (N := some 31) (v := ?_) (a' := ?_) #[true, true, false, false, false, false, false, false, false, false, false] rfl rfl (any_of HT_.out (by kernel_rfl)) (fun _ _ _ h => h) (Or.inl ⟨by rfl, ?_⟩) ?_ ?_
          rotate_left
          · intro w'
            go_simp
            with_reducible rfl
          rotate_left
          · simp only [Act.put, List.setIfInBounds_toArray, List.set_cons_zero, List.set_cons_succ, i64_w, i32_w]
            rfl
          refine pure_ (i := 2) (N := some 32) (v := ?_) (a' := ?_) #[true, true, true, false, false, false, false, false, false, false, false] rfl rfl (any_of HT_.out (by kernel_rfl)) (fun _ _ _ h => h) (Or.inl ⟨by rfl, ?_⟩) ?_ ?_
          rotate_left
          · intro w'
            go_simp
            with_reducible rfl
          rotate_left
          · simp only [Act.put, List.setIfInBounds_toArray, List.set_cons_zero, List.set_cons_succ, i64_w, i32_w]
            rfl
          refine take_ (i := 3) (N := some 33) (v := ?_) (a' := ?_) #[true, true, true, true, false, false, false, false, false, false, false] rfl rfl (take_of HT_.out (by kernel_rfl)) (fun _ _ _ h => h) (Or.inl ⟨by rfl, ?_⟩) hHeld ?_ ?_
          rotate_left
          · intro w' s0
            have hc := s0.1.cell i hlt
            rw [OV.out] at hc
            go_simp
            with_reducible rfl
          rotate_left
          · simp only [Act.put, List.setIfInBounds_toArray, List.set_cons_zero, List.set_cons_succ, i64_w, i32_w]
            rfl
          refine pure_ (i := 4) (N := some 34) (v := ?_) (a' := ?_) #[true, true, true, true, true, false, false, false, false, false, false] rfl rfl (any_of HT_.out (by kernel_rfl)) (fun _ _ _ h => h) (Or.inl ⟨by rfl, ?_⟩) ?_ ?_
          rotate_left
          · intro w'
            go_simp
            with_reducible rfl
          rotate_left
          · simp only [Act.put, List.setIfInBounds_toArray, List.set_cons_zero, List.set_cons_succ, i64_w, i32_w]
            rfl
          refine pure_ (i := 5) (N := some 35) (v := ?_) (a' := ?_) #[true, true, true, true, true, true, false, false, false, false, false] rfl rfl (any_of HT_.out (by kernel_rfl)) (fun _ _ _ h => h) (Or.inl ⟨by rfl, ?_⟩) ?_ ?_
          rotate_left
          · intro w'
            go_simp
            rw [W2.out]
          rotate_left
          · simp only [Act.put, List.setIfInBounds_toArray, List.set_cons_zero, List.set_cons_succ, i64_w, i32_w]
            rfl
          refine pure_ (i := 6) (N := some 36) (v := ?_) (a' := ?_) #[true, true, true, true, true, true, true, false, false, false, false] rfl rfl (any_of HT_.out (by kernel_rfl)) (fun _ _ _ h => h) (Or.inl ⟨by rfl, ?_⟩) ?_ ?_
          rotate_left
          · intro w'
            go_simp
            rw [W3.out]
          rotate_left
          · simp only [Act.put, List.setIfInBounds_toArray, List.set_cons_zero, List.set_cons_succ, i64_w, i32_w]
            rfl
          refine pure_ (i := 7) (N := some 37) (v := ?_) (a' := ?_) #[true, true, true, true, true, true, true, true, false, false, false] rfl rfl (any_of HT_.out (by kernel_rfl)) (fun _ _ _ h => h) (Or.inl ⟨by rfl, ?_⟩) ?_ ?_
          rotate_left
          · intro w'
            go_simp
            with_reducible rfl
          rotate_left
          · simp only [Act.put, List.setIfInBounds_toArray, List.set_cons_zero, List.set_cons_succ, i64_w, i32_w]
            rfl
          refine pure_ (i := 8) (N := some 38) (v := ?_) (a' := ?_) #[true, true, true, true, true, true, true, true, true, false, false] rfl rfl (any_of HT_.out (by kernel_rfl)) (fun _ _ _ h => h) (Or.inl ⟨by rfl, ?_⟩) ?_ ?_
          rotate_left
          · intro w'
            go_simp
            rw [W4.out]
          rotate_left
          · simp only [Act.put, List.setIfInBounds_toArray, List.set_cons_zero, List.set_cons_succ, i64_w, i32_w]
            rfl
          refine one_ (i := 9) (N := some 39) #[true, true, true, true, true, true, true, true, true, true, false] rfl rfl (one_of HT_.out (by kernel_rfl)) (by decide) (fun K hK => ?_)
          refine goes_ Try.func20 (by kernel_rfl) rfl #[.int .i64 1753, .int .i64 (x4 : Int)] (by rfl) rfl rfl (by (try simp only [List.map_toArray, List.map_cons, List.map_nil]); first | done | rfl) ?_
          with_reducible refine (PW.out _).mono ?_
          rintro e w3 ⟨rfl, hD⟩
          refine ⟨_, rfl, ?_⟩
          refine hK.out _ _ ⟨hHeld.1.drawn hD, below_drawn hHeld.2 hD⟩ (fun hHeld => ?_)
          clear hK K
          refine norm_ (a' := ?_) ?_ ?_
          rotate_left
          · show Act.put _ (some 39) _ = _
            simp only [Act.put, List.setIfInBounds_toArray, List.set_cons_zero, List.set_cons_succ, i64_w, i32_w]
            rfl
          refine pure_ (i := 10) (N := some 40) (v := ?_) (a' := ?_) #[true, true, true, true, true, true, true, true, true, true, true] rfl rfl (any_of HT_.out (by kernel_rfl)) (fun _ _ _ h => h) (Or.inl ⟨by rfl, ?_⟩) ?_ ?_
          rotate_left
          · intro w'
            go_simp
            with_reducible rfl
          rotate_left
          · simp only [Act.put, List.setIfInBounds_toArray, List.set_cons_zero, List.set_cons_succ, i64_w, i32_w]
            rfl
          refine done_ (done_of HT_.out (by kernel_rfl)) ?_
          go_wp2
          go_roundw
          case rel =>
            have hrel : UO w g o (.int .i64 ((i : Int) + 1)) w3 := ⟨i + 1, by omega, by go_num, hHeld.1, hHeld.2⟩
            first
            | exact hrel
            | (repeat apply Exists.intro
               exact ⟨hrel, rfl⟩)
          case measure => simp [intOf]; omega
    · have e : i = 256 := by omega
      subst e
      have HB := Lib.hid hB
      clear hI hB hi hlt
      go_wp2_with (go_at_call 11; (with_reducible refine (awake_any _).mono ?_); rintro e w9 ⟨rfl, hB⟩; have HB := Lib.hid (below_step HB.out hB); clear hB)
      go_ret
      exact ⟨rfl, HB.out⟩
end Go.Proofs.Ytebicdjnhogniaa.T
