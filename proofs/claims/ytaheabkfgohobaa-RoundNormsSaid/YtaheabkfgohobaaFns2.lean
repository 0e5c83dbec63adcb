/- What the functions of chapter 9 answer: the walks that are alike for the program's text and the reference's (printed by gen_round.py). -/
import Derived.Test.YtaheabkfgohobaaFns
namespace Go.Proofs.Ytaheabkfgohobaa.T
open Go.RowKit
open Go.Proofs.Ytaheabkfgohobaa.S
set_option linter.unusedVariables false
def PowRel (r : Int) (n a o : Value) : Prop :=
  ∃ n' a' o' : Int, n = .int .i64 n' ∧ a = .int .i64 a' ∧ o = .int .i64 o' ∧ 0 ≤ n' ∧ n' ≤ 9223372036854775807 ∧ 0 ≤ a' ∧ a' ≤ 8380416 ∧ 0 ≤ o' ∧ o' ≤ 8380416 ∧ o' * a' ^ n'.toNat % 8380417 = r


theorem split_any (x r s : Int) (w : World) (h1 : -9223372036854775808 ≤ x) (h2 : x ≤ 9223372036854775807) (hr : splitS x = (r, s)) :
    Calls Try.prog 12 #[.int .i64 x] w fun e w' => e = .returned (.tuple #[.int .i64 r, .int .i64 s]) ∧ Drawn0 w w' := by
  have HR := Lib.hid hr
  clear hr
  obtain ⟨y, hy⟩ : ∃ y, x % 8380417 = y := ⟨_, rfl⟩
  have y0 : 0 ≤ y := by omega
  have y1 : y ≤ 8380416 := by omega
  obtain ⟨n, hn⟩ : ∃ n, nearS 8192 y = n := ⟨_, rfl⟩
  have hnb := near_bd (a := 8192) (x := y) (by omega)
  have hnm := near_mod (a := 8192) (x := y) (by omega) y0
  rw [hn] at hnb hnm
  obtain ⟨n0, n1⟩ := hnb
  obtain ⟨m0, m1⟩ := hnm
  have HX := Lib.hid hy
  have HN := Lib.hid hn
  clear hy hn m0
  go_enter Try.func12, Try.ntmps12
  go_wp2_with (first | (go_at_call 14; (with_reducible refine (of_any x _ _ (by omega) (by omega) HX.out).mono ?_); rintro e w' ⟨rfl, ⟨nd, rfl⟩⟩) | (go_at_call 20; (with_reducible refine (near_any _ y _ _ (by omega) (by omega) (by omega) (by omega) HN.out).mono ?_); rintro e w' ⟨rfl, ⟨nd, rfl⟩⟩))
  go_ret2
  have hp := HR.out
  unfold splitS at hp
  rw [HX.out, HN.out] at hp
  obtain ⟨rfl, rfl⟩ := Prod.mk.inj hp
  exact ⟨rfl, by repeat (first | exact Drawn0.refl _ | apply Drawn0.step)⟩
theorem norm_any (x r : Int) (w : World) (h1 : -9223372036854775808 ≤ x) (h2 : x ≤ 9223372036854775807) (hr : normS x = r) :
    Calls Try.prog 17 #[.int .i64 x] w fun e w' => e = .returned (.int .i64 r) ∧ Drawn0 w w' := by
  have HR := Lib.hid hr
  clear hr
  obtain ⟨y, hy⟩ : ∃ y, x % 8380417 = y := ⟨_, rfl⟩
  have y0 : 0 ≤ y := by omega
  have y1 : y ≤ 8380416 := by omega
  have HX := Lib.hid hy
  clear hy
  go_enter Try.func17, Try.ntmps17
  go_wp2_with (first | (go_at_call 14; (with_reducible refine (of_any x _ _ (by omega) (by omega) HX.out).mono ?_); rintro e w' ⟨rfl, ⟨nd, rfl⟩⟩))
  all_goals
    go_ret
    have hp := HR.out
    unfold normS at hp
    rw [HX.out] at hp
    exact ⟨ret_int (by split at hp <;> omega), by repeat (first | exact Drawn0.refl _ | apply Drawn0.step)⟩
theorem hint_any (g z x r : Int) (w : World) (h1 : -9223372036854775808 ≤ x) (h2 : x ≤ 9223372036854775807) (h3 : -9223372036854775808 ≤ g) (h4 : g ≤ 9223372036854775807) (h5 : -9223372036854775808 ≤ z) (h6 : z ≤ 9223372036854775807) (hr : hintS g z x = r) :
    Calls Try.prog 23 #[.int .i64 g, .int .i64 z, .int .i64 x] w fun e w' => e = .returned (.int .i64 r) ∧ Drawn0 w w' := by
  have HR := Lib.hid hr
  clear hr
  obtain ⟨y, hy⟩ : ∃ y, x % 8380417 = y := ⟨_, rfl⟩
  have y0 : 0 ≤ y := by omega
  have y1 : y ≤ 8380416 := by omega
  obtain ⟨v, hv⟩ : ∃ y, z % 8380417 = y := ⟨_, rfl⟩
  have v0 : 0 ≤ v := by omega
  have v1 : v ≤ 8380416 := by omega
  have HX := Lib.hid hy
  have HZ := Lib.hid hv
  clear hy hv
  obtain ⟨a, b, hab⟩ : ∃ a b, partS g x = (a, b) := ⟨_, _, rfl⟩
  obtain ⟨c, d, hcd⟩ : ∃ a b, partS g (y + v) = (a, b) := ⟨_, _, rfl⟩
  have HA := Lib.hid hab
  have HC := Lib.hid hcd
  clear hab hcd
  by_cases hac : a = c
  all_goals
    have HE := Lib.hid hac
    have HF := Lib.hid (show (a == c) = (decide (a = c)) from by simp [Bool.beq_eq_decide_eq])
    clear hac
    go_enter Try.func23, Try.ntmps23
    go_wp2_with (first | (go_at_call 13; (with_reducible refine (part_any g x _ _ _ (by omega) (by omega) (by omega) (by omega) HA.out).mono ?_); rintro e w' ⟨rfl, ⟨nd, rfl⟩⟩) | (go_at_call 14; (with_reducible refine (of_any x _ _ (by omega) (by omega) HX.out).mono ?_); rintro e w' ⟨rfl, ⟨nd, rfl⟩⟩) | (go_at_call 14; (with_reducible refine (of_any z _ _ (by omega) (by omega) HZ.out).mono ?_); rintro e w' ⟨rfl, ⟨nd, rfl⟩⟩) | (go_at_call 13; (with_reducible refine (part_any g _ _ _ _ (by omega) (by omega) (by omega) (by omega) HC.out).mono ?_); rintro e w' ⟨rfl, ⟨nd, rfl⟩⟩))
    all_goals
      go_ret
      have hp := HR.out
      unfold hintS at hp
      rw [HX.out, HZ.out, HA.out, HC.out] at hp
      have he := HE.out
      exact ⟨ret_int (by simp only at hp; split at hp <;> simp_all), by repeat (first | exact Drawn0.refl _ | apply Drawn0.step)⟩

theorem use_any (g h x r : Int) (w : World) (h1 : -9223372036854775808 ≤ x) (h2 : x ≤ 9223372036854775807) (h3 : -9223372036854775808 ≤ g) (h4 : g ≤ 9223372036854775807) (hr : useS g h x = r) :
    Calls Try.prog 16 #[.int .i64 g, .int .i64 h, .int .i64 x] w fun e w' => e = .returned (.int .i64 r) ∧ Drawn0 w w' := by
  have HR := Lib.hid hr
  clear hr
  obtain ⟨a, b, hab⟩ : ∃ a b, partS g x = (a, b) := ⟨_, _, rfl⟩
  have HA := Lib.hid hab
  obtain ⟨c, hb⟩ : ∃ c, goodS g = c := ⟨_, rfl⟩
  have HB := Lib.hid hb
  cases c with
  | false =>
    clear hb hab
    go_enter Try.func16, Try.ntmps16
    go_wp2_with (first | (go_at_call 13; (with_reducible refine (part_any g x _ _ _ (by omega) (by omega) (by omega) (by omega) HA.out).mono ?_); rintro e w' ⟨rfl, ⟨nd, rfl⟩⟩) | (go_at_call 32; (with_reducible refine (good_any g _ _ HB.out).mono ?_); rintro e w' ⟨rfl, ⟨nd, rfl⟩⟩))
    go_ret
    have hp := HR.out
    have ha := HA.out
    unfold useS at hp
    unfold partS at ha
    rw [HB.out] at hp ha
    simp at hp ha
    exact ⟨ret_int (by omega), by repeat (first | exact Drawn0.refl _ | apply Drawn0.step)⟩
  | true =>
    have hg := good_cases hb
    have hbd := part_bd hb (x := x)
    rw [hab] at hbd
    obtain ⟨b0, b1, b2, b3, b4, b5⟩ := hbd
    clear hb hab
    by_cases hh : h = 1
    all_goals
      rcases hg with rfl | rfl
      all_goals
        by_cases hpos : 0 < b
        all_goals
          go_enter Try.func16, Try.ntmps16
          go_wp2_with (first | (go_at_call 13; (with_reducible refine (part_any _ x _ _ _ (by omega) (by omega) (by omega) (by omega) HA.out).mono ?_); rintro e w' ⟨rfl, ⟨nd, rfl⟩⟩) | (go_at_call 32; (with_reducible refine (good_any _ _ _ HB.out).mono ?_); rintro e w' ⟨rfl, ⟨nd, rfl⟩⟩))
          all_goals
            go_ret
            have hp := HR.out
            unfold useS at hp
            rw [if_pos HB.out, HA.out] at hp
            simp only [*, if_true, if_false] at hp
            exact ⟨ret_int (by first | exact hp | omega), by repeat (first | exact Drawn0.refl _ | apply Drawn0.step)⟩

set_option maxHeartbeats 400000 in
theorem pow_any (a n r : Int) (w : World) (h1 : -9223372036854775808 ≤ a) (h2 : a ≤ 9223372036854775807) (h3 : -9223372036854775808 ≤ n) (h4 : n ≤ 9223372036854775807) (hr : powS a n = r) :
    Calls Try.prog 19 #[.int .i64 a, .int .i64 n] w fun e w' => e = .returned (.int .i64 r) ∧ Drawn0 w w' := by
  have HR := Lib.hid hr
  clear hr
  obtain ⟨y, hy⟩ : ∃ y, a % 8380417 = y := ⟨_, rfl⟩
  have y0 : 0 ≤ y := by omega
  have y1 : y ≤ 8380416 := by omega
  have HX := Lib.hid hy
  clear hy
  by_cases hn : n < 0
  · go_enter Try.func19, Try.ntmps19
    go_wp2_with (first | (go_at_call 14; (with_reducible refine (of_any a _ _ (by omega) (by omega) HX.out).mono ?_); rintro e w' ⟨rfl, ⟨nd, rfl⟩⟩))
    go_ret
    have hp := HR.out
    unfold powS at hp
    rw [if_pos hn] at hp
    exact ⟨ret_int hp, by repeat (first | exact Drawn0.refl _ | apply Drawn0.step)⟩
  · have hn0 : 0 ≤ n := by omega
    go_enter Try.func19, Try.ntmps19
    go_wp2_with (first | (go_at_call 14; (with_reducible refine (of_any a _ _ (by omega) (by omega) HX.out).mono ?_); rintro e w' ⟨rfl, ⟨nd, rfl⟩⟩))
    go_loop [1, 0, 5] (fun n a o => PowRel r n a o) (fun n _ _ => (intOf n).toNat)
    case atStart =>
      have hp := HR.out
      unfold powS at hp
      rw [if_neg (by omega), HX.out] at hp
      exact ⟨_, _, _, rfl, rfl, rfl, hn0, h4, y0, y1, by omega, by omega, by rw [Int.one_mul]; exact hp⟩
    case round =>
      obtain ⟨n', a', o', rfl, rfl, rfl, n0, n1, a0, a1, o0, o1, hr⟩ := hrel
      have HI := Lib.hid hr
      clear hr
      have z0 : 0 ≤ o' * a' := Int.mul_nonneg o0 a0
      have z1 : o' * a' ≤ 8380416 * 8380416 := Int.mul_le_mul o1 a1 a0 (by omega)
      have u0 : 0 ≤ a' * a' := Int.mul_nonneg a0 a0
      have u1 : a' * a' ≤ 8380416 * 8380416 := Int.mul_le_mul a1 a1 a0 (by omega)
      go_wp2
      all_goals
        first
        | (go_round
           case rel =>
             have hp := pow_step a' n' o'
             have hi := HI.out
             refine ⟨_, _, _, rfl, rfl, rfl, by omega, by omega, by omega, by omega, by omega, by omega, ?_⟩
             have hodd : n' % 2 = 1 := beq_iff_eq.1 ‹(n' % 2 == 1) = true›
             rw [hp.1, show 2 * (n' / 2).toNat + 1 = n'.toNat from by omega]
             exact hi
           case measure => simp [intOf]; omega)
        | (go_round
           case rel =>
             have hp := pow_step a' n' o'
             have hi := HI.out
             refine ⟨_, _, _, rfl, rfl, rfl, by omega, by omega, by omega, by omega, by omega, by omega, ?_⟩
             have hodd : n' % 2 ≠ 1 := beq_eq_false_iff_ne.1 ‹(n' % 2 == 1) = false›
             rw [hp.2, show 2 * (n' / 2).toNat = n'.toNat from by omega]
             exact hi
           case measure => simp [intOf]; omega)
        | (go_ret
           have hi := HI.out
           have hz : n' = 0 := by omega
           subst hz
           simp at hi
           exact ⟨ret_int (by omega), by repeat (first | exact Drawn0.refl _ | apply Drawn0.step)⟩)

theorem rmul_any (a b r : Int) (w : World) (h1 : -9223372036854775808 ≤ a) (h2 : a ≤ 9223372036854775807) (h3 : -9223372036854775808 ≤ b) (h4 : b ≤ 9223372036854775807) (hr : mulS a b = r) :
    Calls Try.prog 28 #[.int .i64 a, .int .i64 b] w fun e w' => e = .returned (.int .i64 r) ∧ Drawn0 w w' := by
  have HR := Lib.hid hr
  clear hr
  obtain ⟨x, hx⟩ : ∃ x, a % 8380417 = x := ⟨_, rfl⟩
  obtain ⟨y, hy⟩ : ∃ x, b % 8380417 = x := ⟨_, rfl⟩
  have x0 : 0 ≤ x := by omega
  have x1 : x ≤ 8380416 := by omega
  have y0 : 0 ≤ y := by omega
  have y1 : y ≤ 8380416 := by omega
  have z0 : 0 ≤ x * y := Int.mul_nonneg x0 y0
  have z1 : x * y ≤ 8380416 * 8380416 := Int.mul_le_mul x1 y1 y0 (by omega)
  have HX := Lib.hid hx
  have HY := Lib.hid hy
  clear hx hy
  go_enter Try.func28, Try.ntmps28
  go_wp2_with (first | (go_at_call 27; (with_reducible refine (rof_any a _ _ (by omega) (by omega) HX.out).mono ?_); rintro e w' ⟨rfl, ⟨nd, rfl⟩⟩) | (go_at_call 27; (with_reducible refine (rof_any b _ _ (by omega) (by omega) HY.out).mono ?_); rintro e w' ⟨rfl, ⟨nd, rfl⟩⟩))
  go_ret
  exact ⟨ret_int (by rw [← HR.out]; unfold mulS; rw [HX.out, HY.out]), by repeat (first | exact Drawn0.refl _ | apply Drawn0.step)⟩
theorem rpart_any (g x r s : Int) (w : World) (h1 : -9223372036854775808 ≤ x) (h2 : x ≤ 9223372036854775807) (h3 : -9223372036854775808 ≤ g) (h4 : g ≤ 9223372036854775807) (hr : partS g x = (r, s)) :
    Calls Try.prog 22 #[.int .i64 g, .int .i64 x] w fun e w' => e = .returned (.tuple #[.int .i64 r, .int .i64 s]) ∧ Drawn0 w w' := by
  have HR := Lib.hid hr
  clear hr
  obtain ⟨b, hb⟩ : ∃ b, goodS g = b := ⟨_, rfl⟩
  have HB := Lib.hid hb
  cases b with
  | false =>
    clear hb
    go_enter Try.func22, Try.ntmps22
    go_wp2_with (first | (go_at_call 33; (with_reducible refine (may_any g _ _ HB.out).mono ?_); rintro e w' ⟨rfl, ⟨nd, rfl⟩⟩))
    go_ret2
    have hr := HR.out
    unfold partS at hr
    rw [HB.out] at hr
    simp at hr
    obtain ⟨rfl, rfl⟩ := hr
    exact ⟨rfl, by repeat (first | exact Drawn0.refl _ | apply Drawn0.step)⟩
  | true =>
    have hg := good_cases hb
    obtain ⟨y, hy⟩ : ∃ y, x % 8380417 = y := ⟨_, rfl⟩
    have y0 : 0 ≤ y := by omega
    have y1 : y ≤ 8380416 := by omega
    obtain ⟨G, hG⟩ : ∃ G, 2 * g = G := ⟨_, rfl⟩
    have hG2 : (g = 95232 ∧ G = 190464) ∨ (g = 261888 ∧ G = 523776) := by omega
    obtain ⟨n, hn⟩ : ∃ n, nearS G y = n := ⟨_, rfl⟩
    have hnb := near_bd (a := G) (x := y) (by omega)
    rw [hn] at hnb
    have hnm := near_mod (a := G) (x := y) (by omega) y0
    rw [hn] at hnm
    obtain ⟨n0, n1⟩ := hnb
    obtain ⟨m0, m1⟩ := hnm
    have M0 := Lib.hid m0
    have hp := part_of hb hG hy hn
    rw [HR.out] at hp
    have HP := Lib.hid hp
    have HX := Lib.hid hy
    clear hy hp HR m0 hb hg hG
    by_cases hq : y - n = 8380416
    all_goals
      have HQ := Lib.hid hq
      rcases hG2 with ⟨rfl, rfl⟩ | ⟨rfl, rfl⟩
      all_goals
        have HN := Lib.hid hn
        clear hn
        go_enter Try.func22, Try.ntmps22
        go_wp2_with (first | (go_at_call 33; (with_reducible refine (may_any _ _ _ HB.out).mono ?_); rintro e w' ⟨rfl, ⟨nd, rfl⟩⟩) | (go_at_call 27; (with_reducible refine (rof_any x _ _ (by omega) (by omega) HX.out).mono ?_); rintro e w' ⟨rfl, ⟨nd, rfl⟩⟩) | (go_at_call 30; (with_reducible refine (rnear_any _ y _ _ (by omega) (by omega) (by omega) (by omega) HN.out).mono ?_); rintro e w' ⟨rfl, ⟨nd, rfl⟩⟩))
        go_ret2
        have hp := HP.out
        have hq := HQ.out
        simp only [hq, if_true, if_false] at hp
        obtain ⟨rfl, rfl⟩ := Prod.mk.inj hp
        exact ⟨rfl, by repeat (first | exact Drawn0.refl _ | apply Drawn0.step)⟩

theorem rsplit_any (x r s : Int) (w : World) (h1 : -9223372036854775808 ≤ x) (h2 : x ≤ 9223372036854775807) (hr : splitS x = (r, s)) :
    Calls Try.prog 26 #[.int .i64 x] w fun e w' => e = .returned (.tuple #[.int .i64 r, .int .i64 s]) ∧ Drawn0 w w' := by
  have HR := Lib.hid hr
  clear hr
  obtain ⟨y, hy⟩ : ∃ y, x % 8380417 = y := ⟨_, rfl⟩
  have y0 : 0 ≤ y := by omega
  have y1 : y ≤ 8380416 := by omega
  obtain ⟨n, hn⟩ : ∃ n, nearS 8192 y = n := ⟨_, rfl⟩
  have hnb := near_bd (a := 8192) (x := y) (by omega)
  have hnm := near_mod (a := 8192) (x := y) (by omega) y0
  rw [hn] at hnb hnm
  obtain ⟨n0, n1⟩ := hnb
  obtain ⟨m0, m1⟩ := hnm
  have HX := Lib.hid hy
  have HN := Lib.hid hn
  clear hy hn m0
  go_enter Try.func26, Try.ntmps26
  go_wp2_with (first | (go_at_call 27; (with_reducible refine (rof_any x _ _ (by omega) (by omega) HX.out).mono ?_); rintro e w' ⟨rfl, ⟨nd, rfl⟩⟩) | (go_at_call 30; (with_reducible refine (rnear_any _ y _ _ (by omega) (by omega) (by omega) (by omega) HN.out).mono ?_); rintro e w' ⟨rfl, ⟨nd, rfl⟩⟩))
  go_ret2
  have hp := HR.out
  unfold splitS at hp
  rw [HX.out, HN.out] at hp
  obtain ⟨rfl, rfl⟩ := Prod.mk.inj hp
  exact ⟨rfl, by repeat (first | exact Drawn0.refl _ | apply Drawn0.step)⟩
theorem rnorm_any (x r : Int) (w : World) (h1 : -9223372036854775808 ≤ x) (h2 : x ≤ 9223372036854775807) (hr : normS x = r) :
    Calls Try.prog 31 #[.int .i64 x] w fun e w' => e = .returned (.int .i64 r) ∧ Drawn0 w w' := by
  have HR := Lib.hid hr
  clear hr
  obtain ⟨y, hy⟩ : ∃ y, x % 8380417 = y := ⟨_, rfl⟩
  have y0 : 0 ≤ y := by omega
  have y1 : y ≤ 8380416 := by omega
  have HX := Lib.hid hy
  clear hy
  go_enter Try.func31, Try.ntmps31
  go_wp2_with (first | (go_at_call 27; (with_reducible refine (rof_any x _ _ (by omega) (by omega) HX.out).mono ?_); rintro e w' ⟨rfl, ⟨nd, rfl⟩⟩))
  all_goals
    go_ret
    have hp := HR.out
    unfold normS at hp
    rw [HX.out] at hp
    exact ⟨ret_int (by split at hp <;> omega), by repeat (first | exact Drawn0.refl _ | apply Drawn0.step)⟩
theorem rhint_any (g z x r : Int) (w : World) (h1 : -9223372036854775808 ≤ x) (h2 : x ≤ 9223372036854775807) (h3 : -9223372036854775808 ≤ g) (h4 : g ≤ 9223372036854775807) (h5 : -9223372036854775808 ≤ z) (h6 : z ≤ 9223372036854775807) (hr : hintS g z x = r) :
    Calls Try.prog 24 #[.int .i64 g, .int .i64 z, .int .i64 x] w fun e w' => e = .returned (.int .i64 r) ∧ Drawn0 w w' := by
  have HR := Lib.hid hr
  clear hr
  obtain ⟨y, hy⟩ : ∃ y, x % 8380417 = y := ⟨_, rfl⟩
  have y0 : 0 ≤ y := by omega
  have y1 : y ≤ 8380416 := by omega
  obtain ⟨v, hv⟩ : ∃ y, z % 8380417 = y := ⟨_, rfl⟩
  have v0 : 0 ≤ v := by omega
  have v1 : v ≤ 8380416 := by omega
  have HX := Lib.hid hy
  have HZ := Lib.hid hv
  clear hy hv
  obtain ⟨a, b, hab⟩ : ∃ a b, partS g x = (a, b) := ⟨_, _, rfl⟩
  obtain ⟨c, d, hcd⟩ : ∃ a b, partS g (y + v) = (a, b) := ⟨_, _, rfl⟩
  have HA := Lib.hid hab
  have HC := Lib.hid hcd
  clear hab hcd
  by_cases hac : a = c
  all_goals
    have HE := Lib.hid hac
    have HF := Lib.hid (show (a == c) = (decide (a = c)) from by simp [Bool.beq_eq_decide_eq])
    clear hac
    go_enter Try.func24, Try.ntmps24
    go_wp2_with (first | (go_at_call 22; (with_reducible refine (rpart_any g x _ _ _ (by omega) (by omega) (by omega) (by omega) HA.out).mono ?_); rintro e w' ⟨rfl, ⟨nd, rfl⟩⟩) | (go_at_call 27; (with_reducible refine (rof_any x _ _ (by omega) (by omega) HX.out).mono ?_); rintro e w' ⟨rfl, ⟨nd, rfl⟩⟩) | (go_at_call 27; (with_reducible refine (rof_any z _ _ (by omega) (by omega) HZ.out).mono ?_); rintro e w' ⟨rfl, ⟨nd, rfl⟩⟩) | (go_at_call 22; (with_reducible refine (rpart_any g _ _ _ _ (by omega) (by omega) (by omega) (by omega) HC.out).mono ?_); rintro e w' ⟨rfl, ⟨nd, rfl⟩⟩))
    all_goals
      go_ret
      have hp := HR.out
      unfold hintS at hp
      rw [HX.out, HZ.out, HA.out, HC.out] at hp
      have he := HE.out
      exact ⟨ret_int (by simp only at hp; split at hp <;> simp_all), by repeat (first | exact Drawn0.refl _ | apply Drawn0.step)⟩

theorem ruse_any (g h x r : Int) (w : World) (h1 : -9223372036854775808 ≤ x) (h2 : x ≤ 9223372036854775807) (h3 : -9223372036854775808 ≤ g) (h4 : g ≤ 9223372036854775807) (hr : useS g h x = r) :
    Calls Try.prog 25 #[.int .i64 g, .int .i64 h, .int .i64 x] w fun e w' => e = .returned (.int .i64 r) ∧ Drawn0 w w' := by
  have HR := Lib.hid hr
  clear hr
  obtain ⟨a, b, hab⟩ : ∃ a b, partS g x = (a, b) := ⟨_, _, rfl⟩
  have HA := Lib.hid hab
  obtain ⟨c, hb⟩ : ∃ c, goodS g = c := ⟨_, rfl⟩
  have HB := Lib.hid hb
  cases c with
  | false =>
    clear hb hab
    go_enter Try.func25, Try.ntmps25
    go_wp2_with (first | (go_at_call 22; (with_reducible refine (rpart_any g x _ _ _ (by omega) (by omega) (by omega) (by omega) HA.out).mono ?_); rintro e w' ⟨rfl, ⟨nd, rfl⟩⟩) | (go_at_call 33; (with_reducible refine (may_any g _ _ HB.out).mono ?_); rintro e w' ⟨rfl, ⟨nd, rfl⟩⟩))
    go_ret
    have hp := HR.out
    have ha := HA.out
    unfold useS at hp
    unfold partS at ha
    rw [HB.out] at hp ha
    simp at hp ha
    exact ⟨ret_int (by omega), by repeat (first | exact Drawn0.refl _ | apply Drawn0.step)⟩
  | true =>
    have hg := good_cases hb
    have hbd := part_bd hb (x := x)
    rw [hab] at hbd
    obtain ⟨b0, b1, b2, b3, b4, b5⟩ := hbd
    clear hb hab
    by_cases hh : h = 1
    all_goals
      rcases hg with rfl | rfl
      all_goals
        by_cases hpos : 0 < b
        all_goals
          go_enter Try.func25, Try.ntmps25
          go_wp2_with (first | (go_at_call 22; (with_reducible refine (rpart_any _ x _ _ _ (by omega) (by omega) (by omega) (by omega) HA.out).mono ?_); rintro e w' ⟨rfl, ⟨nd, rfl⟩⟩) | (go_at_call 33; (with_reducible refine (may_any _ _ _ HB.out).mono ?_); rintro e w' ⟨rfl, ⟨nd, rfl⟩⟩))
          all_goals
            go_ret
            have hp := HR.out
            unfold useS at hp
            rw [if_pos HB.out, HA.out] at hp
            simp only [*, if_true, if_false] at hp
            exact ⟨ret_int (by first | exact hp | omega), by repeat (first | exact Drawn0.refl _ | apply Drawn0.step)⟩

set_option maxHeartbeats 400000 in
theorem rpow_any (a n r : Int) (w : World) (h1 : -9223372036854775808 ≤ a) (h2 : a ≤ 9223372036854775807) (h3 : -9223372036854775808 ≤ n) (h4 : n ≤ 9223372036854775807) (hr : powS a n = r) :
    Calls Try.prog 29 #[.int .i64 a, .int .i64 n] w fun e w' => e = .returned (.int .i64 r) ∧ Drawn0 w w' := by
  have HR := Lib.hid hr
  clear hr
  obtain ⟨y, hy⟩ : ∃ y, a % 8380417 = y := ⟨_, rfl⟩
  have y0 : 0 ≤ y := by omega
  have y1 : y ≤ 8380416 := by omega
  have HX := Lib.hid hy
  clear hy
  by_cases hn : n < 0
  · go_enter Try.func29, Try.ntmps29
    go_wp2_with (first | (go_at_call 27; (with_reducible refine (rof_any a _ _ (by omega) (by omega) HX.out).mono ?_); rintro e w' ⟨rfl, ⟨nd, rfl⟩⟩))
    go_ret
    have hp := HR.out
    unfold powS at hp
    rw [if_pos hn] at hp
    exact ⟨ret_int hp, by repeat (first | exact Drawn0.refl _ | apply Drawn0.step)⟩
  · have hn0 : 0 ≤ n := by omega
    go_enter Try.func29, Try.ntmps29
    go_wp2_with (first | (go_at_call 27; (with_reducible refine (rof_any a _ _ (by omega) (by omega) HX.out).mono ?_); rintro e w' ⟨rfl, ⟨nd, rfl⟩⟩))
    go_loop [1, 6, 5] (fun n a o => PowRel r n a o) (fun n _ _ => (intOf n).toNat)
    case atStart =>
      have hp := HR.out
      unfold powS at hp
      rw [if_neg (by omega), HX.out] at hp
      exact ⟨_, _, _, rfl, rfl, rfl, hn0, h4, y0, y1, by omega, by omega, by rw [Int.one_mul]; exact hp⟩
    case round =>
      obtain ⟨n', a', o', rfl, rfl, rfl, n0, n1, a0, a1, o0, o1, hr⟩ := hrel
      have HI := Lib.hid hr
      clear hr
      have z0 : 0 ≤ o' * a' := Int.mul_nonneg o0 a0
      have z1 : o' * a' ≤ 8380416 * 8380416 := Int.mul_le_mul o1 a1 a0 (by omega)
      have u0 : 0 ≤ a' * a' := Int.mul_nonneg a0 a0
      have u1 : a' * a' ≤ 8380416 * 8380416 := Int.mul_le_mul a1 a1 a0 (by omega)
      go_wp2
      all_goals
        first
        | (go_round
           case rel =>
             have hp := pow_step a' n' o'
             have hi := HI.out
             refine ⟨_, _, _, rfl, rfl, rfl, by omega, by omega, by omega, by omega, by omega, by omega, ?_⟩
             have hodd : n' % 2 = 1 := beq_iff_eq.1 ‹(n' % 2 == 1) = true›
             rw [hp.1, show 2 * (n' / 2).toNat + 1 = n'.toNat from by omega]
             exact hi
           case measure => simp [intOf]; omega)
        | (go_round
           case rel =>
             have hp := pow_step a' n' o'
             have hi := HI.out
             refine ⟨_, _, _, rfl, rfl, rfl, by omega, by omega, by omega, by omega, by omega, by omega, ?_⟩
             have hodd : n' % 2 ≠ 1 := beq_eq_false_iff_ne.1 ‹(n' % 2 == 1) = false›
             rw [hp.2, show 2 * (n' / 2).toNat = n'.toNat from by omega]
             exact hi
           case measure => simp [intOf]; omega)
        | (go_ret
           have hi := HI.out
           have hz : n' = 0 := by omega
           subst hz
           simp at hi
           exact ⟨ret_int (by omega), by repeat (first | exact Drawn0.refl _ | apply Drawn0.step)⟩)

end Go.Proofs.Ytaheabkfgohobaa.T
