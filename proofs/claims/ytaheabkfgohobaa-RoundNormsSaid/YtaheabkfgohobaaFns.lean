/- What the functions of chapter 9 (the program's and the reference's) answer: walks of their code. -/
import Derived.Test.YtaheabkfgohobaaBase
import Derived.Test.YtaheabkfgohobaaSpec
namespace Go.Proofs.Ytaheabkfgohobaa.T
open Go.RowKit
open Go.Proofs.Ytaheabkfgohobaa.S
set_option linter.unusedVariables false


theorem of_any (x r : Int) (w : World) (h1 : -9223372036854775808 ≤ x) (h2 : x ≤ 9223372036854775807) (hr : x % 8380417 = r) :
    Calls Try.prog 14 #[.int .i64 x] w fun e w' => e = .returned (.int .i64 r) ∧ Drawn0 w w' := by
  have HR := Lib.hid hr
  clear hr
  have hb := tmod_bd x
  have hs := tmod_q x
  have hs1 := Lib.hid hs.1
  have hs2 := Lib.hid hs.2
  clear hs
  go_enter Try.func14, Try.ntmps14
  go_wp2
  all_goals
    go_ret
    have := HR.out
    have := hs1.out
    have := hs2.out
    exact ⟨ret_int (by (try simp only [wrap64]); omega), Drawn0.refl _⟩

theorem rof_any (x r : Int) (w : World) (h1 : -9223372036854775808 ≤ x) (h2 : x ≤ 9223372036854775807) (hr : x % 8380417 = r) :
    Calls Try.prog 27 #[.int .i64 x] w fun e w' => e = .returned (.int .i64 r) ∧ Drawn0 w w' := by
  have HR := Lib.hid hr
  clear hr
  have hb := tmod_bd x
  have hs := tmod_q x
  have hs1 := Lib.hid hs.1
  have hs2 := Lib.hid hs.2
  clear hs
  go_enter Try.func27, Try.ntmps27
  go_wp2
  all_goals
    go_ret
    have := HR.out
    have := hs1.out
    have := hs2.out
    exact ⟨ret_int (by (try simp only [wrap64]); omega), Drawn0.refl _⟩



theorem near_any (a x r : Int) (w : World) (h1 : -9223372036854775808 ≤ x) (h2 : x ≤ 9223372036854775807) (h3 : -9223372036854775808 ≤ a) (h4 : a ≤ 9223372036854775807) (hr : nearS a x = r) :
    Calls Try.prog 20 #[.int .i64 a, .int .i64 x] w fun e w' => e = .returned (.int .i64 r) ∧ Drawn0 w w' := by
  have HR := Lib.hid hr
  clear hr
  have hm := fun h => tmod_any x a h
  have HM := Lib.hid hm
  clear hm
  go_enter Try.func20, Try.ntmps20
  go_wp2
  all_goals
    go_ret
    have hr := HR.out
    unfold nearS at hr
    first
    | (rw [if_pos (by omega)] at hr; exact ⟨ret_int hr, Drawn0.refl _⟩)
    | (rw [if_neg (by omega)] at hr
       have hm := HM.out (by omega)
       exact ⟨ret_int (by (try simp only [wrap64] at *); split at hr <;> omega), Drawn0.refl _⟩)

theorem rnear_any (a x r : Int) (w : World) (h1 : -9223372036854775808 ≤ x) (h2 : x ≤ 9223372036854775807) (h3 : -9223372036854775808 ≤ a) (h4 : a ≤ 9223372036854775807) (hr : nearS a x = r) :
    Calls Try.prog 30 #[.int .i64 a, .int .i64 x] w fun e w' => e = .returned (.int .i64 r) ∧ Drawn0 w w' := by
  have HR := Lib.hid hr
  clear hr
  have hm := fun h => tmod_any x a h
  have HM := Lib.hid hm
  clear hm
  go_enter Try.func30, Try.ntmps30
  go_wp2
  all_goals
    go_ret
    have hr := HR.out
    unfold nearS at hr
    first
    | (rw [if_pos (by omega)] at hr; exact ⟨ret_int hr, Drawn0.refl _⟩)
    | (rw [if_neg (by omega)] at hr
       have hm := HM.out (by omega)
       have hw : wrap64 (x.tmod a + a) = x.tmod a + a := by unfold wrap64; omega
       have hz : (x.tmod a + a).tmod a = x % a := by
         rw [Int.tmod_eq_emod_of_nonneg (by omega), Int.add_emod_right]
         rcases Int.lt_or_le (x.tmod a) 0 with hlt | hge
         · rw [← Int.emod_emod_of_dvd x (Int.dvd_refl a), ← hm.2.2.1 hlt, Int.add_emod_right]
         · rw [hm.2.2.2 hge, Int.emod_emod]
       simp only [hw, hz] at *
       have e1 := Int.emod_nonneg x (show a ≠ 0 by omega)
       have e2 := Int.emod_lt_of_pos x (show 0 < a by omega)
       exact ⟨ret_int (by (try simp only [wrap64] at *); split at hr <;> omega), Drawn0.refl _⟩)

theorem good_any (g : Int) (w : World) (r : Bool) (hr : goodS g = r) :
    Calls Try.prog 32 #[.int .i64 g] w fun e w' => e = .returned (.bool r) ∧ Drawn0 w w' := by
  have HR := Lib.hid hr
  clear hr
  go_enter Try.func32, Try.ntmps32
  go_wp2
  all_goals
    go_ret
    have hr := HR.out
    unfold goodS at hr
    exact ⟨by rw [← hr]; simp [*, Bool.beq_eq_decide_eq], Drawn0.refl _⟩

theorem may_any (g : Int) (w : World) (r : Bool) (hr : goodS g = r) :
    Calls Try.prog 33 #[.int .i64 g] w fun e w' => e = .returned (.bool r) ∧ Drawn0 w w' := by
  have HR := Lib.hid hr
  clear hr
  go_enter Try.func33, Try.ntmps33
  go_wp2
  all_goals
    go_ret
    have hr := HR.out
    unfold goodS at hr
    exact ⟨by rw [← hr]; simp [*, Bool.beq_eq_decide_eq], Drawn0.refl _⟩


theorem mul_any (a b r : Int) (w : World) (h1 : -9223372036854775808 ≤ a) (h2 : a ≤ 9223372036854775807) (h3 : -9223372036854775808 ≤ b) (h4 : b ≤ 9223372036854775807) (hr : mulS a b = r) :
    Calls Try.prog 18 #[.int .i64 a, .int .i64 b] w fun e w' => e = .returned (.int .i64 r) ∧ Drawn0 w w' := by
  have HR := Lib.hid hr
  clear hr
  obtain ⟨x, hx⟩ : ∃ x, a % 8380417 = x := ⟨_, rfl⟩
  obtain ⟨y, hy⟩ : ∃ x, b % 8380417 = x := ⟨_, rfl⟩
  have x0 : 0 ≤ x := by omega
  have x1 : x ≤ 8380416 := by omega
  have y0 : 0 ≤ y := by omega
  have y1 : y ≤ 8380416 := by omega
  have z0 : 0 ≤ x * y := Int.mul_nonneg x0 y0
  have z1 : x * y ≤ 8380416 * 8380416 := Int.mul_le_mul x1 y1 y0 (by omega)
  have HX := Lib.hid hx
  have HY := Lib.hid hy
  clear hx hy
  go_enter Try.func18, Try.ntmps18
  go_wp2_with (first | (go_at_call 14; (with_reducible refine (of_any a _ _ (by omega) (by omega) HX.out).mono ?_); rintro e w' ⟨rfl, ⟨nd, rfl⟩⟩) | (go_at_call 14; (with_reducible refine (of_any b _ _ (by omega) (by omega) HY.out).mono ?_); rintro e w' ⟨rfl, ⟨nd, rfl⟩⟩))
  go_ret
  exact ⟨ret_int (by rw [← HR.out]; unfold mulS; rw [HX.out, HY.out]), by repeat (first | exact Drawn0.refl _ | apply Drawn0.step)⟩
theorem part_any (g x r s : Int) (w : World) (h1 : -9223372036854775808 ≤ x) (h2 : x ≤ 9223372036854775807) (h3 : -9223372036854775808 ≤ g) (h4 : g ≤ 9223372036854775807) (hr : partS g x = (r, s)) :
    Calls Try.prog 13 #[.int .i64 g, .int .i64 x] w fun e w' => e = .returned (.tuple #[.int .i64 r, .int .i64 s]) ∧ Drawn0 w w' := by
  have HR := Lib.hid hr
  clear hr
  obtain ⟨b, hb⟩ : ∃ b, goodS g = b := ⟨_, rfl⟩
  have HB := Lib.hid hb
  cases b with
  | false =>
    clear hb
    go_enter Try.func13, Try.ntmps13
    go_wp2_with (first | (go_at_call 32; (with_reducible refine (good_any g _ _ HB.out).mono ?_); rintro e w' ⟨rfl, ⟨nd, rfl⟩⟩))
    go_ret2
    have hr := HR.out
    unfold partS at hr
    rw [HB.out] at hr
    simp at hr
    obtain ⟨rfl, rfl⟩ := hr
    exact ⟨rfl, by repeat (first | exact Drawn0.refl _ | apply Drawn0.step)⟩
  | true =>
    have hg := good_cases hb
    obtain ⟨y, hy⟩ : ∃ y, x % 8380417 = y := ⟨_, rfl⟩
    have y0 : 0 ≤ y := by omega
    have y1 : y ≤ 8380416 := by omega
    obtain ⟨G, hG⟩ : ∃ G, 2 * g = G := ⟨_, rfl⟩
    have hG2 : (g = 95232 ∧ G = 190464) ∨ (g = 261888 ∧ G = 523776) := by omega
    obtain ⟨n, hn⟩ : ∃ n, nearS G y = n := ⟨_, rfl⟩
    have hnb := near_bd (a := G) (x := y) (by omega)
    rw [hn] at hnb
    have hnm := near_mod (a := G) (x := y) (by omega) y0
    rw [hn] at hnm
    obtain ⟨n0, n1⟩ := hnb
    obtain ⟨m0, m1⟩ := hnm
    have M0 := Lib.hid m0
    have hp := part_of hb hG hy hn
    rw [HR.out] at hp
    have HP := Lib.hid hp
    have HX := Lib.hid hy
    clear hy hp HR m0 hb hg hG
    by_cases hq : y - n = 8380416
    all_goals
      have HQ := Lib.hid hq
      rcases hG2 with ⟨rfl, rfl⟩ | ⟨rfl, rfl⟩
      all_goals
        have HN := Lib.hid hn
        clear hn
        go_enter Try.func13, Try.ntmps13
        go_wp2_with (first | (go_at_call 32; (with_reducible refine (good_any _ _ _ HB.out).mono ?_); rintro e w' ⟨rfl, ⟨nd, rfl⟩⟩) | (go_at_call 14; (with_reducible refine (of_any x _ _ (by omega) (by omega) HX.out).mono ?_); rintro e w' ⟨rfl, ⟨nd, rfl⟩⟩) | (go_at_call 20; (with_reducible refine (near_any _ y _ _ (by omega) (by omega) (by omega) (by omega) HN.out).mono ?_); rintro e w' ⟨rfl, ⟨nd, rfl⟩⟩))
        go_ret2
        have hp := HP.out
        have hq := HQ.out
        simp only [hq, if_true, if_false] at hp
        obtain ⟨rfl, rfl⟩ := Prod.mk.inj hp
        exact ⟨rfl, by repeat (first | exact Drawn0.refl _ | apply Drawn0.step)⟩
end Go.Proofs.Ytaheabkfgohobaa.T
