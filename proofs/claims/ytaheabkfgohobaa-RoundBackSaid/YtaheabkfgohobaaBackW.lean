/- RoundBack: its plain law and its walk. -/
import Derived.Test.YtaheabkfgohobaaFns3
namespace Go.Proofs.Ytaheabkfgohobaa.T
open Go.RowKit
open Go.Proofs.Ytaheabkfgohobaa.S
set_option linter.unusedVariables false
theorem split_facts {x a b : Int} (h0 : 0 ≤ x) (h1 : x ≤ 8380416) (h : splitS x = (a, b)) : a * 8192 + b = x ∧ -4096 < b ∧ b ≤ 4096 ∧ 0 ≤ a ∧ a ≤ 1023 := by
  unfold splitS at h
  have hx : x % 8380417 = x := by omega
  rw [hx, near_of (by omega)] at h
  obtain ⟨rfl, rfl⟩ := Prod.mk.inj h
  split <;> omega
theorem part_facts {g x a b : Int} (hg : g = 95232 ∨ g = 261888) (h0 : 0 ≤ x) (h1 : x ≤ 8380416) (h : partS g x = (a, b)) :
    (2 * g * a + b) % 8380417 = x ∧ -g ≤ b ∧ b ≤ g ∧ 0 ≤ a ∧ a < 8380416 / (2 * g) := by
  have hb : goodS g = true := by unfold goodS; simpa using hg
  rw [part_of hb rfl rfl rfl] at h
  have hx : x % 8380417 = x := by omega
  rw [hx] at h
  have hm := near_mod (a := 2 * g) (x := x) (by omega) h0
  have hd := near_bd (a := 2 * g) (x := x) (by omega)
  generalize nearS (2 * g) x = n at *
  split at h
  all_goals
    obtain ⟨rfl, rfl⟩ := Prod.mk.inj h
    rcases hg with rfl | rfl <;> omega
set_option maxHeartbeats 400000 in
theorem back_walk (a0 : Int) (a1 : Int) (w0 : (Lit.int .i64 a0).wf = true) (w1 : (Lit.int .i64 a1).wf = true) (w : World) :
    Calls Try.prog 3 #[.int .i64 a0, .int .i64 a1] w fun e w' => e = .returned (.bool true) ∧ Grown w w' := by
  obtain ⟨g, hg⟩ : ∃ g, ofG a0 = g := ⟨_, rfl⟩
  obtain ⟨x, hx⟩ : ∃ x, lowS a1 8380417 = x := ⟨_, rfl⟩
  have hxb := lowS_bd a1 8380417 (by omega)
  rw [hx] at hxb
  have hgg := ofG_good a0
  rw [hg] at hgg
  obtain ⟨x0, x1⟩ := hxb
  have x2 : x ≤ 8380416 := by omega
  obtain ⟨a, b, hs⟩ : ∃ a b, splitS x = (a, b) := ⟨_, _, rfl⟩
  obtain ⟨c, d, hp⟩ : ∃ a b, partS g x = (a, b) := ⟨_, _, rfl⟩
  obtain ⟨s1, s2, s3, s4, s5⟩ := split_facts x0 x2 hs
  obtain ⟨p1, p2, p3, p4, p5⟩ := part_facts hgg x0 x2 hp
  have S1 : (a * 8192 + b == x) = true := beq_iff_eq.2 s1
  have HS := Lib.hid hs
  have HX := Lib.hid hx
  clear s1 hs hx
  rcases hgg with rfl | rfl
  all_goals
    have HP := Lib.hid hp
    have HG := Lib.hid hg
    first | have P1 := Lib.hid (show (190464 * c + d) % 8380417 = x from by omega) | have P1 := Lib.hid (show (523776 * c + d) % 8380417 = x from by omega)
    clear hp hg p1
    go_enter Try.func3, Try.ntmps3
    go_wp2_with (first
      | (go_at_call 10; (with_reducible refine (ofg_any _ _ _ HG.out).mono ?_); rintro e w' ⟨rfl, ⟨nd, rfl⟩⟩)
      | (go_at_call 11; (with_reducible refine (low_any _ _ _ _ (by omega) (by omega) HX.out).mono ?_); rintro e w' ⟨rfl, ⟨nd, rfl⟩⟩)
      | (go_at_call 12; (with_reducible refine (split_any _ _ _ _ (by omega) (by omega) HS.out).mono ?_); rintro e w' ⟨rfl, ⟨nd, rfl⟩⟩)
      | (go_at_call 13; (with_reducible refine (part_any _ _ _ _ _ (by omega) (by omega) (by omega) (by omega) HP.out).mono ?_); rintro e w' ⟨rfl, ⟨nd, rfl⟩⟩)
      | (go_at_call 14; (with_reducible refine (of_any _ _ _ (by omega) (by omega) P1.out).mono ?_); rintro e w' ⟨rfl, ⟨nd, rfl⟩⟩)
      | (go_at_call 15; (with_reducible refine (awake_any _).mono ?_); rintro e w' ⟨rfl, ⟨nd, rfl⟩⟩))
    go_ret
    exact ⟨rfl, Drawn0.grown (by repeat (first | exact Drawn0.refl _ | apply Drawn0.step))⟩
end Go.Proofs.Ytaheabkfgohobaa.T
