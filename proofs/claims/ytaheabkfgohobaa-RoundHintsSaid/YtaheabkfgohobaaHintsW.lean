/- RoundHints: its plain law and its walk (printed by gen_laws.py). -/
import Derived.Test.YtaheabkfgohobaaFns3
import Derived.Test.YtaheabkfgohobaaPlain
namespace Go.Proofs.Ytaheabkfgohobaa.T
open Go.RowKit
open Go.Proofs.Ytaheabkfgohobaa.S
set_option linter.unusedVariables false
set_option linter.unusedSimpArgs false
set_option maxHeartbeats 1000000 in
set_option maxRecDepth 20000 in
theorem hints_walk (a0 : Int) (a1 : Int) (a2 : Int) (w0 : (Lit.int .i64 a0).wf = true) (w1 : (Lit.int .i64 a1).wf = true) (w2 : (Lit.int .i64 a2).wf = true) (w : World) :
    Calls Try.prog 8 #[.int .i64 a0, .int .i64 a1, .int .i64 a2] w fun e w' => e = .returned (.bool true) ∧ Grown w w' := by
  obtain ⟨g, hg⟩ : ∃ g, ofG a0 = g := ⟨_, rfl⟩
  have hgg := ofG_good a0
  rw [hg] at hgg
  obtain ⟨x, hx⟩ : ∃ x, lowS a1 8380417 = x := ⟨_, rfl⟩
  have hxb := lowS_bd a1 8380417 (by omega)
  rw [hx] at hxb
  obtain ⟨x0, x1⟩ := hxb
  have HX := Lib.hid hx
  clear hx
  rcases hgg with rfl | rfl
  · obtain ⟨z, hz⟩ : ∃ x, lowS a2 190465 = x := ⟨_, rfl⟩
    have hzb := lowS_bd a2 190465 (by omega)
    rw [hz] at hzb
    obtain ⟨z0, z1⟩ := hzb
    have HZ := Lib.hid hz
    clear hz
    obtain ⟨h, hh⟩ : ∃ r, hintS 95232 (z - 95232) x = r := ⟨_, rfl⟩
    obtain ⟨u, hu⟩ : ∃ r, useS 95232 h x = r := ⟨_, rfl⟩
    obtain ⟨c, d, hp⟩ : ∃ r s, partS 95232 (x + (z - 95232)) = (r, s) := ⟨_, _, rfl⟩
    have pl := hints_plain (g := 95232) (x := x) (z := z - 95232) (by omega) x0 (by omega) (by omega) (by omega)
    rw [hh, hu, hp] at pl
    obtain ⟨q1, hi, q2⟩ := pl
    subst q1
    have h0 : 0 ≤ h := by omega
    have h1 : h ≤ 1 := by omega
    have HG := Lib.hid hg
    clear hg
    have HH := Lib.hid hh
    clear hh
    have HU := Lib.hid hu
    clear hu
    have HP := Lib.hid hp
    clear hp
    have HI := Lib.hid hi
    clear hi
    rcases q2 with rfl | rfl
    all_goals
      go_enter Try.func8, Try.ntmps8
      go_wp2_with (first
      | (go_at_call 10; (with_reducible refine (ofg_any _ _ _  HG.out).mono ?_); rintro e w' ⟨rfl, ⟨nd, rfl⟩⟩)
      | (go_at_call 11; (with_reducible refine (low_any _ _ _ _ (by omega) (by omega) HX.out).mono ?_); rintro e w' ⟨rfl, ⟨nd, rfl⟩⟩)
      | (go_at_call 11; (with_reducible refine (low_any _ _ _ _ (by omega) (by omega) HZ.out).mono ?_); rintro e w' ⟨rfl, ⟨nd, rfl⟩⟩)
      | (go_at_call 23; (with_reducible refine (hint_any _ _ _ _ _ (by omega) (by omega) (by omega) (by omega) (by omega) (by omega) HH.out).mono ?_); rintro e w' ⟨rfl, ⟨nd, rfl⟩⟩)
      | (go_at_call 13; (with_reducible refine (part_any _ _ _ _ _ (by omega) (by omega) (by omega) (by omega) HP.out).mono ?_); rintro e w' ⟨rfl, ⟨nd, rfl⟩⟩)
      | (go_at_call 16; (with_reducible refine (use_any _ _ _ _ _ (by omega) (by omega) (by omega) (by omega) HU.out).mono ?_); rintro e w' ⟨rfl, ⟨nd, rfl⟩⟩)
      | (go_at_call 23; (with_reducible refine (hint_any _ _ _ _ _ (by omega) (by omega) (by omega) (by omega) (by omega) (by omega) HI.out).mono ?_); rintro e w' ⟨rfl, ⟨nd, rfl⟩⟩)
      | (go_at_call 15; (with_reducible refine (awake_any _).mono ?_); rintro e w' ⟨rfl, ⟨nd, rfl⟩⟩))
      all_goals
        go_ret
        exact ⟨rfl, Drawn0.grown (by first | (with_reducible exact Drawn0.drewN _ _) | (with_reducible exact Drawn0.refl _) | exact Drawn0.drewN _ _)⟩
  · obtain ⟨z, hz⟩ : ∃ x, lowS a2 523777 = x := ⟨_, rfl⟩
    have hzb := lowS_bd a2 523777 (by omega)
    rw [hz] at hzb
    obtain ⟨z0, z1⟩ := hzb
    have HZ := Lib.hid hz
    clear hz
    obtain ⟨h, hh⟩ : ∃ r, hintS 261888 (z - 261888) x = r := ⟨_, rfl⟩
    obtain ⟨u, hu⟩ : ∃ r, useS 261888 h x = r := ⟨_, rfl⟩
    obtain ⟨c, d, hp⟩ : ∃ r s, partS 261888 (x + (z - 261888)) = (r, s) := ⟨_, _, rfl⟩
    have pl := hints_plain (g := 261888) (x := x) (z := z - 261888) (by omega) x0 (by omega) (by omega) (by omega)
    rw [hh, hu, hp] at pl
    obtain ⟨q1, hi, q2⟩ := pl
    subst q1
    have h0 : 0 ≤ h := by omega
    have h1 : h ≤ 1 := by omega
    have HG := Lib.hid hg
    clear hg
    have HH := Lib.hid hh
    clear hh
    have HU := Lib.hid hu
    clear hu
    have HP := Lib.hid hp
    clear hp
    have HI := Lib.hid hi
    clear hi
    rcases q2 with rfl | rfl
    all_goals
      go_enter Try.func8, Try.ntmps8
      go_wp2_with (first
      | (go_at_call 10; (with_reducible refine (ofg_any _ _ _  HG.out).mono ?_); rintro e w' ⟨rfl, ⟨nd, rfl⟩⟩)
      | (go_at_call 11; (with_reducible refine (low_any _ _ _ _ (by omega) (by omega) HX.out).mono ?_); rintro e w' ⟨rfl, ⟨nd, rfl⟩⟩)
      | (go_at_call 11; (with_reducible refine (low_any _ _ _ _ (by omega) (by omega) HZ.out).mono ?_); rintro e w' ⟨rfl, ⟨nd, rfl⟩⟩)
      | (go_at_call 23; (with_reducible refine (hint_any _ _ _ _ _ (by omega) (by omega) (by omega) (by omega) (by omega) (by omega) HH.out).mono ?_); rintro e w' ⟨rfl, ⟨nd, rfl⟩⟩)
      | (go_at_call 13; (with_reducible refine (part_any _ _ _ _ _ (by omega) (by omega) (by omega) (by omega) HP.out).mono ?_); rintro e w' ⟨rfl, ⟨nd, rfl⟩⟩)
      | (go_at_call 16; (with_reducible refine (use_any _ _ _ _ _ (by omega) (by omega) (by omega) (by omega) HU.out).mono ?_); rintro e w' ⟨rfl, ⟨nd, rfl⟩⟩)
      | (go_at_call 23; (with_reducible refine (hint_any _ _ _ _ _ (by omega) (by omega) (by omega) (by omega) (by omega) (by omega) HI.out).mono ?_); rintro e w' ⟨rfl, ⟨nd, rfl⟩⟩)
      | (go_at_call 15; (with_reducible refine (awake_any _).mono ?_); rintro e w' ⟨rfl, ⟨nd, rfl⟩⟩))
      all_goals
        go_ret
        exact ⟨rfl, Drawn0.grown (by first | (with_reducible exact Drawn0.drewN _ _) | (with_reducible exact Drawn0.refl _) | exact Drawn0.drewN _ _)⟩

end Go.Proofs.Ytaheabkfgohobaa.T
