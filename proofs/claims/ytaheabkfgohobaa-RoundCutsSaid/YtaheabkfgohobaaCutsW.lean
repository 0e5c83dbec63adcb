/- RoundCuts: its plain law and its walk (printed by gen_laws.py). -/
import Derived.Test.YtaheabkfgohobaaFns3
namespace Go.Proofs.Ytaheabkfgohobaa.T
open Go.RowKit
open Go.Proofs.Ytaheabkfgohobaa.S
set_option linter.unusedVariables false
set_option linter.unusedSimpArgs false
set_option maxHeartbeats 1000000 in
set_option maxRecDepth 20000 in
theorem cuts_walk (a0 : Int) (a1 : Int) (a2 : Int) (a3 : Int) (w0 : (Lit.int .i64 a0).wf = true) (w1 : (Lit.int .i64 a1).wf = true) (w2 : (Lit.int .i64 a2).wf = true) (w3 : (Lit.int .i64 a3).wf = true) (w : World) :
    Calls Try.prog 7 #[.int .i64 a0, .int .i64 a1, .int .i64 a2, .int .i64 a3] w fun e w' => e = .returned (.bool true) ∧ Grown w w' := by
  obtain ⟨g, hg⟩ : ∃ g, ofG a0 = g := ⟨_, rfl⟩
  have hgg := ofG_good a0
  rw [hg] at hgg
  obtain ⟨x, hx⟩ : ∃ x, lowS a1 8380417 = x := ⟨_, rfl⟩
  have hxb := lowS_bd a1 8380417 (by omega)
  rw [hx] at hxb
  obtain ⟨x0, x1⟩ := hxb
  have HX := Lib.hid hx
  clear hx
  obtain ⟨z, hz⟩ : ∃ x, lowS a2 8380417 = x := ⟨_, rfl⟩
  have hzb := lowS_bd a2 8380417 (by omega)
  rw [hz] at hzb
  obtain ⟨z0, z1⟩ := hzb
  have HZ := Lib.hid hz
  clear hz
  obtain ⟨h, hh⟩ : ∃ x, lowS a3 3 = x := ⟨_, rfl⟩
  have hhb := lowS_bd a3 3 (by omega)
  rw [hh] at hhb
  obtain ⟨h0, h1⟩ := hhb
  have HH := Lib.hid hh
  clear hh
  obtain ⟨c, d, hp⟩ : ∃ r s, partS g x = (r, s) := ⟨_, _, rfl⟩
  obtain ⟨i, hi⟩ : ∃ r, hintS g z x = r := ⟨_, rfl⟩
  obtain ⟨u, hu⟩ : ∃ r, useS g h x = r := ⟨_, rfl⟩
  rcases hgg with rfl | rfl
  all_goals
    have HG := Lib.hid hg
    clear hg
    have HP := Lib.hid hp
    clear hp
    have HI := Lib.hid hi
    clear hi
    have HU := Lib.hid hu
    clear hu
    go_enter Try.func7, Try.ntmps7
    go_wp2_with (first
      | (go_at_call 10; (with_reducible refine (ofg_any _ _ _  HG.out).mono ?_); rintro e w' ⟨rfl, ⟨nd, rfl⟩⟩)
      | (go_at_call 11; (with_reducible refine (low_any _ _ _ _ (by omega) (by omega) HX.out).mono ?_); rintro e w' ⟨rfl, ⟨nd, rfl⟩⟩)
      | (go_at_call 11; (with_reducible refine (low_any _ _ _ _ (by omega) (by omega) HZ.out).mono ?_); rintro e w' ⟨rfl, ⟨nd, rfl⟩⟩)
      | (go_at_call 11; (with_reducible refine (low_any _ _ _ _ (by omega) (by omega) HH.out).mono ?_); rintro e w' ⟨rfl, ⟨nd, rfl⟩⟩)
      | (go_at_call 13; (with_reducible refine (part_any _ _ _ _ _ (by omega) (by omega) (by omega) (by omega) HP.out).mono ?_); rintro e w' ⟨rfl, ⟨nd, rfl⟩⟩)
      | (go_at_call 22; (with_reducible refine (rpart_any _ _ _ _ _ (by omega) (by omega) (by omega) (by omega) HP.out).mono ?_); rintro e w' ⟨rfl, ⟨nd, rfl⟩⟩)
      | (go_at_call 23; (with_reducible refine (hint_any _ _ _ _ _ (by omega) (by omega) (by omega) (by omega) (by omega) (by omega) HI.out).mono ?_); rintro e w' ⟨rfl, ⟨nd, rfl⟩⟩)
      | (go_at_call 24; (with_reducible refine (rhint_any _ _ _ _ _ (by omega) (by omega) (by omega) (by omega) (by omega) (by omega) HI.out).mono ?_); rintro e w' ⟨rfl, ⟨nd, rfl⟩⟩)
      | (go_at_call 16; (with_reducible refine (use_any _ _ _ _ _ (by omega) (by omega) (by omega) (by omega) HU.out).mono ?_); rintro e w' ⟨rfl, ⟨nd, rfl⟩⟩)
      | (go_at_call 25; (with_reducible refine (ruse_any _ _ _ _ _ (by omega) (by omega) (by omega) (by omega) HU.out).mono ?_); rintro e w' ⟨rfl, ⟨nd, rfl⟩⟩)
      | (go_at_call 15; (with_reducible refine (awake_any _).mono ?_); rintro e w' ⟨rfl, ⟨nd, rfl⟩⟩))
    go_ret
    exact ⟨rfl, Drawn0.grown (by first | (with_reducible exact Drawn0.drewN _ _) | (with_reducible exact Drawn0.refl _) | exact Drawn0.drewN _ _)⟩
end Go.Proofs.Ytaheabkfgohobaa.T
