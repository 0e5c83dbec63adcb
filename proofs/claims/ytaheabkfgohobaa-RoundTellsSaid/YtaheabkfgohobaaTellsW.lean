/- RoundTells: its plain law and its walk (printed by gen_laws.py). -/
import Derived.Test.YtaheabkfgohobaaFns3
namespace Go.Proofs.Ytaheabkfgohobaa.T
open Go.RowKit
open Go.Proofs.Ytaheabkfgohobaa.S
set_option linter.unusedVariables false
set_option linter.unusedSimpArgs false
set_option maxHeartbeats 1000000 in
set_option maxRecDepth 20000 in
theorem tells_walk (a0 : Int) (a1 : Int) (a2 : Int) (a3 : Int) (w0 : (Lit.int .i64 a0).wf = true) (w1 : (Lit.int .i64 a1).wf = true) (w2 : (Lit.int .i64 a2).wf = true) (w3 : (Lit.int .i64 a3).wf = true) (w : World) :
    Calls Try.prog 9 #[.int .i64 a0, .int .i64 a1, .int .i64 a2, .int .i64 a3] w fun e w' => e = .returned (.bool true) ∧ Grown w w' := by
  obtain ⟨b0, b1⟩ := wf_bd w0
  obtain ⟨b2, b3⟩ := wf_bd w1
  obtain ⟨b4, b5⟩ := wf_bd w2
  clear w0 w1 w2 w3
  obtain ⟨p, q, hs⟩ : ∃ r s, splitS a1 = (r, s) := ⟨_, _, rfl⟩
  obtain ⟨c, d, hp⟩ : ∃ r s, partS a0 a1 = (r, s) := ⟨_, _, rfl⟩
  obtain ⟨i, hi⟩ : ∃ r, hintS a0 a2 a1 = r := ⟨_, rfl⟩
  obtain ⟨u, hu⟩ : ∃ r, useS a0 a3 a1 = r := ⟨_, rfl⟩
  obtain ⟨o, ho⟩ : ∃ r, a1 % 8380417 = r := ⟨_, rfl⟩
  obtain ⟨m, hm⟩ : ∃ r, mulS a1 a2 = r := ⟨_, rfl⟩
  obtain ⟨k, hk⟩ : ∃ r, powS a1 a2 = r := ⟨_, rfl⟩
  obtain ⟨n, hn⟩ : ∃ r, nearS a0 a1 = r := ⟨_, rfl⟩
  obtain ⟨r, hr⟩ : ∃ r, normS a1 = r := ⟨_, rfl⟩
  have HS := Lib.hid hs
  clear hs
  have HP := Lib.hid hp
  clear hp
  have HI := Lib.hid hi
  clear hi
  have HU := Lib.hid hu
  clear hu
  have HO := Lib.hid ho
  clear ho
  have HM := Lib.hid hm
  clear hm
  have HK := Lib.hid hk
  clear hk
  have HN := Lib.hid hn
  clear hn
  have HR := Lib.hid hr
  clear hr
  go_enter Try.func9, Try.ntmps9
  go_wp2_with (first
      | (go_at_call 12; (with_reducible refine (split_any _ _ _ _ (by omega) (by omega) HS.out).mono ?_); rintro e w' ⟨rfl, ⟨nd, rfl⟩⟩)
      | (go_at_call 26; (with_reducible refine (rsplit_any _ _ _ _ (by omega) (by omega) HS.out).mono ?_); rintro e w' ⟨rfl, ⟨nd, rfl⟩⟩)
      | (go_at_call 13; (with_reducible refine (part_any _ _ _ _ _ (by omega) (by omega) (by omega) (by omega) HP.out).mono ?_); rintro e w' ⟨rfl, ⟨nd, rfl⟩⟩)
      | (go_at_call 22; (with_reducible refine (rpart_any _ _ _ _ _ (by omega) (by omega) (by omega) (by omega) HP.out).mono ?_); rintro e w' ⟨rfl, ⟨nd, rfl⟩⟩)
      | (go_at_call 14; (with_reducible refine (of_any _ _ _ (by omega) (by omega) HO.out).mono ?_); rintro e w' ⟨rfl, ⟨nd, rfl⟩⟩)
      | (go_at_call 27; (with_reducible refine (rof_any _ _ _ (by omega) (by omega) HO.out).mono ?_); rintro e w' ⟨rfl, ⟨nd, rfl⟩⟩)
      | (go_at_call 18; (with_reducible refine (mul_any _ _ _ _ (by omega) (by omega) (by omega) (by omega) HM.out).mono ?_); rintro e w' ⟨rfl, ⟨nd, rfl⟩⟩)
      | (go_at_call 28; (with_reducible refine (rmul_any _ _ _ _ (by omega) (by omega) (by omega) (by omega) HM.out).mono ?_); rintro e w' ⟨rfl, ⟨nd, rfl⟩⟩)
      | (go_at_call 19; (with_reducible refine (pow_any _ _ _ _ (by omega) (by omega) (by omega) (by omega) HK.out).mono ?_); rintro e w' ⟨rfl, ⟨nd, rfl⟩⟩)
      | (go_at_call 29; (with_reducible refine (rpow_any _ _ _ _ (by omega) (by omega) (by omega) (by omega) HK.out).mono ?_); rintro e w' ⟨rfl, ⟨nd, rfl⟩⟩)
      | (go_at_call 20; (with_reducible refine (near_any _ _ _ _ (by omega) (by omega) (by omega) (by omega) HN.out).mono ?_); rintro e w' ⟨rfl, ⟨nd, rfl⟩⟩)
      | (go_at_call 30; (with_reducible refine (rnear_any _ _ _ _ (by omega) (by omega) (by omega) (by omega) HN.out).mono ?_); rintro e w' ⟨rfl, ⟨nd, rfl⟩⟩)
      | (go_at_call 17; (with_reducible refine (norm_any _ _ _ (by omega) (by omega) HR.out).mono ?_); rintro e w' ⟨rfl, ⟨nd, rfl⟩⟩)
      | (go_at_call 31; (with_reducible refine (rnorm_any _ _ _ (by omega) (by omega) HR.out).mono ?_); rintro e w' ⟨rfl, ⟨nd, rfl⟩⟩)
      | (go_at_call 23; (with_reducible refine (hint_any _ _ _ _ _ (by omega) (by omega) (by omega) (by omega) (by omega) (by omega) HI.out).mono ?_); rintro e w' ⟨rfl, ⟨nd, rfl⟩⟩)
      | (go_at_call 24; (with_reducible refine (rhint_any _ _ _ _ _ (by omega) (by omega) (by omega) (by omega) (by omega) (by omega) HI.out).mono ?_); rintro e w' ⟨rfl, ⟨nd, rfl⟩⟩)
      | (go_at_call 16; (with_reducible refine (use_any _ _ _ _ _ (by omega) (by omega) (by omega) (by omega) HU.out).mono ?_); rintro e w' ⟨rfl, ⟨nd, rfl⟩⟩)
      | (go_at_call 25; (with_reducible refine (ruse_any _ _ _ _ _ (by omega) (by omega) (by omega) (by omega) HU.out).mono ?_); rintro e w' ⟨rfl, ⟨nd, rfl⟩⟩)
      | (go_at_call 15; (with_reducible refine (awake_any _).mono ?_); rintro e w' ⟨rfl, ⟨nd, rfl⟩⟩))
  all_goals
    go_ret
    exact ⟨rfl, Drawn0.grown (by first | (with_reducible exact Drawn0.drewN _ _) | (with_reducible exact Drawn0.refl _) | exact Drawn0.drewN _ _)⟩
end Go.Proofs.Ytaheabkfgohobaa.T
