/- RoundUses: its plain law and its walk (printed by gen_laws.py). -/
import Derived.Test.YtaheabkfgohobaaFns3
namespace Go.Proofs.Ytaheabkfgohobaa.T
open Go.RowKit
open Go.Proofs.Ytaheabkfgohobaa.S
set_option linter.unusedVariables false
set_option linter.unusedSimpArgs false
theorem use_facts {g x a b : Int} (hg : g = 95232 ∨ g = 261888) (h : partS g x = (a, b)) :
    useS g 0 x = a ∧ useS g 7 x = a ∧ useS g 1 x = (if b > 0 then (a + 1) % (8380416 / (2 * g)) else (a + (8380416 / (2 * g) - 1)) % (8380416 / (2 * g))) ∧ useS (g + 1) 1 x = 0 := by
  have hb : goodS g = true := by unfold goodS; simpa using hg
  have hc : goodS (g + 1) = false := by unfold goodS; simp; omega
  unfold useS
  simp [hb, hc, h]
theorem use_none (x : Int) : useS 95233 1 x = 0 ∧ useS 261889 1 x = 0 := ⟨rfl, rfl⟩
set_option maxHeartbeats 1000000 in
set_option maxRecDepth 20000 in
theorem uses_walk (a0 : Int) (a1 : Int) (w0 : (Lit.int .i64 a0).wf = true) (w1 : (Lit.int .i64 a1).wf = true) (w : World) :
    Calls Try.prog 4 #[.int .i64 a0, .int .i64 a1] w fun e w' => e = .returned (.bool true) ∧ Grown w w' := by
  obtain ⟨g, hg⟩ : ∃ g, ofG a0 = g := ⟨_, rfl⟩
  have hgg := ofG_good a0
  rw [hg] at hgg
  obtain ⟨x, hx⟩ : ∃ x, lowS a1 8380417 = x := ⟨_, rfl⟩
  have hxb := lowS_bd a1 8380417 (by omega)
  rw [hx] at hxb
  obtain ⟨x0, x1⟩ := hxb
  have HX := Lib.hid hx
  clear hx
  obtain ⟨c, d, hp⟩ : ∃ r s, partS g x = (r, s) := ⟨_, _, rfl⟩
  obtain ⟨u0, u1, u2, u3⟩ := use_facts hgg hp
  have hbd := part_bd (by unfold goodS; simpa using hgg) (g := g) (x := x)
  rw [hp] at hbd
  obtain ⟨c0, c1, c2, d0, d1, _⟩ := hbd
  have hf : Hid (∀ b, useS g 1 x = b → g = 95232 → (d > 0 → b = (c + 1) % 44) ∧ (¬ d > 0 → b = (c + 43) % 44)) := fun b e1 e2 => by
    subst e2; rw [u2] at e1; subst e1; constructor <;> (intro hd; simp [hd])
  have hf2 : Hid (∀ b, useS g 1 x = b → g = 261888 → (d > 0 → b = (c + 1) % 16) ∧ (¬ d > 0 → b = (c + 15) % 16)) := fun b e1 e2 => by
    subst e2; rw [u2] at e1; subst e1; constructor <;> (intro hd; simp [hd])
  obtain ⟨v, hv⟩ : ∃ r, useS g 1 x = r := ⟨_, rfl⟩
  by_cases hd : 0 < d
  all_goals
    rcases hgg with rfl | rfl
    all_goals
      have U0 := Lib.hid u0
      clear u0
      have U1 := Lib.hid u1
      clear u1
      have HG := Lib.hid hg
      clear hg
      have HP := Lib.hid hp
      clear hp
      have U3 := Lib.hid (use_none x).1
      have U4 := Lib.hid (use_none x).2
      clear u3
      have hw := fun e => hf.out v hv e
      have hw2 := fun e => hf2.out v hv e
      first
      | (have V := Lib.hid ((hw rfl).1 hd); have V1 : (v == (c + 1) % 44) = true := beq_iff_eq.2 V.out)
      | (have V := Lib.hid ((hw rfl).2 hd); have V1 : (v == (c + 44 - 1) % 44) = true := beq_iff_eq.2 (by have := V.out; omega))
      | (have V := Lib.hid ((hw2 rfl).1 hd); have V1 : (v == (c + 1) % 16) = true := beq_iff_eq.2 V.out)
      | (have V := Lib.hid ((hw2 rfl).2 hd); have V1 : (v == (c + 16 - 1) % 16) = true := beq_iff_eq.2 (by have := V.out; omega))
      have HV := Lib.hid hv
      clear hw hw2 hv hf hf2 u2 V
      go_enter Try.func4, Try.ntmps4
      go_wp2_with (first
      | (go_at_call 10; (with_reducible refine (ofg_any _ _ _  HG.out).mono ?_); rintro e w' ⟨rfl, ⟨nd, rfl⟩⟩)
      | (go_at_call 11; (with_reducible refine (low_any _ _ _ _ (by omega) (by omega) HX.out).mono ?_); rintro e w' ⟨rfl, ⟨nd, rfl⟩⟩)
      | (go_at_call 13; (with_reducible refine (part_any _ _ _ _ _ (by omega) (by omega) (by omega) (by omega) HP.out).mono ?_); rintro e w' ⟨rfl, ⟨nd, rfl⟩⟩)
      | (go_at_call 16; (with_reducible refine (use_any _ _ _ _ _ (by omega) (by omega) (by omega) (by omega) U0.out).mono ?_); rintro e w' ⟨rfl, ⟨nd, rfl⟩⟩)
      | (go_at_call 16; (with_reducible refine (use_any _ _ _ _ _ (by omega) (by omega) (by omega) (by omega) U1.out).mono ?_); rintro e w' ⟨rfl, ⟨nd, rfl⟩⟩)
      | (go_at_call 16; (with_reducible refine (use_any _ _ _ _ _ (by omega) (by omega) (by omega) (by omega) HV.out).mono ?_); rintro e w' ⟨rfl, ⟨nd, rfl⟩⟩)
      | (go_at_call 16; (with_reducible refine (use_any _ _ _ _ _ (by omega) (by omega) (by omega) (by omega) U3.out).mono ?_); rintro e w' ⟨rfl, ⟨nd, rfl⟩⟩)
      | (go_at_call 16; (with_reducible refine (use_any _ _ _ _ _ (by omega) (by omega) (by omega) (by omega) U4.out).mono ?_); rintro e w' ⟨rfl, ⟨nd, rfl⟩⟩)
      | (go_at_call 15; (with_reducible refine (awake_any _).mono ?_); rintro e w' ⟨rfl, ⟨nd, rfl⟩⟩))
      all_goals
        go_ret
        exact ⟨rfl, Drawn0.grown (by first | (with_reducible exact Drawn0.drewN _ _) | (with_reducible exact Drawn0.refl _) | exact Drawn0.drewN _ _)⟩
end Go.Proofs.Ytaheabkfgohobaa.T
