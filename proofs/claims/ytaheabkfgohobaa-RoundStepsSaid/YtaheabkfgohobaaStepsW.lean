/- RoundSteps: its plain law and its walk (printed by gen_laws.py). -/
import Derived.Test.YtaheabkfgohobaaFns3
import Derived.Test.YtaheabkfgohobaaPlain
namespace Go.Proofs.Ytaheabkfgohobaa.T
open Go.RowKit
open Go.Proofs.Ytaheabkfgohobaa.S
set_option linter.unusedVariables false
set_option linter.unusedSimpArgs false
set_option maxHeartbeats 4000000 in
set_option maxRecDepth 20000 in
theorem steps_at95232 (a0 a1 a2 a3 : Int) (w : World) (hg : ofG a0 = 95232) :
    Calls Try.prog 5 #[.int .i64 a0, .int .i64 a1, .int .i64 a2, .int .i64 a3] w fun e w' => e = .returned (.bool true) ∧ Grown w w' := by
  have HG := Lib.hid hg
  clear hg
  obtain ⟨x, hx⟩ : ∃ x, lowS a1 8380417 = x := ⟨_, rfl⟩
  have hxb := lowS_bd a1 8380417 (by omega)
  rw [hx] at hxb
  obtain ⟨x0, x1⟩ := hxb
  have HX := Lib.hid hx
  clear hx
  obtain ⟨y, hy⟩ : ∃ x, lowS a3 8380417 = x := ⟨_, rfl⟩
  have hyb := lowS_bd a3 8380417 (by omega)
  rw [hy] at hyb
  obtain ⟨y0, y1⟩ := hyb
  have HY := Lib.hid hy
  clear hy
  obtain ⟨n, hn⟩ : ∃ x, lowS a2 1024 = x := ⟨_, rfl⟩
  have hnb := lowS_bd a2 1024 (by omega)
  rw [hn] at hnb
  obtain ⟨n0, n1⟩ := hnb
  have HN := Lib.hid hn
  clear hn
  obtain ⟨k, hk⟩ : ∃ x, lowS n 44 = x := ⟨_, rfl⟩
  have hkb := lowS_bd n 44 (by omega)
  rw [hk] at hkb
  obtain ⟨k0, k1⟩ := hkb
  have HK := Lib.hid hk
  clear hk
  obtain ⟨a, b, hs⟩ : ∃ r s, splitS x = (r, s) := ⟨_, _, rfl⟩
  obtain ⟨h, l, hp⟩ : ∃ r s, partS 95232 x = (r, s) := ⟨_, _, rfl⟩
  obtain ⟨i, j, hq⟩ : ∃ r s, partS 95232 y = (r, s) := ⟨_, _, rfl⟩
  have hs2 : Hid (x + 8192 * n < 8380417 → splitS (x + 8192 * n) = (a + n, b)) := fun hc => by
    obtain ⟨c, d, h'⟩ : ∃ c d, splitS (x + 8192 * n) = (c, d) := ⟨_, _, rfl⟩
    have := split_step x0 (by omega) n0 hc hs h'
    rw [h', this.1, this.2]
  have hp2 : Hid (x + 190464 * k < 8380416 - 95232 → partS 95232 (x + 190464 * k) = (h + k, l)) := fun hc => by
    obtain ⟨c, d, h'⟩ : ∃ c d, partS 95232 (x + 190464 * k) = (c, d) := ⟨_, _, rfl⟩
    have := part_step (g := 95232) (by omega) x0 (by omega) k0 hc hp h'
    rw [h', this.1, this.2]
  have hin : Hid (x ≠ y → h = i → l ≠ j) := fun hne e1 e2 => hne (part_inj (g := 95232) (by omega) x0 (by omega) y0 (by omega) hp hq e1 e2)
  have hbs := split_char x0 (by omega) hs
  have hbp := part_char (g := 95232) (by omega) x0 (by omega) hp
  have s0 : -4096 < b := by omega
  have s1 : b ≤ 4096 := by omega
  have s2 : 0 ≤ a := by omega
  have s3 : a ≤ 1023 := by omega
  have p0 : 0 ≤ h := by omega
  have p1 : h ≤ 43 := by omega
  clear hbs hbp
  have HS := Lib.hid hs
  have HP := Lib.hid hp
  have HQ := Lib.hid hq
  have HEQ : Hid (x = y → (i, j) = (h, l)) := fun e => by rw [← hp, ← hq, e]
  clear hs hp hq
  by_cases hc1 : x + 8192 * n < 8380417 <;> by_cases hc2 : x + 190464 * k < 8380416 - 95232
  all_goals
    try have HS2 := Lib.hid (hs2.out hc1)
    try have HP2 := Lib.hid (hp2.out hc2)
    clear hs2 hp2
    by_cases hxy : x = y
    · have he := HEQ.out hxy
      obtain ⟨rfl, rfl⟩ := Prod.mk.inj he
      have XY : (x == y) = true := beq_iff_eq.2 hxy
      clear he hxy HEQ hin
      go_enter Try.func5, Try.ntmps5
      go_wp2_with (first
      | (go_at_call 10; (with_reducible refine (ofg_any _ _ _  HG.out).mono ?_); rintro e w' ⟨rfl, ⟨nd, rfl⟩⟩)
      | (go_at_call 11; (with_reducible refine (low_any _ _ _ _ (by omega) (by omega) HX.out).mono ?_); rintro e w' ⟨rfl, ⟨nd, rfl⟩⟩)
      | (go_at_call 11; (with_reducible refine (low_any _ _ _ _ (by omega) (by omega) HY.out).mono ?_); rintro e w' ⟨rfl, ⟨nd, rfl⟩⟩)
      | (go_at_call 11; (with_reducible refine (low_any _ _ _ _ (by omega) (by omega) HN.out).mono ?_); rintro e w' ⟨rfl, ⟨nd, rfl⟩⟩)
      | (go_at_call 11; (with_reducible refine (low_any _ _ _ _ (by omega) (by omega) HK.out).mono ?_); rintro e w' ⟨rfl, ⟨nd, rfl⟩⟩)
      | (go_at_call 12; (with_reducible refine (split_any _ _ _ _ (by omega) (by omega) HS.out).mono ?_); rintro e w' ⟨rfl, ⟨nd, rfl⟩⟩)
      | (go_at_call 12; (with_reducible refine (split_any _ _ _ _ (by omega) (by omega) HS2.out).mono ?_); rintro e w' ⟨rfl, ⟨nd, rfl⟩⟩)
      | (go_at_call 13; (with_reducible refine (part_any _ _ _ _ _ (by omega) (by omega) (by omega) (by omega) HP.out).mono ?_); rintro e w' ⟨rfl, ⟨nd, rfl⟩⟩)
      | (go_at_call 13; (with_reducible refine (part_any _ _ _ _ _ (by omega) (by omega) (by omega) (by omega) HP2.out).mono ?_); rintro e w' ⟨rfl, ⟨nd, rfl⟩⟩)
      | (go_at_call 13; (with_reducible refine (part_any _ _ _ _ _ (by omega) (by omega) (by omega) (by omega) HQ.out).mono ?_); rintro e w' ⟨rfl, ⟨nd, rfl⟩⟩)
      | (go_at_call 15; (with_reducible refine (awake_any _).mono ?_); rintro e w' ⟨rfl, ⟨nd, rfl⟩⟩))
      all_goals
        go_ret
        exact ⟨rfl, Drawn0.grown (by first | (with_reducible exact Drawn0.drewN _ _) | (with_reducible exact Drawn0.refl _) | exact Drawn0.drewN _ _)⟩
    · by_cases hhi : h = i
      · have hlj := hin.out hxy hhi
        have XY : (x == y) = false := beq_eq_false_iff_ne.2 hxy
        have HI : (h == i) = true := beq_iff_eq.2 hhi
        have LJ : (l == j) = false := beq_eq_false_iff_ne.2 hlj
        clear HEQ hin hxy hhi hlj
        go_enter Try.func5, Try.ntmps5
        go_wp2_with (first
      | (go_at_call 10; (with_reducible refine (ofg_any _ _ _  HG.out).mono ?_); rintro e w' ⟨rfl, ⟨nd, rfl⟩⟩)
      | (go_at_call 11; (with_reducible refine (low_any _ _ _ _ (by omega) (by omega) HX.out).mono ?_); rintro e w' ⟨rfl, ⟨nd, rfl⟩⟩)
      | (go_at_call 11; (with_reducible refine (low_any _ _ _ _ (by omega) (by omega) HY.out).mono ?_); rintro e w' ⟨rfl, ⟨nd, rfl⟩⟩)
      | (go_at_call 11; (with_reducible refine (low_any _ _ _ _ (by omega) (by omega) HN.out).mono ?_); rintro e w' ⟨rfl, ⟨nd, rfl⟩⟩)
      | (go_at_call 11; (with_reducible refine (low_any _ _ _ _ (by omega) (by omega) HK.out).mono ?_); rintro e w' ⟨rfl, ⟨nd, rfl⟩⟩)
      | (go_at_call 12; (with_reducible refine (split_any _ _ _ _ (by omega) (by omega) HS.out).mono ?_); rintro e w' ⟨rfl, ⟨nd, rfl⟩⟩)
      | (go_at_call 12; (with_reducible refine (split_any _ _ _ _ (by omega) (by omega) HS2.out).mono ?_); rintro e w' ⟨rfl, ⟨nd, rfl⟩⟩)
      | (go_at_call 13; (with_reducible refine (part_any _ _ _ _ _ (by omega) (by omega) (by omega) (by omega) HP.out).mono ?_); rintro e w' ⟨rfl, ⟨nd, rfl⟩⟩)
      | (go_at_call 13; (with_reducible refine (part_any _ _ _ _ _ (by omega) (by omega) (by omega) (by omega) HP2.out).mono ?_); rintro e w' ⟨rfl, ⟨nd, rfl⟩⟩)
      | (go_at_call 13; (with_reducible refine (part_any _ _ _ _ _ (by omega) (by omega) (by omega) (by omega) HQ.out).mono ?_); rintro e w' ⟨rfl, ⟨nd, rfl⟩⟩)
      | (go_at_call 15; (with_reducible refine (awake_any _).mono ?_); rintro e w' ⟨rfl, ⟨nd, rfl⟩⟩))
        all_goals
          go_ret
          exact ⟨rfl, Drawn0.grown (by first | (with_reducible exact Drawn0.drewN _ _) | (with_reducible exact Drawn0.refl _) | exact Drawn0.drewN _ _)⟩
      · have XY : (x == y) = false := beq_eq_false_iff_ne.2 hxy
        have HI : (h == i) = false := beq_eq_false_iff_ne.2 hhi
        clear HEQ hin hxy hhi
        go_enter Try.func5, Try.ntmps5
        go_wp2_with (first
      | (go_at_call 10; (with_reducible refine (ofg_any _ _ _  HG.out).mono ?_); rintro e w' ⟨rfl, ⟨nd, rfl⟩⟩)
      | (go_at_call 11; (with_reducible refine (low_any _ _ _ _ (by omega) (by omega) HX.out).mono ?_); rintro e w' ⟨rfl, ⟨nd, rfl⟩⟩)
      | (go_at_call 11; (with_reducible refine (low_any _ _ _ _ (by omega) (by omega) HY.out).mono ?_); rintro e w' ⟨rfl, ⟨nd, rfl⟩⟩)
      | (go_at_call 11; (with_reducible refine (low_any _ _ _ _ (by omega) (by omega) HN.out).mono ?_); rintro e w' ⟨rfl, ⟨nd, rfl⟩⟩)
      | (go_at_call 11; (with_reducible refine (low_any _ _ _ _ (by omega) (by omega) HK.out).mono ?_); rintro e w' ⟨rfl, ⟨nd, rfl⟩⟩)
      | (go_at_call 12; (with_reducible refine (split_any _ _ _ _ (by omega) (by omega) HS.out).mono ?_); rintro e w' ⟨rfl, ⟨nd, rfl⟩⟩)
      | (go_at_call 12; (with_reducible refine (split_any _ _ _ _ (by omega) (by omega) HS2.out).mono ?_); rintro e w' ⟨rfl, ⟨nd, rfl⟩⟩)
      | (go_at_call 13; (with_reducible refine (part_any _ _ _ _ _ (by omega) (by omega) (by omega) (by omega) HP.out).mono ?_); rintro e w' ⟨rfl, ⟨nd, rfl⟩⟩)
      | (go_at_call 13; (with_reducible refine (part_any _ _ _ _ _ (by omega) (by omega) (by omega) (by omega) HP2.out).mono ?_); rintro e w' ⟨rfl, ⟨nd, rfl⟩⟩)
      | (go_at_call 13; (with_reducible refine (part_any _ _ _ _ _ (by omega) (by omega) (by omega) (by omega) HQ.out).mono ?_); rintro e w' ⟨rfl, ⟨nd, rfl⟩⟩)
      | (go_at_call 15; (with_reducible refine (awake_any _).mono ?_); rintro e w' ⟨rfl, ⟨nd, rfl⟩⟩))
        all_goals
          go_ret
          exact ⟨rfl, Drawn0.grown (by first | (with_reducible exact Drawn0.drewN _ _) | (with_reducible exact Drawn0.refl _) | exact Drawn0.drewN _ _)⟩
set_option maxHeartbeats 4000000 in
set_option maxRecDepth 20000 in
theorem steps_at261888 (a0 a1 a2 a3 : Int) (w : World) (hg : ofG a0 = 261888) :
    Calls Try.prog 5 #[.int .i64 a0, .int .i64 a1, .int .i64 a2, .int .i64 a3] w fun e w' => e = .returned (.bool true) ∧ Grown w w' := by
  have HG := Lib.hid hg
  clear hg
  obtain ⟨x, hx⟩ : ∃ x, lowS a1 8380417 = x := ⟨_, rfl⟩
  have hxb := lowS_bd a1 8380417 (by omega)
  rw [hx] at hxb
  obtain ⟨x0, x1⟩ := hxb
  have HX := Lib.hid hx
  clear hx
  obtain ⟨y, hy⟩ : ∃ x, lowS a3 8380417 = x := ⟨_, rfl⟩
  have hyb := lowS_bd a3 8380417 (by omega)
  rw [hy] at hyb
  obtain ⟨y0, y1⟩ := hyb
  have HY := Lib.hid hy
  clear hy
  obtain ⟨n, hn⟩ : ∃ x, lowS a2 1024 = x := ⟨_, rfl⟩
  have hnb := lowS_bd a2 1024 (by omega)
  rw [hn] at hnb
  obtain ⟨n0, n1⟩ := hnb
  have HN := Lib.hid hn
  clear hn
  obtain ⟨k, hk⟩ : ∃ x, lowS n 16 = x := ⟨_, rfl⟩
  have hkb := lowS_bd n 16 (by omega)
  rw [hk] at hkb
  obtain ⟨k0, k1⟩ := hkb
  have HK := Lib.hid hk
  clear hk
  obtain ⟨a, b, hs⟩ : ∃ r s, splitS x = (r, s) := ⟨_, _, rfl⟩
  obtain ⟨h, l, hp⟩ : ∃ r s, partS 261888 x = (r, s) := ⟨_, _, rfl⟩
  obtain ⟨i, j, hq⟩ : ∃ r s, partS 261888 y = (r, s) := ⟨_, _, rfl⟩
  have hs2 : Hid (x + 8192 * n < 8380417 → splitS (x + 8192 * n) = (a + n, b)) := fun hc => by
    obtain ⟨c, d, h'⟩ : ∃ c d, splitS (x + 8192 * n) = (c, d) := ⟨_, _, rfl⟩
    have := split_step x0 (by omega) n0 hc hs h'
    rw [h', this.1, this.2]
  have hp2 : Hid (x + 523776 * k < 8380416 - 261888 → partS 261888 (x + 523776 * k) = (h + k, l)) := fun hc => by
    obtain ⟨c, d, h'⟩ : ∃ c d, partS 261888 (x + 523776 * k) = (c, d) := ⟨_, _, rfl⟩
    have := part_step (g := 261888) (by omega) x0 (by omega) k0 hc hp h'
    rw [h', this.1, this.2]
  have hin : Hid (x ≠ y → h = i → l ≠ j) := fun hne e1 e2 => hne (part_inj (g := 261888) (by omega) x0 (by omega) y0 (by omega) hp hq e1 e2)
  have hbs := split_char x0 (by omega) hs
  have hbp := part_char (g := 261888) (by omega) x0 (by omega) hp
  have s0 : -4096 < b := by omega
  have s1 : b ≤ 4096 := by omega
  have s2 : 0 ≤ a := by omega
  have s3 : a ≤ 1023 := by omega
  have p0 : 0 ≤ h := by omega
  have p1 : h ≤ 43 := by omega
  clear hbs hbp
  have HS := Lib.hid hs
  have HP := Lib.hid hp
  have HQ := Lib.hid hq
  have HEQ : Hid (x = y → (i, j) = (h, l)) := fun e => by rw [← hp, ← hq, e]
  clear hs hp hq
  by_cases hc1 : x + 8192 * n < 8380417 <;> by_cases hc2 : x + 523776 * k < 8380416 - 261888
  all_goals
    try have HS2 := Lib.hid (hs2.out hc1)
    try have HP2 := Lib.hid (hp2.out hc2)
    clear hs2 hp2
    by_cases hxy : x = y
    · have he := HEQ.out hxy
      obtain ⟨rfl, rfl⟩ := Prod.mk.inj he
      have XY : (x == y) = true := beq_iff_eq.2 hxy
      clear he hxy HEQ hin
      go_enter Try.func5, Try.ntmps5
      go_wp2_with (first
      | (go_at_call 10; (with_reducible refine (ofg_any _ _ _  HG.out).mono ?_); rintro e w' ⟨rfl, ⟨nd, rfl⟩⟩)
      | (go_at_call 11; (with_reducible refine (low_any _ _ _ _ (by omega) (by omega) HX.out).mono ?_); rintro e w' ⟨rfl, ⟨nd, rfl⟩⟩)
      | (go_at_call 11; (with_reducible refine (low_any _ _ _ _ (by omega) (by omega) HY.out).mono ?_); rintro e w' ⟨rfl, ⟨nd, rfl⟩⟩)
      | (go_at_call 11; (with_reducible refine (low_any _ _ _ _ (by omega) (by omega) HN.out).mono ?_); rintro e w' ⟨rfl, ⟨nd, rfl⟩⟩)
      | (go_at_call 11; (with_reducible refine (low_any _ _ _ _ (by omega) (by omega) HK.out).mono ?_); rintro e w' ⟨rfl, ⟨nd, rfl⟩⟩)
      | (go_at_call 12; (with_reducible refine (split_any _ _ _ _ (by omega) (by omega) HS.out).mono ?_); rintro e w' ⟨rfl, ⟨nd, rfl⟩⟩)
      | (go_at_call 12; (with_reducible refine (split_any _ _ _ _ (by omega) (by omega) HS2.out).mono ?_); rintro e w' ⟨rfl, ⟨nd, rfl⟩⟩)
      | (go_at_call 13; (with_reducible refine (part_any _ _ _ _ _ (by omega) (by omega) (by omega) (by omega) HP.out).mono ?_); rintro e w' ⟨rfl, ⟨nd, rfl⟩⟩)
      | (go_at_call 13; (with_reducible refine (part_any _ _ _ _ _ (by omega) (by omega) (by omega) (by omega) HP2.out).mono ?_); rintro e w' ⟨rfl, ⟨nd, rfl⟩⟩)
      | (go_at_call 13; (with_reducible refine (part_any _ _ _ _ _ (by omega) (by omega) (by omega) (by omega) HQ.out).mono ?_); rintro e w' ⟨rfl, ⟨nd, rfl⟩⟩)
      | (go_at_call 15; (with_reducible refine (awake_any _).mono ?_); rintro e w' ⟨rfl, ⟨nd, rfl⟩⟩))
      all_goals
        go_ret
        exact ⟨rfl, Drawn0.grown (by first | (with_reducible exact Drawn0.drewN _ _) | (with_reducible exact Drawn0.refl _) | exact Drawn0.drewN _ _)⟩
    · by_cases hhi : h = i
      · have hlj := hin.out hxy hhi
        have XY : (x == y) = false := beq_eq_false_iff_ne.2 hxy
        have HI : (h == i) = true := beq_iff_eq.2 hhi
        have LJ : (l == j) = false := beq_eq_false_iff_ne.2 hlj
        clear HEQ hin hxy hhi hlj
        go_enter Try.func5, Try.ntmps5
        go_wp2_with (first
      | (go_at_call 10; (with_reducible refine (ofg_any _ _ _  HG.out).mono ?_); rintro e w' ⟨rfl, ⟨nd, rfl⟩⟩)
      | (go_at_call 11; (with_reducible refine (low_any _ _ _ _ (by omega) (by omega) HX.out).mono ?_); rintro e w' ⟨rfl, ⟨nd, rfl⟩⟩)
      | (go_at_call 11; (with_reducible refine (low_any _ _ _ _ (by omega) (by omega) HY.out).mono ?_); rintro e w' ⟨rfl, ⟨nd, rfl⟩⟩)
      | (go_at_call 11; (with_reducible refine (low_any _ _ _ _ (by omega) (by omega) HN.out).mono ?_); rintro e w' ⟨rfl, ⟨nd, rfl⟩⟩)
      | (go_at_call 11; (with_reducible refine (low_any _ _ _ _ (by omega) (by omega) HK.out).mono ?_); rintro e w' ⟨rfl, ⟨nd, rfl⟩⟩)
      | (go_at_call 12; (with_reducible refine (split_any _ _ _ _ (by omega) (by omega) HS.out).mono ?_); rintro e w' ⟨rfl, ⟨nd, rfl⟩⟩)
      | (go_at_call 12; (with_reducible refine (split_any _ _ _ _ (by omega) (by omega) HS2.out).mono ?_); rintro e w' ⟨rfl, ⟨nd, rfl⟩⟩)
      | (go_at_call 13; (with_reducible refine (part_any _ _ _ _ _ (by omega) (by omega) (by omega) (by omega) HP.out).mono ?_); rintro e w' ⟨rfl, ⟨nd, rfl⟩⟩)
      | (go_at_call 13; (with_reducible refine (part_any _ _ _ _ _ (by omega) (by omega) (by omega) (by omega) HP2.out).mono ?_); rintro e w' ⟨rfl, ⟨nd, rfl⟩⟩)
      | (go_at_call 13; (with_reducible refine (part_any _ _ _ _ _ (by omega) (by omega) (by omega) (by omega) HQ.out).mono ?_); rintro e w' ⟨rfl, ⟨nd, rfl⟩⟩)
      | (go_at_call 15; (with_reducible refine (awake_any _).mono ?_); rintro e w' ⟨rfl, ⟨nd, rfl⟩⟩))
        all_goals
          go_ret
          exact ⟨rfl, Drawn0.grown (by first | (with_reducible exact Drawn0.drewN _ _) | (with_reducible exact Drawn0.refl _) | exact Drawn0.drewN _ _)⟩
      · have XY : (x == y) = false := beq_eq_false_iff_ne.2 hxy
        have HI : (h == i) = false := beq_eq_false_iff_ne.2 hhi
        clear HEQ hin hxy hhi
        go_enter Try.func5, Try.ntmps5
        go_wp2_with (first
      | (go_at_call 10; (with_reducible refine (ofg_any _ _ _  HG.out).mono ?_); rintro e w' ⟨rfl, ⟨nd, rfl⟩⟩)
      | (go_at_call 11; (with_reducible refine (low_any _ _ _ _ (by omega) (by omega) HX.out).mono ?_); rintro e w' ⟨rfl, ⟨nd, rfl⟩⟩)
      | (go_at_call 11; (with_reducible refine (low_any _ _ _ _ (by omega) (by omega) HY.out).mono ?_); rintro e w' ⟨rfl, ⟨nd, rfl⟩⟩)
      | (go_at_call 11; (with_reducible refine (low_any _ _ _ _ (by omega) (by omega) HN.out).mono ?_); rintro e w' ⟨rfl, ⟨nd, rfl⟩⟩)
      | (go_at_call 11; (with_reducible refine (low_any _ _ _ _ (by omega) (by omega) HK.out).mono ?_); rintro e w' ⟨rfl, ⟨nd, rfl⟩⟩)
      | (go_at_call 12; (with_reducible refine (split_any _ _ _ _ (by omega) (by omega) HS.out).mono ?_); rintro e w' ⟨rfl, ⟨nd, rfl⟩⟩)
      | (go_at_call 12; (with_reducible refine (split_any _ _ _ _ (by omega) (by omega) HS2.out).mono ?_); rintro e w' ⟨rfl, ⟨nd, rfl⟩⟩)
      | (go_at_call 13; (with_reducible refine (part_any _ _ _ _ _ (by omega) (by omega) (by omega) (by omega) HP.out).mono ?_); rintro e w' ⟨rfl, ⟨nd, rfl⟩⟩)
      | (go_at_call 13; (with_reducible refine (part_any _ _ _ _ _ (by omega) (by omega) (by omega) (by omega) HP2.out).mono ?_); rintro e w' ⟨rfl, ⟨nd, rfl⟩⟩)
      | (go_at_call 13; (with_reducible refine (part_any _ _ _ _ _ (by omega) (by omega) (by omega) (by omega) HQ.out).mono ?_); rintro e w' ⟨rfl, ⟨nd, rfl⟩⟩)
      | (go_at_call 15; (with_reducible refine (awake_any _).mono ?_); rintro e w' ⟨rfl, ⟨nd, rfl⟩⟩))
        all_goals
          go_ret
          exact ⟨rfl, Drawn0.grown (by first | (with_reducible exact Drawn0.drewN _ _) | (with_reducible exact Drawn0.refl _) | exact Drawn0.drewN _ _)⟩
set_option maxHeartbeats 1000000 in
set_option maxRecDepth 20000 in
theorem steps_walk (a0 : Int) (a1 : Int) (a2 : Int) (a3 : Int) (w0 : (Lit.int .i64 a0).wf = true) (w1 : (Lit.int .i64 a1).wf = true) (w2 : (Lit.int .i64 a2).wf = true) (w3 : (Lit.int .i64 a3).wf = true) (w : World) :
    Calls Try.prog 5 #[.int .i64 a0, .int .i64 a1, .int .i64 a2, .int .i64 a3] w fun e w' => e = .returned (.bool true) ∧ Grown w w' := by
  rcases ofG_good a0 with h | h
  · exact steps_at95232 a0 a1 a2 a3 w h
  · exact steps_at261888 a0 a1 a2 a3 w h

end Go.Proofs.Ytaheabkfgohobaa.T
