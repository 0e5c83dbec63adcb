/- What the statements' own small functions of chapter 9 answer. -/
import Derived.Test.YtaheabkfgohobaaFns2
namespace Go.Proofs.Ytaheabkfgohobaa.T
open Go.RowKit
open Go.Proofs.Ytaheabkfgohobaa.S
set_option linter.unusedVariables false

theorem wf_bd {a : Int} (h : (Lit.int .i64 a).wf = true) : -9223372036854775808 ≤ a ∧ a ≤ 9223372036854775807 := by
  simp [Lit.wf, IntKind.min, IntKind.max, IntKind.signed, IntKind.bits] at h
  omega

def lowS (x n : Int) : Int := (x % 18446744073709551616) % n
theorem lowS_bd (x n : Int) (h : 0 < n) : 0 ≤ lowS x n ∧ lowS x n < n := ⟨Int.emod_nonneg _ (by omega), Int.emod_lt_of_pos _ h⟩
theorem low_fact (x n : Int) (h1 : 1 ≤ n) (h2 : n ≤ 9223372036854775807) : wrap64 (Int.tmod (IntKind.u64.wrap x) n) = lowS x n ∧ (IntKind.u64.wrap n == 0) = false := by
  have e1 : IntKind.u64.wrap n = n := by simp [IntKind.wrap, IntKind.bits, IntKind.signed]; omega
  have e2 : IntKind.u64.wrap x = x % 18446744073709551616 := by simp [IntKind.wrap, IntKind.bits, IntKind.signed]
  rw [e2, e1]
  have h3 := lowS_bd x n (by omega)
  have h4 : (x % 18446744073709551616).tmod n = lowS x n := by rw [Int.tmod_eq_emod_of_nonneg (by omega)]; rfl
  rw [h4]
  exact ⟨by unfold wrap64; omega, by simp; omega⟩

theorem low_any (x n r : Int) (w : World) (h1 : 1 ≤ n) (h2 : n ≤ 9223372036854775807) (hr : lowS x n = r) :
    Calls Try.prog 11 #[.int .i64 x, .int .i64 n] w fun e w' => e = .returned (.int .i64 r) ∧ Drawn0 w w' := by
  have HR := Lib.hid hr
  have HL := Lib.hid (low_fact x n h1 h2).1
  have h0 := (low_fact x n h1 h2).2
  clear hr
  go_enter Try.func11, Try.ntmps11
  go_wp2
  go_ret
  exact ⟨ret_int (HL.out.trans HR.out), Drawn0.refl _⟩

def ofG (n : Int) : Int := if lowS n 2 = 0 then 95232 else 261888
theorem ofG_good (n : Int) : ofG n = 95232 ∨ ofG n = 261888 := by unfold ofG; split <;> simp
theorem ofg_any (n r : Int) (w : World) (hr : ofG n = r) :
    Calls Try.prog 10 #[.int .i64 n] w fun e w' => e = .returned (.int .i64 r) ∧ Drawn0 w w' := by
  have HR := Lib.hid hr
  clear hr
  obtain ⟨y, hy⟩ : ∃ y, lowS n 2 = y := ⟨_, rfl⟩
  have HX := Lib.hid hy
  by_cases h0 : y = 0
  all_goals
    have H0 := Lib.hid h0
    clear hy h0
    go_enter Try.func10, Try.ntmps10
    go_wp2_with (go_at_call 11; (with_reducible refine (low_any n _ _ _ (by omega) (by omega) HX.out).mono ?_); rintro e w' ⟨rfl, ⟨nd, rfl⟩⟩)
    all_goals
      go_ret
      have hp := HR.out
      unfold ofG at hp
      rw [HX.out] at hp
      have h0 := H0.out
      exact ⟨ret_int (by simp_all), by repeat (first | exact Drawn0.refl _ | apply Drawn0.step)⟩

/-- the statement's own 'near': from 0 on, it takes off a as long as it is beyond the half. -/
theorem lnear_any (a x r : Int) (w : World) (ha : 2 ≤ a) (ha2 : a ≤ 1099511627776) (h0 : 0 ≤ x) (h1 : x ≤ 9223372036854775807) (hr : (if x % a > a / 2 then x % a - a else x % a) = r) :
    Calls Try.prog 21 #[.int .i64 a, .int .i64 x] w fun e w' => e = .returned (.int .i64 r) ∧ Drawn0 w w' := by
  have HR := Lib.hid hr
  clear hr
  have hm0 := Int.emod_nonneg x (show a ≠ 0 by omega)
  have hm1 := Int.emod_lt_of_pos x (show 0 < a by omega)
  go_enter Try.func21, Try.ntmps21
  go_wp2
  go_loop [5] (fun t => ∃ y : Int, t = .int .i64 y ∧ -a ≤ y ∧ y < a ∧ (y = x % a ∨ (y = x % a - a ∧ x % a > a / 2))) (fun t => (intOf t + a).toNat)
  case atStart => exact ⟨_, rfl, by omega, by omega, .inl rfl⟩
  case round =>
    obtain ⟨y, rfl, y0, y1, hy⟩ := hrel
    have HY := Lib.hid hy
    clear hy
    go_wp2
    all_goals
      have hy := HY.out
      have hr := HR.out
      first
      | (go_round
         case rel => exact ⟨_, rfl, by omega, by omega, by omega⟩
         case measure => simp [intOf]; omega)
      | (go_ret
         exact ⟨ret_int (by split at hr <;> omega), by repeat (first | exact Drawn0.refl _ | apply Drawn0.step)⟩)

theorem pow256 : powS 1753 256 = 8380416 := by decide +kernel

theorem awake_any (w : World) : Calls Try.prog 15 #[] w fun e w' => e = .returned (.bool true) ∧ Drawn0 w w' := by
  have s1 := Lib.hid (show splitS 8193 = (1, 1) by decide +kernel)
  have s2 := Lib.hid (show partS 95232 8380416 = (0, -1) by decide +kernel)
  have s3 := Lib.hid (show normS (-3) = 3 by decide +kernel)
  have s4 := Lib.hid (show useS 95232 1 1 = 1 by decide +kernel)
  have s5 := Lib.hid pow256
  go_enter Try.func15, Try.ntmps15
  go_wp2_with (first
    | (go_at_call 12; (with_reducible refine (split_any _ _ _ _ (by omega) (by omega) s1.out).mono ?_); rintro e w' ⟨rfl, ⟨nd, rfl⟩⟩)
    | (go_at_call 13; (with_reducible refine (part_any _ _ _ _ _ (by omega) (by omega) (by omega) (by omega) s2.out).mono ?_); rintro e w' ⟨rfl, ⟨nd, rfl⟩⟩)
    | (go_at_call 17; (with_reducible refine (norm_any _ _ _ (by omega) (by omega) s3.out).mono ?_); rintro e w' ⟨rfl, ⟨nd, rfl⟩⟩)
    | (go_at_call 16; (with_reducible refine (use_any _ _ _ _ _ (by omega) (by omega) (by omega) (by omega) s4.out).mono ?_); rintro e w' ⟨rfl, ⟨nd, rfl⟩⟩)
    | (go_at_call 19; (with_reducible refine (pow_any _ _ _ _ (by omega) (by omega) (by omega) (by omega) s5.out).mono ?_); rintro e w' ⟨rfl, ⟨nd, rfl⟩⟩))
  go_ret
  exact ⟨rfl, by repeat (first | exact Drawn0.refl _ | apply Drawn0.step)⟩
end Go.Proofs.Ytaheabkfgohobaa.T
