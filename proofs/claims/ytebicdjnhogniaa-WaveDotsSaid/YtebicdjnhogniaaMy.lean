/- May, the closures, each, Add, Sub, Times: their walks. -/
import Derived.Test.YtebicdjnhogniaaBs
namespace Go.Proofs.Ytebicdjnhogniaa.T
open Go.RowKit Go.Proofs.Ytebicdjnhogniaa.PWaveRing Go.Proofs.YtebicdjnhogniaaW.PrintWords Go.Proofs.YtebicdjnhogniaaW.PrintLast
set_option linter.unusedVariables false
set_option linter.unusedSimpArgs false
theorem good_any (x : Int) (w : World) (h0 : 0 ≤ x) (h1 : x < 8380417) : Calls Try.prog 49 #[.int .i64 x] w fun e w' => e = .returned (.bool false) ∧ w' = w := by
  have t1 : decide (x < 0) = false := decide_eq_false (by omega)
  have t2 : decide (x ≥ 8380417) = false := decide_eq_false (by omega)
  have t3 : decide (8380417 ≤ x) = false := decide_eq_false (by omega)
  go_enter Try.func49, Try.ntmps49
  go_wp2
  go_ret
  exact ⟨rfl, rfl⟩
theorem add1_any (x y r : Int) (w : World) (hr : IntKind.i64.wrap (x + y) = r) : Calls Try.prog 43 #[.int .i64 x, .int .i64 y] w fun e w' => e = .returned (.int .i64 r) ∧ w' = w := by
  go_enter Try.func43, Try.ntmps43
  go_wp2
  go_ret
  exact ⟨rfl, rfl⟩
theorem mul1_any (x y r : Int) (w : World) (hr : IntKind.i64.wrap (x * y) = r) : Calls Try.prog 45 #[.int .i64 x, .int .i64 y] w fun e w' => e = .returned (.int .i64 r) ∧ w' = w := by
  go_enter Try.func45, Try.ntmps45
  go_wp2
  go_ret
  exact ⟨rfl, rfl⟩
theorem sub1_any (x y r s : Int) (w : World) (hs : IntKind.i64.wrap (x + 8380417) = s) (hr : IntKind.i64.wrap (s - y) = r) : Calls Try.prog 46 #[.int .i64 x, .int .i64 y] w fun e w' => e = .returned (.int .i64 r) ∧ w' = w := by
  go_enter Try.func46, Try.ntmps46
  go_wp2
  go_ret
  exact ⟨rfl, rfl⟩
abbrev fnV (f : Nat) : Value := .func (.func f) #[] #[]
def IdxRel (x : Value) (w w' : World) : Prop := ∃ i : Nat, i ≤ 256 ∧ x = .int .i64 i ∧ w' = w
set_option maxHeartbeats 1000000 in
theorem idx_any (A : Option Addr) (c : Nat) (f : F) (w : World) (hA : RD w A f) (hc : 256 ≤ c) (hf : PF f) :
    Calls Try.prog 54 #[.slice A 256 c, fnV 49] w fun e w' => e = .returned (.int .i64 (-1)) ∧ w' = w := by
  obtain ⟨ad, rfl, hcell⟩ := hA
  have HC := Lib.hid hcell
  have HF := Lib.hid hf
  clear hcell hf
  go_enter Try.func54, Try.ntmps54
  go_wp2
  go_loopw [8] (fun v w' => IdxRel v w w') (fun v _ => (256 - intOf v).toNat)
  case atStart => exact ⟨0, by omega, rfl, rfl⟩
  case round =>
    obtain ⟨i, hi, rfl, rfl⟩ := hrel
    by_cases hlt : i < 256
    · have hpd : decide ((i : Int) < 256) = true := decide_eq_true (by omega)
      have hii : (i : Int) < 256 := by omega
      have hcell := HC.out i hlt
      obtain ⟨b0, b1⟩ := HF.out i hlt
      generalize f i = x0 at hcell b0 b1
      go_wp2_with (go_at_call 49; (with_reducible refine (good_any x0 _ b0 b1).mono ?_); rintro e w' ⟨rfl, rfl⟩)
      go_roundw
      case rel =>
        have hrel := fun W => (show IdxRel (.int .i64 ((i : Int) + 1)) W W from ⟨i + 1, by omega, by go_num, rfl⟩)
        first
        | exact hrel _
        | (repeat apply Exists.intro
           exact ⟨hrel _, rfl⟩)
      case measure => simp [intOf]; omega
    · have e : i = 256 := by omega
      subst e
      go_wp2
      go_ret
      exact ⟨rfl, rfl⟩
theorem contains_any (A : Option Addr) (c : Nat) (f : F) (w : World) (hA : RD w A f) (hc : 256 ≤ c) (hf : PF f) :
    Calls Try.prog 48 #[.slice A 256 c, fnV 49] w fun e w' => e = .returned (.bool false) ∧ w' = w := by
  have K := Lib.hid (idx_any A c f w hA hc hf)
  clear hA hf
  go_enter Try.func48, Try.ntmps48
  go_wp2_with (go_at_call 54; (with_reducible refine K.out.mono ?_); rintro e w' ⟨rfl, rfl⟩)
  go_ret
  exact ⟨rfl, rfl⟩
theorem may_any (A : Option Addr) (c : Nat) (f : F) (w : World) (hA : RD w A f) (hc : 256 ≤ c) (hf : PF f) :
    Calls Try.prog 36 #[.slice A 256 c] w fun e w' => e = .returned (.bool true) ∧ w' = w := by
  have K := Lib.hid (contains_any A c f w hA hc hf)
  clear hA hf
  go_enter Try.func36, Try.ntmps36
  go_wp2_with (go_at_call 48; (with_reducible refine K.out.mono ?_); rintro e w' ⟨rfl, rfl⟩)
  go_ret
  exact ⟨rfl, rfl⟩
theorem may_nil (w : World) :
    Calls Try.prog 36 #[.slice none 0 0] w fun e w' => e = .returned (.bool false) ∧ w' = w := by
  go_enter Try.func36, Try.ntmps36
  go_wp2
  go_ret
  exact ⟨rfl, rfl⟩
end Go.Proofs.Ytebicdjnhogniaa.T
