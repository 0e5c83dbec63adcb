/- Of, Mul, Pow: their walks. -/
import Derived.Test.YtebicdjnhogniaaEv
import Derived.Test.YtebicdjnhogniaaAwk
namespace Go.Proofs.Ytebicdjnhogniaa.T
open Go.RowKit Go.Proofs.Ytebicdjnhogniaa.PWaveRing Go.Proofs.YtebicdjnhogniaaW.PrintWords Go.Proofs.YtebicdjnhogniaaW.PrintLast
set_option linter.unusedVariables false
set_option linter.unusedSimpArgs false
theorem of_f (a : Int) : round_Of.f a = some (a % 8380417) := by
  have h := Int.tmod_eq_emod (a := a) (b := 8380417)
  unfold round_Of.f
  by_cases hl : Int.tmod a 8380417 < 0
  · rw [if_pos hl]
    congr 1
    rw [wrap_s (by split at h <;> omega) (by split at h <;> omega)]
    split at h <;> omega
  · rw [if_neg hl]
    congr 1
    split at h <;> omega
theorem of_any (a y : Int) (w : World) (h1 : -9223372036854775808 ≤ a) (h2 : a ≤ 9223372036854775807) (hy : a % 8380417 = y) :
    Calls Try.prog 21 #[.int .i64 a] w fun e w' => e = .returned (.int .i64 y) ∧ Drawn0 w w' :=
  round_Of.calls a y w (by rw [of_f, hy])
theorem rmul_any (a b r : Int) (w : World) (h0 : 0 ≤ a ∧ a < 8380417) (h1 : 0 ≤ b ∧ b < 8380417) (hr : a * b % 8380417 = r) :
    Calls Try.prog 23 #[.int .i64 a, .int .i64 b] w fun e w' => e = .returned (.int .i64 r) ∧ Drawn0 w w' := by
  have ea : a % 8380417 = a := Int.emod_eq_of_lt h0.1 h0.2
  have eb : b % 8380417 = b := Int.emod_eq_of_lt h1.1 h1.2
  have OA := Lib.hid (fun W => of_any a a W (by omega) (by omega) ea)
  have OB := Lib.hid (fun W => of_any b b W (by omega) (by omega) eb)
  have mb := mul_bd h0.1 h0.2 h1.1 (show b ≤ 20000000 by omega)
  have W0 : IntKind.i64.wrap (a * b) = a * b := IntWalk.i64_in _ (by omega)
  have T0 : Int.tmod (a * b) 8380417 = r := by rw [Int.tmod_eq_emod_of_nonneg mb.1, hr]
  obtain ⟨p, hp⟩ : ∃ p, a * b = p := ⟨_, rfl⟩
  have W1 : IntKind.i64.wrap (a * b) = p := W0.trans hp
  rw [hp] at T0
  clear W0 hp hr mb ea eb
  go_enter Try.func23, Try.ntmps23
  go_wp2_with (go_at_call 21; (first | ((with_reducible refine (OA.out _).mono ?_); rintro e w' ⟨rfl, ⟨nd, rfl⟩⟩) | ((with_reducible refine (OB.out _).mono ?_); rintro e w' ⟨rfl, ⟨nd, rfl⟩⟩)))
  go_ret
  exact ⟨rfl, by repeat (first | exact Drawn0.refl _ | apply Drawn0.step)⟩
def powS (a n : Int) : Int := if n < 0 then 0 else (a % 8380417) ^ n.toNat % 8380417
theorem pow_step (x n out : Int) : (out * x % 8380417) * (x * x % 8380417) ^ (n / 2).toNat % 8380417 = out * x ^ (2 * (n / 2).toNat + 1) % 8380417 ∧ out * (x * x % 8380417) ^ (n / 2).toNat % 8380417 = out * x ^ (2 * (n / 2).toNat) % 8380417 := by
  have e1 : (x * x) ^ (n / 2).toNat = x ^ (2 * (n / 2).toNat) := by rw [Int.pow_mul, Int.pow_succ, Int.pow_succ, Int.pow_zero, Int.one_mul]
  have e2 : (x * x % 8380417) ^ (n / 2).toNat % 8380417 = (x * x) ^ (n / 2).toNat % 8380417 := by
    generalize (n / 2).toNat = m
    induction m with
    | zero => simp
    | succ m ih => rw [Int.pow_succ, Int.pow_succ, Int.mul_emod, ih, ← Int.mul_emod, Int.mul_emod, Int.emod_emod, ← Int.mul_emod]
  constructor
  · rw [Int.mul_emod, e2, Int.emod_emod, ← Int.mul_emod, e1, Int.pow_succ, Int.mul_assoc, Int.mul_comm x]
  · rw [Int.mul_emod, e2, ← Int.mul_emod, e1]

def PowRel (r : Int) (n a o : Value) : Prop :=
  ∃ n' a' o' : Int, n = .int .i64 n' ∧ a = .int .i64 a' ∧ o = .int .i64 o' ∧ 0 ≤ n' ∧ n' ≤ 9223372036854775807 ∧ 0 ≤ a' ∧ a' ≤ 8380416 ∧ 0 ≤ o' ∧ o' ≤ 8380416 ∧ o' * a' ^ n'.toNat % 8380417 = r
set_option maxHeartbeats 400000 in
theorem pow_any (a n r : Int) (w : World) (h1 : -9223372036854775808 ≤ a) (h2 : a ≤ 9223372036854775807) (h3 : -9223372036854775808 ≤ n) (h4 : n ≤ 9223372036854775807) (hr : powS a n = r) :
    Calls Try.prog 20 #[.int .i64 a, .int .i64 n] w fun e w' => e = .returned (.int .i64 r) ∧ Drawn0 w w' := by
  have HR := Lib.hid hr
  clear hr
  obtain ⟨y, hy⟩ : ∃ y, a % 8380417 = y := ⟨_, rfl⟩
  have y0 : 0 ≤ y := by omega
  have y1 : y ≤ 8380416 := by omega
  have HX := Lib.hid hy
  clear hy
  by_cases hn : n < 0
  · go_enter Try.func20, Try.ntmps20
    go_wp2_with (first | (go_at_call 21; (with_reducible refine (of_any a _ _ (by omega) (by omega) HX.out).mono ?_); rintro e w' ⟨rfl, ⟨nd, rfl⟩⟩))
    go_ret
    have hp := HR.out
    unfold powS at hp
    rw [if_pos hn] at hp
    exact ⟨ret_int hp, by repeat (first | exact Drawn0.refl _ | apply Drawn0.step)⟩
  · have hn0 : 0 ≤ n := by omega
    go_enter Try.func20, Try.ntmps20
    go_wp2_with (first | (go_at_call 21; (with_reducible refine (of_any a _ _ (by omega) (by omega) HX.out).mono ?_); rintro e w' ⟨rfl, ⟨nd, rfl⟩⟩))
    go_loop [1, 0, 5] (fun n a o => PowRel r n a o) (fun n _ _ => (intOf n).toNat)
    case atStart =>
      have hp := HR.out
      unfold powS at hp
      rw [if_neg (by omega), HX.out] at hp
      exact ⟨_, _, _, rfl, rfl, rfl, hn0, h4, y0, y1, by omega, by omega, by rw [Int.one_mul]; exact hp⟩
    case round =>
      obtain ⟨n', a', o', rfl, rfl, rfl, n0, n1, a0, a1, o0, o1, hr⟩ := hrel
      have HI := Lib.hid hr
      clear hr
      have z0 : 0 ≤ o' * a' := Int.mul_nonneg o0 a0
      have z1 : o' * a' ≤ 8380416 * 8380416 := Int.mul_le_mul o1 a1 a0 (by omega)
      have u0 : 0 ≤ a' * a' := Int.mul_nonneg a0 a0
      have u1 : a' * a' ≤ 8380416 * 8380416 := Int.mul_le_mul a1 a1 a0 (by omega)
      go_wp2
      all_goals
        first
        | (go_round
           case rel =>
             have hp := pow_step a' n' o'
             have hi := HI.out
             refine ⟨_, _, _, rfl, rfl, rfl, by omega, by omega, by omega, by omega, by omega, by omega, ?_⟩
             have hodd : n' % 2 = 1 := beq_iff_eq.1 ‹(n' % 2 == 1) = true›
             rw [hp.1, show 2 * (n' / 2).toNat + 1 = n'.toNat from by omega]
             exact hi
           case measure => simp [intOf]; omega)
        | (go_round
           case rel =>
             have hp := pow_step a' n' o'
             have hi := HI.out
             refine ⟨_, _, _, rfl, rfl, rfl, by omega, by omega, by omega, by omega, by omega, by omega, ?_⟩
             have hodd : n' % 2 ≠ 1 := beq_eq_false_iff_ne.1 ‹(n' % 2 == 1) = false›
             rw [hp.2, show 2 * (n' / 2).toNat = n'.toNat from by omega]
             exact hi
           case measure => simp [intOf]; omega)
        | (go_ret
           have hi := HI.out
           have hz : n' = 0 := by omega
           subst hz
           simp at hi
           exact ⟨ret_int (by omega), by repeat (first | exact Drawn0.refl _ | apply Drawn0.step)⟩)

end Go.Proofs.Ytebicdjnhogniaa.T
