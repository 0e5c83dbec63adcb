/- RoundNorms: its plain law and its walk (printed by gen_laws.py). -/
import Derived.Test.YtaheabkfgohobaaFns3
import Derived.Test.YtaheabkfgohobaaFermat
import Derived.IntWalk
namespace Go.Proofs.Ytaheabkfgohobaa.T
open Go.RowKit
open Go.Proofs.Ytaheabkfgohobaa.S
set_option linter.unusedVariables false
set_option linter.unusedSimpArgs false
theorem quietD {P : Program} {f : FuncId} {args : Array Value} {w : World} {n : Nat} {v : Value}
    (h : Calls P f args (w.drewN n) fun e w' => e = .returned v ∧ Drawn0 (w.drewN n) w') : Calls P f args (w.drewN n) fun e w'' => e = .returned v ∧ ∃ m, w'' = w.drewN m :=
  h.mono fun _ _ ⟨he, hd⟩ => by
    obtain ⟨m, rfl⟩ := hd.out
    exact ⟨he, n + m, by rw [World.drewN_drewN]⟩
theorem quiet_addD {P : Program} {f : FuncId} {args : Array Value} {w : World} {a n : Nat} {v : Value}
    (h : Calls P f args (w.drewN (a + n)) fun e w' => e = .returned v ∧ Drawn0 (w.drewN (a + n)) w') : Calls P f args (w.drewN (a + n)) fun e w'' => e = .returned v ∧ ∃ m, w'' = w.drewN (a + m) :=
  h.mono fun _ _ ⟨he, hd⟩ => by
    obtain ⟨m, rfl⟩ := hd.out
    exact ⟨he, n + m, by rw [World.drewN_drewN, Nat.add_assoc]⟩
theorem pow_cast (a m q : Nat) (h : a < q) : ((a : Int) % (q : Int)) ^ m % (q : Int) = ((a ^ m % q : Nat) : Int) := by
  rw [Int.emod_eq_of_lt (Int.natCast_nonneg _) (by exact_mod_cast h)]
  simp
theorem mul_cast (a b q : Nat) : ((a : Int) % (q : Int)) * (((b % q : Nat) : Int) % (q : Int)) % (q : Int) = ((a * b % q : Nat) : Int) := by
  rw [← Int.mul_emod]
  simp [Int.mul_emod]
theorem inv_plain {x : Int} (h0 : 1 ≤ x) (h1 : x ≤ 8380416) : mulS x (powS x 8380415) = 1 := by
  obtain ⟨a, rfl⟩ := Int.eq_ofNat_of_zero_le (show 0 ≤ x by omega)
  have h := fermat_inv 8380417 8380415 rfl rfl a (by omega) (by omega)
  obtain ⟨m, hm⟩ : ∃ m : Nat, m = 8380415 := ⟨_, rfl⟩
  rw [← hm] at h
  have e : powS (a : Int) 8380415 = ((a ^ m % 8380417 : Nat) : Int) := by
    unfold powS
    rw [if_neg (by omega), show (8380415 : Int).toNat = m from by rw [hm]; rfl]
    exact pow_cast a m 8380417 (by omega)
  unfold mulS
  rw [e]
  exact (mul_cast a (a ^ m) 8380417).trans (by rw [h]; rfl)
theorem norms_plain {x y : Int} (x0 : 0 ≤ x) (x1 : x ≤ 8380416) (y0 : 0 ≤ y) (y1 : y ≤ 8380416) :
    normS (-x) = normS x ∧ 0 ≤ normS x ∧ normS x ≤ 4190208 ∧ 0 ≤ normS y ∧ normS y ≤ 4190208 ∧ normS (x + y) ≤ normS x + normS y := by
  unfold normS
  refine ⟨?_, ?_, ?_, ?_, ?_, ?_⟩ <;> omega
theorem near_law {x a : Int} (ha : 2 ≤ a) (ha2 : a ≤ 1099511627776) (h2 : a % 2 = 0) : nearS a x = (if x % a > a / 2 then x % a - a else x % a) := by
  unfold nearS
  rw [if_neg (by omega)]
theorem tmod_small {n a : Int} (ha : 2 ≤ a) (h1 : -a < n) (h2 : n < a) : n.tmod a = n := by
  rcases Int.le_total 0 n with h | h
  · rw [Int.tmod_eq_emod_of_nonneg h, Int.emod_eq_of_lt h h2]
  · have e : n = -(-n) := by omega
    rw [e, Int.neg_tmod, Int.tmod_eq_emod_of_nonneg (by omega), Int.emod_eq_of_lt (by omega) (by omega)]
set_option maxHeartbeats 1000000 in
set_option maxRecDepth 20000 in
theorem norms_walk (a0 : Int) (a1 : Int) (w0 : (Lit.int .i64 a0).wf = true) (w1 : (Lit.int .i64 a1).wf = true) (w : World) :
    Calls Try.prog 6 #[.int .i64 a0, .int .i64 a1] w fun e w' => e = .returned (.bool true) ∧ Grown w w' := by
  obtain ⟨x, hx⟩ : ∃ x, lowS a0 8380417 = x := ⟨_, rfl⟩
  have hxb := lowS_bd a0 8380417 (by omega)
  rw [hx] at hxb
  obtain ⟨x0, x1⟩ := hxb
  have HX := Lib.hid hx
  clear hx
  obtain ⟨y, hy⟩ : ∃ x, lowS a1 8380417 = x := ⟨_, rfl⟩
  have hyb := lowS_bd a1 8380417 (by omega)
  rw [hy] at hyb
  obtain ⟨y0, y1⟩ := hyb
  have HY := Lib.hid hy
  clear hy
  obtain ⟨n1, h1⟩ : ∃ r, normS x = r := ⟨_, rfl⟩
  obtain ⟨n2, h2⟩ : ∃ r, normS y = r := ⟨_, rfl⟩
  obtain ⟨n3, h3⟩ : ∃ r, normS (x + y) = r := ⟨_, rfl⟩
  obtain ⟨p, hp⟩ : ∃ r, powS x 8380415 = r := ⟨_, rfl⟩
  obtain ⟨a, ha⟩ : ∃ r, 2 * (1 + y) = r := ⟨_, rfl⟩
  obtain ⟨n, hn⟩ : ∃ r, nearS a x = r := ⟨_, rfl⟩
  obtain ⟨f1, f2, f3, f4, f5, f6⟩ := norms_plain x0 (show x ≤ 8380416 by omega) y0 (show y ≤ 8380416 by omega)
  rw [h1] at f1
  rw [h1] at f2 f3
  rw [h2] at f4 f5
  rw [h1, h2, h3] at f6
  have a0' : 2 ≤ a := by omega
  have a1' : a ≤ 16760834 := by omega
  have hl : (if x % a > a / 2 then x % a - a else x % a) = n := by rw [← near_law a0' (by omega) (by omega)]; exact hn
  have hm0 := Int.emod_nonneg x (show a ≠ 0 by omega)
  have hm1 := Int.emod_lt_of_pos x (show 0 < a by omega)
  have c1 : -a < n := by rw [← hl]; split <;> omega
  have c2 : n < a := by rw [← hl]; split <;> omega
  have hm := tmod_small a0' c1 c2
  have HM : (n.tmod a == n) = true := beq_iff_eq.2 hm
  have HA := Lib.hid ha
  have y2 : y ≤ 8380416 := by omega
  have x2 : x ≤ 8380416 := by omega
  have p0 : 0 ≤ p := by rw [← hp]; unfold powS; split <;> omega
  have p1 : p ≤ 8380416 := by rw [← hp]; unfold powS; split <;> omega
  clear ha hm hm0 hm1
  have H1 := Lib.hid h1
  clear h1
  have F1 := Lib.hid f1
  clear f1
  have H2 := Lib.hid h2
  clear h2
  have H3 := Lib.hid h3
  clear h3
  have HN := Lib.hid hn
  clear hn
  have HL := Lib.hid hl
  clear hl
  by_cases hz : x = 0
  all_goals
    try have hI := Lib.hid (show mulS x p = 1 from by rw [← hp]; exact inv_plain (by omega) (by omega))
    have HP := Lib.hid hp
    clear hp
    first
    | (have HZ : (x == 0) = true := beq_iff_eq.2 hz)
    | (have HZ : (x == 0) = false := beq_eq_false_iff_ne.2 hz)
    clear hz
    have K1 := Lib.hid (fun W => norm_any x n1 W (by omega) (by omega) H1.out)
    have K2 := Lib.hid (fun W => norm_any (-x) n1 W (by omega) (by omega) F1.out)
    have K3 := Lib.hid (fun W => norm_any y n2 W (by omega) (by omega) H2.out)
    have K4 := Lib.hid (fun W => norm_any (x + y) n3 W (by omega) (by omega) H3.out)
    have K5 := Lib.hid (fun W => pow_any x 8380415 p W (by omega) (by omega) (by omega) (by omega) HP.out)
    have K7 := Lib.hid (fun W => near_any a x n W (by omega) (by omega) (by omega) (by omega) HN.out)
    have K8 := Lib.hid (fun W => lnear_any a x n W (by omega) (by omega) (by omega) (by omega) HL.out)
    have K9 := Lib.hid (fun W => awake_any W)
    try have K6 := Lib.hid (fun W => mul_any x p 1 W (by omega) (by omega) (by omega) (by omega) hI.out)
    have W1 : IntKind.i64.wrap (-x) = -x := IntWalk.i64_in _ (by omega)
    have W2 : IntKind.i64.wrap (x + y) = x + y := IntWalk.i64_in _ (by omega)
    have W3 : IntKind.i64.wrap (n1 + n2) = n1 + n2 := IntWalk.i64_in _ (by omega)
    have W4 : IntKind.i64.wrap (1 + y) = 1 + y := IntWalk.i64_in _ (by omega)
    have W5 : IntKind.i64.wrap (2 * (1 + y)) = a := by rw [IntWalk.i64_in _ (by have := HA.out; omega)]; exact HA.out
    have W6 : (a == 0) = false := beq_eq_false_iff_ne.2 (by omega)
    go_enter Try.func6, Try.ntmps6
    go_wp2_with (first
      | (go_at_call 11; (with_reducible refine (low_any _ _ _ _ (by omega) (by omega) HX.out).mono ?_); rintro e w' ⟨rfl, ⟨nd, rfl⟩⟩)
      | (go_at_call 11; (with_reducible refine (low_any _ _ _ _ (by omega) (by omega) HY.out).mono ?_); rintro e w' ⟨rfl, ⟨nd, rfl⟩⟩))
    go_quiet ((first
      | (go_at_call 17; first | (with_reducible exact quietD (K1.out _)) | (with_reducible exact quiet_addD (K1.out _)))
      | (go_at_call 17; first | (with_reducible exact quietD (K2.out _)) | (with_reducible exact quiet_addD (K2.out _)))
      | (go_at_call 17; first | (with_reducible exact quietD (K3.out _)) | (with_reducible exact quiet_addD (K3.out _)))
      | (go_at_call 17; first | (with_reducible exact quietD (K4.out _)) | (with_reducible exact quiet_addD (K4.out _)))
      | (go_at_call 19; first | (with_reducible exact quietD (K5.out _)) | (with_reducible exact quiet_addD (K5.out _)))
      | (go_at_call 18; first | (with_reducible exact quietD (K6.out _)) | (with_reducible exact quiet_addD (K6.out _)))
      | (go_at_call 20; first | (with_reducible exact quietD (K7.out _)) | (with_reducible exact quiet_addD (K7.out _)))
      | (go_at_call 21; first | (with_reducible exact quietD (K8.out _)) | (with_reducible exact quiet_addD (K8.out _)))
      | (go_at_call 15; first | (with_reducible exact quietD (K9.out _)) | (with_reducible exact quiet_addD (K9.out _)))
      ))
    go_wp2
    go_ret
    exact ⟨rfl, Drawn0.grown (by first | exact Drawn0.drewN _ _ | exact (Drawn0.drewN _ _).step _)⟩
end Go.Proofs.Ytaheabkfgohobaa.T
