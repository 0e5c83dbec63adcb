/- KeccakMoves: its walk (printed by gen_moves.py). -/
import Derived.Test.YtooelompkmocnaaPc
namespace Go.Proofs.Ytooelompkmocnaa.T
open Go.RowKit
open Go.Proofs.YtooelompkmocnaaW.PrintWords Go.Proofs.YtooelompkmocnaaW.PrintLast
set_option linter.unusedVariables false
set_option linter.unusedSimpArgs false
def pidx (j : Nat) : Nat := (j % 5 + 3 * (j / 5)) % 5 + 5 * (j % 5)
theorem pidx_sum (f : Nat → Nat) : sm (fun j => f (pidx j)) 25 = sm f 25 := by
  simp only [sm, pidx, Nat.reduceMod, Nat.reduceDiv, Nat.reduceMul, Nat.reduceAdd]
  omega
def cnt (r n : Nat) : Nat := sm (fun m => if pidx m = r then 1 else 0) n
theorem cnt_one : ∀ r, r < 25 → cnt r 25 = 1 := by decide
theorem cnt_le (r : Nat) : ∀ n, cnt r n ≤ n
  | 0 => Nat.le_refl _
  | n + 1 => by
    have := cnt_le r n
    show cnt r n + (if pidx n = r then 1 else 0) ≤ n + 1
    split <;> omega
theorem sm_le (f : Nat → Nat) (m : Nat) (h : ∀ j, f j ≤ m) : ∀ n, sm f n ≤ m * n
  | 0 => Nat.zero_le _
  | n + 1 => by
    have := sm_le f m h n
    have := h n
    show sm f n + f n ≤ m * (n + 1)
    rw [Nat.mul_add]; omega
def MS (a : L) (w : World) (g1 g5 g6 : Nat) (w' : World) : Prop := AR w' g1 23 25 a ∧ AR w' g5 23 25 (rhoS a) ∧ AR w' g6 23 25 (piS a) ∧ Below w.heap.size w w'
def M1Rel (a : L) (w : World) (g1 g5 g6 : Nat) (n m k j : Value) (w' : World) : Prop :=
  ∃ i : Nat, i ≤ 25 ∧ n = .int .i64 (sm (fun j => pop (a j)) i : Nat) ∧ m = .int .i64 (sm (fun j => pop (a j)) i : Nat) ∧ k = .int .i64 (sm (fun j => pop (piS a j)) i : Nat) ∧ j = .int .i64 i ∧ MS a w g1 g5 g6 w'
def M2Rel (c x : L) (r : Nat) (w : World) (g6 g12 : Nat) (y j : Value) (w' : World) : Prop :=
  ∃ i : Nat, i ≤ 25 ∧ y = .int .i64 (cnt r i : Nat) ∧ j = .int .i64 i ∧ AR w' g6 23 25 c ∧ AR w' g12 23 25 x ∧ Below w.heap.size w w'
def T8_7 : Bool × List (List Nat × List Nat) := (true, [([], []), ([], []), ([1], [1]), ([2], [2]), ([3], [3]), ([0, 4], [0, 4]), ([], []), ([], []), ([7], [7]), ([8], [8]), ([9, 4], [9]), ([6, 10], [6, 10]), ([], []), ([], []), ([13], [13]), ([14], [14]), ([15, 10], [15]), ([12, 16], [12, 16]), ([5, 16, 0, 1, 2, 3, 4, 5], [0, 5]), ([11, 18, 0, 1, 2, 3, 4, 5, 6, 7, 8, 9, 10, 11, 18], [6, 11]), ([17, 19, 0, 1, 2, 3, 4, 5, 6, 7, 8, 9, 10, 11, 12, 13, 14, 15, 16, 17, 18, 19], [12, 17])])
theorem tab8_7 : rtab .any (opsOf Try.f8 7) = T8_7 := by kernel_rfl
def T8_8 : Bool × List (List Nat × List Nat) := (true, [([], []), ([0], [0]), ([1], [1]), ([2], [2]), ([], []), ([4], [4]), ([5], [5]), ([6, 3], [6]), ([3, 7], [3, 7])])
theorem tab8_8 : rtab .any (opsOf Try.f8 8) = T8_8 := by kernel_rfl
def T8_17 : Bool × List (List Nat × List Nat) := (true, [([], []), ([0], [0]), ([1], [1]), ([], []), ([3], [3]), ([4], [4]), ([2, 5], [2, 5])])
theorem tab8_17 : rtab .any (opsOf Try.f8 17) = T8_17 := by kernel_rfl
set_option maxHeartbeats 4000000 in
set_option maxRecDepth 20000 in
theorem moves_walk (a : L) (x : Int) (w : World) (_w : (Lit.int .i64 x).wf = true) :
    Calls Try.prog 8 #[.agg (av 25 a), .int .i64 x] w fun e w' => e = .returned (.bool true) ∧ Below w.heap.size w w' := by
  obtain ⟨i23, hi23, hz23⟩ := info_zero zero23
  have I23 := Lib.hid hi23
  have Z23 := Lib.hid hz23
  clear hi23 hz23
  obtain ⟨rI, hrI⟩ : ∃ r, lowS x 25 = r := ⟨_, rfl⟩
  have hrb := lowS_bd x 25 (by omega)
  rw [hrI] at hrb
  obtain ⟨r, rfl⟩ := Int.eq_ofNat_of_zero_le hrb.1
  have hr25 : r < 25 := by omega
  have hr25i : (r : Int) < 25 := by omega
  have LOW := Lib.hid (fun W => low_any x 25 (r : Int) W (by omega) (by omega) hrI)
  clear hrI hrb _w
  go_enter Try.func8, Try.ntmps8
  go_wp2_with (first
      | ((with_reducible refine gate_dst (N := 2) rfl ?_); refine box_av rfl 23 _ rfl 25 a rfl ?_; intro g1 w1 hA hB hg hl1; have A1 := Lib.hid hA; have B := Lib.hid hB; have G1 := Lib.hid hg; clear hA hB hg)
      | ((with_reducible refine gate_dst (N := 15) rfl ?_); refine load_av rfl 23 _ rfl g1 25 23 a _ rfl A1.out Try.underlying23 rfl size23 ?_)
      | ((with_reducible refine gate_dst (N := 17) rfl ?_); refine load_av rfl 23 _ rfl g1 25 23 a _ rfl A1.out Try.underlying23 rfl size23 ?_)
      | (go_at_call 11; (with_reducible refine (rho_any _ _).mono ?_); rintro e w7 ⟨rfl, hB⟩; have A1 := Lib.hid (A1.out.below hB); have L1 := Lib.hid (show g1 < w7.heap.size from Nat.lt_of_lt_of_le hl1 hB.size); have B := Lib.hid (below_step B.out hB); clear hB)
      | (go_at_call 13; (with_reducible refine (pi_any _ _).mono ?_); rintro e w8 ⟨rfl, hB⟩; have A1 := Lib.hid (A1.out.below hB); have A5 := Lib.hid (A5.out.below hB); have B := Lib.hid (below_step B.out hB); have L5 := Lib.hid (show g5 < w8.heap.size from Nat.lt_of_lt_of_le A5.out.lt (Nat.le_refl _)); clear hB)
      | ((with_reducible refine gate_dst (N := 5) rfl ?_); refine alloc_av rfl 23 rfl 25 i23 _ I23.out Z23.out rfl ?_; intro g5 w5 hA hB hg hl5; have A1 := Lib.hid (A1.out.below hB); have A5 := Lib.hid hA; have B := Lib.hid (below_step B.out hB); have G5 := Lib.hid hg; have D5 : Hid (w.heap.size ≤ g1 ∧ g1 < g5) := Lib.hid (by have := G1.out; have := L1.out; exact ⟨by omega, by omega⟩); clear hA hB hg)
      | ((with_reducible refine gate_store (t := 23) (p := 5) rfl ?_); refine store_av rfl rfl 23 (.tmp 5) (.tmp 16) rfl g5 25 23 _ (rhoS a) rfl rfl A5.out size23 ?_; intro u5 hA hO hB; have A1 := Lib.hid (hO _ _ _ _ A1.out (by have := D5.out; omega)); have A5 := Lib.hid hA; have B := Lib.hid (hB _ _ B.out (by have := D5.out; omega)); clear hA hO hB)
      | ((with_reducible refine gate_dst (N := 6) rfl ?_); refine alloc_av rfl 23 rfl 25 i23 _ I23.out Z23.out rfl ?_; intro g6 w6 hA hB hg hl6; have A1 := Lib.hid (A1.out.below hB); have A5 := Lib.hid (A5.out.below hB); have A6 := Lib.hid hA; have B := Lib.hid (below_step B.out hB); have G6 := Lib.hid hg; have D6 : Hid (w.heap.size ≤ g1 ∧ g1 < g5 ∧ g5 < g6) := Lib.hid (by have := D5.out; have := L5.out; exact ⟨by omega, by omega, by omega⟩); clear hA hB hg)
      | ((with_reducible refine gate_store (t := 23) (p := 6) rfl ?_); refine store_av rfl rfl 23 (.tmp 6) (.tmp 18) rfl g6 25 23 _ (piS a) rfl rfl A6.out size23 ?_; intro u6 hA hO hB; have A1 := Lib.hid (hO _ _ _ _ A1.out (by have := D6.out; omega)); have A5 := Lib.hid (hO _ _ _ _ A5.out (by have := D6.out; omega)); have A6 := Lib.hid hA; have B := Lib.hid (hB _ _ B.out (by have := D6.out; omega)); clear hA hO hB))
  have UP : Hid (w.heap.size ≤ g1 ∧ g1 < g5 ∧ g5 < g6) := D6
  clear hl1 hl5 hl6 D5 D6 G5 G6 L1 L5
  go_loopw [7, 8, 9, 10] (fun n m k j w' => M1Rel a w g1 g5 g6 n m k j w') (fun _ _ _ j _ => (25 - intOf j).toNat)
  case atStart => exact ⟨0, by omega, rfl, rfl, rfl, rfl, A1.out, A5.out, A6.out, B.out⟩
  case round =>
    clear A1 A5 A6 B
    obtain ⟨i, hi, rfl, rfl, rfl, rfl, hS⟩ := hrel
    by_cases hlt : i < 25
    · have hpd : decide ((i : Int) < 25) = true := decide_eq_true (by omega)
      have hii : (i : Int) < 25 := by omega
      have nb := sm_le (fun j => pop (a j)) 64 (fun j => pop_le _) i
      have kb := sm_le (fun j => pop (piS a j)) 64 (fun j => pop_le _) i
      have n1 : sm (fun j => pop (a j)) (i + 1) = sm (fun j => pop (a j)) i + pop (a i) := rfl
      have k1 : sm (fun j => pop (piS a j)) (i + 1) = sm (fun j => pop (piS a j)) i + pop (piS a i) := rfl
      have prot : pop (rhoS a i) = pop (a i) := pop_rot _ _ (tab_lt i hlt)
      have pb := pop_le (a i)
      have pb2 := pop_le (piS a i)
      obtain ⟨N, hN⟩ : ∃ N, sm (fun j => pop (a j)) i = N := ⟨_, rfl⟩
      obtain ⟨Kk, hK⟩ : ∃ N, sm (fun j => pop (piS a j)) i = N := ⟨_, rfl⟩
      obtain ⟨va, hva⟩ : ∃ v, a i = v := ⟨_, rfl⟩
      obtain ⟨vb, hvb⟩ : ∃ v, rhoS a i = v := ⟨_, rfl⟩
      obtain ⟨vc, hvc⟩ : ∃ v, piS a i = v := ⟨_, rfl⟩
      obtain ⟨pa, hpa⟩ : ∃ v, pop va = v := ⟨_, rfl⟩
      obtain ⟨pc, hpc⟩ : ∃ v, pop vc = v := ⟨_, rfl⟩
      rw [hva, hvb, hpa] at prot
      rw [hva, hpa] at pb
      rw [hvc, hpc] at pb2
      rw [hN] at nb
      rw [hK] at kb
      rw [hN, hva, hpa] at n1
      rw [hK, hvc, hpc] at k1
      rw [hN, hK]
      have CA : Hid (∀ W, Calls Try.prog 25 #[.int .u64 (va.toNat : Int)] W fun e w' => e = .returned (.int .i64 (pa : Int)) ∧ w' = W) := Lib.hid (fun W => by rw [← hpa]; exact ones_any va W)
      have CB : Hid (∀ W, Calls Try.prog 25 #[.int .u64 (vb.toNat : Int)] W fun e w' => e = .returned (.int .i64 (pa : Int)) ∧ w' = W) := Lib.hid (fun W => by rw [← prot]; exact ones_any vb W)
      have CC : Hid (∀ W, Calls Try.prog 25 #[.int .u64 (vc.toNat : Int)] W fun e w' => e = .returned (.int .i64 (pc : Int)) ∧ w' = W) := Lib.hid (fun W => by rw [← hpc]; exact ones_any vc W)
      have WN : Hid (IntKind.i64.wrap ((N : Int) + (pa : Int)) = ((N + pa : Nat) : Int)) := Lib.hid (by rw [IntWalk.i64_in _ (by omega)]; omega)
      have WK : Hid (IntKind.i64.wrap ((Kk : Int) + (pc : Int)) = ((Kk + pc : Nat) : Int)) := Lib.hid (by rw [IntWalk.i64_in _ (by omega)]; omega)
      have PP : Hid ((((pa : Int)) != (pa : Int)) = false) := Lib.hid (by simp)
      have N1 := Lib.hid n1
      have K1 := Lib.hid k1
      have VA := Lib.hid hva
      have VB := Lib.hid hvb
      have VC := Lib.hid hvc
      have HS := Lib.hid (show MS a w g1 g5 g6 wr.drew from ⟨hS.1, hS.2.1, hS.2.2.1, hS.2.2.2.drew⟩)
      clear hS nb kb n1 k1 prot pb pb2 hN hK hva hvb hvc hpa hpc
      go_wp2_with fail
      refine start_ (n := 21) (S := fun w' => MS a w g1 g5 g6 w') (ds := []) #[false, false, false, false, false, false, false, false, false, false, false, false, false, false, false, false, false, false, false, false, false] (by kernel_rfl) rfl rfl HS.out (fun hHeld => ?_); refine with_tab tab8_7 (fun HT_ => ?_)
      refine pure_ (i := 0) (N := some 23) (v := ?_) (a' := ?_) #[true, false, false, false, false, false, false, false, false, false, false, false, false, false, false, false, false, false, false, false, false] rfl rfl (any_of HT_.out (by kernel_rfl)) (fun _ _ _ h => h) (Or.inl ⟨by rfl, ?_⟩) ?_ ?_
      rotate_left
      · intro w'
        go_simp
        with_reducible rfl
      rotate_left
      · simp only [Act.put, List.setIfInBounds_toArray, List.set_cons_zero, List.set_cons_succ, i64_w, i32_w]
        rfl
      refine pure_ (i := 1) (N := some 24) (v := ?_) (a' := ?_) #[true, true, false, false, false, false, false, false, false, false, false, false, false, false, false, false, false, false, false, false, false] rfl rfl (any_of HT_.out (by kernel_rfl)) (fun _ _ _ h => h) (Or.inl ⟨by rfl, ?_⟩) ?_ ?_
      rotate_left
      · intro w'
        go_simp
        with_reducible rfl
      rotate_left
      · simp only [Act.put, List.setIfInBounds_toArray, List.set_cons_zero, List.set_cons_succ, i64_w, i32_w]
        rfl
      refine pure_ (i := 2) (N := some 25) (v := ?_) (a' := ?_) #[true, true, true, false, false, false, false, false, false, false, false, false, false, false, false, false, false, false, false, false, false] rfl rfl (any_of HT_.out (by kernel_rfl)) (fun _ _ _ h => h) (Or.inl ⟨by rfl, ?_⟩) ?_ ?_
      rotate_left
      · intro w'
        go_simp
        with_reducible rfl
      rotate_left
      · simp only [Act.put, List.setIfInBounds_toArray, List.set_cons_zero, List.set_cons_succ, i64_w, i32_w]
        rfl
      refine take_ (i := 3) (N := some 26) (v := ?_) (a' := ?_) #[true, true, true, true, false, false, false, false, false, false, false, false, false, false, false, false, false, false, false, false, false] rfl rfl (take_of HT_.out (by kernel_rfl)) (fun _ _ _ h => h) (Or.inl ⟨by rfl, ?_⟩) hHeld ?_ ?_
      rotate_left
      · intro w' s0
        have hc := s0.1.cell i hlt
        rw [VA.out] at hc
        go_simp
        with_reducible rfl
      rotate_left
      · simp only [Act.put, List.setIfInBounds_toArray, List.set_cons_zero, List.set_cons_succ, i64_w, i32_w]
        rfl
      refine pure_ (i := 6) (N := some 29) (v := ?_) (a' := ?_) #[true, true, true, true, false, false, true, false, false, false, false, false, false, false, false, false, false, false, false, false, false] rfl rfl (any_of HT_.out (by kernel_rfl)) (fun _ _ _ h => h) (Or.inl ⟨by rfl, ?_⟩) ?_ ?_
      rotate_left
      · intro w'
        go_simp
        with_reducible rfl
      rotate_left
      · simp only [Act.put, List.setIfInBounds_toArray, List.set_cons_zero, List.set_cons_succ, i64_w, i32_w]
        rfl
      refine pure_ (i := 7) (N := some 30) (v := ?_) (a' := ?_) #[true, true, true, true, false, false, true, true, false, false, false, false, false, false, false, false, false, false, false, false, false] rfl rfl (any_of HT_.out (by kernel_rfl)) (fun _ _ _ h => h) (Or.inl ⟨by rfl, ?_⟩) ?_ ?_
      rotate_left
      · intro w'
        go_simp
        with_reducible rfl
      rotate_left
      · simp only [Act.put, List.setIfInBounds_toArray, List.set_cons_zero, List.set_cons_succ, i64_w, i32_w]
        rfl
      refine pure_ (i := 8) (N := some 31) (v := ?_) (a' := ?_) #[true, true, true, true, false, false, true, true, true, false, false, false, false, false, false, false, false, false, false, false, false] rfl rfl (any_of HT_.out (by kernel_rfl)) (fun _ _ _ h => h) (Or.inl ⟨by rfl, ?_⟩) ?_ ?_
      rotate_left
      · intro w'
        go_simp
        with_reducible rfl
      rotate_left
      · simp only [Act.put, List.setIfInBounds_toArray, List.set_cons_zero, List.set_cons_succ, i64_w, i32_w]
        rfl
      refine take_ (i := 9) (N := some 32) (v := ?_) (a' := ?_) #[true, true, true, true, false, false, true, true, true, true, false, false, false, false, false, false, false, false, false, false, false] rfl rfl (take_of HT_.out (by kernel_rfl)) (fun _ _ _ h => h) (Or.inl ⟨by rfl, ?_⟩) hHeld ?_ ?_
      rotate_left
      · intro w' s0
        have hc := s0.2.1.cell i hlt
        rw [VB.out] at hc
        go_simp
        with_reducible rfl
      rotate_left
      · simp only [Act.put, List.setIfInBounds_toArray, List.set_cons_zero, List.set_cons_succ, i64_w, i32_w]
        rfl
      refine pure_ (i := 12) (N := some 35) (v := ?_) (a' := ?_) #[true, true, true, true, false, false, true, true, true, true, false, false, true, false, false, false, false, false, false, false, false] rfl rfl (any_of HT_.out (by kernel_rfl)) (fun _ _ _ h => h) (Or.inl ⟨by rfl, ?_⟩) ?_ ?_
      rotate_left
      · intro w'
        go_simp
        with_reducible rfl
      rotate_left
      · simp only [Act.put, List.setIfInBounds_toArray, List.set_cons_zero, List.set_cons_succ, i64_w, i32_w]
        rfl
      refine pure_ (i := 13) (N := some 36) (v := ?_) (a' := ?_) #[true, true, true, true, false, false, true, true, true, true, false, false, true, true, false, false, false, false, false, false, false] rfl rfl (any_of HT_.out (by kernel_rfl)) (fun _ _ _ h => h) (Or.inl ⟨by rfl, ?_⟩) ?_ ?_
      rotate_left
      · intro w'
        go_simp
        with_reducible rfl
      rotate_left
      · simp only [Act.put, List.setIfInBounds_toArray, List.set_cons_zero, List.set_cons_succ, i64_w, i32_w]
        rfl
      refine pure_ (i := 14) (N := some 37) (v := ?_) (a' := ?_) #[true, true, true, true, false, false, true, true, true, true, false, false, true, true, true, false, false, false, false, false, false] rfl rfl (any_of HT_.out (by kernel_rfl)) (fun _ _ _ h => h) (Or.inl ⟨by rfl, ?_⟩) ?_ ?_
      rotate_left
      · intro w'
        go_simp
        with_reducible rfl
      rotate_left
      · simp only [Act.put, List.setIfInBounds_toArray, List.set_cons_zero, List.set_cons_succ, i64_w, i32_w]
        rfl
      refine take_ (i := 15) (N := some 38) (v := ?_) (a' := ?_) #[true, true, true, true, false, false, true, true, true, true, false, false, true, true, true, true, false, false, false, false, false] rfl rfl (take_of HT_.out (by kernel_rfl)) (fun _ _ _ h => h) (Or.inl ⟨by rfl, ?_⟩) hHeld ?_ ?_
      rotate_left
      · intro w' s0
        have hc := s0.2.2.1.cell i hlt
        rw [VC.out] at hc
        go_simp
        with_reducible rfl
      rotate_left
      · simp only [Act.put, List.setIfInBounds_toArray, List.set_cons_zero, List.set_cons_succ, i64_w, i32_w]
        rfl
      refine one_ (i := 4) (N := some 27) #[true, true, true, true, true, false, true, true, true, true, false, false, true, true, true, true, false, false, false, false, false] rfl rfl (one_of HT_.out (by kernel_rfl)) (by decide) (fun K hK => ?_)
      refine goes_ Try.func25 (by kernel_rfl) rfl #[.int .u64 (va.toNat : Int)] (by rfl) rfl rfl (by (try simp only [List.map_toArray, List.map_cons, List.map_nil]); first | done | rfl) ?_
      with_reducible refine (CA.out _).mono ?_
      rintro e w3 ⟨rfl, rfl⟩
      refine ⟨_, rfl, ?_⟩
      refine hK.out _ _ hHeld (fun hHeld => ?_)
      clear hK K
      refine norm_ (a' := ?_) ?_ ?_
      rotate_left
      · show Act.put _ (some 27) _ = _
        simp only [Act.put, List.setIfInBounds_toArray, List.set_cons_zero, List.set_cons_succ, i64_w, i32_w]
        rfl
      refine pure_ (i := 5) (N := some 28) (v := ?_) (a' := ?_) #[true, true, true, true, true, true, true, true, true, true, false, false, true, true, true, true, false, false, false, false, false] rfl rfl (any_of HT_.out (by kernel_rfl)) (fun _ _ _ h => h) (Or.inl ⟨by rfl, ?_⟩) ?_ ?_
      rotate_left
      · intro w'
        go_simp
        rw [WN.out]
      rotate_left
      · simp only [Act.put, List.setIfInBounds_toArray, List.set_cons_zero, List.set_cons_succ, i64_w, i32_w]
        rfl
      refine one_ (i := 10) (N := some 33) #[true, true, true, true, true, true, true, true, true, true, true, false, true, true, true, true, false, false, false, false, false] rfl rfl (one_of HT_.out (by kernel_rfl)) (by decide) (fun K hK => ?_)
      refine goes_ Try.func25 (by kernel_rfl) rfl #[.int .u64 (vb.toNat : Int)] (by rfl) rfl rfl (by (try simp only [List.map_toArray, List.map_cons, List.map_nil]); first | done | rfl) ?_
      with_reducible refine (CB.out _).mono ?_
      rintro e w3 ⟨rfl, rfl⟩
      refine ⟨_, rfl, ?_⟩
      refine hK.out _ _ hHeld (fun hHeld => ?_)
      clear hK K
      refine norm_ (a' := ?_) ?_ ?_
      rotate_left
      · show Act.put _ (some 33) _ = _
        simp only [Act.put, List.setIfInBounds_toArray, List.set_cons_zero, List.set_cons_succ, i64_w, i32_w]
        rfl
      refine pure_ (i := 11) (N := some 34) (v := ?_) (a' := ?_) #[true, true, true, true, true, true, true, true, true, true, true, true, true, true, true, true, false, false, false, false, false] rfl rfl (any_of HT_.out (by kernel_rfl)) (fun _ _ _ h => h) (Or.inl ⟨by rfl, ?_⟩) ?_ ?_
      rotate_left
      · intro w'
        go_simp
        rw [WN.out]
      rotate_left
      · simp only [Act.put, List.setIfInBounds_toArray, List.set_cons_zero, List.set_cons_succ, i64_w, i32_w]
        rfl
      refine one_ (i := 16) (N := some 39) #[true, true, true, true, true, true, true, true, true, true, true, true, true, true, true, true, true, false, false, false, false] rfl rfl (one_of HT_.out (by kernel_rfl)) (by decide) (fun K hK => ?_)
      refine goes_ Try.func25 (by kernel_rfl) rfl #[.int .u64 (vc.toNat : Int)] (by rfl) rfl rfl (by (try simp only [List.map_toArray, List.map_cons, List.map_nil]); first | done | rfl) ?_
      with_reducible refine (CC.out _).mono ?_
      rintro e w3 ⟨rfl, rfl⟩
      refine ⟨_, rfl, ?_⟩
      refine hK.out _ _ hHeld (fun hHeld => ?_)
      clear hK K
      refine norm_ (a' := ?_) ?_ ?_
      rotate_left
      · show Act.put _ (some 39) _ = _
        simp only [Act.put, List.setIfInBounds_toArray, List.set_cons_zero, List.set_cons_succ, i64_w, i32_w]
        rfl
      refine pure_ (i := 17) (N := some 40) (v := ?_) (a' := ?_) #[true, true, true, true, true, true, true, true, true, true, true, true, true, true, true, true, true, true, false, false, false] rfl rfl (any_of HT_.out (by kernel_rfl)) (fun _ _ _ h => h) (Or.inl ⟨by rfl, ?_⟩) ?_ ?_
      rotate_left
      · intro w'
        go_simp
        rw [WK.out]
      rotate_left
      · simp only [Act.put, List.setIfInBounds_toArray, List.set_cons_zero, List.set_cons_succ, i64_w, i32_w]
        rfl
      refine pure_ (i := 18) (N := some 7) (v := ?_) (a' := ?_) #[true, true, true, true, true, true, true, true, true, true, true, true, true, true, true, true, true, true, true, false, false] rfl rfl (any_of HT_.out (by kernel_rfl)) (fun _ _ _ h => h) (Or.inl ⟨by rfl, ?_⟩) ?_ ?_
      rotate_left
      · intro w'
        go_simp
        with_reducible rfl
      rotate_left
      · simp only [Act.put, List.setIfInBounds_toArray, List.set_cons_zero, List.set_cons_succ, i64_w, i32_w]
        rfl
      refine pure_ (i := 19) (N := some 8) (v := ?_) (a' := ?_) #[true, true, true, true, true, true, true, true, true, true, true, true, true, true, true, true, true, true, true, true, false] rfl rfl (any_of HT_.out (by kernel_rfl)) (fun _ _ _ h => h) (Or.inl ⟨by rfl, ?_⟩) ?_ ?_
      rotate_left
      · intro w'
        go_simp
        with_reducible rfl
      rotate_left
      · simp only [Act.put, List.setIfInBounds_toArray, List.set_cons_zero, List.set_cons_succ, i64_w, i32_w]
        rfl
      refine pure_ (i := 20) (N := some 9) (v := ?_) (a' := ?_) #[true, true, true, true, true, true, true, true, true, true, true, true, true, true, true, true, true, true, true, true, true] rfl rfl (any_of HT_.out (by kernel_rfl)) (fun _ _ _ h => h) (Or.inl ⟨by rfl, ?_⟩) ?_ ?_
      rotate_left
      · intro w'
        go_simp
        with_reducible rfl
      rotate_left
      · simp only [Act.put, List.setIfInBounds_toArray, List.set_cons_zero, List.set_cons_succ, i64_w, i32_w]
        rfl
      refine done_ (done_of HT_.out (by kernel_rfl)) ?_
      go_wp2_with fail
      rename_i hOld
      clear HS
      have HS := Lib.hid (show MS a w g1 g5 g6 wr.drew.drew from ⟨hHeld.1, hHeld.2.1, hHeld.2.2.1, hHeld.2.2.2.drew⟩)
      clear hHeld
      refine start_ (n := 9) (S := fun w' => MS a w g1 g5 g6 w') (ds := []) #[false, false, false, false, false, false, false, false, false] (by kernel_rfl) rfl rfl HS.out (fun hHeld => ?_); refine with_tab tab8_8 (fun HT_ => ?_)
      refine pure_ (i := 0) (N := some 41) (v := ?_) (a' := ?_) #[true, false, false, false, false, false, false, false, false] rfl rfl (any_of HT_.out (by kernel_rfl)) (fun _ _ _ h => h) (Or.inl ⟨by rfl, ?_⟩) ?_ ?_
      rotate_left
      · intro w'
        go_simp
        with_reducible rfl
      rotate_left
      · simp only [Act.put, List.setIfInBounds_toArray, List.set_cons_zero, List.set_cons_succ, i64_w, i32_w]
        rfl
      refine pure_ (i := 1) (N := some 42) (v := ?_) (a' := ?_) #[true, true, false, false, false, false, false, false, false] rfl rfl (any_of HT_.out (by kernel_rfl)) (fun _ _ _ h => h) (Or.inl ⟨by rfl, ?_⟩) ?_ ?_
      rotate_left
      · intro w'
        go_simp
        with_reducible rfl
      rotate_left
      · simp only [Act.put, List.setIfInBounds_toArray, List.set_cons_zero, List.set_cons_succ, i64_w, i32_w]
        rfl
      refine take_ (i := 2) (N := some 43) (v := ?_) (a' := ?_) #[true, true, true, false, false, false, false, false, false] rfl rfl (take_of HT_.out (by kernel_rfl)) (fun _ _ _ h => h) (Or.inl ⟨by rfl, ?_⟩) hHeld ?_ ?_
      rotate_left
      · intro w' s0
        have hc := s0.1.cell i hlt
        rw [VA.out] at hc
        go_simp
        with_reducible rfl
      rotate_left
      · simp only [Act.put, List.setIfInBounds_toArray, List.set_cons_zero, List.set_cons_succ, i64_w, i32_w]
        rfl
      refine pure_ (i := 4) (N := some 45) (v := ?_) (a' := ?_) #[true, true, true, false, true, false, false, false, false] rfl rfl (any_of HT_.out (by kernel_rfl)) (fun _ _ _ h => h) (Or.inl ⟨by rfl, ?_⟩) ?_ ?_
      rotate_left
      · intro w'
        go_simp
        with_reducible rfl
      rotate_left
      · simp only [Act.put, List.setIfInBounds_toArray, List.set_cons_zero, List.set_cons_succ, i64_w, i32_w]
        rfl
      refine pure_ (i := 5) (N := some 46) (v := ?_) (a' := ?_) #[true, true, true, false, true, true, false, false, false] rfl rfl (any_of HT_.out (by kernel_rfl)) (fun _ _ _ h => h) (Or.inl ⟨by rfl, ?_⟩) ?_ ?_
      rotate_left
      · intro w'
        go_simp
        with_reducible rfl
      rotate_left
      · simp only [Act.put, List.setIfInBounds_toArray, List.set_cons_zero, List.set_cons_succ, i64_w, i32_w]
        rfl
      refine take_ (i := 6) (N := some 47) (v := ?_) (a' := ?_) #[true, true, true, false, true, true, true, false, false] rfl rfl (take_of HT_.out (by kernel_rfl)) (fun _ _ _ h => h) (Or.inl ⟨by rfl, ?_⟩) hHeld ?_ ?_
      rotate_left
      · intro w' s0
        have hc := s0.2.1.cell i hlt
        rw [VB.out] at hc
        go_simp
        with_reducible rfl
      rotate_left
      · simp only [Act.put, List.setIfInBounds_toArray, List.set_cons_zero, List.set_cons_succ, i64_w, i32_w]
        rfl
      refine one_ (i := 3) (N := some 44) #[true, true, true, true, true, true, true, false, false] rfl rfl (one_of HT_.out (by kernel_rfl)) (by decide) (fun K hK => ?_)
      refine goes_ Try.func25 (by kernel_rfl) rfl #[.int .u64 (va.toNat : Int)] (by rfl) rfl rfl (by (try simp only [List.map_toArray, List.map_cons, List.map_nil]); first | done | rfl) ?_
      with_reducible refine (CA.out _).mono ?_
      rintro e w3 ⟨rfl, rfl⟩
      refine ⟨_, rfl, ?_⟩
      refine hK.out _ _ hHeld (fun hHeld => ?_)
      clear hK K
      refine norm_ (a' := ?_) ?_ ?_
      rotate_left
      · show Act.put _ (some 44) _ = _
        simp only [Act.put, List.setIfInBounds_toArray, List.set_cons_zero, List.set_cons_succ, i64_w, i32_w]
        rfl
      refine one_ (i := 7) (N := some 48) #[true, true, true, true, true, true, true, true, false] rfl rfl (one_of HT_.out (by kernel_rfl)) (by decide) (fun K hK => ?_)
      refine goes_ Try.func25 (by kernel_rfl) rfl #[.int .u64 (vb.toNat : Int)] (by rfl) rfl rfl (by (try simp only [List.map_toArray, List.map_cons, List.map_nil]); first | done | rfl) ?_
      with_reducible refine (CB.out _).mono ?_
      rintro e w3 ⟨rfl, rfl⟩
      refine ⟨_, rfl, ?_⟩
      refine hK.out _ _ hHeld (fun hHeld => ?_)
      clear hK K
      refine norm_ (a' := ?_) ?_ ?_
      rotate_left
      · show Act.put _ (some 48) _ = _
        simp only [Act.put, List.setIfInBounds_toArray, List.set_cons_zero, List.set_cons_succ, i64_w, i32_w]
        rfl
      refine pure_ (i := 8) (N := some 49) (v := ?_) (a' := ?_) #[true, true, true, true, true, true, true, true, true] rfl rfl (any_of HT_.out (by kernel_rfl)) (fun _ _ _ h => h) (Or.inl ⟨by rfl, ?_⟩) ?_ ?_
      rotate_left
      · intro w'
        go_simp
        with_reducible rfl
      rotate_left
      · simp only [Act.put, List.setIfInBounds_toArray, List.set_cons_zero, List.set_cons_succ, i64_w, i32_w]
        rfl
      refine done_ (done_of HT_.out (by kernel_rfl)) ?_
      go_wp2
      go_roundw
      case rel =>
        have hrel : M1Rel a w g1 g5 g6 (.int .i64 ((N + pa : Nat) : Int)) (.int .i64 ((N + pa : Nat) : Int)) (.int .i64 ((Kk + pc : Nat) : Int)) (.int .i64 ((i : Int) + 1)) wr.drew.drew := ⟨i + 1, by omega, by rw [N1.out], by rw [N1.out], by rw [K1.out], by go_num, hHeld⟩
        first
        | exact hrel
        | (repeat apply Exists.intro
           exact ⟨hrel, rfl⟩)
      case measure => simp [intOf]; omega
    · have e : i = 25 := by omega
      subst e
      have ek : sm (fun j => pop (piS a j)) 25 = sm (fun j => pop (a j)) 25 := pidx_sum (fun j => pop (a j))
      rw [ek]
      obtain ⟨N, hN⟩ : ∃ N, sm (fun j => pop (a j)) 25 = N := ⟨_, rfl⟩
      rw [hN]
      have A1 := Lib.hid hS.1
      have A6 := Lib.hid hS.2.2.1
      have B := Lib.hid hS.2.2.2
      obtain ⟨v0, hv0⟩ : ∃ v, a r = v := ⟨_, rfl⟩
      obtain ⟨z0, hz0⟩ : ∃ v, ~~~ v0 = v := ⟨_, rfl⟩
      obtain ⟨d, hd⟩ : ∃ d, upd a r z0 = d := ⟨_, rfl⟩
      have hnot := not_bv v0
      rw [hz0] at hnot
      have V0 := Lib.hid hv0
      have Z0 := Lib.hid hz0
      have DL := Lib.hid hd
      obtain ⟨c, hc⟩ : ∃ d, piS a = d := ⟨_, rfl⟩
      obtain ⟨x, hx⟩ : ∃ d', piS d = d' := ⟨_, rfl⟩
      have CX := Lib.hid hc
      have XX := Lib.hid hx
      have PX : Hid (∀ W, Calls Try.prog 13 #[.agg (av 25 d)] W fun e w' => e = .returned (.agg (av 25 x)) ∧ Below W.heap.size W w') := Lib.hid (fun W => by rw [← hx]; exact pi_any d W)
      rw [hc] at A6
      have L6 := Lib.hid A6.out.lt
      clear hS ek hN hv0 hz0 hd hc hx hi hlt
      go_wp2_with (first
      | (go_at_call 24; (with_reducible refine (LOW.out _).mono ?_); rintro e w7 ⟨rfl, rfl⟩)
      | ((with_reducible refine gate_dst (N := 52) rfl ?_); refine load_av rfl 23 _ rfl g1 25 23 a _ rfl A1.out Try.underlying23 rfl size23 ?_)
      | ((with_reducible refine gate_dst (N := 11) rfl ?_); refine alloc_av rfl 23 rfl 25 i23 _ I23.out Z23.out rfl ?_; intro g11 w11 hA hB hg hl11; have A6 := Lib.hid (A6.out.below hB); have A11 := Lib.hid hA; have B := Lib.hid (below_step B.out hB); have U11 := Lib.hid (show w.heap.size ≤ g11 ∧ g6 < g11 by have := UP.out; have := L6.out; exact ⟨by omega, by omega⟩); clear hA hB hg hl11)
      | ((with_reducible refine gate_store (t := 23) (p := 11) rfl ?_); refine store_av rfl rfl 23 (.tmp 11) (.tmp 52) rfl g11 25 23 _ a rfl rfl A11.out size23 ?_; intro u11 hA hO hB; have A6 := Lib.hid (hO _ _ _ _ A6.out (by have := U11.out; omega)); have A11 := Lib.hid hA; have B := Lib.hid (hB _ _ B.out U11.out.1); clear hA hO hB; have hc11 := A11.out.cell r hr25; rw [V0.out] at hc11; have hf11 := A11.out.frozen r)
      | ((with_reducible refine gate_dst (N := 59) rfl ?_); have A11 := Lib.hid (show AR (u11.setCell ⟨g11, r, none⟩ (.int .u64 (z0.toNat : Int))) g11 23 25 d by rw [← DL.out]; exact A11.out.set r z0); have A6 := Lib.hid (A6.out.other (by have := U11.out; omega : g6 ≠ g11) r (.int .u64 (z0.toNat : Int))); have B := Lib.hid (show Below w.heap.size w (u11.setCell ⟨g11, r, none⟩ (.int .u64 (z0.toNat : Int))) from B.out.setCell U11.out.1 _); refine load_av rfl 23 _ rfl g11 25 23 d _ rfl A11.out Try.underlying23 rfl size23 ?_)
      | (go_at_call 13; (with_reducible refine (PX.out _).mono ?_); rintro e w8 ⟨rfl, hB⟩; have A6 := Lib.hid (A6.out.below hB); have L6 := Lib.hid A6.out.lt; have B := Lib.hid (below_step B.out hB); clear hB)
      | ((with_reducible refine gate_dst (N := 12) rfl ?_); refine alloc_av rfl 23 rfl 25 i23 _ I23.out Z23.out rfl ?_; intro g12 w12 hA hB hg hl12; have A6 := Lib.hid (A6.out.below hB); have A12 := Lib.hid hA; have B := Lib.hid (below_step B.out hB); have U12 := Lib.hid (show w.heap.size ≤ g12 ∧ g6 < g12 by have := UP.out; have := L6.out; exact ⟨by omega, by omega⟩); clear hA hB hg hl12)
      | ((with_reducible refine gate_store (t := 23) (p := 12) rfl ?_); refine store_av rfl rfl 23 (.tmp 12) (.tmp 60) rfl g12 25 23 _ x rfl rfl A12.out size23 ?_; intro u12 hA hO hB; have A6 := Lib.hid (hO _ _ _ _ A6.out (by have := U12.out; omega)); have A12 := Lib.hid hA; have B := Lib.hid (hB _ _ B.out U12.out.1); clear hA hO hB))
      clear hc11 hf11 A1 A11
      go_loopw [13, 14] (fun y j w' => M2Rel c x r w g6 g12 y j w') (fun _ j _ => (25 - intOf j).toNat)
      case atStart => exact ⟨0, by omega, rfl, rfl, A6.out, A12.out, B.out⟩
      case round =>
        clear A6 A12 B
        obtain ⟨i, hi, rfl, rfl, hA6, hA12, hB⟩ := hrel
        by_cases hlt : i < 25
        · have hpd : decide ((i : Int) < 25) = true := decide_eq_true (by omega)
          have hii : (i : Int) < 25 := by omega
          have cb := cnt_le r i
          have c1 : cnt r (i + 1) = cnt r i + (if pidx i = r then 1 else 0) := rfl
          have hci : c i = a (pidx i) := by rw [← CX.out]; rfl
          have hxi : x i = upd a r z0 (pidx i) := by rw [← XX.out, ← DL.out]; rfl
          unfold upd at hxi
          by_cases hp : pidx i = r
          · rw [if_pos hp] at c1 hxi
            rw [hp, V0.out] at hci
            obtain ⟨Y, hY⟩ : ∃ Y, cnt r i = Y := ⟨_, rfl⟩
            rw [hY] at c1 cb
            rw [hY]
            have hne : ((z0.toNat : Int) != (v0.toNat : Int)) = true := bne_iff_ne.2 fun h => by
              have h2 : z0 = v0 := BitVec.eq_of_toNat_eq (by omega)
              have h3 := Z0.out
              rw [h2] at h3
              have h4 := congrArg (fun q => q.getLsbD 0) h3
              simp [BitVec.getLsbD_not] at h4
            have W1 : IntKind.i64.wrap ((Y : Int) + 1) = ((Y + 1 : Nat) : Int) := by rw [IntWalk.i64_in _ (by omega)]; omega
            have C1 := Lib.hid c1
            have VC := Lib.hid hci
            have VX := Lib.hid hxi
            have HS := Lib.hid (show AR wr.drew g6 23 25 c ∧ AR wr.drew g12 23 25 x ∧ Below w.heap.size w wr.drew from ⟨hA6, hA12, hB.drew⟩)
            clear hA6 hA12 hB cb c1 hci hxi hY hp
            go_wp2_with fail
            refine start_ (n := 7) (S := fun w' => AR w' g6 23 25 c ∧ AR w' g12 23 25 x ∧ Below w.heap.size w w') (ds := []) #[false, false, false, false, false, false, false] (by kernel_rfl) rfl rfl HS.out (fun hHeld => ?_); refine with_tab tab8_17 (fun HT_ => ?_)
            refine pure_ (i := 0) (N := some 65) (v := ?_) (a' := ?_) #[true, false, false, false, false, false, false] rfl rfl (any_of HT_.out (by kernel_rfl)) (fun _ _ _ h => h) (Or.inl ⟨by rfl, ?_⟩) ?_ ?_
            rotate_left
            · intro w'
              go_simp
              with_reducible rfl
            rotate_left
            · simp only [Act.put, List.setIfInBounds_toArray, List.set_cons_zero, List.set_cons_succ, i64_w, i32_w]
              rfl
            refine pure_ (i := 1) (N := some 66) (v := ?_) (a' := ?_) #[true, true, false, false, false, false, false] rfl rfl (any_of HT_.out (by kernel_rfl)) (fun _ _ _ h => h) (Or.inl ⟨by rfl, ?_⟩) ?_ ?_
            rotate_left
            · intro w'
              go_simp
              with_reducible rfl
            rotate_left
            · simp only [Act.put, List.setIfInBounds_toArray, List.set_cons_zero, List.set_cons_succ, i64_w, i32_w]
              rfl
            refine take_ (i := 2) (N := some 67) (v := ?_) (a' := ?_) #[true, true, true, false, false, false, false] rfl rfl (take_of HT_.out (by kernel_rfl)) (fun _ _ _ h => h) (Or.inl ⟨by rfl, ?_⟩) hHeld ?_ ?_
            rotate_left
            · intro w' s0
              have hc := s0.2.1.cell i hlt
              rw [VX.out] at hc
              go_simp
              with_reducible rfl
            rotate_left
            · simp only [Act.put, List.setIfInBounds_toArray, List.set_cons_zero, List.set_cons_succ, i64_w, i32_w]
              rfl
            refine pure_ (i := 3) (N := some 68) (v := ?_) (a' := ?_) #[true, true, true, true, false, false, false] rfl rfl (any_of HT_.out (by kernel_rfl)) (fun _ _ _ h => h) (Or.inl ⟨by rfl, ?_⟩) ?_ ?_
            rotate_left
            · intro w'
              go_simp
              with_reducible rfl
            rotate_left
            · simp only [Act.put, List.setIfInBounds_toArray, List.set_cons_zero, List.set_cons_succ, i64_w, i32_w]
              rfl
            refine pure_ (i := 4) (N := some 69) (v := ?_) (a' := ?_) #[true, true, true, true, true, false, false] rfl rfl (any_of HT_.out (by kernel_rfl)) (fun _ _ _ h => h) (Or.inl ⟨by rfl, ?_⟩) ?_ ?_
            rotate_left
            · intro w'
              go_simp
              with_reducible rfl
            rotate_left
            · simp only [Act.put, List.setIfInBounds_toArray, List.set_cons_zero, List.set_cons_succ, i64_w, i32_w]
              rfl
            refine take_ (i := 5) (N := some 70) (v := ?_) (a' := ?_) #[true, true, true, true, true, true, false] rfl rfl (take_of HT_.out (by kernel_rfl)) (fun _ _ _ h => h) (Or.inl ⟨by rfl, ?_⟩) hHeld ?_ ?_
            rotate_left
            · intro w' s0
              have hc := s0.1.cell i hlt
              rw [VC.out] at hc
              go_simp
              with_reducible rfl
            rotate_left
            · simp only [Act.put, List.setIfInBounds_toArray, List.set_cons_zero, List.set_cons_succ, i64_w, i32_w]
              rfl
            refine pure_ (i := 6) (N := some 71) (v := ?_) (a' := ?_) #[true, true, true, true, true, true, true] rfl rfl (any_of HT_.out (by kernel_rfl)) (fun _ _ _ h => h) (Or.inl ⟨by rfl, ?_⟩) ?_ ?_
            rotate_left
            · intro w'
              go_simp
              with_reducible rfl
            rotate_left
            · simp only [Act.put, List.setIfInBounds_toArray, List.set_cons_zero, List.set_cons_succ, i64_w, i32_w]
              rfl
            refine done_ (done_of HT_.out (by kernel_rfl)) ?_
            go_wp2
            go_roundw
            case rel =>
              have hrel : M2Rel c x r w g6 g12 (.int .i64 ((Y + 1 : Nat) : Int)) (.int .i64 ((i : Int) + 1)) wr.drew := ⟨i + 1, by omega, by rw [C1.out], by go_num, hHeld⟩
              first
              | exact hrel
              | (repeat apply Exists.intro
                 exact ⟨hrel, rfl⟩)
            case measure => simp [intOf]; omega
          · rw [if_neg hp] at c1 hxi
            obtain ⟨Y, hY⟩ : ∃ Y, cnt r i = Y := ⟨_, rfl⟩
            rw [hY] at c1 cb
            rw [hY]
            obtain ⟨v1, hv1⟩ : ∃ v, a (pidx i) = v := ⟨_, rfl⟩
            rw [hv1] at hci hxi
            have C1 := Lib.hid c1
            have VC := Lib.hid hci
            have VX := Lib.hid hxi
            have HS := Lib.hid (show AR wr.drew g6 23 25 c ∧ AR wr.drew g12 23 25 x ∧ Below w.heap.size w wr.drew from ⟨hA6, hA12, hB.drew⟩)
            clear hA6 hA12 hB cb c1 hci hxi hY hp hv1
            go_wp2_with fail
            refine start_ (n := 7) (S := fun w' => AR w' g6 23 25 c ∧ AR w' g12 23 25 x ∧ Below w.heap.size w w') (ds := []) #[false, false, false, false, false, false, false] (by kernel_rfl) rfl rfl HS.out (fun hHeld => ?_); refine with_tab tab8_17 (fun HT_ => ?_)
            refine pure_ (i := 0) (N := some 65) (v := ?_) (a' := ?_) #[true, false, false, false, false, false, false] rfl rfl (any_of HT_.out (by kernel_rfl)) (fun _ _ _ h => h) (Or.inl ⟨by rfl, ?_⟩) ?_ ?_
            rotate_left
            · intro w'
              go_simp
              with_reducible rfl
            rotate_left
            · simp only [Act.put, List.setIfInBounds_toArray, List.set_cons_zero, List.set_cons_succ, i64_w, i32_w]
              rfl
            refine pure_ (i := 1) (N := some 66) (v := ?_) (a' := ?_) #[true, true, false, false, false, false, false] rfl rfl (any_of HT_.out (by kernel_rfl)) (fun _ _ _ h => h) (Or.inl ⟨by rfl, ?_⟩) ?_ ?_
            rotate_left
            · intro w'
              go_simp
              with_reducible rfl
            rotate_left
            · simp only [Act.put, List.setIfInBounds_toArray, List.set_cons_zero, List.set_cons_succ, i64_w, i32_w]
              rfl
            refine take_ (i := 2) (N := some 67) (v := ?_) (a' := ?_) #[true, true, true, false, false, false, false] rfl rfl (take_of HT_.out (by kernel_rfl)) (fun _ _ _ h => h) (Or.inl ⟨by rfl, ?_⟩) hHeld ?_ ?_
            rotate_left
            · intro w' s0
              have hc := s0.2.1.cell i hlt
              rw [VX.out] at hc
              go_simp
              with_reducible rfl
            rotate_left
            · simp only [Act.put, List.setIfInBounds_toArray, List.set_cons_zero, List.set_cons_succ, i64_w, i32_w]
              rfl
            refine pure_ (i := 3) (N := some 68) (v := ?_) (a' := ?_) #[true, true, true, true, false, false, false] rfl rfl (any_of HT_.out (by kernel_rfl)) (fun _ _ _ h => h) (Or.inl ⟨by rfl, ?_⟩) ?_ ?_
            rotate_left
            · intro w'
              go_simp
              with_reducible rfl
            rotate_left
            · simp only [Act.put, List.setIfInBounds_toArray, List.set_cons_zero, List.set_cons_succ, i64_w, i32_w]
              rfl
            refine pure_ (i := 4) (N := some 69) (v := ?_) (a' := ?_) #[true, true, true, true, true, false, false] rfl rfl (any_of HT_.out (by kernel_rfl)) (fun _ _ _ h => h) (Or.inl ⟨by rfl, ?_⟩) ?_ ?_
            rotate_left
            · intro w'
              go_simp
              with_reducible rfl
            rotate_left
            · simp only [Act.put, List.setIfInBounds_toArray, List.set_cons_zero, List.set_cons_succ, i64_w, i32_w]
              rfl
            refine take_ (i := 5) (N := some 70) (v := ?_) (a' := ?_) #[true, true, true, true, true, true, false] rfl rfl (take_of HT_.out (by kernel_rfl)) (fun _ _ _ h => h) (Or.inl ⟨by rfl, ?_⟩) hHeld ?_ ?_
            rotate_left
            · intro w' s0
              have hc := s0.1.cell i hlt
              rw [VC.out] at hc
              go_simp
              with_reducible rfl
            rotate_left
            · simp only [Act.put, List.setIfInBounds_toArray, List.set_cons_zero, List.set_cons_succ, i64_w, i32_w]
              rfl
            refine pure_ (i := 6) (N := some 71) (v := ?_) (a' := ?_) #[true, true, true, true, true, true, true] rfl rfl (any_of HT_.out (by kernel_rfl)) (fun _ _ _ h => h) (Or.inl ⟨by rfl, ?_⟩) ?_ ?_
            rotate_left
            · intro w'
              go_simp
              with_reducible rfl
            rotate_left
            · simp only [Act.put, List.setIfInBounds_toArray, List.set_cons_zero, List.set_cons_succ, i64_w, i32_w]
              rfl
            refine done_ (done_of HT_.out (by kernel_rfl)) ?_
            go_wp2
            go_roundw
            case rel =>
              have hrel : M2Rel c x r w g6 g12 (.int .i64 (Y : Int)) (.int .i64 ((i : Int) + 1)) wr.drew := ⟨i + 1, by omega, by rw [C1.out]; rfl, by go_num, hHeld⟩
              first
              | exact hrel
              | (repeat apply Exists.intro
                 exact ⟨hrel, rfl⟩)
            case measure => simp [intOf]; omega
        · have e : i = 25 := by omega
          subst e
          have ey : ((cnt r 25 : Nat) : Int) = 1 := by rw [cnt_one r hr25]; rfl
          rw [ey]
          have B := Lib.hid hB
          clear hA6 hA12 hB hi hlt ey
          go_wp2_with (go_at_call 21; (with_reducible refine (awake_any _).mono ?_); rintro e w9 ⟨rfl, hB⟩; have B := Lib.hid (below_step B.out hB); clear hB)
          go_ret
          exact ⟨rfl, B.out⟩
end Go.Proofs.Ytooelompkmocnaa.T
