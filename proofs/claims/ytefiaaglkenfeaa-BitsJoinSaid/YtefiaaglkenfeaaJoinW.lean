/- BitsJoin: its walk. -/
import Derived.Test.YtefiaaglkenfeaaSh
namespace Go.Proofs.Ytefiaaglkenfeaa.T
open Go.RowKit Go.Proofs.Ytefiaaglkenfeaa.PBitsTell Go.Proofs.YtefiaaglkenfeaaW.PrintWords Go.Proofs.YtefiaaglkenfeaaW.PrintLast
open Go.Proofs.Ytefiaaglkenfeaa.N Go.Proofs.Ytefiaaglkenfeaa.K
set_option linter.unusedVariables false
set_option linter.unusedSimpArgs false
def TA : Bool × List (List Nat × List Nat) := (true, [([], []), ([], []), ([], []), ([], []), ([3], [3]), ([2, 4], [2, 4]), ([1, 5], [1, 5]), ([6], [6]), ([], []), ([7, 8], [7, 8]), ([], []), ([10], [10]), ([9, 11], [9, 11]), ([12], [12]), ([0, 13, 12], [0, 13]), ([14, 14, 0, 1, 2, 3, 4, 5, 6, 7, 8, 9, 10, 11, 12, 13, 14], [0, 14])])
def BA : List Nat := [0, 0, 0, 0, 8, 28, 62, 126, 0, 510, 0, 1024, 4094, 8190, 16383, 32767]
theorem tabA : rtab .any (opsOf Try.f6 8) = TA := by kernel_rfl
theorem bitsA : waitsOk TA.2 BA = true := by kernel_rfl
def TB : Bool × List (List Nat × List Nat) := (true, [([], []), ([], []), ([], []), ([1, 2], [1, 2]), ([3], [3]), ([], []), ([5], [5]), ([4, 6], [4, 6]), ([7], [7]), ([0, 8, 7], [0, 8]), ([9, 9, 0, 1, 2, 3, 4, 5, 6, 7, 8, 9], [0, 9])])
def BB : List Nat := [0, 0, 0, 6, 14, 0, 32, 126, 254, 511, 1023]
theorem tabB : rtab .any (opsOf Try.f6 12) = TB := by kernel_rfl
theorem bitsB : waitsOk TB.2 BB = true := by kernel_rfl
def jx (d : Nat) (zs : List Int) (n : Nat) : List Int := (List.range n).map fun (j : Nat) => lowS (wrap64 (rd zs ((j : Int) % (zs.length : Int)) + j)) (2 ^ d)
theorem jx_snoc (d : Nat) (zs : List Int) (i : Nat) : jx d zs (i + 1) = jx d zs i ++ [lowS (wrap64 (rd zs ((i : Int) % (zs.length : Int)) + i)) (2 ^ d)] := by
  unfold jx
  rw [List.range_succ, List.map_append]
  rfl
theorem jx_len (d : Nat) (zs : List Int) (n : Nat) : (jx d zs n).length = n := by simp [jx]
theorem jx_ok (d : Nat) (zs : List Int) (n : Nat) : okAll d (jx d zs n) = true := by
  rw [okAll_iff]
  intro x hx
  obtain ⟨y, _, rfl⟩ := List.mem_map.1 hx
  exact lowS_bd _ _ (pow_pos' (by omega) d)
theorem Two.drew {W : World} {base : Nat} {v u : Value} {xs ys : List Int} (h : Two W base v xs u ys) : Two W.drew base v xs u ys := ⟨Kd.R_drew h.1, Kd.R_drew h.2.1, h.2.2⟩
theorem wpList_of_step {P : Program} {ops : Array Oper} {Q : Exit → Act → World → Prop} {a : Act} {W : World} {rest : List Oper} {o : Oper}
    (h : if Region.wanted o (yielded ops a.tmps) = true then Oper.wp P o a W (wpList P ops Q rest) Q else wpList P ops Q rest (a.put o.dst undef) W) : wpList P ops Q (o :: rest) a W := by
  simp only [wpList]
  split at h
  · rename_i hw
    rw [if_pos hw]
    exact .inl h
  · rename_i hw
    rw [if_neg hw]
    exact h
def JRel (d n : Nat) (zs : List Int) (w : World) (v x : Value) (w' : World) : Prop :=
  ∃ i : Nat, i ≤ n ∧ x = .int .i64 i ∧ RI w' w.heap.size v (jx d zs i) ∧ Below w.heap.size w w'
def KRel (d : Nat) (X zs : List Int) (w : World) (v : Value) (u x : Value) (w' : World) : Prop :=
  ∃ i : Nat, i ≤ zs.length ∧ x = .int .i64 i ∧ Two w' w.heap.size v X u (cutTo d (zs.take i)) ∧ Below w.heap.size w w'
theorem keep_apart {W W1 : World} {b1 b2 e1 e2 : Nat} {v u : Value} {xs ys : List Int} {k1 k2 : IntKind} (h1 : Kd.R (Kd.int k1) e1 W b1 (fun _ => True) v xs) (h2 : Kd.R (Kd.int k2) e2 W1 b2 (fun _ => True) u ys) (hle : W.heap.size ≤ b2) : ∀ k, v.ownBlock = some k → some k ≠ u.ownBlock := fun k hk e => by
  have a := (Kd.R_bound h1).1 k hk
  have b := (Kd.R_bound h2).1 k e.symm
  omega
set_option maxHeartbeats 4000000 in
set_option maxRecDepth 20000 in
theorem join_walk (a0 : Int) (a1 : Option Addr) (len1 cap1 : Nat) (z1 : List Int) (a2 : Option Addr) (len2 cap2 : Nat) (z2 : List Int) (a3 : Int) (w : World) (w0 : (Lit.int .i64 a0).wf = true) (w1 : RowIs .i64 w a1 len1 cap1 z1) (y1 : len1 * 8 ≤ 140737488351232) (w2 : RowIs .i64 w a2 len2 cap2 z2) (y2 : len2 * 8 ≤ 140737488351232) (w3 : (Lit.int .i64 a3).wf = true) :
    Calls Try.prog 6 #[.int .i64 a0, .slice a1 len1 cap1, .slice a2 len2 cap2, .int .i64 a3] w fun e w' => e = .returned (.bool true) ∧ Below w.heap.size w w' := by
  obtain ⟨l1, rfl, hr1, hm1, hw1, hc1⟩ := ReadsInt.ofRowC w1
  obtain ⟨l2, rfl, hr2, hm2, hw2, hc2⟩ := ReadsInt.ofRowC w2
  have hC1 := Lib.hid (C_of_row64 hr1)
  have hC2 := Lib.hid (C_of_row64 hr2)
  clear hr1 w1 hw1 w0 w2 hr2 hw2 w3 hm1 hm2 hc1 hc2
  have aw := awake_any
  have AW := Lib.hid aw
  clear aw
  by_cases hg0 : l1.length = 0
  · have hg0' : ((l1.length : Int) == 0) = true := by simp [hg0]
    go_enter Try.func6, Try.ntmps6
    go_wp2_with (go_at_call 8; (with_reducible refine (AW.out _).mono ?_); rintro e w' ⟨rfl, hb⟩)
    go_ret
    exact ⟨rfl, hb⟩
  have hg0' : ((l1.length : Int) == 0) = false := beq_eq_false_iff_ne.2 (by omega)
  by_cases hg1 : 200 < l1.length
  · go_enter Try.func6, Try.ntmps6
    go_wp2_with (go_at_call 8; (with_reducible refine (AW.out _).mono ?_); rintro e w' ⟨rfl, hb⟩)
    go_ret
    exact ⟨rfl, hb⟩
  by_cases hg2 : 60 < l2.length
  · go_enter Try.func6, Try.ntmps6
    go_wp2_with (go_at_call 8; (with_reducible refine (AW.out _).mono ?_); rintro e w' ⟨rfl, hb⟩)
    go_ret
    exact ⟨rfl, hb⟩
  obtain ⟨t, ht⟩ : ∃ t, lowS a0 24 = t := ⟨_, rfl⟩
  have htb := lowS_bd a0 24 (by omega)
  rw [ht] at htb
  obtain ⟨t0, t1⟩ := htb
  have HT := Lib.hid ht
  obtain ⟨y, hy⟩ : ∃ t, lowS a3 9 = t := ⟨_, rfl⟩
  have hyb := lowS_bd a3 9 (by omega)
  rw [hy] at hyb
  obtain ⟨y0, y1⟩ := hyb
  have HY := Lib.hid hy
  clear ht hy
  obtain ⟨d, hd⟩ : ∃ d, (1 + t).toNat = d := ⟨_, rfl⟩
  have hd1 : 1 ≤ d := by omega
  have hd2 : d ≤ 24 := by omega
  obtain ⟨M, hM⟩ : ∃ M : Int, (2 : Int) ^ d = M := ⟨_, rfl⟩
  have hM1 : 1 ≤ M := by rw [← hM]; exact pow_pos' (by omega) d
  have hM2 : M ≤ 16777216 := by rw [← hM]; have := pow_mono hd2; omega
  have HD := Lib.hid hd
  have HM := Lib.hid hM
  have s1 : IntKind.i64.wrap (2 ^ min (1 + t).toNat 64) = M := by rw [hd, Nat.min_eq_left (by omega), hM]; exact wraps_i64 _ (by omega) (by omega)
  have s2 : IntKind.i64.wrap (1 * 2 ^ min (1 + t).toNat 64) = M := by rw [Int.one_mul]; exact s1
  have s3 : IntKind.i64.wrap (2 ^ (1 + t).toNat) = M := by rw [hd, hM]; exact wraps_i64 _ (by omega) (by omega)
  have s4 : IntKind.i64.wrap (1 * 2 ^ (1 + t).toNat) = M := by rw [Int.one_mul]; exact s3
  obtain ⟨N, hN⟩ : ∃ N : Nat, 8 * y = (N : Int) := ⟨(8 * y).toNat, by omega⟩
  have hN2 : N ≤ 64 := by omega
  have HN := Lib.hid hN
  clear hM hd hN
  go_enter Try.func6, Try.ntmps6
  go_wp2_with (first
    | (go_at_call 25; (with_reducible refine (llow_any _ _ _ _ (by omega) (by omega) HT.out).mono ?_); rintro e w' ⟨rfl, ⟨nd, rfl⟩⟩)
    | (go_at_call 25; (with_reducible refine (llow_any _ _ _ _ (by omega) (by omega) HY.out).mono ?_); rintro e w' ⟨rfl, ⟨nd, rfl⟩⟩))
  go_loopw [9, 11] (fun v x w' => JRel d N l1 w v x w') (fun _ x _ => (8 * y - intOf x).toNat)
  case atStart => exact ⟨0, by omega, rfl, Kd.R_nil _ _ _ _ _, pw_below_drewN (Below.refl _ _) _⟩
  case round =>
    obtain ⟨i, hi, rfl, hR, hB⟩ := hrel
    by_cases hlt : (i : Int) < 8 * y
    · obtain ⟨m, hm⟩ : ∃ m, (i : Int) % (l1.length : Int) = m := ⟨_, rfl⟩
      have m0 : 0 ≤ m := by rw [← hm]; exact Int.emod_nonneg _ (by omega)
      have m1 : m < l1.length := by rw [← hm]; exact Int.emod_lt_of_pos _ (by omega)
      have hm2 : Int.tmod (i : Int) (l1.length : Int) = m := by rw [Int.tmod_eq_emod_of_nonneg (by omega)]; exact hm
      obtain ⟨ad, ha, hcell⟩ := Kd.at_int hC1.out m m0 m1
      have hcw := (hB.cell (World.block_lt_of_cell? w _ hcell)).trans hcell
      obtain ⟨s, hs⟩ : ∃ s, wrap64 (rd l1 m + i) = s := ⟨_, rfl⟩
      have hs2 : IntKind.i64.wrap (rd l1 m + i) = s := (i64_w _).trans hs
      obtain ⟨r, hr⟩ : ∃ r, lowS s M = r := ⟨_, rfl⟩
      have HRR := Lib.hid hr
      have hsn := jx_snoc d l1 i
      rw [hm, hs, HM.out, hr] at hsn
      have HSN := Lib.hid hsn
      have HR := Lib.hid hR
      have HB := Lib.hid hB
      have hc0 := Lib.hid hcell
      clear hsn hr hR hB hcell
      subst ha
      go_wp2_with fail
      refine start_ (n := 16) (S := fun w' => w'.cell? (ad.add m.toNat) = some (.int .i64 (rd l1 m))) (ds := []) #[false, false, false, false, false, false, false, false, false, false, false, false, false, false, false, false] (by kernel_rfl) rfl rfl hcw (fun hHeld => ?_); refine with_tabW tabA bitsA (fun HT_ HW_ => ?_)
      have HR2 := Lib.hid (Kd.R_drew HR.out)
      have HB2 := Lib.hid (below_drew1 HB.out)
      clear HR HB hcw
      generalize wr.drew = w2 at HR2 HB2 hHeld ⊢
      refine pure_ (i := 0) (N := some 41) (v := ?_) (a' := ?_) #[true, false, false, false, false, false, false, false, false, false, false, false, false, false, false, false] rfl rfl (any_of HT_.out (by kernel_rfl)) (fun _ _ _ h => h) (Or.inl ⟨by rfl, ?_⟩) ?_ ?_
      rotate_left
      · intro w'
        go_simp
        with_reducible rfl
      rotate_left
      · simp only [Act.put, List.setIfInBounds_toArray, List.set_cons_zero, List.set_cons_succ, i64_w, i32_w]
        rfl
      refine pure_ (i := 1) (N := some 42) (v := ?_) (a' := ?_) #[true, true, false, false, false, false, false, false, false, false, false, false, false, false, false, false] rfl rfl (any_of HT_.out (by kernel_rfl)) (fun _ _ _ h => h) (Or.inl ⟨by rfl, ?_⟩) ?_ ?_
      rotate_left
      · intro w'
        go_simp
        with_reducible rfl
      rotate_left
      · simp only [Act.put, List.setIfInBounds_toArray, List.set_cons_zero, List.set_cons_succ, i64_w, i32_w]
        rfl
      refine pure_ (i := 2) (N := some 43) (v := ?_) (a' := ?_) #[true, true, true, false, false, false, false, false, false, false, false, false, false, false, false, false] rfl rfl (any_of HT_.out (by kernel_rfl)) (fun _ _ _ h => h) (Or.inl ⟨by rfl, ?_⟩) ?_ ?_
      rotate_left
      · intro w'
        go_simp
        with_reducible rfl
      rotate_left
      · simp only [Act.put, List.setIfInBounds_toArray, List.set_cons_zero, List.set_cons_succ, i64_w, i32_w]
        rfl
      refine pure_ (i := 3) (N := some 44) (v := ?_) (a' := ?_) #[true, true, true, true, false, false, false, false, false, false, false, false, false, false, false, false] rfl rfl (any_of HT_.out (by kernel_rfl)) (fun _ _ _ h => h) (Or.inl ⟨by rfl, ?_⟩) ?_ ?_
      rotate_left
      · intro w'
        go_simp
        with_reducible rfl
      rotate_left
      · simp only [Act.put, List.setIfInBounds_toArray, List.set_cons_zero, List.set_cons_succ, i64_w, i32_w]
        rfl
      refine pure_ (i := 4) (N := some 45) (v := ?_) (a' := ?_) #[true, true, true, true, true, false, false, false, false, false, false, false, false, false, false, false] rfl rfl (any_of HT_.out (by kernel_rfl)) (fun _ _ _ h => h) (Or.inl ⟨by rfl, ?_⟩) ?_ ?_
      rotate_left
      · intro w'
        go_simp
        with_reducible rfl
      rotate_left
      · simp only [Act.put, List.setIfInBounds_toArray, List.set_cons_zero, List.set_cons_succ, i64_w, i32_w]
        rfl
      refine pure_ (i := 5) (N := some 46) (v := ?_) (a' := ?_) #[true, true, true, true, true, true, false, false, false, false, false, false, false, false, false, false] rfl rfl (any_of HT_.out (by kernel_rfl)) (fun _ _ _ h => h) (Or.inl ⟨by rfl, ?_⟩) ?_ ?_
      rotate_left
      · intro w'
        go_simp
        with_reducible rfl
      rotate_left
      · simp only [Act.put, List.setIfInBounds_toArray, List.set_cons_zero, List.set_cons_succ, i64_w, i32_w]
        rfl
      refine pure_ (i := 6) (N := some 47) (v := ?_) (a' := ?_) #[true, true, true, true, true, true, true, false, false, false, false, false, false, false, false, false] rfl rfl (any_of HT_.out (by kernel_rfl)) (fun _ _ _ h => h) (Or.inl ⟨by rfl, ?_⟩) ?_ ?_
      rotate_left
      · intro w'
        go_simp
        with_reducible rfl
      rotate_left
      · simp only [Act.put, List.setIfInBounds_toArray, List.set_cons_zero, List.set_cons_succ, i64_w, i32_w]
        rfl
      refine pure_ (i := 8) (N := some 49) (v := ?_) (a' := ?_) #[true, true, true, true, true, true, true, false, true, false, false, false, false, false, false, false] rfl rfl (any_of HT_.out (by kernel_rfl)) (fun _ _ _ h => h) (Or.inl ⟨by rfl, ?_⟩) ?_ ?_
      rotate_left
      · intro w'
        go_simp
        with_reducible rfl
      rotate_left
      · simp only [Act.put, List.setIfInBounds_toArray, List.set_cons_zero, List.set_cons_succ, i64_w, i32_w]
        rfl
      refine pure_ (i := 10) (N := some 51) (v := ?_) (a' := ?_) #[true, true, true, true, true, true, true, false, true, false, true, false, false, false, false, false] rfl rfl (any_of HT_.out (by kernel_rfl)) (fun _ _ _ h => h) (Or.inl ⟨by rfl, ?_⟩) ?_ ?_
      rotate_left
      · intro w'
        go_simp
        with_reducible rfl
      rotate_left
      · simp only [Act.put, List.setIfInBounds_toArray, List.set_cons_zero, List.set_cons_succ, i64_w, i32_w]
        rfl
      refine pure_ (i := 11) (N := some 52) (v := ?_) (a' := ?_) #[true, true, true, true, true, true, true, false, true, false, true, true, false, false, false, false] rfl rfl (any_of HT_.out (by kernel_rfl)) (fun _ _ _ h => h) (Or.inl ⟨by rfl, ?_⟩) ?_ ?_
      rotate_left
      · intro w'
        go_simp
        with_reducible rfl
      rotate_left
      · simp only [Act.put, List.setIfInBounds_toArray, List.set_cons_zero, List.set_cons_succ, i64_w, i32_w]
        rfl
      refine take_ (i := 7) (N := some 48) (v := ?_) (a' := ?_) #[true, true, true, true, true, true, true, true, true, false, true, true, false, false, false, false] rfl rfl (take_ofW HT_.out HW_.out (by kernel_rfl)) (fun _ _ _ h => h) (Or.inl ⟨by rfl, ?_⟩) hHeld ?_ ?_
      rotate_left
      · intro w' s0
        go_simp
        with_reducible rfl
      rotate_left
      · simp only [Act.put, List.setIfInBounds_toArray, List.set_cons_zero, List.set_cons_succ, i64_w, i32_w]
        rfl
      refine pure_ (i := 9) (N := some 50) (v := ?_) (a' := ?_) #[true, true, true, true, true, true, true, true, true, true, true, true, false, false, false, false] rfl rfl (any_of HT_.out (by kernel_rfl)) (fun _ _ _ h => h) (Or.inl ⟨by rfl, ?_⟩) ?_ ?_
      rotate_left
      · intro w'
        go_simp
        with_reducible rfl
      rotate_left
      · simp only [Act.put, List.setIfInBounds_toArray, List.set_cons_zero, List.set_cons_succ, i64_w, i32_w]
        rfl
      refine one_ (i := 12) (N := some 53) #[true, true, true, true, true, true, true, true, true, true, true, true, true, false, false, false] rfl rfl (one_of HT_.out (by kernel_rfl)) (by decide) (fun K hK => ?_)
      refine goes_ Try.func25 (by kernel_rfl) rfl #[.int .i64 s, .int .i64 M] (by rfl) rfl rfl (by (try simp only [List.map_toArray, List.map_cons, List.map_nil]); first | done | rfl) ?_
      with_reducible refine (llow_any _ _ r _ (by omega) (by omega) (by rw [HRR.out])).mono ?_
      rintro e w' ⟨rfl, ⟨nd, rfl⟩⟩
      refine ⟨_, rfl, ?_⟩
      refine hK.out _ _ hHeld (fun hHeld => ?_)
      clear hK K
      refine norm_ (a' := ?_) ?_ ?_
      rotate_left
      · show Act.put _ (some 53) _ = _
        simp only [Act.put, List.setIfInBounds_toArray, List.set_cons_zero, List.set_cons_succ, i64_w, i32_w]
        rfl
      refine one_ (i := 13) (N := some 54) #[true, true, true, true, true, true, true, true, true, true, true, true, true, true, false, false] rfl rfl (one_of HT_.out (by kernel_rfl)) (by decide) (fun K hK => ?_)
      refine value_ (w1 := ?_) (v := ?_) (by rfl) rfl ?_ ?_
      rotate_left 2
      · go_simp
        constructor
        · rfl
        · rfl
      refine hK.out _ _ ((World.cell?_alloc_lt _ _ _ (World.block_lt_of_cell? _ _ hHeld)).trans hHeld) (fun hHeld => ?_)
      clear hK K
      refine norm_ (a' := ?_) ?_ ?_
      rotate_left
      · show Act.put _ (some 54) _ = _
        simp only [Act.put, List.setIfInBounds_toArray, List.set_cons_zero, List.set_cons_succ, i64_w, i32_w]
        rfl
      refine one_ (i := 14) (N := some 55) #[true, true, true, true, true, true, true, true, true, true, true, true, true, true, true, false] rfl rfl (one_of HT_.out (by kernel_rfl)) (by decide) (fun K hK => ?_)
      refine Kd.R_append_step (Kd.int .i64) (w0 := w) w.heap.size (by rfl) (.tmp 41) (.tmp 54) 22 3 (.int .i64 0) 8 rfl Try.underlying22 info3 rfl (by decide) (by omega) u9 (jx d l1 i) r [.int .i64 r] (fun _ => True) (fun _ => False) rfl rfl ?aP (fun _ hk => hk.elim) ?aF ?aO ?aB ?aS ?aL ?_
      (case aP => exact rfl)
      (case aB => exact (pw_below_drewN HB2.out nd))
      (case aF => exact (fun _ _ => trivial))
      (case aO => exact (Kd.R_drewN HR2.out nd))
      (case aS => exact (below_size (pw_below_drewN HB2.out nd)))
      (case aL => rw [jx_len]; omega)
      intro v2 w3 ho hb hg hat
      rw [← HSN.out] at ho
      have HR3 := Lib.hid ho
      have HB3 := Lib.hid hb
      clear ho hb hg hat HR2 HB2
      refine hK.out _ _ (heldB HB3.out hc0.out) (fun hHeld => ?_)
      clear hK K
      refine norm_ (a' := ?_) ?_ ?_
      rotate_left
      · show Act.put _ (some 55) _ = _
        simp only [Act.put, List.setIfInBounds_toArray, List.set_cons_zero, List.set_cons_succ, i64_w, i32_w]
        rfl
      refine pure_ (i := 15) (N := some 9) (v := ?_) (a' := ?_) #[true, true, true, true, true, true, true, true, true, true, true, true, true, true, true, true] rfl rfl (any_of HT_.out (by kernel_rfl)) (fun _ _ _ h => h) (Or.inl ⟨by rfl, ?_⟩) ?_ ?_
      rotate_left
      · intro w'
        go_simp
        with_reducible rfl
      rotate_left
      · simp only [Act.put, List.setIfInBounds_toArray, List.set_cons_zero, List.set_cons_succ, i64_w, i32_w]
        rfl
      refine done_ (done_of HT_.out (by kernel_rfl)) ?_
      go_wp2
      go_roundw
      case rel => exact ⟨i + 1, by have := HN.out; omega, by go_num, HR3.out, HB3.out⟩
      case measure => simp [intOf]; omega
    · have e : i = N := by have := HN.out; omega
      subst e
      obtain ⟨X, hX⟩ : ∃ X, jx d l1 i = X := ⟨_, rfl⟩
      have hXl : X.length = i := by rw [← hX, jx_len]
      have hXok : okAll d X = true := by rw [← hX]; exact jx_ok d l1 i
      rw [hX] at hR
      have HXL := Lib.hid hXl
      have hXn : X.length ≤ 64 := by omega
      have HXOK := Lib.hid hXok
      have HR := Lib.hid hR
      have HB := Lib.hid hB
      clear hX hXl hXok hR hB hi
      go_wp2
      go_loopw [10, 12] (fun u x w' => KRel d X l2 w u9 u x w') (fun _ x _ => (l2.length - intOf x).toNat)
      case atStart => exact ⟨0, by omega, rfl, ⟨HR.out, Kd.R_nil _ _ _ _ _, fun k hk e => by simp [Value.ownBlock] at e⟩, HB.out⟩
      case round =>
        clear HR HB
        obtain ⟨i', hi, rfl, hR, hB⟩ := hrel
        by_cases hlt2 : i' < l2.length
        · obtain ⟨ad, ha, hcell⟩ := Kd.at_int hC2.out i' (by omega) (by omega)
          rw [Int.toNat_natCast] at hcell
          have hcw := (hB.cell (World.block_lt_of_cell? w _ hcell)).trans hcell
          obtain ⟨r, hr⟩ : ∃ r, lowS (rd l2 i') M = r := ⟨_, rfl⟩
          have HRR := Lib.hid hr
          have hsn := cutTo_snoc d l2 i' hlt2
          rw [HM.out, hr] at hsn
          have HSN := Lib.hid hsn
          have HR := Lib.hid hR
          have HB := Lib.hid hB
          have hc0 := Lib.hid hcell
          clear hsn hr hR hB hcell
          subst ha
          go_wp2_with fail
          refine start_ (n := 11) (S := fun w' => w'.cell? (ad.add i') = some (.int .i64 (rd l2 i'))) (ds := []) #[false, false, false, false, false, false, false, false, false, false, false] (by kernel_rfl) rfl rfl hcw (fun hHeld => ?_); refine with_tabW tabB bitsB (fun HT_ HW_ => ?_)
          have HR2 := Lib.hid HR.out.drew
          have HB2 := Lib.hid (below_drew1 HB.out)
          clear HR HB hcw
          generalize wr.drew = w2 at HR2 HB2 hHeld ⊢
          refine pure_ (i := 0) (N := some 62) (v := ?_) (a' := ?_) #[true, false, false, false, false, false, false, false, false, false, false] rfl rfl (any_of HT_.out (by kernel_rfl)) (fun _ _ _ h => h) (Or.inl ⟨by rfl, ?_⟩) ?_ ?_
          rotate_left
          · intro w'
            go_simp
            with_reducible rfl
          rotate_left
          · simp only [Act.put, List.setIfInBounds_toArray, List.set_cons_zero, List.set_cons_succ, i64_w, i32_w]
            rfl
          refine pure_ (i := 1) (N := some 63) (v := ?_) (a' := ?_) #[true, true, false, false, false, false, false, false, false, false, false] rfl rfl (any_of HT_.out (by kernel_rfl)) (fun _ _ _ h => h) (Or.inl ⟨by rfl, ?_⟩) ?_ ?_
          rotate_left
          · intro w'
            go_simp
            with_reducible rfl
          rotate_left
          · simp only [Act.put, List.setIfInBounds_toArray, List.set_cons_zero, List.set_cons_succ, i64_w, i32_w]
            rfl
          refine pure_ (i := 2) (N := some 64) (v := ?_) (a' := ?_) #[true, true, true, false, false, false, false, false, false, false, false] rfl rfl (any_of HT_.out (by kernel_rfl)) (fun _ _ _ h => h) (Or.inl ⟨by rfl, ?_⟩) ?_ ?_
          rotate_left
          · intro w'
            go_simp
            with_reducible rfl
          rotate_left
          · simp only [Act.put, List.setIfInBounds_toArray, List.set_cons_zero, List.set_cons_succ, i64_w, i32_w]
            rfl
          refine pure_ (i := 3) (N := some 65) (v := ?_) (a' := ?_) #[true, true, true, true, false, false, false, false, false, false, false] rfl rfl (any_of HT_.out (by kernel_rfl)) (fun _ _ _ h => h) (Or.inl ⟨by rfl, ?_⟩) ?_ ?_
          rotate_left
          · intro w'
            go_simp
            with_reducible rfl
          rotate_left
          · simp only [Act.put, List.setIfInBounds_toArray, List.set_cons_zero, List.set_cons_succ, i64_w, i32_w]
            rfl
          refine pure_ (i := 5) (N := some 67) (v := ?_) (a' := ?_) #[true, true, true, true, false, true, false, false, false, false, false] rfl rfl (any_of HT_.out (by kernel_rfl)) (fun _ _ _ h => h) (Or.inl ⟨by rfl, ?_⟩) ?_ ?_
          rotate_left
          · intro w'
            go_simp
            with_reducible rfl
          rotate_left
          · simp only [Act.put, List.setIfInBounds_toArray, List.set_cons_zero, List.set_cons_succ, i64_w, i32_w]
            rfl
          refine pure_ (i := 6) (N := some 68) (v := ?_) (a' := ?_) #[true, true, true, true, false, true, true, false, false, false, false] rfl rfl (any_of HT_.out (by kernel_rfl)) (fun _ _ _ h => h) (Or.inl ⟨by rfl, ?_⟩) ?_ ?_
          rotate_left
          · intro w'
            go_simp
            with_reducible rfl
          rotate_left
          · simp only [Act.put, List.setIfInBounds_toArray, List.set_cons_zero, List.set_cons_succ, i64_w, i32_w]
            rfl
          refine take_ (i := 4) (N := some 66) (v := ?_) (a' := ?_) #[true, true, true, true, true, true, true, false, false, false, false] rfl rfl (take_ofW HT_.out HW_.out (by kernel_rfl)) (fun _ _ _ h => h) (Or.inl ⟨by rfl, ?_⟩) hHeld ?_ ?_
          rotate_left
          · intro w' s0
            go_simp
            with_reducible rfl
          rotate_left
          · simp only [Act.put, List.setIfInBounds_toArray, List.set_cons_zero, List.set_cons_succ, i64_w, i32_w]
            rfl
          refine one_ (i := 7) (N := some 69) #[true, true, true, true, true, true, true, true, false, false, false] rfl rfl (one_of HT_.out (by kernel_rfl)) (by decide) (fun K hK => ?_)
          refine goes_ Try.func25 (by kernel_rfl) rfl #[.int .i64 (rd l2 i'), .int .i64 M] (by rfl) rfl rfl (by (try simp only [List.map_toArray, List.map_cons, List.map_nil]); first | done | rfl) ?_
          with_reducible refine (llow_any _ _ r _ (by omega) (by omega) (by rw [HRR.out])).mono ?_
          rintro e w' ⟨rfl, ⟨nd, rfl⟩⟩
          refine ⟨_, rfl, ?_⟩
          refine hK.out _ _ hHeld (fun hHeld => ?_)
          clear hK K
          refine norm_ (a' := ?_) ?_ ?_
          rotate_left
          · show Act.put _ (some 69) _ = _
            simp only [Act.put, List.setIfInBounds_toArray, List.set_cons_zero, List.set_cons_succ, i64_w, i32_w]
            rfl
          refine one_ (i := 8) (N := some 70) #[true, true, true, true, true, true, true, true, true, false, false] rfl rfl (one_of HT_.out (by kernel_rfl)) (by decide) (fun K hK => ?_)
          refine value_ (w1 := ?_) (v := ?_) (by rfl) rfl ?_ ?_
          rotate_left 2
          · go_simp
            constructor
            · rfl
            · rfl
          refine hK.out _ _ ((World.cell?_alloc_lt _ _ _ (World.block_lt_of_cell? _ _ hHeld)).trans hHeld) (fun hHeld => ?_)
          clear hK K
          refine norm_ (a' := ?_) ?_ ?_
          rotate_left
          · show Act.put _ (some 70) _ = _
            simp only [Act.put, List.setIfInBounds_toArray, List.set_cons_zero, List.set_cons_succ, i64_w, i32_w]
            rfl
          refine one_ (i := 9) (N := some 71) #[true, true, true, true, true, true, true, true, true, true, false] rfl rfl (one_of HT_.out (by kernel_rfl)) (by decide) (fun K hK => ?_)
          refine Kd.R_append_step (Kd.int .i64) (w0 := w) w.heap.size (by rfl) (.tmp 62) (.tmp 70) 22 3 (.int .i64 0) 8 rfl Try.underlying22 info3 rfl (by decide) (by omega) u10 (cutTo d (l2.take i')) r [.int .i64 r] (fun _ => True) (fun _ => False) rfl rfl ?aP (fun _ hk => hk.elim) ?aF ?aO ?aB ?aS ?aL ?_
          (case aP => exact rfl)
          (case aB => exact (pw_below_drewN HB2.out nd))
          (case aF => exact (fun _ _ => trivial))
          (case aO => exact (HR2.out.drewN nd).2.1)
          (case aS => exact (below_size (pw_below_drewN HB2.out nd)))
          (case aL => rw [cutTo_len, List.length_take]; omega)
          intro v2 w3 ho hb hg hat
          rw [← HSN.out] at ho
          have HR3 := Lib.hid ((HR2.out.drewN nd).swap.left ho hg hat).swap
          have HB3 := Lib.hid hb
          clear ho hb hg hat HR2 HB2
          refine hK.out _ _ (heldB HB3.out hc0.out) (fun hHeld => ?_)
          clear hK K
          refine norm_ (a' := ?_) ?_ ?_
          rotate_left
          · show Act.put _ (some 71) _ = _
            simp only [Act.put, List.setIfInBounds_toArray, List.set_cons_zero, List.set_cons_succ, i64_w, i32_w]
            rfl
          refine pure_ (i := 10) (N := some 10) (v := ?_) (a' := ?_) #[true, true, true, true, true, true, true, true, true, true, true] rfl rfl (any_of HT_.out (by kernel_rfl)) (fun _ _ _ h => h) (Or.inl ⟨by rfl, ?_⟩) ?_ ?_
          rotate_left
          · intro w'
            go_simp
            with_reducible rfl
          rotate_left
          · simp only [Act.put, List.setIfInBounds_toArray, List.set_cons_zero, List.set_cons_succ, i64_w, i32_w]
            rfl
          refine done_ (done_of HT_.out (by kernel_rfl)) ?_
          go_wp2
          go_roundw
          case rel => exact ⟨i' + 1, by omega, by go_num, HR3.out, HB3.out⟩
          case measure => simp [intOf]; omega
        · have e : i' = l2.length := by omega
          subst e
          rw [List.take_length] at hR
          obtain ⟨Y, hY⟩ : ∃ Y, cutTo d l2 = Y := ⟨_, rfl⟩
          have hYl : Y.length = l2.length := by rw [← hY, cutTo_len]
          have hYok : okAll d Y = true := by rw [← hY]; exact cutTo_ok d l2
          rw [hY] at hR
          obtain ⟨A, c, hv⟩ := Kd.R_slice hR.1
          subst hv
          obtain ⟨A', c', hv⟩ := Kd.R_slice hR.2.1
          subst hv
          obtain ⟨_, hcA, hCX⟩ := Kd.R_reads' hR.1
          obtain ⟨_, hcA', hCY⟩ := Kd.R_reads' hR.2.1
          obtain ⟨p, hp⟩ : ∃ p, packS d X = p := ⟨_, rfl⟩
          obtain ⟨q, hq⟩ : ∃ q, packS d Y = q := ⟨_, rfl⟩
          have hXi : X.length = 8 * y.toNat := by have := HXL.out; have := HN.out; omega
          obtain ⟨hj, hjl⟩ := pack_join d y.toNat X Y HXOK.out hYok hXi
          rw [hp, hq] at hj
          rw [hp] at hjl
          have hpn : p.length ≤ 24 * 8 := by rw [hjl]; exact Nat.mul_le_mul hd2 (by omega)
          have hqn : q.length ≤ 181 := by
            rw [← hq, pack_len d Y hYok]
            have : d * Y.length ≤ 24 * 60 := Nat.mul_le_mul hd2 (by omega)
            omega
          have hYn : Y.length ≤ 60 := by omega
          have m0 : 0 ≤ (1 + t) * y := Int.mul_nonneg (by omega) (by omega)
          have m1 : (1 + t) * y ≤ 24 * 8 := Int.mul_le_mul (by omega) (by omega) (by omega) (by omega)
          have t1' : ((p.length : Int) == (1 + t) * y) = true := by
            rw [beq_iff_eq, hjl]
            have e3 : (1 + t) = (d : Int) := by have := HD.out; omega
            rw [e3]
            obtain ⟨y', rfl⟩ := Int.eq_ofNat_of_zero_le y0
            simp
          have HP := Lib.hid (show packS (1 + t).toNat X = p by rw [HD.out]; exact hp)
          have HQ := Lib.hid (show packS (1 + t).toNat Y = q by rw [HD.out]; exact hq)
          have HJ := Lib.hid (show packS (1 + t).toNat (X ++ Y) = p ++ q by rw [HD.out]; exact hj)
          have HB := Lib.hid hB
          have HCX := Lib.hid hCX
          have HCY := Lib.hid hCY
          have hcA := Lib.hid hcA
          have hcA' := Lib.hid hcA'
          clear hY hYl hYok hp hq hXi hj hjl hB hCX hCY hR hlt2 hlt hi
          go_wp2_with fail
          (with_reducible refine (pack_any _ _ _ _ X p _ (by omega) (by omega) HCX.out rfl hcA.out (by omega) HP.out).mono ?_)
          rintro e w9 ⟨v9, rfl, hRp, hBp⟩
          obtain ⟨A9, c9, hv⟩ := Kd.R_slice hRp
          subst hv
          obtain ⟨_, hc9, hCp⟩ := Kd.R_reads' hRp
          have HRp := Lib.hid hRp
          have HBp := Lib.hid hBp
          have hc9 := Lib.hid hc9
          clear hRp hBp hCp
          go_wp2_with fail
          (with_reducible refine (pack_any _ _ _ _ Y q _ (by omega) (by omega) (Kd.C_below HCY.out HBp.out) rfl hcA'.out (by omega) HQ.out).mono ?_)
          rintro e w10 ⟨v10, rfl, hRq, hBq⟩
          obtain ⟨A10, c10, hv⟩ := Kd.R_slice hRq
          subst hv
          obtain ⟨_, hc10, hCq⟩ := Kd.R_reads' hRq
          have HC9 := Lib.hid (Kd.C_below (Kd.C_below HCX.out HBp.out) hBq)
          have HC10 := Lib.hid (Kd.C_below (Kd.C_below HCY.out HBp.out) hBq)
          have HRp1 := Lib.hid (Kd.R_below HRp.out hBq)
          have HB10 := Lib.hid (below_step (below_step HB.out HBp.out) hBq)
          have HBW := Lib.hid (show w.heap.size ≤ wr.heap.size from HB.out.size)
          have HSZ := Lib.hid (show w9.heap.size ≤ w10.heap.size from hBq.size)
          have HCq := Lib.hid hCq
          have hc10 := Lib.hid hc10
          clear hRq hBq hCq HB HBp HCX HCY
          go_wp2_with (first
            | (at_builtin; refine Kd.R_append_rows (Kd.int .i64) (Rr := fun x cs => cs = [Value.int .i64 x]) (w0 := w10) w10.heap.size rfl (.const (.slice none 0 0)) (.tmp 79) 22 3 (.int .i64 0) 8 rfl Try.underlying22 info3 rfl (by decide) (by omega) (.slice none 0 0) [] X A X.length c (fun _ => True) (fun _ => False) rfl rfl ?aO ?aR (fun _ _ h => h) (fun _ hk => hk.elim) (fun _ _ => trivial) ?aB ?aS ?aL ?_; (case aB => exact (Below.refl _ _)); (case aO => exact (Kd.R_nil _ _ _ _ _)); (case aR => exact HC9.out); (case aS => exact Nat.le_refl _); (case aL => simp only [List.length_nil]; omega); intro v1 w11 ho hb hg hat; rw [List.nil_append] at ho; have HR11 := Lib.hid ho; have HB11 := Lib.hid hb; have HC10' := Lib.hid (Kd.C_below HC10.out hb); clear ho hb hg hat)
            | ((with_reducible refine gate_builtin (b := .append) (xs := #[.tmp 80, .tmp 81]) rfl ?_); at_builtin; refine Kd.R_append_rows (Kd.int .i64) (Rr := fun x cs => cs = [Value.int .i64 x]) (w0 := w10) w10.heap.size rfl (.tmp 80) (.tmp 81) 22 3 (.int .i64 0) 8 rfl Try.underlying22 info3 rfl (by decide) (by omega) v1 X Y A' Y.length c' (fun _ => True) (fun _ => False) rfl rfl ?aO ?aR (fun _ _ h => h) (fun _ hk => hk.elim) (fun _ _ => trivial) ?aB ?aS ?aL ?_; (case aB => exact HB11.out); (case aO => exact HR11.out); (case aR => exact HC10'.out); (case aS => exact (HB11.out).size); (case aL => omega); intro v2 w12 ho hb hg hat; have HR12 := Lib.hid ho; have HB12 := Lib.hid hb; clear ho hb hg hat HR11 HB11))
          obtain ⟨A12, c12, hv⟩ := Kd.R_slice HR12.out
          subst hv
          obtain ⟨_, hc12, hCJ⟩ := Kd.R_reads' HR12.out
          have hlj : (X ++ Y).length = X.length + Y.length := List.length_append
          have HLJ := Lib.hid hlj
          have HCJ := Lib.hid hCJ
          have hc12 := Lib.hid hc12
          clear hCJ hlj
          (with_reducible refine (pack_any _ _ _ _ (X ++ Y) (p ++ q) _ (by omega) (by omega) HCJ.out (by first | rfl | exact HLJ.out.symm) (by have := hc12.out; have := HLJ.out; omega) (by have := HLJ.out; omega) HJ.out).mono ?_)
          rintro e w13 ⟨v13, rfl, hRr, hBr⟩
          obtain ⟨A13, c13, hv⟩ := Kd.R_slice hRr
          subst hv
          have HB13 := Lib.hid (below_step (below_step HB10.out HB12.out) hBr)
          have HRp2 := Lib.hid (Kd.R_lower (Kd.R_below (Kd.R_below HRp1.out HB12.out) hBr) HBW.out)
          have HCq2 := Lib.hid (Kd.C_below (Kd.C_below HCq.out HB12.out) hBr)
          have HRr2 := Lib.hid hRr
          have HAP := Lib.hid (keep_apart HRp.out hRr (Nat.le_trans HSZ.out HB12.out.size))
          clear hRr hBr HR12 HCJ
          go_wp2_with (first
            | ((with_reducible refine gate_builtin (b := .append) (xs := #[.tmp 91, .tmp 92]) rfl ?_); at_builtin; refine wpList_of_step ?_; refine Kd.R_append_rows_step (Kd.int .u8) (Rr := fun x cs => cs = [Value.int .u8 x]) (w0 := w) w.heap.size (by rfl) (.tmp 91) (.tmp 92) 23 5 (.int .u8 0) 1 rfl Try.underlying23 info5 rfl (by decide) (by omega) (.slice A9 p.length c9) p q A10 q.length c10 (fun _ => True) (fun _ => False) rfl rfl ?aO ?aR (fun _ _ h => h) (fun _ hk => hk.elim) (fun _ _ => trivial) ?aB ?aS ?aL ?_; (case aB => exact HB13.out); (case aO => exact HRp2.out); (case aR => exact HCq2.out); (case aS => exact (HB13.out).size); (case aL => omega); intro v3 w14 ho hb hg hat; have HR14 := Lib.hid ho; have HB14 := Lib.hid hb; have HRr3 := Lib.hid (Kd.R_grown2 HRr2.out rfl hg HAP.out); clear ho hb hg hat))
          obtain ⟨A14, c14, hv⟩ := Kd.R_slice HR14.out
          subst hv
          obtain ⟨_, hc14, hC14⟩ := Kd.R_reads' HR14.out
          obtain ⟨_, hc13, hC13⟩ := Kd.R_reads' HRr3.out
          have HB14 := HB14
          have HLP := Lib.hid (show (p ++ q).length = p.length + q.length from List.length_append)
          have hC14 := Lib.hid hC14
          have hC13 := Lib.hid hC13
          have hc14 := Lib.hid hc14
          have hc13 := Lib.hid hc13
          (with_reducible refine (sameB_any _ _ _ _ _ _ (p ++ q) (p ++ q) _ hC14.out hC13.out (by first | rfl | exact HLP.out.symm) (by first | rfl | exact HLP.out.symm) (by have := hc14.out; have := HLP.out; omega) (by have := hc13.out; have := HLP.out; omega) (by have := HLP.out; omega) rfl).mono ?_)
          rintro e w' ⟨rfl, ⟨nd2, rfl⟩⟩
          go_wp2_with (go_at_call 8; (with_reducible refine (AW.out _).mono ?_); rintro e w' ⟨rfl, hb⟩)
          go_ret
          exact ⟨rfl, below_step (pw_below_drewN HB14.out nd2) hb⟩
end Go.Proofs.Ytefiaaglkenfeaa.T
