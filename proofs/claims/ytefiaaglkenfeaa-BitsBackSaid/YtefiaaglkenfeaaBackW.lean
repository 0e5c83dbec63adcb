/- BitsBack: its walk. -/
import Derived.Test.YtefiaaglkenfeaaCo
import Derived.StillTailTactics
namespace Go.Proofs.Ytefiaaglkenfeaa.T
open Go.RowKit Go.Proofs.Ytefiaaglkenfeaa.PBitsTell Go.Proofs.YtefiaaglkenfeaaW.PrintWords Go.Proofs.YtefiaaglkenfeaaW.PrintLast
open Go.Proofs.Ytefiaaglkenfeaa.N Go.Proofs.Ytefiaaglkenfeaa.K
set_option linter.unusedVariables false
set_option linter.unusedSimpArgs false
def RowIs (k : IntKind) (w : World) (a : Option Addr) (len cap : Nat) (zs : List Int) : Prop :=
  (a = none ∧ len = 0 ∧ cap = 0 ∧ zs = []) ∨
  ∃ x, a = some x ∧ len ≤ cap ∧ cap ≤ maxLen ∧ zs.length = cap ∧ (∀ i, i < zs.length → w.cell? (x.add i) = some (.int k (zs.getD i 0))) ∧ ∀ n ∈ zs, (Lit.int k n).wf = true
/-- numbers cut to a width. -/
def cutTo (d : Nat) (zs : List Int) : List Int := zs.map fun n => lowS n (2 ^ d)
theorem cutTo_snoc (d : Nat) (zs : List Int) (i : Nat) (h : i < zs.length) : cutTo d (zs.take (i + 1)) = cutTo d (zs.take i) ++ [lowS (rd zs i) (2 ^ d)] := by
  unfold cutTo
  rw [List.take_succ_eq_append_getElem h, List.map_append]
  simp [rd, List.getD_eq_getElem?_getD, h]
theorem cutTo_ok (d : Nat) (zs : List Int) : okAll d (cutTo d zs) = true := by
  rw [okAll_iff]
  intro x hx
  obtain ⟨y, _, rfl⟩ := List.mem_map.1 hx
  exact lowS_bd y _ (pow_pos' (by omega) d)
theorem cutTo_len (d : Nat) (zs : List Int) : (cutTo d zs).length = zs.length := by simp [cutTo]
theorem llow_same (x n r : Int) (w : World) (h1 : 1 ≤ n) (h2 : n ≤ 9223372036854775807) (hr : lowS x n = r) :
    Calls Try.prog 25 #[.int .i64 x, .int .i64 n] w fun e w' => e = .returned (.int .i64 r) ∧ w' = w := by
  have HR := Lib.hid hr
  have HL := Lib.hid (low_fact x n h1 h2).1
  have h0 := (low_fact x n h1 h2).2
  clear hr
  go_enter Try.func25, Try.ntmps25
  go_wp2
  go_ret
  exact ⟨ret_int (HL.out.trans HR.out), rfl⟩
theorem heldB {w W : World} {a : Addr} {v : Value} (hb : Below w.heap.size w W) (hc : w.cell? a = some v) : W.cell? a = some v := (hb.cell (World.block_lt_of_cell? w _ hc)).trans hc
theorem rd_zeros (X : List Int) (e i : Nat) (h : X.length ≤ i) : rd (X ++ List.replicate e 0) i = 0 := by
  unfold rd
  rw [Int.toNat_natCast, List.getD_eq_getElem?_getD, List.getElem?_append_right h, List.getElem?_replicate]
  split <;> rfl
theorem info5 : (Try.prog.info? 5).map (fun i => (i.zero, i.size, i.bytes)) = some (some (.int .u8 0), 1, 1) := by kernel_rfl
theorem info3 : (Try.prog.info? 3).map (fun i => (i.zero, i.size, i.bytes)) = some (some (.int .i64 0), 1, 8) := by kernel_rfl
def T8 : Bool × List (List Nat × List Nat) := (true, [([], []), ([], []), ([], []), ([1, 2], [1, 2]), ([3], [3]), ([], []), ([5], [5]), ([4, 6], [4, 6]), ([7], [7]), ([0, 8, 7], [0, 8]), ([9, 9, 0, 1, 2, 3, 4, 5, 6, 7, 8, 9], [0, 9])])
def B8 : List Nat := [0, 0, 0, 6, 14, 0, 32, 126, 254, 511, 1023]
theorem tab8 : rtab .any (opsOf Try.f4 8) = T8 := by kernel_rfl
theorem bits8 : waitsOk T8.2 B8 = true := by kernel_rfl
def CutRel (d : Nat) (zs : List Int) (w : World) (v x : Value) (w' : World) : Prop :=
  ∃ i : Nat, i ≤ zs.length ∧ x = .int .i64 i ∧ RI w' w.heap.size v (cutTo d (zs.take i)) ∧ Below w.heap.size w w'
set_option maxHeartbeats 4000000 in
set_option maxRecDepth 20000 in
theorem back_walk (a0 : Int) (a1 : Option Addr) (len1 cap1 : Nat) (z1 : List Int) (a2 : Option Addr) (len2 cap2 : Nat) (z2 : List Int) (w : World) (w0 : (Lit.int .i64 a0).wf = true) (w1 : RowIs .i64 w a1 len1 cap1 z1) (y1 : len1 * 8 ≤ 140737488351232) (w2 : RowIs .u8 w a2 len2 cap2 z2) (y2 : len2 * 1 ≤ 140737488351232) :
    Calls Try.prog 4 #[.int .i64 a0, .slice a1 len1 cap1, .slice a2 len2 cap2] w fun e w' => e = .returned (.bool true) ∧ Below w.heap.size w w' := by
  obtain ⟨l1, rfl, hr1, hm1, hw1, hc1⟩ := ReadsInt.ofRowC w1
  obtain ⟨l2, rfl, hr2, hm2, hw2, hc2⟩ := ReadsInt.ofRowC w2
  have hC1 := Lib.hid (show Kd.C (Kd.int .i64) w a1 l1.length l1 from Kd.C_of_reads (d := (0 : Int)) (h1 := fun _ => rfl) hr1)
  have hC2 := Lib.hid (show Kd.C (Kd.int .u8) w a2 l2.length l2 from Kd.C_of_reads (d := (0 : Int)) (h1 := fun _ => rfl) hr2)
  clear hr1 hr2 w1 w2 hw1 w0
  have hc1 := Lib.hid hc1
  have hc2 := Lib.hid hc2
  have hw2 := Lib.hid hw2
  clear hm1 hm2
  by_cases hg1 : 200 < l1.length
  · go_enter Try.func4, Try.ntmps4
    go_wp2_with (go_at_call 8; (with_reducible refine (awake_any _).mono ?_); rintro e w' ⟨rfl, hb⟩)
    go_ret
    exact ⟨rfl, hb⟩
  by_cases hg2 : 200 < l2.length
  · go_enter Try.func4, Try.ntmps4
    go_wp2_with (go_at_call 8; (with_reducible refine (awake_any _).mono ?_); rintro e w' ⟨rfl, hb⟩)
    go_ret
    exact ⟨rfl, hb⟩
  obtain ⟨t, ht⟩ : ∃ t, lowS a0 24 = t := ⟨_, rfl⟩
  have htb := lowS_bd a0 24 (by omega)
  rw [ht] at htb
  obtain ⟨t0, t1⟩ := htb
  have HT := Lib.hid ht
  clear ht
  obtain ⟨d, hd⟩ : ∃ d, (1 + t).toNat = d := ⟨_, rfl⟩
  have hd1 : 1 ≤ d := by omega
  have hd2 : d ≤ 24 := by omega
  obtain ⟨M, hM⟩ : ∃ M : Int, (2 : Int) ^ d = M := ⟨_, rfl⟩
  have hM1 : 1 ≤ M := by rw [← hM]; exact pow_pos' (by omega) d
  have hM2 : M ≤ 16777216 := by rw [← hM]; have := pow_mono hd2; omega
  have HD := Lib.hid hd
  have HM := Lib.hid hM
  have s1 : IntKind.i64.wrap (2 ^ min (1 + t).toNat 64) = M := by rw [hd, Nat.min_eq_left (by omega), hM]; exact wraps_i64 _ (by omega) (by omega)
  have s2 : IntKind.i64.wrap (1 * 2 ^ min (1 + t).toNat 64) = M := by rw [Int.one_mul]; exact s1
  have s3 : IntKind.i64.wrap (2 ^ (1 + t).toNat) = M := by rw [hd, hM]; exact wraps_i64 _ (by omega) (by omega)
  have s4 : IntKind.i64.wrap (1 * 2 ^ (1 + t).toNat) = M := by rw [Int.one_mul]; exact s3
  clear hM hd
  go_enter Try.func4, Try.ntmps4
  go_wp2_with (first
    | (go_at_call 25; (with_reducible refine (llow_any _ _ _ _ (by omega) (by omega) HT.out).mono ?_); rintro e w' ⟨rfl, ⟨nd, rfl⟩⟩))
  go_loopw [7, 8] (fun v x w' => CutRel d l1 w v x w') (fun _ x _ => (l1.length - intOf x).toNat)
  case atStart => exact ⟨0, by omega, rfl, Kd.R_nil _ _ _ _ _, pw_below_drewN (Below.refl _ _) _⟩
  case round =>
    obtain ⟨i, hi, rfl, hR, hB⟩ := hrel
    by_cases hlt : i < l1.length
    · obtain ⟨ad, ha, hcell⟩ := Kd.at_int hC1.out i (by omega) (by omega)
      rw [Int.toNat_natCast] at hcell
      have hcw := (hB.cell (World.block_lt_of_cell? w _ hcell)).trans hcell
      obtain ⟨r, hr⟩ : ∃ r, lowS (rd l1 i) M = r := ⟨_, rfl⟩
      have HRR := Lib.hid hr
      have hsn := cutTo_snoc d l1 i hlt
      rw [HM.out, hr] at hsn
      have HSN := Lib.hid hsn
      have HR := Lib.hid hR
      have HB := Lib.hid hB
      have hc0 := Lib.hid hcell
      clear hsn hr hR hB hcell
      subst ha
      go_wp2_with fail
      refine start_ (n := 11) (S := fun w' => w'.cell? (ad.add i) = some (.int .i64 (rd l1 i))) (ds := []) #[false, false, false, false, false, false, false, false, false, false, false] (by kernel_rfl) rfl rfl hcw (fun hHeld => ?_); refine with_tabW tab8 bits8 (fun HT_ HW_ => ?_)
      have HR2 := Lib.hid (Kd.R_drew HR.out)
      have HB2 := Lib.hid (below_drew1 HB.out)
      clear HR HB hcw
      generalize wr.drew = w2 at HR2 HB2 hHeld ⊢
      refine pure_ (i := 0) (N := some 30) (v := ?_) (a' := ?_) #[true, false, false, false, false, false, false, false, false, false, false] rfl rfl (any_of HT_.out (by kernel_rfl)) (fun _ _ _ h => h) (Or.inl ⟨by rfl, ?_⟩) ?_ ?_
      rotate_left
      · intro w'
        go_simp
        with_reducible rfl
      rotate_left
      · simp only [Act.put, List.setIfInBounds_toArray, List.set_cons_zero, List.set_cons_succ, i64_w, i32_w]
        rfl
      refine pure_ (i := 1) (N := some 31) (v := ?_) (a' := ?_) #[true, true, false, false, false, false, false, false, false, false, false] rfl rfl (any_of HT_.out (by kernel_rfl)) (fun _ _ _ h => h) (Or.inl ⟨by rfl, ?_⟩) ?_ ?_
      rotate_left
      · intro w'
        go_simp
        with_reducible rfl
      rotate_left
      · simp only [Act.put, List.setIfInBounds_toArray, List.set_cons_zero, List.set_cons_succ, i64_w, i32_w]
        rfl
      refine pure_ (i := 2) (N := some 32) (v := ?_) (a' := ?_) #[true, true, true, false, false, false, false, false, false, false, false] rfl rfl (any_of HT_.out (by kernel_rfl)) (fun _ _ _ h => h) (Or.inl ⟨by rfl, ?_⟩) ?_ ?_
      rotate_left
      · intro w'
        go_simp
        with_reducible rfl
      rotate_left
      · simp only [Act.put, List.setIfInBounds_toArray, List.set_cons_zero, List.set_cons_succ, i64_w, i32_w]
        rfl
      refine pure_ (i := 3) (N := some 33) (v := ?_) (a' := ?_) #[true, true, true, true, false, false, false, false, false, false, false] rfl rfl (any_of HT_.out (by kernel_rfl)) (fun _ _ _ h => h) (Or.inl ⟨by rfl, ?_⟩) ?_ ?_
      rotate_left
      · intro w'
        go_simp
        with_reducible rfl
      rotate_left
      · simp only [Act.put, List.setIfInBounds_toArray, List.set_cons_zero, List.set_cons_succ, i64_w, i32_w]
        rfl
      refine pure_ (i := 5) (N := some 35) (v := ?_) (a' := ?_) #[true, true, true, true, false, true, false, false, false, false, false] rfl rfl (any_of HT_.out (by kernel_rfl)) (fun _ _ _ h => h) (Or.inl ⟨by rfl, ?_⟩) ?_ ?_
      rotate_left
      · intro w'
        go_simp
        with_reducible rfl
      rotate_left
      · simp only [Act.put, List.setIfInBounds_toArray, List.set_cons_zero, List.set_cons_succ, i64_w, i32_w]
        rfl
      refine pure_ (i := 6) (N := some 36) (v := ?_) (a' := ?_) #[true, true, true, true, false, true, true, false, false, false, false] rfl rfl (any_of HT_.out (by kernel_rfl)) (fun _ _ _ h => h) (Or.inl ⟨by rfl, ?_⟩) ?_ ?_
      rotate_left
      · intro w'
        go_simp
        with_reducible rfl
      rotate_left
      · simp only [Act.put, List.setIfInBounds_toArray, List.set_cons_zero, List.set_cons_succ, i64_w, i32_w]
        rfl
      refine take_ (i := 4) (N := some 34) (v := ?_) (a' := ?_) #[true, true, true, true, true, true, true, false, false, false, false] rfl rfl (take_ofW HT_.out HW_.out (by kernel_rfl)) (fun _ _ _ h => h) (Or.inl ⟨by rfl, ?_⟩) hHeld ?_ ?_
      rotate_left
      · intro w' s0
        go_simp
        with_reducible rfl
      rotate_left
      · simp only [Act.put, List.setIfInBounds_toArray, List.set_cons_zero, List.set_cons_succ, i64_w, i32_w]
        rfl
      refine one_ (i := 7) (N := some 37) #[true, true, true, true, true, true, true, true, false, false, false] rfl rfl (one_of HT_.out (by kernel_rfl)) (by decide) (fun K hK => ?_)
      refine goes_ Try.func25 (by kernel_rfl) rfl #[.int .i64 (rd l1 i), .int .i64 M] (by rfl) rfl rfl (by (try simp only [List.map_toArray, List.map_cons, List.map_nil]); first | done | rfl) ?_
      with_reducible refine (llow_any _ _ r _ (by omega) (by omega) (by rw [HRR.out])).mono ?_
      rintro e w' ⟨rfl, ⟨nd, rfl⟩⟩
      refine ⟨_, rfl, ?_⟩
      refine hK.out _ _ hHeld (fun hHeld => ?_)
      clear hK K
      refine norm_ (a' := ?_) ?_ ?_
      rotate_left
      · show Act.put _ (some 37) _ = _
        simp only [Act.put, List.setIfInBounds_toArray, List.set_cons_zero, List.set_cons_succ, i64_w, i32_w]
        rfl
      refine one_ (i := 8) (N := some 38) #[true, true, true, true, true, true, true, true, true, false, false] rfl rfl (one_of HT_.out (by kernel_rfl)) (by decide) (fun K hK => ?_)
      refine value_ (w1 := ?_) (v := ?_) (by rfl) rfl ?_ ?_
      rotate_left 2
      · go_simp
        constructor
        · rfl
        · rfl
      refine hK.out _ _ ((World.cell?_alloc_lt _ _ _ (World.block_lt_of_cell? _ _ hHeld)).trans hHeld) (fun hHeld => ?_)
      clear hK K
      refine norm_ (a' := ?_) ?_ ?_
      rotate_left
      · show Act.put _ (some 38) _ = _
        simp only [Act.put, List.setIfInBounds_toArray, List.set_cons_zero, List.set_cons_succ, i64_w, i32_w]
        rfl
      refine one_ (i := 9) (N := some 39) #[true, true, true, true, true, true, true, true, true, true, false] rfl rfl (one_of HT_.out (by kernel_rfl)) (by decide) (fun K hK => ?_)
      refine Kd.R_append_step (Kd.int .i64) (w0 := w) w.heap.size (by rfl) (.tmp 30) (.tmp 38) 22 3 (.int .i64 0) 8 rfl Try.underlying22 info3 rfl (by decide) (by omega) u7 (cutTo d (l1.take i)) r [.int .i64 r] (fun _ => True) (fun _ => False) rfl rfl ?aP (fun _ hk => hk.elim) ?aF ?aO ?aB ?aS ?aL ?_
      (case aP => exact rfl)
      (case aB => exact (pw_below_drewN HB2.out nd))
      (case aF => exact (fun _ _ => trivial))
      (case aO => exact (Kd.R_drewN HR2.out nd))
      (case aS => exact (below_size (pw_below_drewN HB2.out nd)))
      (case aL => rw [cutTo_len, List.length_take]; omega)
      intro v2 w3 ho hb hg hat
      rw [← HSN.out] at ho
      have HR3 := Lib.hid ho
      have HB3 := Lib.hid hb
      clear ho hb hg hat HR2 HB2
      refine hK.out _ _ (heldB HB3.out hc0.out) (fun hHeld => ?_)
      clear hK K
      refine norm_ (a' := ?_) ?_ ?_
      rotate_left
      · show Act.put _ (some 39) _ = _
        simp only [Act.put, List.setIfInBounds_toArray, List.set_cons_zero, List.set_cons_succ, i64_w, i32_w]
        rfl
      refine pure_ (i := 10) (N := some 7) (v := ?_) (a' := ?_) #[true, true, true, true, true, true, true, true, true, true, true] rfl rfl (any_of HT_.out (by kernel_rfl)) (fun _ _ _ h => h) (Or.inl ⟨by rfl, ?_⟩) ?_ ?_
      rotate_left
      · intro w'
        go_simp
        with_reducible rfl
      rotate_left
      · simp only [Act.put, List.setIfInBounds_toArray, List.set_cons_zero, List.set_cons_succ, i64_w, i32_w]
        rfl
      refine done_ (done_of HT_.out (by kernel_rfl)) ?_
      go_wp2
      go_roundw
      case rel => exact ⟨i + 1, by omega, by go_num, HR3.out, HB3.out⟩
      case measure => simp [intOf]; omega
    · have e : i = l1.length := by omega
      subst e
      obtain ⟨X, hX⟩ : ∃ X, cutTo d l1 = X := ⟨_, rfl⟩
      have hXl : X.length = l1.length := by rw [← hX, cutTo_len]
      have hXok : okAll d X = true := by rw [← hX]; exact cutTo_ok d l1
      rw [List.take_length, hX] at hR
      obtain ⟨A, c, hv⟩ := Kd.R_slice hR
      subst hv
      obtain ⟨_, hcA, hCX⟩ := Kd.R_reads' hR
      obtain ⟨p, hp⟩ : ∃ p, packS d X = p := ⟨_, rfl⟩
      obtain ⟨u, hu⟩ : ∃ u, unpackS d p = u := ⟨_, rfl⟩
      obtain ⟨z, hz⟩ := unpack_pack d (by omega) X hXok
      rw [hp, hu] at hz
      have hpl := pack_len d X hXok
      rw [hp] at hpl
      have hpB := pack_okB d X
      rw [hp] at hpB
      have hXn : X.length ≤ 200 := by omega
      have hul : u.length = X.length + z := by rw [hz]; simp
      have hpn : p.length ≤ 601 := by
        have : d * X.length ≤ 24 * 200 := Nat.mul_le_mul hd2 hXn
        omega
      have hun : u.length ≤ 4808 := by rw [← hu]; unfold unpackS; rw [digs_length]; exact Nat.le_trans (Nat.div_le_self _ _) (by omega)
      have HP := Lib.hid (show packS (1 + t).toNat X = p by rw [HD.out]; exact hp)
      have HU := Lib.hid (show unpackS (1 + t).toNat p = u by rw [HD.out]; exact hu)
      have HR := Lib.hid hR
      have HB := Lib.hid hB
      have HCX := Lib.hid hCX
      have hcA := Lib.hid hcA
      have HZ := Lib.hid hz
      have HPB := Lib.hid hpB
      have HUL := Lib.hid hul
      have m0 : 0 ≤ (1 + t) * (X.length : Int) := Int.mul_nonneg (by omega) (by omega)
      have m1 : (1 + t) * (X.length : Int) ≤ 24 * 200 := Int.mul_le_mul (by omega) (by omega) (by omega) (by omega)
      have t1' : ((p.length : Int) == ((1 + t) * (X.length : Int) + 7) / 8) = true := by
        rw [beq_iff_eq, hpl]
        have e3 : (1 + t) = (d : Int) := by have := HD.out; omega
        rw [e3]; omega
      have t2' : ((p.length : Int) != ((1 + t) * (X.length : Int) + 7) / 8) = false := by rw [bne_eq_false_iff_eq]; exact beq_iff_eq.1 t1'
      have t3' : decide (u.length < X.length) = false := decide_eq_false (by omega)
      have t4' : decide ((u.length : Int) < (X.length : Int)) = false := decide_eq_false (by omega)
      clear hX hXl hXok hp hu hz hpl hpB hul hR hB hCX hi hlt
      go_wp2_with fail
      (with_reducible refine (pack_any _ _ _ _ X p _ (by omega) (by omega) HCX.out rfl hcA.out (by omega) HP.out).mono ?_)
      rintro e w9 ⟨v9, rfl, hRp, hBp⟩
      obtain ⟨A9, c9, hv⟩ := Kd.R_slice hRp
      subst hv
      obtain ⟨_, hc9, hCp⟩ := Kd.R_reads' hRp
      have HRp := Lib.hid hRp
      have HBp := Lib.hid hBp
      have HCp := Lib.hid hCp
      have hc9 := Lib.hid hc9
      clear hRp hBp hCp
      go_wp2_with fail
      (with_reducible refine (unpack_any _ _ _ _ p u _ (by omega) (by omega) HCp.out rfl hc9.out (by omega) HPB.out HU.out).mono ?_)
      rintro e w10 ⟨v10, rfl, hRu, hBu⟩
      obtain ⟨A10, c10, hv⟩ := Kd.R_slice hRu
      subst hv
      obtain ⟨_, hc10, hCu⟩ := Kd.R_reads' hRu
      obtain ⟨i0, hi0, _, hsz0, _⟩ := info_parts info3
      have hcut := cut_to (P := Try.prog) 22 3 .i64 Try.underlying22 hi0 A10 u.length c10 (X.length : Int) (by omega) (by have := HUL.out; omega) hc10
      have hCt := Kd.C_take (m := X.length) hCu (by have := HUL.out; omega)
      have htk : u.take X.length = X := by rw [HZ.out]; simp
      rw [htk] at hCt
      rw [Int.toNat_natCast] at hcut
      have HRu := Lib.hid hRu
      have HBu := Lib.hid hBu
      have HCu := Lib.hid hCu
      have HCt := Lib.hid hCt
      have hc10 := Lib.hid hc10
      clear hRu hBu hCu hCt htk hsz0 hi0
      go_wp2_with fail
      (with_reducible refine (sameI_any _ _ _ _ _ _ X X _ HCt.out (Kd.C_below (Kd.C_below HCX.out HBp.out) HBu.out) rfl rfl (by have := hc10.out; have := HUL.out; omega) hcA.out (by omega) rfl).mono ?_)
      rintro e w' ⟨rfl, ⟨nd, rfl⟩⟩
      clear hcut
      have HUz : Hid (∀ i : Nat, X.length ≤ i → i < u.length → rd u i = 0) := fun i h1 h2 => by rw [HZ.out]; exact rd_zeros _ _ _ h1
      obtain ⟨q, hq⟩ : ∃ q : Int, (l2.length : Int) / (1 + t) = q := ⟨_, rfl⟩
      have q0 : 0 ≤ q := by rw [← hq]; exact Int.ediv_nonneg (by omega) (by omega)
      have q1 : q * (1 + t) ≤ l2.length := by rw [← hq]; exact Int.ediv_mul_le _ (by omega)
      have q2 : 0 ≤ q * (1 + t) := Int.mul_nonneg q0 (by omega)
      have q3 : q ≤ 200 := by rw [← hq]; have := Int.ediv_le_self (1 + t) (show (0 : Int) ≤ l2.length by omega); omega
      obtain ⟨k, hk⟩ := Int.eq_ofNat_of_zero_le q2
      have hkl : k ≤ l2.length := by omega
      have HK := Lib.hid hk
      have HL2 : Hid ((l2.take k).length = d * q.toNat) := by
        show (l2.take k).length = d * q.toNat
        rw [List.length_take, Nat.min_eq_left hkl]
        obtain ⟨q', rfl⟩ := Int.eq_ofNat_of_zero_le q0
        have e3 : (1 + t) = (d : Int) := by have := HD.out; omega
        rw [e3, Int.mul_comm] at hk
        rw [Int.toNat_natCast]
        exact_mod_cast hk.symm
      have HL2B : Hid (okB (l2.take k)) := fun x hx => by
        have := hw2.out x (List.mem_of_mem_take hx)
        simp [Lit.wf, IntKind.min, IntKind.max, IntKind.signed, IntKind.bits] at this
        omega
      have hlen2 : (l2.take k).length = k := by rw [List.length_take]; omega
      obtain ⟨L, hL⟩ : ∃ L, l2.take k = L := ⟨_, rfl⟩
      have hCL0 := Kd.C_take (m := k) hC2.out hkl
      rw [hL] at HL2 HL2B hlen2 hCL0
      obtain ⟨U, hU⟩ : ∃ U, unpackS d L = U := ⟨_, rfl⟩
      have hUp := pack_unpack d q.toNat (by omega) L HL2B.out HL2.out
      rw [hU] at hUp
      have hUlen : U.length ≤ 1600 := by rw [← hU]; unfold unpackS; rw [digs_length]; exact Nat.le_trans (Nat.div_le_self _ _) (by omega)
      have HU2 := Lib.hid (show unpackS (1 + t).toNat L = U by rw [HD.out]; exact hU)
      have HP2 := Lib.hid (show packS (1 + t).toNat U = L by rw [HD.out]; exact hUp)
      have HQ := Lib.hid hq
      have HCL := Lib.hid hCL0
      have HLEN := Lib.hid hlen2
      have hz1 : ((1 + t) == 0) = false := beq_eq_false_iff_ne.2 (by omega)
      clear hq hk hL hlen2 hU hUp hCL0
      go_wp2
      go_loop [11] (fun x => ∃ i : Nat, X.length ≤ i ∧ i ≤ u.length ∧ x = .int .i64 i) (fun x => (u.length - intOf x).toNat)
      case atStart => exact ⟨X.length, by omega, by have := HUL.out; omega, rfl⟩
      case round =>
        obtain ⟨i, hi1, hi2, rfl⟩ := hrel
        by_cases hlt : i < u.length
        · obtain ⟨ad, ha, hcell⟩ := Kd.at_int HCu.out i (by omega) (by omega)
          rw [Int.toNat_natCast, HUz.out i hi1 hlt] at hcell
          subst ha
          go_wp2
          go_round
          case rel => exact ⟨i + 1, by omega, by omega, by go_num⟩
          case measure => simp [intOf]; omega
        · clear hi1 hi2
          have hcut2 := cut_to (P := Try.prog) 23 5 .i64 Try.underlying23 (info_parts info5).choose_spec.1 a2 l2.length cap2 (q * (1 + t)) q2 q1 hc2.out
          rw [HK.out, Int.toNat_natCast] at hcut2
          have HQ2 : (l2.length : Int) / (1 + t) = q := HQ.out
          have HK2 : q * (1 + t) = (k : Int) := HK.out
          have HBB := Lib.hid (pw_below_drewN (below_step (below_step HB.out HBp.out) HBu.out) nd)
          clear hz1
          have hz1 : ((1 + t) == 0) = false := beq_eq_false_iff_ne.2 (by omega)
          go_wp2_with fail
          clear HQ2 HK2 hcut2
          (with_reducible refine (unpack_any _ _ _ _ L U _ (by omega) (by omega) (Kd.C_below HCL.out HBB.out) HLEN.out.symm (by have := hc2.out; omega) (by have := HLEN.out; omega) HL2B.out HU2.out).mono ?_)
          rintro e w11 ⟨v11, rfl, hRU, hBU⟩
          obtain ⟨A11, c11, hv⟩ := Kd.R_slice hRU
          subst hv
          obtain ⟨_, hc11, hCU⟩ := Kd.R_reads' hRU
          have HBU := Lib.hid hBU
          have HCU := Lib.hid hCU
          have hc11 := Lib.hid hc11
          clear hRU hBU hCU
          go_wp2_with fail
          (with_reducible refine (pack_any _ _ _ _ U L _ (by omega) (by omega) HCU.out rfl hc11.out (by omega) HP2.out).mono ?_)
          rintro e w12 ⟨v12, rfl, hRL, hBL⟩
          obtain ⟨A12, c12, hv⟩ := Kd.R_slice hRL
          subst hv
          obtain ⟨_, hc12, hCL⟩ := Kd.R_reads' hRL
          have HB12 := Lib.hid (below_step (below_step HBB.out HBU.out) hBL)
          have HCL2 := Lib.hid hCL
          have hc12 := Lib.hid hc12
          clear hRL hBL hCL
          go_wp2_with fail
          (with_reducible refine (sameB_any _ _ _ _ _ _ L L _ HCL2.out (Kd.C_below HCL.out HB12.out) rfl HLEN.out.symm hc12.out (by have := hc2.out; omega) (by have := HLEN.out; omega) rfl).mono ?_)
          rintro e w' ⟨rfl, ⟨nd2, rfl⟩⟩
          go_wp2_with (go_at_call 8; (with_reducible refine (awake_any _).mono ?_); rintro e w' ⟨rfl, hb⟩)
          go_ret
          exact ⟨rfl, below_step (pw_below_drewN HB12.out nd2) hb⟩
end Go.Proofs.Ytefiaaglkenfeaa.T
