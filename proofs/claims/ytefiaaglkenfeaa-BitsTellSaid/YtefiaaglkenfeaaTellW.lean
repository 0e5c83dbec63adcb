/- BitsTell: its walk. -/
import Derived.Test.YtefiaaglkenfeaaLendW
namespace Go.Proofs.Ytefiaaglkenfeaa.T
open Go.RowKit Go.Proofs.Ytefiaaglkenfeaa.PBitsTell Go.Proofs.YtefiaaglkenfeaaW.PrintWords Go.Proofs.YtefiaaglkenfeaaW.PrintLast
open Go.Proofs.Ytefiaaglkenfeaa.N Go.Proofs.Ytefiaaglkenfeaa.K
set_option linter.unusedVariables false
set_option linter.unusedSimpArgs false
/-! ### answers at every width -/
def packG (D : Int) (xs : List Int) : List Int := if 1 ≤ D ∧ D ≤ 24 then packS D.toNat xs else []
def unpackG (D : Int) (b : List Int) : List Int := if 1 ≤ D ∧ D ≤ 24 then unpackS D.toNat b else []
def lowG (D x : Int) : Int := if 0 ≤ D ∧ D ≤ 62 then x % 2 ^ D.toNat else 0
def turnG (D x : Int) : Int := if 0 ≤ D ∧ D ≤ 62 then tn D.toNat x else 0
theorem packG_len (D : Int) (xs : List Int) (h : xs.length ≤ 300) : (packG D xs).length ≤ 901 := by
  unfold packG
  split
  · rename_i hD
    unfold packS
    split
    · rw [digs_length]
      have : D.toNat * xs.length ≤ 24 * 300 := Nat.mul_le_mul (by omega) h
      omega
    · simp
  · simp
theorem unpackG_len (D : Int) (b : List Int) (h : b.length ≤ 300) : (unpackG D b).length ≤ 2400 := by
  unfold unpackG
  split
  · unfold unpackS
    rw [digs_length]
    exact Nat.le_trans (Nat.div_le_self _ _) (by omega)
  · simp
theorem pack_gen (D : Int) (A : Option Addr) (n c : Nat) (xs ys : List Int) (w : World) (hC : Kd.C (Kd.int .i64) w A xs.length xs) (hn : n = xs.length) (hc : n ≤ c) (hl : xs.length ≤ 300) (hy : packG D xs = ys) :
    Calls Try.prog 11 #[.int .i64 D, .slice A n c] w fun e w' => ∃ v, e = .returned v ∧ RB w' w.heap.size v ys ∧ Below w.heap.size w w' := by
  subst hy hn
  unfold packG
  split
  · rename_i h
    obtain ⟨d, rfl⟩ := Int.eq_ofNat_of_zero_le (show 0 ≤ D by omega)
    obtain ⟨k, hk⟩ := (pack_f d (by omega) (by omega) xs (by omega)).rounds
    exact bits_Pack.calls k d A c xs _ w hC hc hk
  · obtain ⟨k, hk⟩ := (pack_f_no D (by omega) xs).rounds
    exact bits_Pack.calls k D A c xs _ w hC hc hk
theorem rpack_gen (D : Int) (A : Option Addr) (n c : Nat) (xs ys : List Int) (w : World) (hC : Kd.C (Kd.int .i64) w A xs.length xs) (hn : n = xs.length) (hc : n ≤ c) (hl : xs.length ≤ 300) (hy : packG D xs = ys) :
    Calls Try.prog 14 #[.int .i64 D, .slice A n c] w fun e w' => ∃ v, e = .returned v ∧ RB w' w.heap.size v ys ∧ Below w.heap.size w w' := by
  subst hy hn
  unfold packG
  split
  · rename_i h
    obtain ⟨d, rfl⟩ := Int.eq_ofNat_of_zero_le (show 0 ≤ D by omega)
    obtain ⟨k, hk⟩ := (rpack_f d (by omega) (by omega) xs (by omega)).rounds
    exact chatelaineref5_Pack.calls k d A c xs _ w hC hc hk
  · obtain ⟨k, hk⟩ := (rpack_f_no D (by omega) xs).rounds
    exact chatelaineref5_Pack.calls k D A c xs _ w hC hc hk
theorem unpack_gen (D : Int) (A : Option Addr) (n c : Nat) (xs ys : List Int) (w : World) (hC : Kd.C (Kd.int .u8) w A xs.length xs) (hn : n = xs.length) (hc : n ≤ c) (hl : xs.length ≤ 300) (hb : okB xs) (hy : unpackG D xs = ys) :
    Calls Try.prog 12 #[.int .i64 D, .slice A n c] w fun e w' => ∃ v, e = .returned v ∧ RI w' w.heap.size v ys ∧ Below w.heap.size w w' := by
  subst hy hn
  unfold unpackG
  split
  · rename_i h
    obtain ⟨d, rfl⟩ := Int.eq_ofNat_of_zero_le (show 0 ≤ D by omega)
    obtain ⟨k, hk⟩ := (un_f d (by omega) (by omega) xs (by omega) hb).rounds
    exact bits_Unpack.calls k d A c xs _ w hC hc hk
  · obtain ⟨k, hk⟩ := (un_f_no D (by omega) xs).rounds
    exact bits_Unpack.calls k D A c xs _ w hC hc hk
theorem runpack_gen (D : Int) (A : Option Addr) (n c : Nat) (xs ys : List Int) (w : World) (hC : Kd.C (Kd.int .u8) w A xs.length xs) (hn : n = xs.length) (hc : n ≤ c) (hl : xs.length ≤ 300) (hb : okB xs) (hy : unpackG D xs = ys) :
    Calls Try.prog 16 #[.int .i64 D, .slice A n c] w fun e w' => ∃ v, e = .returned v ∧ RI w' w.heap.size v ys ∧ Below w.heap.size w w' := by
  subst hy hn
  unfold unpackG
  split
  · rename_i h
    obtain ⟨d, rfl⟩ := Int.eq_ofNat_of_zero_le (show 0 ≤ D by omega)
    obtain ⟨k, hk⟩ := (run_f d (by omega) (by omega) xs (by omega) hb).rounds
    exact chatelaineref5_Unpack.calls k d A c xs _ w hC hc hk
  · obtain ⟨k, hk⟩ := (run_f_no D (by omega) xs).rounds
    exact chatelaineref5_Unpack.calls k D A c xs _ w hC hc hk
theorem lowG_f (D x : Int) : bits_Low.f D x = some (lowG D x) := by
  unfold lowG
  split
  · obtain ⟨d, rfl⟩ := Int.eq_ofNat_of_zero_le (show 0 ≤ D by omega)
    exact low_f d (by omega) x
  · exact low_f_no D x (by omega)
theorem low_gen (D x r : Int) (w : World) (hr : lowG D x = r) : Calls Try.prog 17 #[.int .i64 D, .int .i64 x] w fun e w' => e = .returned (.int .i64 r) ∧ Drawn0 w w' := by
  subst hr
  exact bits_Low.calls D x _ w (lowG_f D x)
theorem rlow_gen (D x r : Int) (w : World) (hr : lowG D x = r) : Calls Try.prog 18 #[.int .i64 D, .int .i64 x] w fun e w' => e = .returned (.int .i64 r) ∧ Drawn0 w w' := by
  subst hr
  exact chatelaineref5_Low.calls D x _ w ((rlow_f D x).trans (lowG_f D x))
theorem turn_gen (D x r : Int) (w : World) (hr : turnG D x = r) : Calls Try.prog 19 #[.int .i64 D, .int .i64 x] w fun e w' => e = .returned (.int .i64 r) ∧ Drawn0 w w' := by
  subst hr
  unfold turnG
  split
  · obtain ⟨d, rfl⟩ := Int.eq_ofNat_of_zero_le (show 0 ≤ D by omega)
    obtain ⟨k, hk⟩ := (turn_f d (by omega) x).rounds
    exact bits_Turn.calls k d x _ w hk
  · obtain ⟨k, hk⟩ := (turn_f_no D (by omega) x).rounds
    exact bits_Turn.calls k D x _ w hk
theorem rturn_gen (D x r : Int) (w : World) (hr : turnG D x = r) : Calls Try.prog 20 #[.int .i64 D, .int .i64 x] w fun e w' => e = .returned (.int .i64 r) ∧ Drawn0 w w' := by
  subst hr
  unfold turnG
  split
  · obtain ⟨d, rfl⟩ := Int.eq_ofNat_of_zero_le (show 0 ≤ D by omega)
    obtain ⟨k, hk⟩ := (rturn_f d (by omega) x).rounds
    exact chatelaineref5_Turn.calls k d x _ w hk
  · obtain ⟨k, hk⟩ := (rturn_f_no D (by omega) x).rounds
    exact chatelaineref5_Turn.calls k D x _ w hk
theorem over_bytes_f (n : Nat) (hn : n < 1000000) : ∀ (m i : Nat), i + m = n → ∀ xs : List Int, xs.length = n → Ev (fun k => chatelainelaw0_OverBytes.l0 k xs i) () := by
  intro m
  induction m with
  | zero =>
    intro i hi xs hx
    refine ⟨1, fun k hk => ?_⟩
    obtain ⟨k, rfl⟩ : ∃ q, k = q + 1 := ⟨k - 1, by omega⟩
    simp only [chatelainelaw0_OverBytes.l0]
    rw [if_neg (by omega), if_pos (by omega)]
  | succ m ih =>
    intro i hi xs hx
    refine Ev.step (f := fun k => chatelainelaw0_OverBytes.l0 k (xs.set i 238) ((i + 1 : Nat) : Int)) (fun k => ?_) (ih (i + 1) (by omega) _ (by rw [List.length_set]; exact hx))
    simp only [chatelainelaw0_OverBytes.l0]
    rw [if_pos (by omega), if_pos (by omega), wrap_s (a := (i : Int) + 1) (by omega) (by omega), Int.toNat_natCast]
    rfl
theorem over_ints_f (n : Nat) (hn : n < 1000000) : ∀ (m i : Nat), i + m = n → ∀ xs : List Int, xs.length = n → Ev (fun k => chatelainelaw0_OverInts.l0 k xs i) () := by
  intro m
  induction m with
  | zero =>
    intro i hi xs hx
    refine ⟨1, fun k hk => ?_⟩
    obtain ⟨k, rfl⟩ : ∃ q, k = q + 1 := ⟨k - 1, by omega⟩
    simp only [chatelainelaw0_OverInts.l0]
    rw [if_neg (by omega), if_pos (by omega)]
  | succ m ih =>
    intro i hi xs hx
    refine Ev.step (f := fun k => chatelainelaw0_OverInts.l0 k (xs.set i (-999)) ((i + 1 : Nat) : Int)) (fun k => ?_) (ih (i + 1) (by omega) _ (by rw [List.length_set]; exact hx))
    simp only [chatelainelaw0_OverInts.l0]
    rw [if_pos (by omega), if_pos (by omega), wrap_s (a := (i : Int) + 1) (by omega) (by omega), Int.toNat_natCast]
    rfl
theorem overB_any (w0 w : World) (b : Nat) (v : Value) (xs : List Int) (hB : Below w0.heap.size w0 w) (hb : w0.heap.size ≤ b) (hR : RB w b v xs) (hl : xs.length < 1000000) :
    Calls Try.prog 21 #[v] w fun e w' => e = .returned (.tuple #[]) ∧ Below w0.heap.size w0 w' ∧ Kept w w' (fun j => some j = v.ownBlock) := by
  obtain ⟨k, hk⟩ := (over_bytes_f xs.length hl xs.length 0 (by omega) xs rfl).rounds
  exact chatelainelaw0_OverBytes.calls k _ v xs w0 w hB (Kd.R_tight rfl (Kd.R_lower hR hb)) hk
theorem overI_any (w0 w : World) (b : Nat) (v : Value) (xs : List Int) (hB : Below w0.heap.size w0 w) (hb : w0.heap.size ≤ b) (hR : RI w b v xs) (hl : xs.length < 1000000) :
    Calls Try.prog 22 #[v] w fun e w' => e = .returned (.tuple #[]) ∧ Below w0.heap.size w0 w' ∧ Kept w w' (fun j => some j = v.ownBlock) := by
  obtain ⟨k, hk⟩ := (over_ints_f xs.length hl xs.length 0 (by omega) xs rfl).rounds
  exact chatelainelaw0_OverInts.calls k _ v xs w0 w hB (Kd.R_tight rfl (Kd.R_lower hR hb)) hk
theorem kept_row {W W2 : World} {k : IntKind} {e base : Nat} {v u : Value} {xs : List Int} (h : Kd.R (Kd.int k) e W base (fun _ => True) v xs) (hk : Kept W W2 (fun j => some j = u.ownBlock)) (hne : ∀ j, v.ownBlock = some j → some j ≠ u.ownBlock) : Kd.R (Kd.int k) e W2 base (fun _ => True) v xs :=
  Kd.R_mono (Kd.R_kept (Kd.R_tight rfl h) hk (fun j hj => hne j hj.symm)) (fun _ _ => trivial)
theorem keep_apart {W W1 : World} {b1 b2 e1 e2 : Nat} {v u : Value} {xs ys : List Int} {k1 k2 : IntKind} (h1 : Kd.R (Kd.int k1) e1 W b1 (fun _ => True) v xs) (h2 : Kd.R (Kd.int k2) e2 W1 b2 (fun _ => True) u ys) (hle : W.heap.size ≤ b2) : ∀ k, v.ownBlock = some k → some k ≠ u.ownBlock := fun k hk e => by
  have a := (Kd.R_bound h1).1 k hk
  have b := (Kd.R_bound h2).1 k e.symm
  omega
theorem lent_C {W : World} {k : IntKind} {e base g n : Nat} {xs : List Int} {m : Int} (h : RK k e W base g (n + 3) (xs ++ List.replicate 3 m)) (hn : n = xs.length) : Kd.C (Kd.int k) W (some ⟨g, 0, none⟩) (xs.length + 3) (xs ++ List.replicate 3 m) ∧ Kd.C (Kd.int k) W (some ⟨g, 0, none⟩) xs.length xs := by
  have h1 := (Kd.R_reads' h).2.2
  have e3 : (xs ++ List.replicate 3 m).length = xs.length + 3 := by simp
  have h2 := Kd.C_take (m := xs.length) h1 (by omega)
  rw [List.take_append_of_le_length (Nat.le_refl _), List.take_length] at h2
  rw [e3] at h1
  exact ⟨h1, h2⟩
set_option maxHeartbeats 4000000 in
set_option maxRecDepth 20000 in
theorem tell_walk (a0 : Int) (a1 : Option Addr) (len1 cap1 : Nat) (z1 : List Int) (a2 : Option Addr) (len2 cap2 : Nat) (z2 : List Int) (a3 : Int) (w : World) (w0 : (Lit.int .i64 a0).wf = true) (w1 : RowIs .i64 w a1 len1 cap1 z1) (y1 : len1 * 8 ≤ 140737488351232) (w2 : RowIs .u8 w a2 len2 cap2 z2) (y2 : len2 * 1 ≤ 140737488351232) (w3 : (Lit.int .i64 a3).wf = true) :
    Calls Try.prog 3 #[.int .i64 a0, .slice a1 len1 cap1, .slice a2 len2 cap2, .int .i64 a3] w fun e w' => e = .returned (.bool true) ∧ Below w.heap.size w w' := by
  obtain ⟨l1, rfl, hr1, hm1, hw1, hc1⟩ := ReadsInt.ofRowC w1
  obtain ⟨l2, rfl, hr2, hm2, hw2, hc2⟩ := ReadsInt.ofRowC w2
  have hC1 := Lib.hid (C_of_row64 hr1)
  have hC2 := Lib.hid (show Kd.C (Kd.int .u8) w a2 l2.length l2 from Kd.C_of_reads (d := (0 : Int)) (h1 := fun _ => rfl) hr2)
  have hok : okB l2 := fun x hx => by
    have := hw2 x hx
    simp [Lit.wf, IntKind.min, IntKind.max, IntKind.signed, IntKind.bits] at this
    omega
  have HOK := Lib.hid hok
  have hc1 := Lib.hid hc1
  have hc2 := Lib.hid hc2
  clear hr1 w1 hw1 w0 w2 hr2 hw2 w3 hm1 hm2 hok
  by_cases hg1 : 300 < l1.length
  · go_enter Try.func3, Try.ntmps3
    go_wp2_with (go_at_call 8; (with_reducible refine (awake_any _).mono ?_); rintro e w' ⟨rfl, hb⟩)
    go_ret
    exact ⟨rfl, hb⟩
  by_cases hg2 : 300 < l2.length
  · go_enter Try.func3, Try.ntmps3
    go_wp2_with (go_at_call 8; (with_reducible refine (awake_any _).mono ?_); rintro e w' ⟨rfl, hb⟩)
    go_ret
    exact ⟨rfl, hb⟩
  obtain ⟨p, hp⟩ : ∃ p, packG a0 l1 = p := ⟨_, rfl⟩
  obtain ⟨u, hu⟩ : ∃ p, unpackG a0 l2 = p := ⟨_, rfl⟩
  obtain ⟨lo, hlo⟩ : ∃ p, lowG a0 a3 = p := ⟨_, rfl⟩
  obtain ⟨tu, htu⟩ : ∃ p, turnG a0 a3 = p := ⟨_, rfl⟩
  have hpl := packG_len a0 l1 (by omega)
  have hul := unpackG_len a0 l2 (by omega)
  rw [hp] at hpl
  rw [hu] at hul
  have HP := Lib.hid hp
  have HU := Lib.hid hu
  have HLO := Lib.hid hlo
  have HTU := Lib.hid htu
  clear hp hu hlo htu
  go_enter Try.func3, Try.ntmps3
  go_wp2_with fail
  (with_reducible refine (lendInts_any _ _ _ l1 _ hC1.out rfl (by omega)).mono ?_)
  rintro e w1 ⟨g1, rfl, hR1, hB1, hg1'⟩
  have R1 := Lib.hid hR1
  have B1 := Lib.hid hB1
  clear hR1 hB1 hg1'
  go_wp2_with fail
  (with_reducible refine (lendBytes_any _ _ _ l2 _ (Kd.C_below hC2.out B1.out) rfl (by omega)).mono ?_)
  rintro e w2 ⟨g2, rfl, hR2, hB2, hg2'⟩
  have R1' := Lib.hid (Kd.R_below R1.out hB2)
  have R2 := Lib.hid hR2
  have B2 := Lib.hid (below_step B1.out hB2)
  have S12 := Lib.hid (show w1.heap.size ≤ w2.heap.size from hB2.size)
  clear hR2 hB2 hg2'
  go_wp2_with fail
  (with_reducible refine (pack_gen _ _ _ _ l1 p _ (lent_C R1'.out rfl).2 rfl (by omega) (by omega) HP.out).mono ?_)
  rintro e w3 ⟨v3, rfl, hRp, hB3⟩
  have R1'' := Lib.hid (Kd.R_below R1'.out hB3)
  have R2' := Lib.hid (Kd.R_below R2.out hB3)
  have Rp := Lib.hid hRp
  have B3 := Lib.hid (below_step B2.out hB3)
  have S23 := Lib.hid (show w2.heap.size ≤ w3.heap.size from hB3.size)
  clear hRp hB3
  go_wp2_with fail
  (with_reducible refine (unpack_gen _ _ _ _ l2 u _ (lent_C R2'.out rfl).2 rfl (by omega) (by omega) HOK.out HU.out).mono ?_)
  rintro e w4 ⟨v4, rfl, hRu, hB4⟩
  have R14 := Lib.hid (Kd.R_below R1''.out hB4)
  have R24 := Lib.hid (Kd.R_below R2'.out hB4)
  have Rp4 := Lib.hid (Kd.R_below Rp.out hB4)
  have Ru := Lib.hid hRu
  have B4 := Lib.hid (below_step B3.out hB4)
  have S34 := Lib.hid (show w3.heap.size ≤ w4.heap.size from hB4.size)
  have ap1 := Lib.hid (keep_apart R1'.out Rp.out (Nat.le_refl _))
  have ap2 := Lib.hid (keep_apart R2.out Rp.out (Nat.le_refl _))
  have ap3 := Lib.hid (keep_apart Rp.out Ru.out (Nat.le_refl _))
  have ap4 := Lib.hid (keep_apart R1''.out Ru.out (Nat.le_refl _))
  have ap5 := Lib.hid (keep_apart R2'.out Ru.out (Nat.le_refl _))
  clear hRu hB4 R1 R1' R1'' R2 R2' Rp
  obtain ⟨A3, c3, hv⟩ := Kd.R_slice Rp4.out
  subst hv
  obtain ⟨A4, c4, hv⟩ := Kd.R_slice Ru.out
  subst hv
  go_wp2_with fail
  (with_reducible refine (rpack_gen _ _ _ _ l1 p _ (Kd.C_below hC1.out B4.out) rfl hc1.out (by omega) HP.out).mono ?_)
  rintro e w5 ⟨v5, rfl, hRq, hB5⟩
  have R15 := Lib.hid (Kd.R_below R14.out hB5)
  have R25 := Lib.hid (Kd.R_below R24.out hB5)
  have Rp5 := Lib.hid (Kd.R_below Rp4.out hB5)
  have Ru5 := Lib.hid (Kd.R_below Ru.out hB5)
  have B5 := Lib.hid (below_step B4.out hB5)
  obtain ⟨A5, c5, hv⟩ := Kd.R_slice hRq
  subst hv
  obtain ⟨_, hc5, hCq⟩ := Kd.R_reads' hRq
  have HCq := Lib.hid hCq
  have hc5 := Lib.hid hc5
  clear hRq hCq hB5 R14 R24 Rp4 Ru
  go_wp2_with fail
  (with_reducible refine (sameB_any _ _ _ _ _ _ p p _ (Kd.R_reads' Rp5.out).2.2 HCq.out rfl rfl (Kd.R_reads' Rp5.out).2.1 hc5.out (by omega) rfl).mono ?_)
  rintro e w' ⟨rfl, ⟨nd, rfl⟩⟩
  go_wp2_with fail
  (with_reducible refine (runpack_gen _ _ _ _ l2 u _ (Kd.C_drewN (Kd.C_below hC2.out B5.out) _) rfl hc2.out (by omega) HOK.out HU.out).mono ?_)
  rintro e w6 ⟨v6, rfl, hRq, hB6⟩
  have R16 := Lib.hid (Kd.R_below (Kd.R_drewN R15.out nd) hB6)
  have R26 := Lib.hid (Kd.R_below (Kd.R_drewN R25.out nd) hB6)
  have Rp6 := Lib.hid (Kd.R_below (Kd.R_drewN Rp5.out nd) hB6)
  have Ru6 := Lib.hid (Kd.R_below (Kd.R_drewN Ru5.out nd) hB6)
  have B6 := Lib.hid (below_step (pw_below_drewN B5.out nd) hB6)
  obtain ⟨A6, c6, hv⟩ := Kd.R_slice hRq
  subst hv
  obtain ⟨_, hc6, hCq⟩ := Kd.R_reads' hRq
  have HCq6 := Lib.hid hCq
  have hc6 := Lib.hid hc6
  clear hRq hCq hB6 R15 R25 Rp5 Ru5
  go_wp2_with fail
  (with_reducible refine (sameI_any _ _ _ _ _ _ u u _ (Kd.R_reads' Ru6.out).2.2 HCq6.out rfl rfl (Kd.R_reads' Ru6.out).2.1 hc6.out (by omega) rfl).mono ?_)
  rintro e w' ⟨rfl, ⟨nd2, rfl⟩⟩
  go_wp2_with (first
    | (go_at_call 17; (with_reducible refine (low_gen _ _ _ _ HLO.out).mono ?_); rintro e w' ⟨rfl, ⟨nd, rfl⟩⟩)
    | (go_at_call 18; (with_reducible refine (rlow_gen _ _ _ _ HLO.out).mono ?_); rintro e w' ⟨rfl, ⟨nd, rfl⟩⟩)
    | (go_at_call 19; (with_reducible refine (turn_gen _ _ _ _ HTU.out).mono ?_); rintro e w' ⟨rfl, ⟨nd, rfl⟩⟩)
    | (go_at_call 20; (with_reducible refine (rturn_gen _ _ _ _ HTU.out).mono ?_); rintro e w' ⟨rfl, ⟨nd, rfl⟩⟩))
  (with_reducible refine (overB_any w _ _ _ p (pw_below_drewN B6.out _) B2.out.size (Kd.R_drewN Rp6.out _) (by omega)).mono ?_)
  rintro e w7 ⟨rfl, hB7, hK7⟩
  have R17 := Lib.hid (kept_row (Kd.R_drewN R16.out _) hK7 ap1.out)
  have R27 := Lib.hid (kept_row (Kd.R_drewN R26.out _) hK7 ap2.out)
  have Ru7 := Lib.hid (kept_row (Kd.R_drewN Ru6.out _) hK7 (fun j hj e => ap3.out j e.symm hj.symm))
  have B7 := Lib.hid hB7
  clear hB7 hK7 R16 R26 Ru6 Rp6
  go_wp2_with fail
  (with_reducible refine (overI_any w _ _ _ u B7.out B3.out.size Ru7.out (by omega)).mono ?_)
  rintro e w8 ⟨rfl, hB8, hK8⟩
  have R18 := Lib.hid (kept_row R17.out hK8 ap4.out)
  have R28 := Lib.hid (kept_row R27.out hK8 ap5.out)
  have B8 := Lib.hid hB8
  clear hB8 hK8 R17 R27 Ru7
  go_wp2_with fail
  (with_reducible refine (keptInts_any _ _ _ _ _ l1 _ (lent_C R18.out rfl).1 (Kd.C_below hC1.out B8.out) rfl rfl hc1.out (by omega)).mono ?_)
  rintro e w' ⟨rfl, ⟨nd3, rfl⟩⟩
  go_wp2_with fail
  (with_reducible refine (keptBytes_any _ _ _ _ _ l2 _ (lent_C (Kd.R_drewN R28.out _) rfl).1 (Kd.C_below hC2.out (pw_below_drewN B8.out _)) rfl rfl hc2.out (by omega)).mono ?_)
  rintro e w' ⟨rfl, ⟨nd4, rfl⟩⟩
  go_wp2_with (go_at_call 8; (with_reducible refine (awake_any _).mono ?_); rintro e w' ⟨rfl, hb⟩)
  go_ret
  exact ⟨rfl, below_step (pw_below_drewN B8.out _) hb⟩
end Go.Proofs.Ytefiaaglkenfeaa.T
