/- BitsOnes: its walk. -/
import Derived.Test.YtefiaaglkenfeaaSh
namespace Go.Proofs.Ytefiaaglkenfeaa.T
open Go.RowKit Go.Proofs.Ytefiaaglkenfeaa.PBitsTell Go.Proofs.YtefiaaglkenfeaaW.PrintWords Go.Proofs.YtefiaaglkenfeaaW.PrintLast
open Go.Proofs.Ytefiaaglkenfeaa.N Go.Proofs.Ytefiaaglkenfeaa.K
set_option linter.unusedVariables false
set_option linter.unusedSimpArgs false
def OnesRel (d : Nat) (zs : List Int) (w : World) (v u x : Value) (w' : World) : Prop :=
  ∃ i : Nat, i ≤ zs.length ∧ x = .int .i64 i ∧ Two w' w.heap.size v (cutTo d (zs.take i)) u (bitsOf d (cutTo d (zs.take i))) ∧ Below w.heap.size w w'
def InRel (d : Nat) (xs os : List Int) (n : Int) (w : World) (v u x : Value) (w' : World) : Prop :=
  ∃ j : Nat, j ≤ d ∧ x = .int .i64 j ∧ Two w' w.heap.size v xs u (os ++ digs 2 j n) ∧ Below w.heap.size w w'
theorem bitsOf_snoc (d : Nat) (xs : List Int) (x : Int) : bitsOf d (xs ++ [x]) = bitsOf d xs ++ digs 2 d x := by
  unfold bitsOf
  rw [List.flatMap_append]
  simp
theorem in_step {W w1 : World} {base : Nat} {v u u1 : Value} {xs os : List Int} {j : Nat} {n : Int} (H : Two W base v xs u (os ++ digs 2 j n)) (ho : RI w1 base u1 ((os ++ digs 2 j n) ++ [Go.bits .and .i64 (n / 2 ^ j) 1])) (hg : W.grownBy w1 u.ownBlock) (hat : u1.ownBlock = u.ownBlock ∨ ∃ b, u1.ownBlock = some b ∧ W.heap.size ≤ b) : Two w1 base v xs u1 (os ++ digs 2 (j + 1) n) := by
  rw [and_one, List.append_assoc, ← digs_snoc (by omega)] at ho
  exact (H.swap.left ho hg hat).swap
set_option maxHeartbeats 4000000 in
set_option maxRecDepth 20000 in
theorem ones_walk (a0 : Int) (a1 : Option Addr) (len1 cap1 : Nat) (z1 : List Int) (a2 a3 : Int) (w : World) (w0 : (Lit.int .i64 a0).wf = true) (w1 : RowIs .i64 w a1 len1 cap1 z1) (y1 : len1 * 8 ≤ 140737488351232) (w2 : (Lit.int .i64 a2).wf = true) (w3 : (Lit.int .i64 a3).wf = true) :
    Calls Try.prog 7 #[.int .i64 a0, .slice a1 len1 cap1, .int .i64 a2, .int .i64 a3] w fun e w' => e = .returned (.bool true) ∧ Below w.heap.size w w' := by
  obtain ⟨l1, rfl, hr1, hm1, hw1, hc1⟩ := ReadsInt.ofRowC w1
  have hC1 := Lib.hid (C_of_row64 hr1)
  clear hr1 w1 hw1 w0 w2 w3 hm1 hc1
  by_cases hg1 : 60 < l1.length
  · go_enter Try.func7, Try.ntmps7
    go_wp2_with (go_at_call 8; (with_reducible refine (awake_any _).mono ?_); rintro e w' ⟨rfl, hb⟩)
    go_ret
    exact ⟨rfl, hb⟩
  obtain ⟨t, ht⟩ : ∃ t, lowS a0 24 = t := ⟨_, rfl⟩
  have htb := lowS_bd a0 24 (by omega)
  rw [ht] at htb
  obtain ⟨t0, t1⟩ := htb
  have HT := Lib.hid ht
  clear ht
  obtain ⟨d, hd⟩ : ∃ d, (1 + t).toNat = d := ⟨_, rfl⟩
  have hd1 : 1 ≤ d := by omega
  have hd2 : d ≤ 24 := by omega
  obtain ⟨M, hM⟩ : ∃ M : Int, (2 : Int) ^ d = M := ⟨_, rfl⟩
  have hM1 : 1 ≤ M := by rw [← hM]; exact pow_pos' (by omega) d
  have hM2 : M ≤ 16777216 := by rw [← hM]; have := pow_mono hd2; omega
  have HD := Lib.hid hd
  have HM := Lib.hid hM
  have s1 : IntKind.i64.wrap (2 ^ min (1 + t).toNat 64) = M := by rw [hd, Nat.min_eq_left (by omega), hM]; exact wraps_i64 _ (by omega) (by omega)
  have s2 : IntKind.i64.wrap (1 * 2 ^ min (1 + t).toNat 64) = M := by rw [Int.one_mul]; exact s1
  have s3 : IntKind.i64.wrap (2 ^ (1 + t).toNat) = M := by rw [hd, hM]; exact wraps_i64 _ (by omega) (by omega)
  have s4 : IntKind.i64.wrap (1 * 2 ^ (1 + t).toNat) = M := by rw [Int.one_mul]; exact s3
  clear hM hd
  go_enter Try.func7, Try.ntmps7
  go_wp2_with (first
    | (go_at_call 25; (with_reducible refine (llow_any _ _ _ _ (by omega) (by omega) HT.out).mono ?_); rintro e w' ⟨rfl, ⟨nd, rfl⟩⟩))
  go_loopw [9, 10, 11] (fun v u x w' => OnesRel d l1 w v u x w') (fun _ _ x _ => (l1.length - intOf x).toNat)
  case atStart => exact ⟨0, by omega, rfl, (Two.nil _ _).drewN _, pw_below_drewN (Below.refl _ _) _⟩
  case round =>
    obtain ⟨i, hi, rfl, hR, hB⟩ := hrel
    by_cases hlt : i < l1.length
    · obtain ⟨ad, ha, hcell⟩ := Kd.at_int hC1.out i (by omega) (by omega)
      rw [Int.toNat_natCast] at hcell
      have hcw := (hB.cell (World.block_lt_of_cell? w _ hcell)).trans hcell
      obtain ⟨r, hr⟩ : ∃ r, lowS (rd l1 i) M = r := ⟨_, rfl⟩
      have hrb := lowS_bd (rd l1 i) M (by omega)
      rw [hr] at hrb
      obtain ⟨r0, r1⟩ := hrb
      have HRR := Lib.hid hr
      have hsn := cutTo_snoc d l1 i hlt
      rw [HM.out, hr] at hsn
      have HSN := Lib.hid hsn
      have HR := Lib.hid hR
      have HB := Lib.hid hB
      have hc0 := Lib.hid hcell
      clear hsn hr hR hB hcell
      subst ha
      go_wp2_with fail
      go_quiet ((first | (go_at_call 25; exact Calls.quiet_of_same (llow_same _ _ r _ (by omega) (by omega) HRR.out))))
      have HR2 := Lib.hid (HR.out.drewN nq)
      have HB2 := Lib.hid (pw_below_drewN HB.out nq)
      clear HR HB hcw
      generalize wr.drewN nq = w2 at HR2 HB2 ⊢
      go_wp2_with (((with_reducible refine gate_builtin (b := .append) (xs := #[.tmp 36, .tmp 38]) rfl ?_); at_builtin; refine Kd.R_append (Kd.int .i64) (w0 := w) w.heap.size rfl (.tmp 36) (.tmp 38) 22 3 (.int .i64 0) 8 rfl Try.underlying22 info3 rfl (by decide) (by omega) u9 (cutTo d (l1.take i)) r [.int .i64 r] (fun _ => True) (fun _ => False) rfl rfl ?aP (fun _ hk => hk.elim) ?aF ?aO ?aB ?aS ?aL ?_; (case aP => exact rfl); (case aB => exact HB2.out); (case aF => exact (fun _ _ => trivial)); (case aO => exact HR2.out.1); (case aS => exact (below_size HB2.out)); (case aL => rw [cutTo_len, List.length_take]; omega); intro v9 w3 ho hb hg hat; have HR3 := Lib.hid (HR2.out.left ho hg hat); have HB3 := Lib.hid hb; clear ho hb hg hat HR2 HB2))
      have HBND : Hid ((bitsOf d (cutTo d (l1.take i))).length ≤ 1440) := by
        show (bitsOf d (cutTo d (l1.take i))).length ≤ 1440
        rw [bitsOf_len, cutTo_len, List.length_take]
        exact Nat.mul_le_mul hd2 (by omega : min i l1.length ≤ 60)
      go_loopw [10, 13] (fun u x w' => InRel d (cutTo d (l1.take i) ++ [r]) (bitsOf d (cutTo d (l1.take i))) r w v9 u x w') (fun _ x _ => (d - intOf x).toNat)
      case atStart => exact ⟨0, by omega, rfl, by simpa [digs] using HR3.out, HB3.out⟩
      case round =>
        clear HR3 HB3
        obtain ⟨j, hj, rfl, hR, hB⟩ := hrel
        by_cases hjd : j < d
        · have hjt : (j : Int) < 1 + t := by have := HD.out; omega
          have HR := Lib.hid hR
          have HB := Lib.hid hB
          clear hR hB
          go_wp2_with (((with_reducible refine gate_builtin (b := .append) (xs := #[.tmp 45, .tmp 50]) rfl ?_); at_builtin; refine Kd.R_append (Kd.int .i64) (w0 := w) w.heap.size rfl (.tmp 45) (.tmp 50) 22 3 (.int .i64 0) 8 rfl Try.underlying22 info3 rfl (by decide) (by omega) u10 (bitsOf d (cutTo d (l1.take i)) ++ digs 2 j r) (Go.bits .and .i64 (r / 2 ^ j) 1) [.int .i64 (Go.bits .and .i64 (r / 2 ^ j) 1)] (fun _ => True) (fun _ => False) rfl rfl ?aP (fun _ hk => hk.elim) ?aF ?aO ?aB ?aS ?aL ?_; (case aP => exact rfl); (case aB => exact HB.out); (case aF => exact (fun _ _ => trivial)); (case aO => exact HR.out.2.1); (case aS => exact (below_size HB.out)); (case aL => rw [List.length_append, digs_length]; have := HBND.out; omega); intro u1 w3 ho hb hg hat; have HR3 := Lib.hid (in_step HR.out ho hg hat); have HB3 := Lib.hid hb; clear ho hb hg hat HR HB))
          go_roundw
          case rel => exact ⟨j + 1, by omega, by go_num, HR3.out, HB3.out⟩
          case measure => simp [intOf]; omega
        · have hjd2 : j = d := by omega
          subst hjd2
          have hjt : ¬ ((j : Int) < 1 + t) := by have := HD.out; omega
          rw [← bitsOf_snoc, ← HSN.out] at hR
          have HR := Lib.hid hR
          have HB := Lib.hid hB
          clear hR hB hjd
          go_wp2
          go_roundw
          case rel => exact ⟨i + 1, by omega, by go_num, HR.out, HB.out⟩
          case measure => simp [intOf]; omega
    · have e : i = l1.length := by omega
      subst e
      obtain ⟨X, hX⟩ : ∃ X, cutTo d l1 = X := ⟨_, rfl⟩
      have hXl : X.length = l1.length := by rw [← hX, cutTo_len]
      have hXok : okAll d X = true := by rw [← hX]; exact cutTo_ok d l1
      rw [List.take_length, hX] at hR
      obtain ⟨O, hO⟩ : ∃ O, bitsOf d X = O := ⟨_, rfl⟩
      have hOl : O.length ≤ 1440 := by
        rw [← hO, bitsOf_len]
        exact Nat.mul_le_mul hd2 (by omega : X.length ≤ 60)
      obtain ⟨p, hp⟩ : ∃ p, packS d X = p := ⟨_, rfl⟩
      have hpo := pack_ones d X hXok
      rw [hO, hp] at hpo
      rw [hO] at hR
      have hpB := pack_okB d X
      rw [hp] at hpB
      have hpl := pack_len d X hXok
      rw [hp] at hpl
      have hpn : p.length ≤ 181 := by
        have : d * X.length ≤ 24 * 60 := Nat.mul_le_mul hd2 (by omega)
        omega
      obtain ⟨u, hu⟩ : ∃ u, unpackS 1 p = u := ⟨_, rfl⟩
      have hpu := pack_one_unpack p hpB
      rw [hu] at hpu
      have hul : u.length ≤ 2000 := by rw [← hu]; unfold unpackS; rw [digs_length]; exact Nat.le_trans (Nat.div_le_self _ _) (by omega)
      obtain ⟨A, c, hv⟩ := Kd.R_slice hR.1
      subst hv
      obtain ⟨A', c', hv⟩ := Kd.R_slice hR.2.1
      subst hv
      obtain ⟨_, hcA, hCX⟩ := Kd.R_reads' hR.1
      obtain ⟨_, hcA', hCO⟩ := Kd.R_reads' hR.2.1
      obtain ⟨W, hW⟩ : ∃ W, lowS a3 63 = W := ⟨_, rfl⟩
      have hWb := lowS_bd a3 63 (by omega)
      rw [hW] at hWb
      obtain ⟨W0, W1⟩ := hWb
      obtain ⟨E, hE⟩ : ∃ E, lowS (1 + t) (W + 1) = E := ⟨_, rfl⟩
      have hEb := lowS_bd (1 + t) (W + 1) (by omega)
      rw [hE] at hEb
      obtain ⟨E0, E1⟩ := hEb
      obtain ⟨lx, hlx⟩ : ∃ y, a2 % 2 ^ W.toNat = y := ⟨_, rfl⟩
      obtain ⟨le, hle⟩ : ∃ y, a2 % 2 ^ E.toNat = y := ⟨_, rfl⟩
      have hll : lx % 2 ^ E.toNat = le := by rw [← hlx, ← hle]; exact low_low (by omega) a2
      have lx0 : 0 ≤ lx := by rw [← hlx]; exact Int.emod_nonneg _ (by have := pow_pos' (show (0 : Int) < 2 by omega) W.toNat; omega)
      have HP := Lib.hid (show packS (1 + t).toNat X = p by rw [HD.out]; exact hp)
      have HPO := Lib.hid (show packS (Int.toNat 1) O = p from hpo)
      have HU := Lib.hid (show unpackS (Int.toNat 1) p = u from hu)
      have HPU := Lib.hid (show packS (Int.toNat 1) u = p from hpu)
      have HW := Lib.hid hW
      have HE := Lib.hid hE
      have HLX := Lib.hid hlx
      have HLE := Lib.hid hle
      have HLL := Lib.hid hll
      have HPB := Lib.hid hpB
      have HB := Lib.hid hB
      have HCX := Lib.hid hCX
      have HCO := Lib.hid hCO
      have hcA := Lib.hid hcA
      have hcA' := Lib.hid hcA'
      have hXn : X.length ≤ 60 := by omega
      clear hX hXl hXok hO hp hpo hpB hpl hu hpu hW hE hlx hle hll hR hB hCX hCO hi hlt
      go_wp2_with fail
      (with_reducible refine (pack_any _ _ _ _ X p _ (by omega) (by omega) HCX.out rfl hcA.out (by omega) HP.out).mono ?_)
      rintro e w9 ⟨v9, rfl, hRp, hBp⟩
      obtain ⟨A9, c9, hv⟩ := Kd.R_slice hRp
      subst hv
      obtain ⟨_, hc9, hCp⟩ := Kd.R_reads' hRp
      have HBp := Lib.hid hBp
      have HCp := Lib.hid hCp
      have hc9 := Lib.hid hc9
      clear hRp hBp hCp
      go_wp2_with fail
      (with_reducible refine (pack_any _ _ _ _ O p _ (by omega) (by omega) (Kd.C_below HCO.out HBp.out) rfl hcA'.out (by omega) HPO.out).mono ?_)
      rintro e w10 ⟨v10, rfl, hRq, hBq⟩
      obtain ⟨A10, c10, hv⟩ := Kd.R_slice hRq
      subst hv
      obtain ⟨_, hc10, hCq⟩ := Kd.R_reads' hRq
      have HCp2 := Lib.hid (Kd.C_below HCp.out hBq)
      have HB10 := Lib.hid (below_step (below_step HB.out HBp.out) hBq)
      have HCq := Lib.hid hCq
      have hc10 := Lib.hid hc10
      clear hRq hBq hCq HCp HB HBp HCX HCO
      go_wp2_with (first
        | (go_at_call 25; (with_reducible refine (llow_any _ _ _ _ (by omega) (by omega) HW.out).mono ?_); rintro e w' ⟨rfl, ⟨nd, rfl⟩⟩)
        | (go_at_call 25; (with_reducible refine (llow_any _ _ _ _ (by omega) (by omega) HE.out).mono ?_); rintro e w' ⟨rfl, ⟨nd, rfl⟩⟩))
      (with_reducible refine (sameB_any _ _ _ _ _ _ p p _ (Kd.C_drewN HCp2.out _) (Kd.C_drewN HCq.out _) rfl rfl hc9.out hc10.out (by omega) rfl).mono ?_)
      rintro e w' ⟨rfl, ⟨nd2, rfl⟩⟩
      go_wp2_with fail
      (with_reducible refine (unpack_any _ _ _ _ p u _ (by omega) (by omega) (Kd.C_drewN HCp2.out _) rfl hc9.out (by omega) HPB.out HU.out).mono ?_)
      rintro e w11 ⟨v11, rfl, hRu, hBu⟩
      obtain ⟨A11, c11, hv⟩ := Kd.R_slice hRu
      subst hv
      obtain ⟨_, hc11, hCu⟩ := Kd.R_reads' hRu
      have HCp3 := Lib.hid (Kd.C_below (Kd.C_drewN HCp2.out _) hBu)
      have HB11 := Lib.hid (below_step (pw_below_drewN HB10.out _) hBu)
      have HCu := Lib.hid hCu
      have hc11 := Lib.hid hc11
      clear hRu hBu hCu HCp2 HB10
      go_wp2_with fail
      (with_reducible refine (pack_any _ _ _ _ u p _ (by omega) (by omega) HCu.out rfl hc11.out (by omega) HPU.out).mono ?_)
      rintro e w12 ⟨v12, rfl, hRr, hBr⟩
      obtain ⟨A12, c12, hv⟩ := Kd.R_slice hRr
      subst hv
      obtain ⟨_, hc12, hCr⟩ := Kd.R_reads' hRr
      have HCp4 := Lib.hid (Kd.C_below HCp3.out hBr)
      have HB12 := Lib.hid (below_step HB11.out hBr)
      have HCr := Lib.hid hCr
      have hc12 := Lib.hid hc12
      clear hRr hBr hCr HCp3 HB11
      go_wp2_with fail
      (with_reducible refine (sameB_any _ _ _ _ _ _ p p _ HCr.out HCp4.out rfl rfl hc12.out hc9.out (by omega) rfl).mono ?_)
      rintro e w' ⟨rfl, ⟨nd3, rfl⟩⟩
      go_wp2_with (first
        | (go_at_call 17; (with_reducible refine (low_any _ _ _ _ (by omega) (by omega) HLX.out).mono ?_); rintro e w' ⟨rfl, ⟨nd, rfl⟩⟩)
        | (go_at_call 17; (with_reducible refine (low_any _ _ _ _ (by omega) (by omega) HLL.out).mono ?_); rintro e w' ⟨rfl, ⟨nd, rfl⟩⟩)
        | (go_at_call 17; (with_reducible refine (low_any _ _ _ _ (by omega) (by omega) HLE.out).mono ?_); rintro e w' ⟨rfl, ⟨nd, rfl⟩⟩)
        | (go_at_call 8; (with_reducible refine (awake_any _).mono ?_); rintro e w' ⟨rfl, hb⟩))
      go_ret
      exact ⟨rfl, below_step (pw_below_drewN HB12.out _) hb⟩
end Go.Proofs.Ytefiaaglkenfeaa.T
