/- BitsTurn: its plain law and its walk. -/
import Derived.Test.YtefiaaglkenfeaaCo
namespace Go.Proofs.Ytefiaaglkenfeaa.T
open Go.RowKit Go.Proofs.Ytefiaaglkenfeaa.PBitsTell Go.Proofs.YtefiaaglkenfeaaW.PrintWords Go.Proofs.YtefiaaglkenfeaaW.PrintLast
open Go.Proofs.Ytefiaaglkenfeaa.N Go.Proofs.Ytefiaaglkenfeaa.K
set_option linter.unusedVariables false
set_option linter.unusedSimpArgs false
/-- which ones were met before the i-th. -/
def met (d n i : Nat) : List Bool := (List.range n).map fun (m : Nat) => decide (tn d m < i)
theorem met_len (d n i : Nat) : (met d n i).length = n := by simp [met]
theorem met_zero (d n : Nat) : met d n 0 = List.replicate n false := by
  unfold met
  rw [List.eq_replicate_iff]
  refine ⟨by simp, fun b hb => ?_⟩
  obtain ⟨m, _, rfl⟩ := List.mem_map.1 hb
  have := (tn_bd d m).1
  simp; omega
theorem met_get (d n i : Nat) (hn : (n : Int) = 2 ^ d) (hi : i < n) : rdOf false (met d n i) (tn d i) = false := by
  have hb := tn_bd d i
  have ht := tn_tn d i
  obtain ⟨m, hm⟩ := Int.eq_ofNat_of_zero_le hb.1
  rw [hm] at hb ht ⊢
  have hmn : m < n := by omega
  have e : (i : Int) % 2 ^ d = i := Int.emod_eq_of_lt (by omega) (by omega)
  rw [e] at ht
  simp [rdOf, met, List.getD_eq_getElem?_getD, hmn, ht]
theorem met_set (d n i : Nat) (hn : (n : Int) = 2 ^ d) (hi : i < n) : (met d n i).set (tn d i).toNat true = met d n (i + 1) := by
  have hb := tn_bd d i
  have ht := tn_tn d i
  obtain ⟨m, hm⟩ := Int.eq_ofNat_of_zero_le hb.1
  rw [hm] at hb ht ⊢
  have e : (i : Int) % 2 ^ d = i := Int.emod_eq_of_lt (by omega) (by omega)
  rw [e] at ht
  rw [Int.toNat_natCast]
  apply List.ext_getElem
  · simp [met]
  · intro j h1 h2
    simp only [met, List.length_map, List.length_range] at h2
    rw [List.getElem_set]
    simp only [met, List.getElem_map, List.getElem_range]
    by_cases hj : m = j
    · subst hj
      rw [if_pos rfl]
      symm
      rw [decide_eq_true_iff, ht]; omega
    · rw [if_neg hj]
      have h3 : tn d j ≠ i := by
        intro h
        have h4 := tn_tn d j
        rw [h, hm] at h4
        have e2 : (j : Int) % 2 ^ d = j := Int.emod_eq_of_lt (by omega) (by omega)
        omega
      rw [decide_eq_decide]
      omega
def TurnRel (d n g cap : Nat) (w : World) (v : Value) (w' : World) : Prop :=
  ∃ i : Nat, i ≤ n ∧ v = .int .i64 i ∧ Kd.R Kd.bool 4 w' w.heap.size (fun _ => True) (.slice (some ⟨g, 0, none⟩) n cap) (met d n i) ∧ Below w.heap.size w w' ∧ w.heap.size ≤ g
theorem info4 : (Try.prog.info? 4).map (fun i => (i.zero, i.size, i.bytes)) = some (some (.bool false), 1, 1) := by kernel_rfl
theorem below_drews (w : World) (n : Nat) : Below w.heap.size w (w.drewN n) := pw_below_drewN (Below.refl _ _) n
theorem turn_start (d n : Nat) (hn : (n : Int) = 2 ^ d) {w W w1 : World} {v : Value} (HR : Hid (Kd.R Kd.bool 4 w1 W.heap.size (fun _ => True) v (List.replicate (Int.toNat n) false))) (HB : Hid (Below W.heap.size W w1)) (hW : Below w.heap.size w W) :
    ∃ g cap, v = .slice (some ⟨g, 0, none⟩) n cap ∧ Hid (TurnRel d n g cap w (.int .i64 0) w1) := by
  have hR := HR.out
  have hB := HB.out
  rw [Int.toNat_natCast, ← met_zero d n] at hR
  have hp := pow_pos' (show (0 : Int) < 2 by omega) d
  obtain ⟨g, cap, hv, hg, _⟩ := Kd.R_form hR (by rw [met_len]; omega)
  rw [met_len] at hv
  subst hv
  exact ⟨g, cap, rfl, 0, by omega, rfl, Kd.R_lower hR hW.size, below_step hW hB, Nat.le_trans hW.size hg⟩
theorem turn_R {d n g cap i base : Nat} {w : World} (HR : Hid (Kd.R Kd.bool 4 w base (fun _ => True) (.slice (some ⟨g, 0, none⟩) n cap) (met d n i))) (nd : Nat) : Kd.R Kd.bool 4 (w.drewN nd) base (fun _ => True) (.slice (some ⟨g, 0, none⟩) n cap) (met d n i) := Kd.R_drewN HR.out nd
theorem turn_B {w wr : World} (HB : Hid (Below w.heap.size w wr)) (nd : Nat) : Below w.heap.size w (wr.drewN nd) := pw_below_drewN HB.out nd

set_option maxHeartbeats 4000000 in
set_option maxRecDepth 20000 in
theorem turn_walk0 (a0 : Int) (a1 : Int) (w : World) (hD : lowS a0 9 = 0) :
    Calls Try.prog 5 #[.int .i64 a0, .int .i64 a1] w fun e w' => e = .returned (.bool true) ∧ Below w.heap.size w w' := by
  obtain ⟨t, ht⟩ : ∃ t, lowS a0 63 = t := ⟨_, rfl⟩
  have htb := lowS_bd a0 63 (by omega)
  rw [ht] at htb
  obtain ⟨t0, t1⟩ := htb
  obtain ⟨y, hy⟩ : ∃ y, tn t.toNat a1 = y := ⟨_, rfl⟩
  obtain ⟨z, hz⟩ : ∃ y, a1 % 2 ^ t.toNat = y := ⟨_, rfl⟩
  have hyz : tn t.toNat y = z := by rw [← hy, ← hz, tn_tn]
  have HT := Lib.hid ht
  have HY := Lib.hid hy
  have HZ := Lib.hid hz
  have HYZ := Lib.hid hyz
  have HD := Lib.hid hD
  clear hD ht hy hz hyz
  go_enter Try.func5, Try.ntmps5
  go_wp2_with (first
    | (go_at_call 25; (with_reducible refine (llow_any _ _ _ _ (by omega) (by omega) HT.out).mono ?_); rintro e w' ⟨rfl, ⟨nd, rfl⟩⟩)
    | (go_at_call 25; (with_reducible refine (llow_any _ _ _ _ (by omega) (by omega) HD.out).mono ?_); rintro e w' ⟨rfl, ⟨nd, rfl⟩⟩)
    | (go_at_call 19; (with_reducible refine (turn_any _ _ _ _ (by omega) (by omega) HY.out).mono ?_); rintro e w' ⟨rfl, ⟨nd, rfl⟩⟩)
    | (go_at_call 19; (with_reducible refine (turn_any _ _ _ _ (by omega) (by omega) HYZ.out).mono ?_); rintro e w' ⟨rfl, ⟨nd, rfl⟩⟩)
    | (go_at_call 17; (with_reducible refine (low_any _ _ _ _ (by omega) (by omega) HZ.out).mono ?_); rintro e w' ⟨rfl, ⟨nd, rfl⟩⟩)
    | ((with_reducible refine gate_dst (N := 24) rfl ?_); refine Kd.R_make Kd.bool _ 4 rfl (N := 24) rfl 37 _ _ rfl 1 rfl rfl Try.underlying37 (.bool false) 1 info4 rfl (by decide) (by omega) false (ok := fun _ => True) (okp := fun _ => True) rfl (fun _ hk => hk) trivial (by omega) (by decide) (Below.refl _ _) (Nat.le_refl _) ?_; intro v1 w1 hR hB hg hnew; clear hg hnew; have HR := Lib.hid hR; have HB := Lib.hid hB; clear hR hB))
  obtain ⟨g, cap, hv, HF⟩ := turn_start 0 1 (by decide) HR HB (below_drews w _)
  subst hv
  clear HR HB
  go_loopw [7] (fun v w' => TurnRel 0 1 g cap w v w') (fun v _ => (1 - intOf v).toNat)
  case atStart => exact HF.out
  case round =>
    obtain ⟨i, hi, rfl, hR, hB, hg⟩ := hrel
    by_cases hlt : i < 1
    · obtain ⟨y, hy⟩ : ∃ y, tn 0 i = y := ⟨_, rfl⟩
      have hyb := tn_bd 0 i
      rw [hy] at hyb
      obtain ⟨y0, y1⟩ := hyb
      simp only [Int.reducePow] at y1
      have HY2 := Lib.hid (show tn (Int.toNat 0) i = y from hy)
      have hget := met_get 0 1 i (by decide) hlt
      have hset := met_set 0 1 i (by decide) hlt
      rw [hy] at hget hset
      have HS := Lib.hid hset
      have HR := Lib.hid hR
      have HB := Lib.hid hB
      have HG := Lib.hid hget
      clear hR hB hset hy hget
      go_wp2_with fail
      (with_reducible refine (turn_any _ _ _ _ (by omega) (by omega) HY2.out).mono ?_)
      rintro e w' ⟨rfl, ⟨nd, rfl⟩⟩
      generalize hw2 : wr.drewN nd = w2
      have hR2 := turn_R HR nd
      have hB2 := turn_B HB nd
      rw [hw2] at hR2 hB2
      have hc := Kd.R_celln false hR2 y (by omega) (by omega)
      rw [HG.out] at hc
      obtain ⟨hc1, hc2⟩ := hc
      have HP := Lib.hid (Kd.R_putg hR2 y true).1
      have HR2 := Lib.hid hR2
      have HB2 := Lib.hid hB2
      clear hR2 hB2 HR HB hw2
      go_wp2
      go_roundw
      case rel => exact ⟨i + 1, by omega, by go_num, by rw [← HS.out]; exact HP.out, below_set HB2.out hg, hg⟩
      case measure => simp [intOf]; omega
    · have hge : 1 ≤ i := by omega
      clear hlt
      have HB := Lib.hid hB
      clear hR hB
      go_wp2_with (go_at_call 8; (with_reducible refine (awake_any _).mono ?_); rintro e w' ⟨rfl, hb⟩)
      go_ret
      exact ⟨rfl, below_step HB.out hb⟩

set_option maxHeartbeats 4000000 in
set_option maxRecDepth 20000 in
theorem turn_walk1 (a0 : Int) (a1 : Int) (w : World) (hD : lowS a0 9 = 1) :
    Calls Try.prog 5 #[.int .i64 a0, .int .i64 a1] w fun e w' => e = .returned (.bool true) ∧ Below w.heap.size w w' := by
  obtain ⟨t, ht⟩ : ∃ t, lowS a0 63 = t := ⟨_, rfl⟩
  have htb := lowS_bd a0 63 (by omega)
  rw [ht] at htb
  obtain ⟨t0, t1⟩ := htb
  obtain ⟨y, hy⟩ : ∃ y, tn t.toNat a1 = y := ⟨_, rfl⟩
  obtain ⟨z, hz⟩ : ∃ y, a1 % 2 ^ t.toNat = y := ⟨_, rfl⟩
  have hyz : tn t.toNat y = z := by rw [← hy, ← hz, tn_tn]
  have HT := Lib.hid ht
  have HY := Lib.hid hy
  have HZ := Lib.hid hz
  have HYZ := Lib.hid hyz
  have HD := Lib.hid hD
  clear hD ht hy hz hyz
  go_enter Try.func5, Try.ntmps5
  go_wp2_with (first
    | (go_at_call 25; (with_reducible refine (llow_any _ _ _ _ (by omega) (by omega) HT.out).mono ?_); rintro e w' ⟨rfl, ⟨nd, rfl⟩⟩)
    | (go_at_call 25; (with_reducible refine (llow_any _ _ _ _ (by omega) (by omega) HD.out).mono ?_); rintro e w' ⟨rfl, ⟨nd, rfl⟩⟩)
    | (go_at_call 19; (with_reducible refine (turn_any _ _ _ _ (by omega) (by omega) HY.out).mono ?_); rintro e w' ⟨rfl, ⟨nd, rfl⟩⟩)
    | (go_at_call 19; (with_reducible refine (turn_any _ _ _ _ (by omega) (by omega) HYZ.out).mono ?_); rintro e w' ⟨rfl, ⟨nd, rfl⟩⟩)
    | (go_at_call 17; (with_reducible refine (low_any _ _ _ _ (by omega) (by omega) HZ.out).mono ?_); rintro e w' ⟨rfl, ⟨nd, rfl⟩⟩)
    | ((with_reducible refine gate_dst (N := 24) rfl ?_); refine Kd.R_make Kd.bool _ 4 rfl (N := 24) rfl 37 _ _ rfl 2 rfl rfl Try.underlying37 (.bool false) 1 info4 rfl (by decide) (by omega) false (ok := fun _ => True) (okp := fun _ => True) rfl (fun _ hk => hk) trivial (by omega) (by decide) (Below.refl _ _) (Nat.le_refl _) ?_; intro v1 w1 hR hB hg hnew; clear hg hnew; have HR := Lib.hid hR; have HB := Lib.hid hB; clear hR hB))
  obtain ⟨g, cap, hv, HF⟩ := turn_start 1 2 (by decide) HR HB (below_drews w _)
  subst hv
  clear HR HB
  go_loopw [7] (fun v w' => TurnRel 1 2 g cap w v w') (fun v _ => (2 - intOf v).toNat)
  case atStart => exact HF.out
  case round =>
    obtain ⟨i, hi, rfl, hR, hB, hg⟩ := hrel
    by_cases hlt : i < 2
    · obtain ⟨y, hy⟩ : ∃ y, tn 1 i = y := ⟨_, rfl⟩
      have hyb := tn_bd 1 i
      rw [hy] at hyb
      obtain ⟨y0, y1⟩ := hyb
      simp only [Int.reducePow] at y1
      have HY2 := Lib.hid (show tn (Int.toNat 1) i = y from hy)
      have hget := met_get 1 2 i (by decide) hlt
      have hset := met_set 1 2 i (by decide) hlt
      rw [hy] at hget hset
      have HS := Lib.hid hset
      have HR := Lib.hid hR
      have HB := Lib.hid hB
      have HG := Lib.hid hget
      clear hR hB hset hy hget
      go_wp2_with fail
      (with_reducible refine (turn_any _ _ _ _ (by omega) (by omega) HY2.out).mono ?_)
      rintro e w' ⟨rfl, ⟨nd, rfl⟩⟩
      generalize hw2 : wr.drewN nd = w2
      have hR2 := turn_R HR nd
      have hB2 := turn_B HB nd
      rw [hw2] at hR2 hB2
      have hc := Kd.R_celln false hR2 y (by omega) (by omega)
      rw [HG.out] at hc
      obtain ⟨hc1, hc2⟩ := hc
      have HP := Lib.hid (Kd.R_putg hR2 y true).1
      have HR2 := Lib.hid hR2
      have HB2 := Lib.hid hB2
      clear hR2 hB2 HR HB hw2
      go_wp2
      go_roundw
      case rel => exact ⟨i + 1, by omega, by go_num, by rw [← HS.out]; exact HP.out, below_set HB2.out hg, hg⟩
      case measure => simp [intOf]; omega
    · have hge : 2 ≤ i := by omega
      clear hlt
      have HB := Lib.hid hB
      clear hR hB
      go_wp2_with (go_at_call 8; (with_reducible refine (awake_any _).mono ?_); rintro e w' ⟨rfl, hb⟩)
      go_ret
      exact ⟨rfl, below_step HB.out hb⟩

set_option maxHeartbeats 4000000 in
set_option maxRecDepth 20000 in
theorem turn_walk2 (a0 : Int) (a1 : Int) (w : World) (hD : lowS a0 9 = 2) :
    Calls Try.prog 5 #[.int .i64 a0, .int .i64 a1] w fun e w' => e = .returned (.bool true) ∧ Below w.heap.size w w' := by
  obtain ⟨t, ht⟩ : ∃ t, lowS a0 63 = t := ⟨_, rfl⟩
  have htb := lowS_bd a0 63 (by omega)
  rw [ht] at htb
  obtain ⟨t0, t1⟩ := htb
  obtain ⟨y, hy⟩ : ∃ y, tn t.toNat a1 = y := ⟨_, rfl⟩
  obtain ⟨z, hz⟩ : ∃ y, a1 % 2 ^ t.toNat = y := ⟨_, rfl⟩
  have hyz : tn t.toNat y = z := by rw [← hy, ← hz, tn_tn]
  have HT := Lib.hid ht
  have HY := Lib.hid hy
  have HZ := Lib.hid hz
  have HYZ := Lib.hid hyz
  have HD := Lib.hid hD
  clear hD ht hy hz hyz
  go_enter Try.func5, Try.ntmps5
  go_wp2_with (first
    | (go_at_call 25; (with_reducible refine (llow_any _ _ _ _ (by omega) (by omega) HT.out).mono ?_); rintro e w' ⟨rfl, ⟨nd, rfl⟩⟩)
    | (go_at_call 25; (with_reducible refine (llow_any _ _ _ _ (by omega) (by omega) HD.out).mono ?_); rintro e w' ⟨rfl, ⟨nd, rfl⟩⟩)
    | (go_at_call 19; (with_reducible refine (turn_any _ _ _ _ (by omega) (by omega) HY.out).mono ?_); rintro e w' ⟨rfl, ⟨nd, rfl⟩⟩)
    | (go_at_call 19; (with_reducible refine (turn_any _ _ _ _ (by omega) (by omega) HYZ.out).mono ?_); rintro e w' ⟨rfl, ⟨nd, rfl⟩⟩)
    | (go_at_call 17; (with_reducible refine (low_any _ _ _ _ (by omega) (by omega) HZ.out).mono ?_); rintro e w' ⟨rfl, ⟨nd, rfl⟩⟩)
    | ((with_reducible refine gate_dst (N := 24) rfl ?_); refine Kd.R_make Kd.bool _ 4 rfl (N := 24) rfl 37 _ _ rfl 4 rfl rfl Try.underlying37 (.bool false) 1 info4 rfl (by decide) (by omega) false (ok := fun _ => True) (okp := fun _ => True) rfl (fun _ hk => hk) trivial (by omega) (by decide) (Below.refl _ _) (Nat.le_refl _) ?_; intro v1 w1 hR hB hg hnew; clear hg hnew; have HR := Lib.hid hR; have HB := Lib.hid hB; clear hR hB))
  obtain ⟨g, cap, hv, HF⟩ := turn_start 2 4 (by decide) HR HB (below_drews w _)
  subst hv
  clear HR HB
  go_loopw [7] (fun v w' => TurnRel 2 4 g cap w v w') (fun v _ => (4 - intOf v).toNat)
  case atStart => exact HF.out
  case round =>
    obtain ⟨i, hi, rfl, hR, hB, hg⟩ := hrel
    by_cases hlt : i < 4
    · obtain ⟨y, hy⟩ : ∃ y, tn 2 i = y := ⟨_, rfl⟩
      have hyb := tn_bd 2 i
      rw [hy] at hyb
      obtain ⟨y0, y1⟩ := hyb
      simp only [Int.reducePow] at y1
      have HY2 := Lib.hid (show tn (Int.toNat 2) i = y from hy)
      have hget := met_get 2 4 i (by decide) hlt
      have hset := met_set 2 4 i (by decide) hlt
      rw [hy] at hget hset
      have HS := Lib.hid hset
      have HR := Lib.hid hR
      have HB := Lib.hid hB
      have HG := Lib.hid hget
      clear hR hB hset hy hget
      go_wp2_with fail
      (with_reducible refine (turn_any _ _ _ _ (by omega) (by omega) HY2.out).mono ?_)
      rintro e w' ⟨rfl, ⟨nd, rfl⟩⟩
      generalize hw2 : wr.drewN nd = w2
      have hR2 := turn_R HR nd
      have hB2 := turn_B HB nd
      rw [hw2] at hR2 hB2
      have hc := Kd.R_celln false hR2 y (by omega) (by omega)
      rw [HG.out] at hc
      obtain ⟨hc1, hc2⟩ := hc
      have HP := Lib.hid (Kd.R_putg hR2 y true).1
      have HR2 := Lib.hid hR2
      have HB2 := Lib.hid hB2
      clear hR2 hB2 HR HB hw2
      go_wp2
      go_roundw
      case rel => exact ⟨i + 1, by omega, by go_num, by rw [← HS.out]; exact HP.out, below_set HB2.out hg, hg⟩
      case measure => simp [intOf]; omega
    · have hge : 4 ≤ i := by omega
      clear hlt
      have HB := Lib.hid hB
      clear hR hB
      go_wp2_with (go_at_call 8; (with_reducible refine (awake_any _).mono ?_); rintro e w' ⟨rfl, hb⟩)
      go_ret
      exact ⟨rfl, below_step HB.out hb⟩

set_option maxHeartbeats 4000000 in
set_option maxRecDepth 20000 in
theorem turn_walk3 (a0 : Int) (a1 : Int) (w : World) (hD : lowS a0 9 = 3) :
    Calls Try.prog 5 #[.int .i64 a0, .int .i64 a1] w fun e w' => e = .returned (.bool true) ∧ Below w.heap.size w w' := by
  obtain ⟨t, ht⟩ : ∃ t, lowS a0 63 = t := ⟨_, rfl⟩
  have htb := lowS_bd a0 63 (by omega)
  rw [ht] at htb
  obtain ⟨t0, t1⟩ := htb
  obtain ⟨y, hy⟩ : ∃ y, tn t.toNat a1 = y := ⟨_, rfl⟩
  obtain ⟨z, hz⟩ : ∃ y, a1 % 2 ^ t.toNat = y := ⟨_, rfl⟩
  have hyz : tn t.toNat y = z := by rw [← hy, ← hz, tn_tn]
  have HT := Lib.hid ht
  have HY := Lib.hid hy
  have HZ := Lib.hid hz
  have HYZ := Lib.hid hyz
  have HD := Lib.hid hD
  clear hD ht hy hz hyz
  go_enter Try.func5, Try.ntmps5
  go_wp2_with (first
    | (go_at_call 25; (with_reducible refine (llow_any _ _ _ _ (by omega) (by omega) HT.out).mono ?_); rintro e w' ⟨rfl, ⟨nd, rfl⟩⟩)
    | (go_at_call 25; (with_reducible refine (llow_any _ _ _ _ (by omega) (by omega) HD.out).mono ?_); rintro e w' ⟨rfl, ⟨nd, rfl⟩⟩)
    | (go_at_call 19; (with_reducible refine (turn_any _ _ _ _ (by omega) (by omega) HY.out).mono ?_); rintro e w' ⟨rfl, ⟨nd, rfl⟩⟩)
    | (go_at_call 19; (with_reducible refine (turn_any _ _ _ _ (by omega) (by omega) HYZ.out).mono ?_); rintro e w' ⟨rfl, ⟨nd, rfl⟩⟩)
    | (go_at_call 17; (with_reducible refine (low_any _ _ _ _ (by omega) (by omega) HZ.out).mono ?_); rintro e w' ⟨rfl, ⟨nd, rfl⟩⟩)
    | ((with_reducible refine gate_dst (N := 24) rfl ?_); refine Kd.R_make Kd.bool _ 4 rfl (N := 24) rfl 37 _ _ rfl 8 rfl rfl Try.underlying37 (.bool false) 1 info4 rfl (by decide) (by omega) false (ok := fun _ => True) (okp := fun _ => True) rfl (fun _ hk => hk) trivial (by omega) (by decide) (Below.refl _ _) (Nat.le_refl _) ?_; intro v1 w1 hR hB hg hnew; clear hg hnew; have HR := Lib.hid hR; have HB := Lib.hid hB; clear hR hB))
  obtain ⟨g, cap, hv, HF⟩ := turn_start 3 8 (by decide) HR HB (below_drews w _)
  subst hv
  clear HR HB
  go_loopw [7] (fun v w' => TurnRel 3 8 g cap w v w') (fun v _ => (8 - intOf v).toNat)
  case atStart => exact HF.out
  case round =>
    obtain ⟨i, hi, rfl, hR, hB, hg⟩ := hrel
    by_cases hlt : i < 8
    · obtain ⟨y, hy⟩ : ∃ y, tn 3 i = y := ⟨_, rfl⟩
      have hyb := tn_bd 3 i
      rw [hy] at hyb
      obtain ⟨y0, y1⟩ := hyb
      simp only [Int.reducePow] at y1
      have HY2 := Lib.hid (show tn (Int.toNat 3) i = y from hy)
      have hget := met_get 3 8 i (by decide) hlt
      have hset := met_set 3 8 i (by decide) hlt
      rw [hy] at hget hset
      have HS := Lib.hid hset
      have HR := Lib.hid hR
      have HB := Lib.hid hB
      have HG := Lib.hid hget
      clear hR hB hset hy hget
      go_wp2_with fail
      (with_reducible refine (turn_any _ _ _ _ (by omega) (by omega) HY2.out).mono ?_)
      rintro e w' ⟨rfl, ⟨nd, rfl⟩⟩
      generalize hw2 : wr.drewN nd = w2
      have hR2 := turn_R HR nd
      have hB2 := turn_B HB nd
      rw [hw2] at hR2 hB2
      have hc := Kd.R_celln false hR2 y (by omega) (by omega)
      rw [HG.out] at hc
      obtain ⟨hc1, hc2⟩ := hc
      have HP := Lib.hid (Kd.R_putg hR2 y true).1
      have HR2 := Lib.hid hR2
      have HB2 := Lib.hid hB2
      clear hR2 hB2 HR HB hw2
      go_wp2
      go_roundw
      case rel => exact ⟨i + 1, by omega, by go_num, by rw [← HS.out]; exact HP.out, below_set HB2.out hg, hg⟩
      case measure => simp [intOf]; omega
    · have hge : 8 ≤ i := by omega
      clear hlt
      have HB := Lib.hid hB
      clear hR hB
      go_wp2_with (go_at_call 8; (with_reducible refine (awake_any _).mono ?_); rintro e w' ⟨rfl, hb⟩)
      go_ret
      exact ⟨rfl, below_step HB.out hb⟩

set_option maxHeartbeats 4000000 in
set_option maxRecDepth 20000 in
theorem turn_walk4 (a0 : Int) (a1 : Int) (w : World) (hD : lowS a0 9 = 4) :
    Calls Try.prog 5 #[.int .i64 a0, .int .i64 a1] w fun e w' => e = .returned (.bool true) ∧ Below w.heap.size w w' := by
  obtain ⟨t, ht⟩ : ∃ t, lowS a0 63 = t := ⟨_, rfl⟩
  have htb := lowS_bd a0 63 (by omega)
  rw [ht] at htb
  obtain ⟨t0, t1⟩ := htb
  obtain ⟨y, hy⟩ : ∃ y, tn t.toNat a1 = y := ⟨_, rfl⟩
  obtain ⟨z, hz⟩ : ∃ y, a1 % 2 ^ t.toNat = y := ⟨_, rfl⟩
  have hyz : tn t.toNat y = z := by rw [← hy, ← hz, tn_tn]
  have HT := Lib.hid ht
  have HY := Lib.hid hy
  have HZ := Lib.hid hz
  have HYZ := Lib.hid hyz
  have HD := Lib.hid hD
  clear hD ht hy hz hyz
  go_enter Try.func5, Try.ntmps5
  go_wp2_with (first
    | (go_at_call 25; (with_reducible refine (llow_any _ _ _ _ (by omega) (by omega) HT.out).mono ?_); rintro e w' ⟨rfl, ⟨nd, rfl⟩⟩)
    | (go_at_call 25; (with_reducible refine (llow_any _ _ _ _ (by omega) (by omega) HD.out).mono ?_); rintro e w' ⟨rfl, ⟨nd, rfl⟩⟩)
    | (go_at_call 19; (with_reducible refine (turn_any _ _ _ _ (by omega) (by omega) HY.out).mono ?_); rintro e w' ⟨rfl, ⟨nd, rfl⟩⟩)
    | (go_at_call 19; (with_reducible refine (turn_any _ _ _ _ (by omega) (by omega) HYZ.out).mono ?_); rintro e w' ⟨rfl, ⟨nd, rfl⟩⟩)
    | (go_at_call 17; (with_reducible refine (low_any _ _ _ _ (by omega) (by omega) HZ.out).mono ?_); rintro e w' ⟨rfl, ⟨nd, rfl⟩⟩)
    | ((with_reducible refine gate_dst (N := 24) rfl ?_); refine Kd.R_make Kd.bool _ 4 rfl (N := 24) rfl 37 _ _ rfl 16 rfl rfl Try.underlying37 (.bool false) 1 info4 rfl (by decide) (by omega) false (ok := fun _ => True) (okp := fun _ => True) rfl (fun _ hk => hk) trivial (by omega) (by decide) (Below.refl _ _) (Nat.le_refl _) ?_; intro v1 w1 hR hB hg hnew; clear hg hnew; have HR := Lib.hid hR; have HB := Lib.hid hB; clear hR hB))
  obtain ⟨g, cap, hv, HF⟩ := turn_start 4 16 (by decide) HR HB (below_drews w _)
  subst hv
  clear HR HB
  go_loopw [7] (fun v w' => TurnRel 4 16 g cap w v w') (fun v _ => (16 - intOf v).toNat)
  case atStart => exact HF.out
  case round =>
    obtain ⟨i, hi, rfl, hR, hB, hg⟩ := hrel
    by_cases hlt : i < 16
    · obtain ⟨y, hy⟩ : ∃ y, tn 4 i = y := ⟨_, rfl⟩
      have hyb := tn_bd 4 i
      rw [hy] at hyb
      obtain ⟨y0, y1⟩ := hyb
      simp only [Int.reducePow] at y1
      have HY2 := Lib.hid (show tn (Int.toNat 4) i = y from hy)
      have hget := met_get 4 16 i (by decide) hlt
      have hset := met_set 4 16 i (by decide) hlt
      rw [hy] at hget hset
      have HS := Lib.hid hset
      have HR := Lib.hid hR
      have HB := Lib.hid hB
      have HG := Lib.hid hget
      clear hR hB hset hy hget
      go_wp2_with fail
      (with_reducible refine (turn_any _ _ _ _ (by omega) (by omega) HY2.out).mono ?_)
      rintro e w' ⟨rfl, ⟨nd, rfl⟩⟩
      generalize hw2 : wr.drewN nd = w2
      have hR2 := turn_R HR nd
      have hB2 := turn_B HB nd
      rw [hw2] at hR2 hB2
      have hc := Kd.R_celln false hR2 y (by omega) (by omega)
      rw [HG.out] at hc
      obtain ⟨hc1, hc2⟩ := hc
      have HP := Lib.hid (Kd.R_putg hR2 y true).1
      have HR2 := Lib.hid hR2
      have HB2 := Lib.hid hB2
      clear hR2 hB2 HR HB hw2
      go_wp2
      go_roundw
      case rel => exact ⟨i + 1, by omega, by go_num, by rw [← HS.out]; exact HP.out, below_set HB2.out hg, hg⟩
      case measure => simp [intOf]; omega
    · have hge : 16 ≤ i := by omega
      clear hlt
      have HB := Lib.hid hB
      clear hR hB
      go_wp2_with (go_at_call 8; (with_reducible refine (awake_any _).mono ?_); rintro e w' ⟨rfl, hb⟩)
      go_ret
      exact ⟨rfl, below_step HB.out hb⟩

set_option maxHeartbeats 4000000 in
set_option maxRecDepth 20000 in
theorem turn_walk5 (a0 : Int) (a1 : Int) (w : World) (hD : lowS a0 9 = 5) :
    Calls Try.prog 5 #[.int .i64 a0, .int .i64 a1] w fun e w' => e = .returned (.bool true) ∧ Below w.heap.size w w' := by
  obtain ⟨t, ht⟩ : ∃ t, lowS a0 63 = t := ⟨_, rfl⟩
  have htb := lowS_bd a0 63 (by omega)
  rw [ht] at htb
  obtain ⟨t0, t1⟩ := htb
  obtain ⟨y, hy⟩ : ∃ y, tn t.toNat a1 = y := ⟨_, rfl⟩
  obtain ⟨z, hz⟩ : ∃ y, a1 % 2 ^ t.toNat = y := ⟨_, rfl⟩
  have hyz : tn t.toNat y = z := by rw [← hy, ← hz, tn_tn]
  have HT := Lib.hid ht
  have HY := Lib.hid hy
  have HZ := Lib.hid hz
  have HYZ := Lib.hid hyz
  have HD := Lib.hid hD
  clear hD ht hy hz hyz
  go_enter Try.func5, Try.ntmps5
  go_wp2_with (first
    | (go_at_call 25; (with_reducible refine (llow_any _ _ _ _ (by omega) (by omega) HT.out).mono ?_); rintro e w' ⟨rfl, ⟨nd, rfl⟩⟩)
    | (go_at_call 25; (with_reducible refine (llow_any _ _ _ _ (by omega) (by omega) HD.out).mono ?_); rintro e w' ⟨rfl, ⟨nd, rfl⟩⟩)
    | (go_at_call 19; (with_reducible refine (turn_any _ _ _ _ (by omega) (by omega) HY.out).mono ?_); rintro e w' ⟨rfl, ⟨nd, rfl⟩⟩)
    | (go_at_call 19; (with_reducible refine (turn_any _ _ _ _ (by omega) (by omega) HYZ.out).mono ?_); rintro e w' ⟨rfl, ⟨nd, rfl⟩⟩)
    | (go_at_call 17; (with_reducible refine (low_any _ _ _ _ (by omega) (by omega) HZ.out).mono ?_); rintro e w' ⟨rfl, ⟨nd, rfl⟩⟩)
    | ((with_reducible refine gate_dst (N := 24) rfl ?_); refine Kd.R_make Kd.bool _ 4 rfl (N := 24) rfl 37 _ _ rfl 32 rfl rfl Try.underlying37 (.bool false) 1 info4 rfl (by decide) (by omega) false (ok := fun _ => True) (okp := fun _ => True) rfl (fun _ hk => hk) trivial (by omega) (by decide) (Below.refl _ _) (Nat.le_refl _) ?_; intro v1 w1 hR hB hg hnew; clear hg hnew; have HR := Lib.hid hR; have HB := Lib.hid hB; clear hR hB))
  obtain ⟨g, cap, hv, HF⟩ := turn_start 5 32 (by decide) HR HB (below_drews w _)
  subst hv
  clear HR HB
  go_loopw [7] (fun v w' => TurnRel 5 32 g cap w v w') (fun v _ => (32 - intOf v).toNat)
  case atStart => exact HF.out
  case round =>
    obtain ⟨i, hi, rfl, hR, hB, hg⟩ := hrel
    by_cases hlt : i < 32
    · obtain ⟨y, hy⟩ : ∃ y, tn 5 i = y := ⟨_, rfl⟩
      have hyb := tn_bd 5 i
      rw [hy] at hyb
      obtain ⟨y0, y1⟩ := hyb
      simp only [Int.reducePow] at y1
      have HY2 := Lib.hid (show tn (Int.toNat 5) i = y from hy)
      have hget := met_get 5 32 i (by decide) hlt
      have hset := met_set 5 32 i (by decide) hlt
      rw [hy] at hget hset
      have HS := Lib.hid hset
      have HR := Lib.hid hR
      have HB := Lib.hid hB
      have HG := Lib.hid hget
      clear hR hB hset hy hget
      go_wp2_with fail
      (with_reducible refine (turn_any _ _ _ _ (by omega) (by omega) HY2.out).mono ?_)
      rintro e w' ⟨rfl, ⟨nd, rfl⟩⟩
      generalize hw2 : wr.drewN nd = w2
      have hR2 := turn_R HR nd
      have hB2 := turn_B HB nd
      rw [hw2] at hR2 hB2
      have hc := Kd.R_celln false hR2 y (by omega) (by omega)
      rw [HG.out] at hc
      obtain ⟨hc1, hc2⟩ := hc
      have HP := Lib.hid (Kd.R_putg hR2 y true).1
      have HR2 := Lib.hid hR2
      have HB2 := Lib.hid hB2
      clear hR2 hB2 HR HB hw2
      go_wp2
      go_roundw
      case rel => exact ⟨i + 1, by omega, by go_num, by rw [← HS.out]; exact HP.out, below_set HB2.out hg, hg⟩
      case measure => simp [intOf]; omega
    · have hge : 32 ≤ i := by omega
      clear hlt
      have HB := Lib.hid hB
      clear hR hB
      go_wp2_with (go_at_call 8; (with_reducible refine (awake_any _).mono ?_); rintro e w' ⟨rfl, hb⟩)
      go_ret
      exact ⟨rfl, below_step HB.out hb⟩

set_option maxHeartbeats 4000000 in
set_option maxRecDepth 20000 in
theorem turn_walk6 (a0 : Int) (a1 : Int) (w : World) (hD : lowS a0 9 = 6) :
    Calls Try.prog 5 #[.int .i64 a0, .int .i64 a1] w fun e w' => e = .returned (.bool true) ∧ Below w.heap.size w w' := by
  obtain ⟨t, ht⟩ : ∃ t, lowS a0 63 = t := ⟨_, rfl⟩
  have htb := lowS_bd a0 63 (by omega)
  rw [ht] at htb
  obtain ⟨t0, t1⟩ := htb
  obtain ⟨y, hy⟩ : ∃ y, tn t.toNat a1 = y := ⟨_, rfl⟩
  obtain ⟨z, hz⟩ : ∃ y, a1 % 2 ^ t.toNat = y := ⟨_, rfl⟩
  have hyz : tn t.toNat y = z := by rw [← hy, ← hz, tn_tn]
  have HT := Lib.hid ht
  have HY := Lib.hid hy
  have HZ := Lib.hid hz
  have HYZ := Lib.hid hyz
  have HD := Lib.hid hD
  clear hD ht hy hz hyz
  go_enter Try.func5, Try.ntmps5
  go_wp2_with (first
    | (go_at_call 25; (with_reducible refine (llow_any _ _ _ _ (by omega) (by omega) HT.out).mono ?_); rintro e w' ⟨rfl, ⟨nd, rfl⟩⟩)
    | (go_at_call 25; (with_reducible refine (llow_any _ _ _ _ (by omega) (by omega) HD.out).mono ?_); rintro e w' ⟨rfl, ⟨nd, rfl⟩⟩)
    | (go_at_call 19; (with_reducible refine (turn_any _ _ _ _ (by omega) (by omega) HY.out).mono ?_); rintro e w' ⟨rfl, ⟨nd, rfl⟩⟩)
    | (go_at_call 19; (with_reducible refine (turn_any _ _ _ _ (by omega) (by omega) HYZ.out).mono ?_); rintro e w' ⟨rfl, ⟨nd, rfl⟩⟩)
    | (go_at_call 17; (with_reducible refine (low_any _ _ _ _ (by omega) (by omega) HZ.out).mono ?_); rintro e w' ⟨rfl, ⟨nd, rfl⟩⟩)
    | ((with_reducible refine gate_dst (N := 24) rfl ?_); refine Kd.R_make Kd.bool _ 4 rfl (N := 24) rfl 37 _ _ rfl 64 rfl rfl Try.underlying37 (.bool false) 1 info4 rfl (by decide) (by omega) false (ok := fun _ => True) (okp := fun _ => True) rfl (fun _ hk => hk) trivial (by omega) (by decide) (Below.refl _ _) (Nat.le_refl _) ?_; intro v1 w1 hR hB hg hnew; clear hg hnew; have HR := Lib.hid hR; have HB := Lib.hid hB; clear hR hB))
  obtain ⟨g, cap, hv, HF⟩ := turn_start 6 64 (by decide) HR HB (below_drews w _)
  subst hv
  clear HR HB
  go_loopw [7] (fun v w' => TurnRel 6 64 g cap w v w') (fun v _ => (64 - intOf v).toNat)
  case atStart => exact HF.out
  case round =>
    obtain ⟨i, hi, rfl, hR, hB, hg⟩ := hrel
    by_cases hlt : i < 64
    · obtain ⟨y, hy⟩ : ∃ y, tn 6 i = y := ⟨_, rfl⟩
      have hyb := tn_bd 6 i
      rw [hy] at hyb
      obtain ⟨y0, y1⟩ := hyb
      simp only [Int.reducePow] at y1
      have HY2 := Lib.hid (show tn (Int.toNat 6) i = y from hy)
      have hget := met_get 6 64 i (by decide) hlt
      have hset := met_set 6 64 i (by decide) hlt
      rw [hy] at hget hset
      have HS := Lib.hid hset
      have HR := Lib.hid hR
      have HB := Lib.hid hB
      have HG := Lib.hid hget
      clear hR hB hset hy hget
      go_wp2_with fail
      (with_reducible refine (turn_any _ _ _ _ (by omega) (by omega) HY2.out).mono ?_)
      rintro e w' ⟨rfl, ⟨nd, rfl⟩⟩
      generalize hw2 : wr.drewN nd = w2
      have hR2 := turn_R HR nd
      have hB2 := turn_B HB nd
      rw [hw2] at hR2 hB2
      have hc := Kd.R_celln false hR2 y (by omega) (by omega)
      rw [HG.out] at hc
      obtain ⟨hc1, hc2⟩ := hc
      have HP := Lib.hid (Kd.R_putg hR2 y true).1
      have HR2 := Lib.hid hR2
      have HB2 := Lib.hid hB2
      clear hR2 hB2 HR HB hw2
      go_wp2
      go_roundw
      case rel => exact ⟨i + 1, by omega, by go_num, by rw [← HS.out]; exact HP.out, below_set HB2.out hg, hg⟩
      case measure => simp [intOf]; omega
    · have hge : 64 ≤ i := by omega
      clear hlt
      have HB := Lib.hid hB
      clear hR hB
      go_wp2_with (go_at_call 8; (with_reducible refine (awake_any _).mono ?_); rintro e w' ⟨rfl, hb⟩)
      go_ret
      exact ⟨rfl, below_step HB.out hb⟩

set_option maxHeartbeats 4000000 in
set_option maxRecDepth 20000 in
theorem turn_walk7 (a0 : Int) (a1 : Int) (w : World) (hD : lowS a0 9 = 7) :
    Calls Try.prog 5 #[.int .i64 a0, .int .i64 a1] w fun e w' => e = .returned (.bool true) ∧ Below w.heap.size w w' := by
  obtain ⟨t, ht⟩ : ∃ t, lowS a0 63 = t := ⟨_, rfl⟩
  have htb := lowS_bd a0 63 (by omega)
  rw [ht] at htb
  obtain ⟨t0, t1⟩ := htb
  obtain ⟨y, hy⟩ : ∃ y, tn t.toNat a1 = y := ⟨_, rfl⟩
  obtain ⟨z, hz⟩ : ∃ y, a1 % 2 ^ t.toNat = y := ⟨_, rfl⟩
  have hyz : tn t.toNat y = z := by rw [← hy, ← hz, tn_tn]
  have HT := Lib.hid ht
  have HY := Lib.hid hy
  have HZ := Lib.hid hz
  have HYZ := Lib.hid hyz
  have HD := Lib.hid hD
  clear hD ht hy hz hyz
  go_enter Try.func5, Try.ntmps5
  go_wp2_with (first
    | (go_at_call 25; (with_reducible refine (llow_any _ _ _ _ (by omega) (by omega) HT.out).mono ?_); rintro e w' ⟨rfl, ⟨nd, rfl⟩⟩)
    | (go_at_call 25; (with_reducible refine (llow_any _ _ _ _ (by omega) (by omega) HD.out).mono ?_); rintro e w' ⟨rfl, ⟨nd, rfl⟩⟩)
    | (go_at_call 19; (with_reducible refine (turn_any _ _ _ _ (by omega) (by omega) HY.out).mono ?_); rintro e w' ⟨rfl, ⟨nd, rfl⟩⟩)
    | (go_at_call 19; (with_reducible refine (turn_any _ _ _ _ (by omega) (by omega) HYZ.out).mono ?_); rintro e w' ⟨rfl, ⟨nd, rfl⟩⟩)
    | (go_at_call 17; (with_reducible refine (low_any _ _ _ _ (by omega) (by omega) HZ.out).mono ?_); rintro e w' ⟨rfl, ⟨nd, rfl⟩⟩)
    | ((with_reducible refine gate_dst (N := 24) rfl ?_); refine Kd.R_make Kd.bool _ 4 rfl (N := 24) rfl 37 _ _ rfl 128 rfl rfl Try.underlying37 (.bool false) 1 info4 rfl (by decide) (by omega) false (ok := fun _ => True) (okp := fun _ => True) rfl (fun _ hk => hk) trivial (by omega) (by decide) (Below.refl _ _) (Nat.le_refl _) ?_; intro v1 w1 hR hB hg hnew; clear hg hnew; have HR := Lib.hid hR; have HB := Lib.hid hB; clear hR hB))
  obtain ⟨g, cap, hv, HF⟩ := turn_start 7 128 (by decide) HR HB (below_drews w _)
  subst hv
  clear HR HB
  go_loopw [7] (fun v w' => TurnRel 7 128 g cap w v w') (fun v _ => (128 - intOf v).toNat)
  case atStart => exact HF.out
  case round =>
    obtain ⟨i, hi, rfl, hR, hB, hg⟩ := hrel
    by_cases hlt : i < 128
    · obtain ⟨y, hy⟩ : ∃ y, tn 7 i = y := ⟨_, rfl⟩
      have hyb := tn_bd 7 i
      rw [hy] at hyb
      obtain ⟨y0, y1⟩ := hyb
      simp only [Int.reducePow] at y1
      have HY2 := Lib.hid (show tn (Int.toNat 7) i = y from hy)
      have hget := met_get 7 128 i (by decide) hlt
      have hset := met_set 7 128 i (by decide) hlt
      rw [hy] at hget hset
      have HS := Lib.hid hset
      have HR := Lib.hid hR
      have HB := Lib.hid hB
      have HG := Lib.hid hget
      clear hR hB hset hy hget
      go_wp2_with fail
      (with_reducible refine (turn_any _ _ _ _ (by omega) (by omega) HY2.out).mono ?_)
      rintro e w' ⟨rfl, ⟨nd, rfl⟩⟩
      generalize hw2 : wr.drewN nd = w2
      have hR2 := turn_R HR nd
      have hB2 := turn_B HB nd
      rw [hw2] at hR2 hB2
      have hc := Kd.R_celln false hR2 y (by omega) (by omega)
      rw [HG.out] at hc
      obtain ⟨hc1, hc2⟩ := hc
      have HP := Lib.hid (Kd.R_putg hR2 y true).1
      have HR2 := Lib.hid hR2
      have HB2 := Lib.hid hB2
      clear hR2 hB2 HR HB hw2
      go_wp2
      go_roundw
      case rel => exact ⟨i + 1, by omega, by go_num, by rw [← HS.out]; exact HP.out, below_set HB2.out hg, hg⟩
      case measure => simp [intOf]; omega
    · have hge : 128 ≤ i := by omega
      clear hlt
      have HB := Lib.hid hB
      clear hR hB
      go_wp2_with (go_at_call 8; (with_reducible refine (awake_any _).mono ?_); rintro e w' ⟨rfl, hb⟩)
      go_ret
      exact ⟨rfl, below_step HB.out hb⟩

set_option maxHeartbeats 4000000 in
set_option maxRecDepth 20000 in
theorem turn_walk8 (a0 : Int) (a1 : Int) (w : World) (hD : lowS a0 9 = 8) :
    Calls Try.prog 5 #[.int .i64 a0, .int .i64 a1] w fun e w' => e = .returned (.bool true) ∧ Below w.heap.size w w' := by
  obtain ⟨t, ht⟩ : ∃ t, lowS a0 63 = t := ⟨_, rfl⟩
  have htb := lowS_bd a0 63 (by omega)
  rw [ht] at htb
  obtain ⟨t0, t1⟩ := htb
  obtain ⟨y, hy⟩ : ∃ y, tn t.toNat a1 = y := ⟨_, rfl⟩
  obtain ⟨z, hz⟩ : ∃ y, a1 % 2 ^ t.toNat = y := ⟨_, rfl⟩
  have hyz : tn t.toNat y = z := by rw [← hy, ← hz, tn_tn]
  have HT := Lib.hid ht
  have HY := Lib.hid hy
  have HZ := Lib.hid hz
  have HYZ := Lib.hid hyz
  have HD := Lib.hid hD
  clear hD ht hy hz hyz
  go_enter Try.func5, Try.ntmps5
  go_wp2_with (first
    | (go_at_call 25; (with_reducible refine (llow_any _ _ _ _ (by omega) (by omega) HT.out).mono ?_); rintro e w' ⟨rfl, ⟨nd, rfl⟩⟩)
    | (go_at_call 25; (with_reducible refine (llow_any _ _ _ _ (by omega) (by omega) HD.out).mono ?_); rintro e w' ⟨rfl, ⟨nd, rfl⟩⟩)
    | (go_at_call 19; (with_reducible refine (turn_any _ _ _ _ (by omega) (by omega) HY.out).mono ?_); rintro e w' ⟨rfl, ⟨nd, rfl⟩⟩)
    | (go_at_call 19; (with_reducible refine (turn_any _ _ _ _ (by omega) (by omega) HYZ.out).mono ?_); rintro e w' ⟨rfl, ⟨nd, rfl⟩⟩)
    | (go_at_call 17; (with_reducible refine (low_any _ _ _ _ (by omega) (by omega) HZ.out).mono ?_); rintro e w' ⟨rfl, ⟨nd, rfl⟩⟩)
    | ((with_reducible refine gate_dst (N := 24) rfl ?_); refine Kd.R_make Kd.bool _ 4 rfl (N := 24) rfl 37 _ _ rfl 256 rfl rfl Try.underlying37 (.bool false) 1 info4 rfl (by decide) (by omega) false (ok := fun _ => True) (okp := fun _ => True) rfl (fun _ hk => hk) trivial (by omega) (by decide) (Below.refl _ _) (Nat.le_refl _) ?_; intro v1 w1 hR hB hg hnew; clear hg hnew; have HR := Lib.hid hR; have HB := Lib.hid hB; clear hR hB))
  obtain ⟨g, cap, hv, HF⟩ := turn_start 8 256 (by decide) HR HB (below_drews w _)
  subst hv
  clear HR HB
  go_loopw [7] (fun v w' => TurnRel 8 256 g cap w v w') (fun v _ => (256 - intOf v).toNat)
  case atStart => exact HF.out
  case round =>
    obtain ⟨i, hi, rfl, hR, hB, hg⟩ := hrel
    by_cases hlt : i < 256
    · obtain ⟨y, hy⟩ : ∃ y, tn 8 i = y := ⟨_, rfl⟩
      have hyb := tn_bd 8 i
      rw [hy] at hyb
      obtain ⟨y0, y1⟩ := hyb
      simp only [Int.reducePow] at y1
      have HY2 := Lib.hid (show tn (Int.toNat 8) i = y from hy)
      have hget := met_get 8 256 i (by decide) hlt
      have hset := met_set 8 256 i (by decide) hlt
      rw [hy] at hget hset
      have HS := Lib.hid hset
      have HR := Lib.hid hR
      have HB := Lib.hid hB
      have HG := Lib.hid hget
      clear hR hB hset hy hget
      go_wp2_with fail
      (with_reducible refine (turn_any _ _ _ _ (by omega) (by omega) HY2.out).mono ?_)
      rintro e w' ⟨rfl, ⟨nd, rfl⟩⟩
      generalize hw2 : wr.drewN nd = w2
      have hR2 := turn_R HR nd
      have hB2 := turn_B HB nd
      rw [hw2] at hR2 hB2
      have hc := Kd.R_celln false hR2 y (by omega) (by omega)
      rw [HG.out] at hc
      obtain ⟨hc1, hc2⟩ := hc
      have HP := Lib.hid (Kd.R_putg hR2 y true).1
      have HR2 := Lib.hid hR2
      have HB2 := Lib.hid hB2
      clear hR2 hB2 HR HB hw2
      go_wp2
      go_roundw
      case rel => exact ⟨i + 1, by omega, by go_num, by rw [← HS.out]; exact HP.out, below_set HB2.out hg, hg⟩
      case measure => simp [intOf]; omega
    · have hge : 256 ≤ i := by omega
      clear hlt
      have HB := Lib.hid hB
      clear hR hB
      go_wp2_with (go_at_call 8; (with_reducible refine (awake_any _).mono ?_); rintro e w' ⟨rfl, hb⟩)
      go_ret
      exact ⟨rfl, below_step HB.out hb⟩

theorem turn_walk (a0 : Int) (a1 : Int) (w : World) (w0 : (Lit.int .i64 a0).wf = true) (w1 : (Lit.int .i64 a1).wf = true) :
    Calls Try.prog 5 #[.int .i64 a0, .int .i64 a1] w fun e w' => e = .returned (.bool true) ∧ Below w.heap.size w w' := by
  have hDb := lowS_bd a0 9 (by omega)
  have hcs : lowS a0 9 = 0 ∨ lowS a0 9 = 1 ∨ lowS a0 9 = 2 ∨ lowS a0 9 = 3 ∨ lowS a0 9 = 4 ∨ lowS a0 9 = 5 ∨ lowS a0 9 = 6 ∨ lowS a0 9 = 7 ∨ lowS a0 9 = 8 := by omega
  rcases hcs with h | h | h | h | h | h | h | h | h
  · exact turn_walk0 a0 a1 w h
  · exact turn_walk1 a0 a1 w h
  · exact turn_walk2 a0 a1 w h
  · exact turn_walk3 a0 a1 w h
  · exact turn_walk4 a0 a1 w h
  · exact turn_walk5 a0 a1 w h
  · exact turn_walk6 a0 a1 w h
  · exact turn_walk7 a0 a1 w h
  · exact turn_walk8 a0 a1 w h
end Go.Proofs.Ytefiaaglkenfeaa.T
