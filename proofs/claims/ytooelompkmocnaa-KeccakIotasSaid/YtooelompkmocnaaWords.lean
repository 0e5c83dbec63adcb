/- Words, the reference's words of the rounds. -/
import Derived.Test.YtooelompkmocnaaRc
namespace Go.Proofs.Ytooelompkmocnaa.T
open Go.RowKit
set_option linter.unusedVariables false
set_option linter.unusedSimpArgs false
theorem zero35 : (Try.prog.info? 35).map (fun i => i.zero) = some (some (.agg (av 24 fun _ => 0))) := by kernel_rfl
theorem size35 : (Try.prog.info? 35).map (·.size) = some 24 := by kernel_rfl
def wP (i : Nat) : Nat → BitVec 64
  | 0 => 0
  | j + 1 => wP i j ||| (rcS (j + 7 * i)) <<< (2 ^ j - 1)
def words : L := fun i => if i < 24 then wP i 7 else 0
def wL (i j : Nat) : L := fun k => if k < i then wP k 7 else if k = i then wP i j else 0
theorem wL_step (i j : Nat) : upd (wL i j) i (wP i (j + 1)) = wL i (j + 1) := by
  funext k
  unfold upd wL
  by_cases h : k = i
  · subst h; simp
  · simp [h]
theorem wL_next (i : Nat) : wL i 7 = wL (i + 1) 0 := by
  funext k
  unfold wL
  by_cases h : k < i
  · rw [if_pos h, if_pos (by omega)]
  · rw [if_neg h]
    by_cases e : k = i
    · subst e; rw [if_pos rfl, if_pos (by omega)]
    · rw [if_neg e, if_neg (by omega)]; simp [wP]
theorem wL_zero : wL 0 0 = fun _ => 0 := by
  funext k; unfold wL; simp [wP]
theorem wL_end : wL 24 0 = words := by
  funext k; unfold wL words
  by_cases h : k < 24
  · rw [if_pos h, if_pos h]
  · rw [if_neg h, if_neg h]; simp [wP]
def WRel (w : World) (g1 g2 i j : Nat) (w' : World) : Prop := AR w' g1 35 24 (fun _ => 0) ∧ AR w' g2 35 24 (wL i j) ∧ Below w.heap.size w w'
def WO (w : World) (g1 g2 : Nat) (v : Value) (w' : World) : Prop := ∃ i : Nat, i ≤ 24 ∧ v = .int .i64 i ∧ WRel w g1 g2 i 0 w'
def WI (w : World) (g1 g2 i : Nat) (v : Value) (w' : World) : Prop := ∃ j : Nat, j ≤ 7 ∧ v = .int .i64 j ∧ WRel w g1 g2 i j w'
set_option maxHeartbeats 1000000 in
set_option maxRecDepth 20000 in
theorem words_any (w : World) :
    Calls Try.prog 29 #[] w fun e w' => e = .returned (.agg (av 24 words)) ∧ Below w.heap.size w w' := by
  obtain ⟨i35, hi35, hz35⟩ := info_zero zero35
  have I35 := Lib.hid hi35
  have Z35 := Lib.hid hz35
  clear hi35 hz35
  go_enter Try.func29, Try.ntmps29
  go_wp2_with (first
    | ((with_reducible refine gate_dst (N := 0) rfl ?_); refine alloc_av rfl 35 rfl 24 i35 _ I35.out Z35.out rfl ?_; intro g1 w1 hA hB hg hl; have A1 := Lib.hid hA; have B1 := Lib.hid hB; have G1 := Lib.hid hg; clear hA hB hg)
    | ((with_reducible refine gate_dst (N := 1) rfl ?_); refine alloc_av rfl 35 rfl 24 i35 _ I35.out Z35.out rfl ?_; intro g2 w2 hA hB hg hl2; have A1 := Lib.hid (A1.out.below hB); have A2 := Lib.hid hA; have B2 := Lib.hid (below_step B1.out hB); have G2 := Lib.hid hg; clear hA hB hg))
  have D12 : Hid (g1 ≠ g2) := by show g1 ≠ g2; have := G2.out; omega
  have G2w : Hid (w.heap.size ≤ g2) := by show w.heap.size ≤ g2; have := G1.out; have := G2.out; have := hl; omega
  have G1w : Hid (w.heap.size ≤ g1) := G1
  clear hl hl2
  go_loopw [2] (fun v w' => WO w g1 g2 v w') (fun v _ => (24 - intOf v).toNat)
  case atStart => exact ⟨0, by omega, rfl, A1.out, by rw [wL_zero]; exact A2.out, B2.out⟩
  case round =>
    clear A1 A2 B1 B2
    obtain ⟨i, hi, rfl, hF⟩ := hrel
    by_cases hlt : i < 24
    · have HF := Lib.hid hF
      clear hF
      have hpd : decide ((i : Int) < 24) = true := decide_eq_true (by omega)
      go_wp2
      go_loopw [3] (fun v w' => WI w g1 g2 i v w') (fun v _ => (7 - intOf v).toNat)
      case atStart => exact ⟨0, by omega, rfl, HF.out⟩
      case round =>
        clear HF
        obtain ⟨j, hj, rfl, hA1, hA2, hB⟩ := hrel
        by_cases hltj : j < 7
        · have hii : (i : Int) < 24 := by omega
          have hc := hA2.cell i hlt
          have hf := hA2.frozen i
          obtain ⟨t, ht⟩ : ∃ t, j + 7 * i = t := ⟨_, rfl⟩
          have W1 : IntKind.i64.wrap (7 * (i : Int)) = 7 * (i : Int) := IntWalk.i64_in _ (by omega)
          have W2 : IntKind.i64.wrap ((j : Int) + 7 * (i : Int)) = (t : Int) := by rw [IntWalk.i64_in _ (by omega)]; omega
          obtain ⟨P, hP⟩ : ∃ P : Nat, 2 ^ j = P := ⟨_, rfl⟩
          have hPb : 1 ≤ P ∧ P ≤ 64 := by
            subst hP
            exact ⟨Nat.one_le_two_pow, by have := Nat.pow_le_pow_right (n := 2) (by omega) (show j ≤ 6 by omega); omega⟩
          obtain ⟨sh, hsh⟩ : ∃ sh : Nat, P - 1 = sh := ⟨_, rfl⟩
          have hPi : ((2 : Int) ^ j) = (P : Int) := by rw [← hP]; simp
          have W3 : IntKind.u64.wrap ((2 : Int) ^ j) = (P : Int) := by rw [hPi]; exact wraps_u64 _ (by omega) (by omega)
          have W4 : IntKind.u64.wrap ((P : Int) - 1) = (sh : Int) := by rw [wraps_u64 _ (by omega) (by omega)]; omega
          have W5 : min ((sh : Int)).toNat 64 = sh := by omega
          obtain ⟨r0, hr0⟩ : ∃ r, rcS t = r := ⟨_, rfl⟩
          obtain ⟨r1, hr1⟩ : ∃ r, r0 <<< sh = r := ⟨_, rfl⟩
          have W6 : IntKind.u64.wrap ((r0.toNat : Int) * 2 ^ sh) = (r1.toNat : Int) := by rw [← hr1]; exact shl_bv r0 sh
          obtain ⟨v0, hv0⟩ : ∃ v, wL i j i = v := ⟨_, rfl⟩
          obtain ⟨z0, hz0⟩ : ∃ v, v0 ||| r1 = v := ⟨_, rfl⟩
          have W7 := or_bv v0 r1
          rw [hz0] at W7
          rw [hv0] at hc
          have E := Lib.hid (show upd (wL i j) i z0 = wL i (j + 1) by
            rw [← wL_step i j]
            congr 1
            show _ = wP i j ||| (rcS (j + 7 * i)) <<< (2 ^ j - 1)
            rw [ht, hP, hsh, hr0, hr1, ← hz0, ← hv0]
            unfold wL
            rw [if_neg (by omega), if_pos rfl])
          have RC : Hid (∀ W, Calls Try.prog 31 #[.int .i64 (t : Int)] W fun e w' => e = .returned (.int .u64 (r0.toNat : Int)) ∧ w' = W) := Lib.hid (fun W => by rw [← hr0]; exact rc_any t W (by omega))
          have A1 := Lib.hid hA1
          have A2 := Lib.hid hA2
          have B := Lib.hid hB
          clear hA1 hA2 hB hP hsh hPi hr0 hr1 hz0 hv0 ht
          go_wp2_with fail
          refine wp_region_still_tail 15 (by kernel_rfl) (by kernel_rfl) ?_
          simp only [List.take_succ_cons, List.take_zero, List.drop_succ_cons, List.drop_zero]
          repeat still_step
          still_call (RC.out _)
          repeat still_step
          refine wpStill_nil ?_
          change wpList _ _ _ _ _ wr.drew
          have A1 := Lib.hid (show AR wr.drew g1 35 24 (fun _ => 0) from A1.out)
          have A2 := Lib.hid (show AR wr.drew g2 35 24 (wL i j) from A2.out)
          have B := Lib.hid (show Below w.heap.size w wr.drew from B.out.drew)
          have hf := A2.out.frozen i
          have hc := A2.out.cell i hlt
          generalize wr.drew = w5 at A1 A2 B hf hc ⊢
          try simp only [W3, W4, W5, W6, W7]
          go_wp2
          go_roundw
          case rel =>
            have hrel : WI w g1 g2 i (.int .i64 ((j : Int) + 1)) (w5.setCell ⟨g2, i, none⟩ (.int .u64 (z0.toNat : Int))) := ⟨j + 1, by omega, by go_num, A1.out.other D12.out _ _, by rw [← E.out]; exact A2.out.set i z0, B.out.setCell G2w.out _⟩
            first
            | exact hrel
            | (repeat apply Exists.intro
               exact ⟨hrel, rfl⟩)
          case measure => simp [intOf]; omega
        · have e : j = 7 := by omega
          subst e
          rw [wL_next] at hA2
          have A1 := Lib.hid hA1
          have A2 := Lib.hid hA2
          have B := Lib.hid hB
          clear hA1 hA2 hB hj hltj
          go_wp2
          go_roundw
          case rel =>
            have hrel : WO w g1 g2 (.int .i64 ((i : Int) + 1)) wr := ⟨i + 1, by omega, by go_num, A1.out, A2.out, B.out⟩
            first
            | exact hrel
            | (repeat apply Exists.intro
               exact ⟨hrel, rfl⟩)
          case measure => simp [intOf]; omega
    · have e : i = 24 := by omega
      subst e
      obtain ⟨hA1, hA2, hB⟩ := hF
      rw [wL_end] at hA2
      have A1 := Lib.hid hA1
      have A2 := Lib.hid hA2
      have B := Lib.hid hB
      clear hA1 hA2 hB hi hlt
      go_wp2_with (first
    | ((with_reducible refine gate_dst (N := 27) rfl ?_); refine load_av rfl 35 _ rfl g2 24 35 words _ rfl A2.out Try.underlying35 rfl size35 ?_)
    | (refine store_av rfl rfl 35 (.tmp 0) (.tmp 27) rfl g1 24 35 _ words rfl rfl A1.out size35 ?_; intro w6 hA hO hB; have A1 := Lib.hid hA; have B := Lib.hid (hB _ _ B.out G1w.out); clear hA hO hB))
      exact bodyPost_ret (v := .agg (av 24 words)) (results_cell_row (p := 0) (ty := 35) rfl _ _ g1 35 _ (0, 0) _ rfl A1.out Try.underlying35 rfl (by rw [av_size]; exact size35)) rfl ⟨rfl, B.out⟩
end Go.Proofs.Ytooelompkmocnaa.T
