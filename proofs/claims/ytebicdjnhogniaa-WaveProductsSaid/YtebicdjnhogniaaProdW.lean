/- WaveProducts: its plain law and its walk (printed by gen_prod.py). -/
import Derived.Test.YtebicdjnhogniaaRf
namespace Go.Proofs.Ytebicdjnhogniaa.T
open Go.RowKit Go.Proofs.Ytebicdjnhogniaa.PWaveRing Go.Proofs.YtebicdjnhogniaaW.PrintWords Go.Proofs.YtebicdjnhogniaaW.PrintLast Go.Proofs.YtebicdjnhogniaaW.PrintMore
attribute [local go_sem] max2_int min2_int max_two min_two
set_option linter.unusedVariables false
set_option linter.unusedSimpArgs false
theorem make_IR_step {ops : Array Oper} {o : Oper} {a : Act} {Q : Exit → Act → World → Prop} {Kc : Act → World → Prop} {W : World} (hw : Region.wanted o (yielded ops a.tmps) = true) {N : Tmp} (hd : o.dst = some N) (ho : o.op = .makeSlice 22 (.const (.int .i64 256)) (.const (.int .i64 256)))
    (h : ∀ g c w1, 256 ≤ c → IR w1 g (fun _ => 0) → Below W.heap.size W w1 → W.heap.size ≤ g → Kc (a.put o.dst (sl g c)) w1) : if Region.wanted o (yielded ops a.tmps) = true then Oper.wp Try.prog o a W Kc Q else Kc (a.put o.dst undef) W := by
  refine Kd.R_make_step (Kd.int .i64) W.heap.size 3 hw (N := N) hd 22 _ _ ho 256 rfl rfl Try.underlying22 (.int .i64 0) 8 info3 rfl (by decide) (by omega) 0 (ok := fun _ => True) (okp := fun _ => True) rfl (fun _ hk => hk) trivial (by omega) (by decide) (Below.refl _ _) (Nat.le_refl _) ?_
  intro v w1 hR hB _ _
  obtain ⟨g, c, rfl, hc, hg, hI⟩ := ir_of_R (f := fun _ => 0) hR (by rw [List.length_replicate]; rfl) (fun i hi => by rw [List.getElem?_replicate, if_pos (show i < Int.toNat 256 from hi)])
  exact h g c w1 hc hI hB hg
theorem pow_256 {ρ : Int} (h : M (ρ ^ 256) (-1)) (n : Nat) (hn : 256 ≤ n) : M (ρ ^ n) (-(ρ ^ (n - 256))) := by
  have e : n = 256 + (n - 256) := by omega
  have h2 : ρ ^ n = ρ ^ 256 * ρ ^ (n - 256) := by rw [← Int.pow_add, ← e]
  rw [h2]
  exact (h.mul (M.refl _)).trans ⟨0, by omega⟩
def Acc (f g wf : F) (i k : Nat) : Prop := ∀ ρ : Int, M (ρ ^ 256) (-1) → M (ev wf ρ) (SM (fun j => g j * ρ ^ j) i * ev f ρ + SM (fun j => f j * ρ ^ j) k * (g i * ρ ^ i))
theorem acc_zero (f g : F) : Acc f g (fun _ => 0) 0 0 := fun ρ _ => by rw [ev_zero]; exact ⟨0, by simp [SM]⟩
theorem acc_lo {f g wf : F} {i k p : Nat} {t v : Int} (h : Acc f g wf i k) (hp : i + k = p) (hp2 : p < 256) (ht : M t (f k * g i)) (hv : M v (wf p + t)) : Acc f g (upd wf p v) i (k + 1) := fun ρ hρ => by
  subst hp
  rw [ev_upd _ _ _ _ hp2]
  have h1 := h ρ hρ
  have e : SM (fun j => f j * ρ ^ j) (k + 1) = SM (fun j => f j * ρ ^ j) k + f k * ρ ^ k := rfl
  rw [e]
  have h2 : M ((v - wf (i + k)) * ρ ^ (i + k)) (f k * g i * ρ ^ (i + k)) := (((hv.sub (M.refl _)).trans (M.trans ⟨0, by omega⟩ ht)).mul (M.refl _))
  refine (h1.add h2).trans ⟨0, ?_⟩
  rw [Int.pow_add]
  grind
theorem acc_hi {f g wf : F} {i k p : Nat} {t v : Int} (h : Acc f g wf i k) (hp : i + k = p + 256) (hp2 : p < 256) (ht : M t (f k * g i)) (hv : M v (wf p - t)) : Acc f g (upd wf p v) i (k + 1) := fun ρ hρ => by
  rw [ev_upd _ _ _ _ hp2]
  have h1 := h ρ hρ
  have e : SM (fun j => f j * ρ ^ j) (k + 1) = SM (fun j => f j * ρ ^ j) k + f k * ρ ^ k := rfl
  rw [e]
  have h3 := pow_256 hρ (i + k) (by omega)
  have e2 : i + k - 256 = p := by omega
  rw [e2] at h3
  have h2 : M ((v - wf p) * ρ ^ p) (f k * g i * ρ ^ (i + k)) := (((hv.sub (M.refl (wf p))).trans (M.trans (b := -t) ⟨0, by omega⟩ (M.trans (b := -(f k * g i)) (by obtain ⟨x, hx⟩ := ht; exact ⟨-x, by omega⟩) (M.refl _)))).mul (M.refl _)).trans (M.trans ⟨0, by grind⟩ ((M.refl (f k * g i)).mul h3.symm))
  refine (h1.add h2).trans ⟨0, ?_⟩
  rw [Int.pow_add]
  grind
theorem acc_next {f g wf : F} {i k : Nat} (h : Acc f g wf i k) (hk : k = 256 ∨ g i = 0) : Acc f g wf (i + 1) 0 := fun ρ hρ => by
  refine (h ρ hρ).trans ⟨0, ?_⟩
  have e : SM (fun j => g j * ρ ^ j) (i + 1) = SM (fun j => g j * ρ ^ j) i + g i * ρ ^ i := rfl
  have e0 : SM (fun j => f j * ρ ^ j) 0 = 0 := rfl
  rw [e, e0]
  rcases hk with rfl | hg
  · have e1 : ev f ρ = SM (fun j => f j * ρ ^ j) 256 := rfl
    rw [e1]
    grind
  · rw [hg]
    grind
theorem backL_congr {f g : F} (h : EM f g) : ∀ s, s ≤ 8 → EM (backL f s) (backL g s)
  | 0, _ => h
  | s + 1, hs => by
    obtain ⟨z1, z2, _, _⟩ := sizes2 s (by omega)
    exact bay_congr z2 z1 (backL_congr h s (by omega))
theorem acc_end {f g wf : F} (h : Acc f g wf 256 0) (hw : PF wf) : ∀ i, i < 256 → backS (mulS (overS f) (overS g)) i = wf i := by
  have h1 : EM (mulS (overS f) (overS g)) (overS wf) := fun i hi => by
    have a1 := over_ev f i hi
    have a2 := over_ev g i hi
    have a3 := over_ev wf i hi
    have a4 := h _ (rho_neg i hi)
    refine ((M.emod _).trans (a1.mul a2)).trans (M.trans ⟨0, ?_⟩ (a3.trans a4).symm)
    have e0 : SM (fun j => f j * ((rho i : Nat) : Int) ^ j) 0 = 0 := rfl
    have e1 : ev g ((rho i : Nat) : Int) = SM (fun j => g j * ((rho i : Nat) : Int) ^ j) 256 := rfl
    rw [e0, e1]
    grind
  have h2 : EM (backS (mulS (overS f) (overS g))) (backS (overS wf)) := fun i hi => ((M.emod _).trans ((backL_congr h1 8 (by omega) i hi).mul (M.refl _))).trans (M.emod _).symm
  intro i hi
  rw [← back_over wf hw i hi]
  exact EM.eq h2 (backS_PF _) (backS_PF _) i hi
def AA (w : World) (gf gg gw : Nat) (f g wf : F) (w' : World) : Prop := IR w' gf f ∧ IR w' gg g ∧ IR w' gw wf ∧ Below w.heap.size w w'
def A1 (w : World) (gf gg gw : Nat) (f : F) (n : Nat) (v : Value) (w' : World) : Prop := ∃ (i : Nat) (g : F), i ≤ n ∧ v = .int .i64 (i : Int) ∧ PF g ∧ AA w gf gg gw f g (fun _ => 0) w'
def A2 (w : World) (gf gg gw : Nat) (f g : F) (v : Value) (w' : World) : Prop := ∃ (i : Nat) (wf : F), i ≤ 256 ∧ v = .int .i64 (i : Int) ∧ PF wf ∧ Acc f g wf i 0 ∧ AA w gf gg gw f g wf w'
def A3 (w : World) (gf gg gw : Nat) (f g : F) (i : Nat) (v : Value) (w' : World) : Prop := ∃ (k : Nat) (wf : F), k ≤ 256 ∧ v = .int .i64 (k : Int) ∧ PF wf ∧ Acc f g wf i k ∧ AA w gf gg gw f g wf w'
theorem AA.drawn {w w' w2 : World} {gf gg gw : Nat} {f g wf : F} (h : AA w gf gg gw f g wf w') (d : Drawn0 w' w2) : AA w gf gg gw f g wf w2 := ⟨h.1.drawn d, h.2.1.drawn d, h.2.2.1.drawn d, below_drawn h.2.2.2 d⟩
theorem AA.drew {w w' : World} {gf gg gw : Nat} {f g wf : F} (h : AA w gf gg gw f g wf w') : AA w gf gg gw f g wf w'.drew := ⟨h.1, h.2.1, h.2.2.1, h.2.2.2.drew⟩
theorem upd_PF {f : F} (hf : PF f) (p : Nat) (v : Int) (hv : 0 ≤ v ∧ v < 8380417) : PF (upd f p v) := fun i hi => by
  unfold upd
  split
  · exact hv
  · exact hf i hi
theorem read_at {w : World} {A : Option Addr} {xs : List Int} (h : Kd.C (Kd.int .i64) w A xs.length xs) (i : Nat) (hi : i < xs.length) : ∃ ad x, A = some ad ∧ w.cell? (ad.add i) = some (.int .i64 x) := by
  have h1 := Kd.reads_of_C (enc := Value.int .i64) (d := (0 : Int)) (h1 := fun _ => rfl) h
  obtain ⟨ad, e, hc⟩ := h1.2.2 (by omega)
  exact ⟨ad, _, e, hc i hi⟩
def T6_3 : Bool × List (List Nat × List Nat) := (true, [([], []), ([0], [0]), ([], []), ([1, 1, 0, 1], [1]), ([2, 3, 0, 1, 2, 3], [2])])
theorem tab6_3 : rtab .any (opsOf Try.f6 3) = T6_3 := by kernel_rfl
def T6_8 : Bool × List (List Nat × List Nat) := (true, [([], []), ([], []), ([], []), ([1, 2], [1, 2]), ([3], [3]), ([4], [4]), ([], []), ([], []), ([6, 7], [6, 7]), ([8], [8]), ([9, 5], [9]), ([0, 5, 0, 1, 2, 3, 4, 5, 6, 7, 8, 9, 10], [0, 5]), ([11, 10, 10, 0, 1, 2, 3, 4, 5, 6, 7, 8, 9, 10], [10, 11])])
theorem tab6_8 : rtab .any (opsOf Try.f6 8) = T6_8 := by kernel_rfl
def T6_15 : Bool × List (List Nat × List Nat) := (true, [([], []), ([], []), ([0, 1], [0, 1]), ([2], [2]), ([], []), ([], []), ([4, 5], [4, 5]), ([6], [6]), ([3, 7], [3, 7]), ([8, 8, 0, 1, 2, 3, 4, 5, 6, 7, 8], [8])])
theorem tab6_15 : rtab .any (opsOf Try.f6 15) = T6_15 := by kernel_rfl
set_option maxHeartbeats 8000000 in
set_option maxRecDepth 20000 in
theorem prod_walk (a1 : Option Addr) (len1 cap1 : Nat) (z1 : List Int) (a2 : Option Addr) (len2 cap2 : Nat) (z2 : List Int) (a3 : Option Addr) (len3 cap3 : Nat) (z3 : List Int) (w : World) (w1 : RowIs .i64 w a1 len1 cap1 z1) (y1 : len1 * 8 ≤ 140737488351232) (w2 : RowIs .i64 w a2 len2 cap2 z2) (y2 : len2 * 8 ≤ 140737488351232) (w3 : RowIs .i64 w a3 len3 cap3 z3) (y3 : len3 * 8 ≤ 140737488351232) :
    Calls Try.prog 6 #[.slice a1 len1 cap1, .slice a2 len2 cap2, .slice a3 len3 cap3] w fun e w' => e = .returned (.bool true) ∧ Below w.heap.size w w' := by
  obtain ⟨l1, rfl, hr1, hm1, hw1, hc1⟩ := ReadsInt.ofRowC w1
  have HC1 := Lib.hid (show Kd.C (Kd.int .i64) w a1 l1.length l1 from Kd.C_of_reads (d := (0 : Int)) (h1 := fun _ => rfl) hr1)
  have hc1 := Lib.hid hc1
  clear hr1 hw1 hm1 w1
  obtain ⟨l2, rfl, hr2, hm2, hw2, hc2⟩ := ReadsInt.ofRowC w2
  have HC2 := Lib.hid (show Kd.C (Kd.int .i64) w a2 l2.length l2 from Kd.C_of_reads (d := (0 : Int)) (h1 := fun _ => rfl) hr2)
  have hc2 := Lib.hid hc2
  clear hr2 hw2 hm2 w2
  obtain ⟨l3, rfl, hr3, hm3, hw3, hc3⟩ := ReadsInt.ofRowC w3
  have HC3 := Lib.hid (show Kd.C (Kd.int .i64) w a3 l3.length l3 from Kd.C_of_reads (d := (0 : Int)) (h1 := fun _ => rfl) hr3)
  have hc3 := Lib.hid hc3
  clear hr3 hw3 hm3 w3
  by_cases hg1 : 300 < l1.length
  · go_enter Try.func6, Try.ntmps6
    go_wp2_with (go_at_call 11; (with_reducible refine (awake_any _).mono ?_); rintro e w' ⟨rfl, hb⟩)
    go_ret
    exact ⟨rfl, hb⟩
  by_cases hg2 : 4 < l2.length
  · go_enter Try.func6, Try.ntmps6
    go_wp2_with (go_at_call 11; (with_reducible refine (awake_any _).mono ?_); rintro e w' ⟨rfl, hb⟩)
    go_ret
    exact ⟨rfl, hb⟩
  obtain ⟨f, hfe⟩ : ∃ f, lowP l1 = f := ⟨_, rfl⟩
  have hpf : PF f := by rw [← hfe]; exact lowP_PF _
  have PFF := Lib.hid hpf
  have LF := Lib.hid (fun W (hC : Kd.C (Kd.int .i64) W a1 l1.length l1) => low_any a1 l1.length cap1 l1 f W hC rfl hc1.out (by omega) hfe)
  have HB : Hid (Below w.heap.size w w) := Lib.hid (Below.refl _ _)
  clear hpf hfe
  go_enter Try.func6, Try.ntmps6
  go_wp2_with fail
  refine start_ (n := 5) (S := fun w' => Below w.heap.size w w') (ds := []) #[false, false, false, false, false] (by kernel_rfl) rfl rfl HB.out.drew (fun hHeld => ?_); refine with_tab tab6_3 (fun HT_ => ?_)
  refine pure_ (i := 0) (N := some 23) (v := ?_) (a' := ?_) #[true, false, false, false, false] rfl rfl (any_of HT_.out (by kernel_rfl)) (fun _ _ _ h => h) (Or.inl ⟨by rfl, ?_⟩) ?_ ?_
  rotate_left
  · intro w'
    go_simp
    with_reducible rfl
  rotate_left
  · simp only [Act.put, List.setIfInBounds_toArray, List.set_cons_zero, List.set_cons_succ, i64_w, i32_w]
    rfl
  refine join_ (σ := Nat × Nat × Nat × Nat) 1 #[true, true, true, true, false] (fun s => [(24, sl s.1 s.2.1), (25, sl s.2.2.1 s.2.2.2), (7, sl s.1 s.2.1)]) (fun s w' => IR w' s.1 f ∧ 256 ≤ s.2.1 ∧ IR w' s.2.2.1 (fun _ => 0) ∧ 256 ≤ s.2.2.2 ∧ w.heap.size ≤ s.1 ∧ w.heap.size ≤ s.2.2.1 ∧ s.1 ≠ s.2.2.1 ∧ Below w.heap.size w w') ?_ ?_
  rotate_left
  · intro hJ
    refine two_ (i := 1) (j := 2) (Ni := some 24) (Nj := some 25) #[true, true, false, false, false] #[true, false, true, false, false] rfl rfl rfl rfl (two_of HT_.out (by kernel_rfl)) (by decide) (by decide) (fun K hK => ?_) (fun K hK => ?_)
    · refine goes_ Try.func12 (by kernel_rfl) rfl #[.slice a1 l1.length cap1] (by rfl) rfl rfl (by (try simp only [List.map_toArray, List.map_cons, List.map_nil]); first | done | rfl) ?_
      with_reducible refine (LF.out _ (Kd.C_below HC1.out hHeld)).mono ?_
      rintro e W1 ⟨g_f, c_f, rfl, hcf, hgf, hIf, hBf⟩
      refine ⟨_, rfl, ?_⟩
      refine hK.out _ _ (below_step hHeld hBf) (fun hHeld => ?_)
      clear hK K
      refine norm_ (a' := ?_) ?_ ?_
      rotate_left
      · simp only [Act.put, List.setIfInBounds_toArray, List.set_cons_zero, List.set_cons_succ]
        rfl
      refine pure_ (i := 3) (N := some 7) (v := ?_) (a' := ?_) #[true, true, false, true, false] rfl rfl (any_of HT_.out (by kernel_rfl)) (fun _ _ _ h => h) (Or.inl ⟨by rfl, ?_⟩) ?_ ?_
      rotate_left
      · intro w'
        go_simp
        with_reducible rfl
      rotate_left
      · simp only [Act.put, List.setIfInBounds_toArray, List.set_cons_zero, List.set_cons_succ, i64_w, i32_w]
        rfl
      refine one_ (i := 2) (N := some 25) #[true, true, true, true, false] rfl rfl (one_of HT_.out (by kernel_rfl)) (by decide) (fun K hK => ?_)
      refine make_IR_step (by rfl) rfl rfl ?_
      intro g_g c_g W2 hcg hIg hBg hgg
      refine hK.out _ _ (below_step hHeld hBg) (fun hHeld => ?_)
      clear hK K
      exact hJ (g_f, c_f, g_g, c_g) W2 ⟨hIf.below hBg, hcf, hIg, hcg, Nat.le_trans HB.out.size hgf, Nat.le_trans (below_step (HB.out.drew) hBf).size hgg, Nat.ne_of_lt (Nat.lt_of_lt_of_le hIf.lt hgg), hHeld⟩
    · refine make_IR_step (by rfl) rfl rfl ?_
      intro g_g c_g W1 hcg hIg hBg hgg
      refine hK.out _ _ (below_step hHeld hBg) (fun hHeld => ?_)
      clear hK K
      refine one_ (i := 1) (N := some 24) #[true, true, true, false, false] rfl rfl (one_of HT_.out (by kernel_rfl)) (by decide) (fun K hK => ?_)
      refine goes_ Try.func12 (by kernel_rfl) rfl #[.slice a1 l1.length cap1] (by rfl) rfl rfl (by (try simp only [List.map_toArray, List.map_cons, List.map_nil]); first | done | rfl) ?_
      with_reducible refine (LF.out _ (Kd.C_below HC1.out hHeld)).mono ?_
      rintro e W2 ⟨g_f, c_f, rfl, hcf, hgf, hIf, hBf⟩
      refine ⟨_, rfl, ?_⟩
      refine hK.out _ _ (below_step hHeld hBf) (fun hHeld2 => ?_)
      clear hK K
      refine norm_ (a' := ?_) ?_ ?_
      rotate_left
      · simp only [Act.put, List.setIfInBounds_toArray, List.set_cons_zero, List.set_cons_succ]
        rfl
      refine pure_ (i := 3) (N := some 7) (v := ?_) (a' := ?_) #[true, true, true, true, false] rfl rfl (any_of HT_.out (by kernel_rfl)) (fun _ _ _ h => h) (Or.inl ⟨by rfl, ?_⟩) ?_ ?_
      rotate_left
      · intro w'
        go_simp
        with_reducible rfl
      rotate_left
      · simp only [Act.put, List.setIfInBounds_toArray, List.set_cons_zero, List.set_cons_succ, i64_w, i32_w]
        rfl
      exact hJ (g_f, c_f, g_g, c_g) W2 ⟨hIf, hcf, hIg.below hBf, hcg, Nat.le_trans hHeld.size hgf, Nat.le_trans HB.out.size hgg, fun e => absurd hgf (by have := hIg.lt; simp only at e; omega), hHeld2⟩
  rintro ⟨g_f, c_f, g_g, c_g⟩ W0 ⟨hIf, hcf, hIg, hcg, hgf, hgg, hne, hB⟩
  have I_f := Lib.hid hIf
  have I_g := Lib.hid hIg
  have C_f := Lib.hid hcf
  have C_g := Lib.hid hcg
  have GF := Lib.hid hgf
  have GG := Lib.hid hgg
  have NFG : Hid (g_f ≠ g_g) := Lib.hid hne
  have HB := Lib.hid hB
  clear hIf hIg hcf hcg hgf hgg hne hB hHeld
  dsimp only [putAll]
  refine norm_ (a' := ?_) ?_ ?_
  rotate_left
  · simp only [Act.put, List.setIfInBounds_toArray, List.set_cons_zero, List.set_cons_succ]
    rfl
  have hHeld := HB.out
  refine pure_ (i := 4) (N := some 8) (v := ?_) (a' := ?_) #[true, true, true, true, true] rfl rfl (any_of HT_.out (by kernel_rfl)) (fun _ _ _ h => h) (Or.inl ⟨by rfl, ?_⟩) ?_ ?_
  rotate_left
  · intro w'
    go_simp
    with_reducible rfl
  rotate_left
  · simp only [Act.put, List.setIfInBounds_toArray, List.set_cons_zero, List.set_cons_succ, i64_w, i32_w]
    rfl
  refine done_ (done_of HT_.out (by kernel_rfl)) ?_
  clear hHeld HT_
  go_wp2_with ((with_reducible refine gate_dst (N := 26) rfl ?_); refine make_IR rfl rfl rfl ?_; intro g_w c_w W3 hc hI hB hg; have DW := Lib.hid (show g_f < g_w ∧ g_g < g_w from ⟨Nat.lt_of_lt_of_le I_f.out.lt hg, Nat.lt_of_lt_of_le I_g.out.lt hg⟩); have I_f := Lib.hid (I_f.out.below hB); have I_g := Lib.hid (I_g.out.below hB); have I_w := Lib.hid hI; have C_w := Lib.hid hc; have GW := Lib.hid (show w.heap.size ≤ g_w from Nat.le_trans HB.out.size hg); have HB := Lib.hid (below_step HB.out hB); clear hI hB hg hc)
  obtain ⟨n, hn⟩ : ∃ n, min l2.length l3.length = n := ⟨_, rfl⟩
  go_loopw [10] (fun v w' => A1 w g_f g_g g_w f n v w') (fun v _ => (n - intOf v).toNat)
  case atStart => exact ⟨0, fun _ => 0, by omega, rfl, fun i _ => ⟨Int.le_refl _, show (0 : Int) < 8380417 by omega⟩, I_f.out, I_g.out, I_w.out, HB.out⟩
  case round =>
    clear I_f I_g I_w HB
    obtain ⟨i, g, hi, rfl, hpg, hAA⟩ := hrel
    by_cases hlt : i < n
    · have hd1 : decide ((i : Int) < (l2.length : Int)) = true := decide_eq_true (by omega)
      have hd2 : decide ((i : Int) < (l3.length : Int)) = true := decide_eq_true (by omega)
      have hi2 : (i : Int) < (l2.length : Int) := by omega
      have hi3 : (i : Int) < (l3.length : Int) := by omega
      obtain ⟨ad2, x2, e2, hcx2⟩ := read_at HC2.out i (by omega)
      obtain ⟨ad3, x3, e3, hcx3⟩ := read_at HC3.out i (by omega)
      subst e2 e3
      have HA2 := Lib.hid hcx2
      have HA3 := Lib.hid hcx3
      obtain ⟨uI, huI⟩ : ∃ r, lowS x2 256 = r := ⟨_, rfl⟩
      have hub := lowS_bd x2 256 (by omega)
      rw [huI] at hub
      obtain ⟨u, rfl⟩ := Int.eq_ofNat_of_zero_le hub.1
      have hu : u < 256 := by omega
      have hui : (u : Int) < 256 := by omega
      have LU := Lib.hid (fun W => llow_any x2 256 (u : Int) W (by omega) (by omega) huI)
      obtain ⟨v0, hv0⟩ : ∃ r, lowS x3 8380417 = r := ⟨_, rfl⟩
      have hvb := lowS_bd x3 8380417 (by omega)
      rw [hv0] at hvb
      have LV := Lib.hid (fun W => llow_any x3 8380417 v0 W (by omega) (by omega) hv0)
      have PN := Lib.hid (upd_PF hpg u v0 hvb)
      have HS := Lib.hid (AA.drew hAA)
      clear hcx2 hcx3 huI hub hv0 hvb hpg hAA
      go_wp2_with fail
      refine start_ (n := 13) (S := AA w g_f g_g g_w f g (fun _ => 0)) (ds := [12]) #[false, false, false, false, false, false, false, false, false, false, false, false, false] (by kernel_rfl) rfl rfl HS.out (fun hHeld => ?_); refine with_tab tab6_8 (fun HT_ => ?_)
      refine pure_ (i := 0) (N := some 39) (v := ?_) (a' := ?_) #[true, false, false, false, false, false, false, false, false, false, false, false, false] rfl rfl (any_of HT_.out (by kernel_rfl)) (fun _ _ _ h => h) (Or.inl ⟨by rfl, ?_⟩) ?_ ?_
      rotate_left
      · intro w'
        go_simp
        with_reducible rfl
      rotate_left
      · simp only [Act.put, List.setIfInBounds_toArray, List.set_cons_zero, List.set_cons_succ, i64_w, i32_w]
        rfl
      refine pure_ (i := 1) (N := some 40) (v := ?_) (a' := ?_) #[true, true, false, false, false, false, false, false, false, false, false, false, false] rfl rfl (any_of HT_.out (by kernel_rfl)) (fun _ _ _ h => h) (Or.inl ⟨by rfl, ?_⟩) ?_ ?_
      rotate_left
      · intro w'
        go_simp
        with_reducible rfl
      rotate_left
      · simp only [Act.put, List.setIfInBounds_toArray, List.set_cons_zero, List.set_cons_succ, i64_w, i32_w]
        rfl
      refine pure_ (i := 2) (N := some 41) (v := ?_) (a' := ?_) #[true, true, true, false, false, false, false, false, false, false, false, false, false] rfl rfl (any_of HT_.out (by kernel_rfl)) (fun _ _ _ h => h) (Or.inl ⟨by rfl, ?_⟩) ?_ ?_
      rotate_left
      · intro w'
        go_simp
        with_reducible rfl
      rotate_left
      · simp only [Act.put, List.setIfInBounds_toArray, List.set_cons_zero, List.set_cons_succ, i64_w, i32_w]
        rfl
      refine pure_ (i := 3) (N := some 42) (v := ?_) (a' := ?_) #[true, true, true, true, false, false, false, false, false, false, false, false, false] rfl rfl (any_of HT_.out (by kernel_rfl)) (fun _ _ _ h => h) (Or.inl ⟨by rfl, ?_⟩) ?_ ?_
      rotate_left
      · intro w'
        go_simp
        with_reducible rfl
      rotate_left
      · simp only [Act.put, List.setIfInBounds_toArray, List.set_cons_zero, List.set_cons_succ, i64_w, i32_w]
        rfl
      refine take_ (i := 4) (N := some 43) (v := ?_) (a' := ?_) #[true, true, true, true, true, false, false, false, false, false, false, false, false] rfl rfl (take_of HT_.out (by kernel_rfl)) (fun _ _ _ h => h) (Or.inl ⟨by rfl, ?_⟩) hHeld ?_ ?_
      rotate_left
      · intro w' s0
        have hc := pw_cell_below s0.2.2.2 HA2.out
        go_simp
        with_reducible rfl
      rotate_left
      · simp only [Act.put, List.setIfInBounds_toArray, List.set_cons_zero, List.set_cons_succ, i64_w, i32_w]
        rfl
      refine pure_ (i := 6) (N := some 45) (v := ?_) (a' := ?_) #[true, true, true, true, true, false, true, false, false, false, false, false, false] rfl rfl (any_of HT_.out (by kernel_rfl)) (fun _ _ _ h => h) (Or.inl ⟨by rfl, ?_⟩) ?_ ?_
      rotate_left
      · intro w'
        go_simp
        with_reducible rfl
      rotate_left
      · simp only [Act.put, List.setIfInBounds_toArray, List.set_cons_zero, List.set_cons_succ, i64_w, i32_w]
        rfl
      refine pure_ (i := 7) (N := some 46) (v := ?_) (a' := ?_) #[true, true, true, true, true, false, true, true, false, false, false, false, false] rfl rfl (any_of HT_.out (by kernel_rfl)) (fun _ _ _ h => h) (Or.inl ⟨by rfl, ?_⟩) ?_ ?_
      rotate_left
      · intro w'
        go_simp
        with_reducible rfl
      rotate_left
      · simp only [Act.put, List.setIfInBounds_toArray, List.set_cons_zero, List.set_cons_succ, i64_w, i32_w]
        rfl
      refine pure_ (i := 8) (N := some 47) (v := ?_) (a' := ?_) #[true, true, true, true, true, false, true, true, true, false, false, false, false] rfl rfl (any_of HT_.out (by kernel_rfl)) (fun _ _ _ h => h) (Or.inl ⟨by rfl, ?_⟩) ?_ ?_
      rotate_left
      · intro w'
        go_simp
        with_reducible rfl
      rotate_left
      · simp only [Act.put, List.setIfInBounds_toArray, List.set_cons_zero, List.set_cons_succ, i64_w, i32_w]
        rfl
      refine take_ (i := 9) (N := some 48) (v := ?_) (a' := ?_) #[true, true, true, true, true, false, true, true, true, true, false, false, false] rfl rfl (take_of HT_.out (by kernel_rfl)) (fun _ _ _ h => h) (Or.inl ⟨by rfl, ?_⟩) hHeld ?_ ?_
      rotate_left
      · intro w' s0
        have hc := pw_cell_below s0.2.2.2 HA3.out
        go_simp
        with_reducible rfl
      rotate_left
      · simp only [Act.put, List.setIfInBounds_toArray, List.set_cons_zero, List.set_cons_succ, i64_w, i32_w]
        rfl
      refine one_ (i := 5) (N := some 44) #[true, true, true, true, true, true, true, true, true, true, false, false, false] rfl rfl (one_of HT_.out (by kernel_rfl)) (by decide) (fun K hK => ?_)
      refine goes_ Try.func18 (by kernel_rfl) rfl #[.int .i64 x2, .int .i64 256] (by rfl) rfl rfl (by (try simp only [List.map_toArray, List.map_cons, List.map_nil]); first | done | rfl) ?_
      with_reducible refine (LU.out _).mono ?_
      rintro e w3 ⟨rfl, hD⟩
      refine ⟨_, rfl, ?_⟩
      refine hK.out _ _ (AA.drawn hHeld hD) (fun hHeld => ?_)
      clear hK K
      refine norm_ (a' := ?_) ?_ ?_
      rotate_left
      · show Act.put _ (some 44) _ = _
        simp only [Act.put, List.setIfInBounds_toArray, List.set_cons_zero, List.set_cons_succ, i64_w, i32_w]
        rfl
      refine one_ (i := 10) (N := some 49) #[true, true, true, true, true, true, true, true, true, true, true, false, false] rfl rfl (one_of HT_.out (by kernel_rfl)) (by decide) (fun K hK => ?_)
      refine goes_ Try.func18 (by kernel_rfl) rfl #[.int .i64 x3, .int .i64 8380417] (by rfl) rfl rfl (by (try simp only [List.map_toArray, List.map_cons, List.map_nil]); first | done | rfl) ?_
      with_reducible refine (LV.out _).mono ?_
      rintro e w4 ⟨rfl, hD⟩
      refine ⟨_, rfl, ?_⟩
      refine hK.out _ _ (AA.drawn hHeld hD) (fun hHeld => ?_)
      clear hK K
      refine norm_ (a' := ?_) ?_ ?_
      rotate_left
      · show Act.put _ (some 49) _ = _
        simp only [Act.put, List.setIfInBounds_toArray, List.set_cons_zero, List.set_cons_succ, i64_w, i32_w]
        rfl
      refine pure_ (i := 11) (N := some 50) (v := ?_) (a' := ?_) #[true, true, true, true, true, true, true, true, true, true, true, true, false] rfl rfl (any_of HT_.out (by kernel_rfl)) (fun _ _ _ h => h) (Or.inl ⟨by rfl, ?_⟩) ?_ ?_
      rotate_left
      · intro w'
        go_simp
        with_reducible rfl
      rotate_left
      · simp only [Act.put, List.setIfInBounds_toArray, List.set_cons_zero, List.set_cons_succ, i64_w, i32_w]
        rfl
      have hc := hHeld.2.1.cell u hu
      have hf := hHeld.2.1.frozen u
      refine last_ (i := 12) (N := none) #[true, true, true, true, true, true, true, true, true, true, true, true, true] rfl rfl (one_of HT_.out (by kernel_rfl)) (by decide) (fun K hK => ?_)
      refine skip_ (w1 := ?_) (by rfl) rfl (by go_simp; rfl) ?_
      refine hK.out _ _ ?_
      clear hK K
      refine done_ (done_of HT_.out (by kernel_rfl)) ?_
      go_wp2
      go_roundw
      case rel =>
        have hrel : A1 w g_f g_g g_w f n (.int .i64 ((i : Int) + 1)) (w4.setCell ⟨g_g, u, none⟩ (.int .i64 v0)) := ⟨i + 1, upd g u v0, by omega, by go_num, PN.out, hHeld.1.other (by have := NFG.out; omega) _ _, hHeld.2.1.set u v0, hHeld.2.2.1.other (by have := DW.out; omega) _ _, hHeld.2.2.2.setCell GG.out _⟩
        first
        | exact hrel
        | (repeat apply Exists.intro
           exact ⟨hrel, rfl⟩)
      case measure => simp [intOf]; omega
    · have hin : i = n := by omega
      have PFG := Lib.hid hpg
      have HS := Lib.hid hAA
      have AZ := Lib.hid (acc_zero f g)
      clear hpg hAA
      by_cases hx2 : i < l2.length
      · have hd1 : decide ((i : Int) < (l2.length : Int)) = true := decide_eq_true (by omega)
        have hd2 : decide ((i : Int) < (l3.length : Int)) = false := decide_eq_false (by omega)
        have hd3 : decide (i < l3.length) = false := decide_eq_false (by omega)
        have hn3 : ¬ (i < l3.length) := by omega
        clear hin hlt hi hn
        go_wp2
        go_loopw [11] (fun v w' => A2 w g_f g_g g_w f g v w') (fun v _ => (256 - intOf v).toNat)
        case atStart => exact ⟨0, fun _ => 0, by omega, rfl, fun i _ => ⟨Int.le_refl _, show (0 : Int) < 8380417 by omega⟩, AZ.out, HS.out⟩
        case round =>
          clear HS AZ
          obtain ⟨i, wf, hi, rfl, hpw, hac, hAA⟩ := hrel
          by_cases hlt : i < 256
          · have hpd : decide ((i : Int) < 256) = true := decide_eq_true (by omega)
            have hii : (i : Int) < 256 := by omega
            have AC := Lib.hid hac
            have PW := Lib.hid hpw
            have HS := Lib.hid hAA
            clear hac hpw hAA
            go_wp2
            go_loopw [12] (fun v w' => A3 w g_f g_g g_w f g i v w') (fun v _ => (256 - intOf v).toNat)
            case atStart => exact ⟨0, wf, by omega, rfl, PW.out, AC.out, HS.out⟩
            case round =>
              clear HS AC PW
              obtain ⟨k, wf, hk, rfl, hpw, hac, hAA⟩ := hrel
              have bg := PFG.out i hlt
              have hcg := hAA.2.1.cell i hlt
              by_cases hg0 : k < 256 ∧ g i ≠ 0
              · obtain ⟨hkl, hne⟩ := hg0
                have hpd2 : decide ((k : Int) < 256) = true := decide_eq_true (by omega)
                have hki : (k : Int) < 256 := by omega
                have bf := PFF.out k hkl
                obtain ⟨xf, hxf⟩ : ∃ x, f k = x := ⟨_, rfl⟩
                obtain ⟨xg, hxg⟩ : ∃ x, g i = x := ⟨_, rfl⟩
                rw [hxg] at bg hcg hne
                rw [hxf] at bf
                have hneb : (xg != 0) = true := bne_iff_ne.2 hne
                obtain ⟨t0, ht0⟩ : ∃ x, xf * xg % 8380417 = x := ⟨_, rfl⟩
                have tb := mod_bd (xf * xg)
                rw [ht0] at tb
                have RM := Lib.hid (fun W => rmul_any xf xg t0 W bf bg ht0)
                have MT := Lib.hid (show M t0 (f k * g i) by rw [← ht0, ← hxf, ← hxg]; exact M.emod _)
                have VF := Lib.hid hxf
                have VG := Lib.hid hxg
                have AC := Lib.hid hac
                have PW := Lib.hid hpw
                have HS := Lib.hid (AA.drew hAA)
                clear hac hpw hAA hxf hxg ht0 bf bg hne
                go_wp2_with fail
                refine start_ (n := 10) (S := AA w g_f g_g g_w f g wf) (ds := []) #[false, false, false, false, false, false, false, false, false, false] (by kernel_rfl) rfl rfl HS.out (fun hHeld => ?_); refine with_tab tab6_15 (fun HT_ => ?_)
                refine pure_ (i := 0) (N := some 66) (v := ?_) (a' := ?_) #[true, false, false, false, false, false, false, false, false, false] rfl rfl (any_of HT_.out (by kernel_rfl)) (fun _ _ _ h => h) (Or.inl ⟨by rfl, ?_⟩) ?_ ?_
                rotate_left
                · intro w'
                  go_simp
                  with_reducible rfl
                rotate_left
                · simp only [Act.put, List.setIfInBounds_toArray, List.set_cons_zero, List.set_cons_succ, i64_w, i32_w]
                  rfl
                refine pure_ (i := 1) (N := some 67) (v := ?_) (a' := ?_) #[true, true, false, false, false, false, false, false, false, false] rfl rfl (any_of HT_.out (by kernel_rfl)) (fun _ _ _ h => h) (Or.inl ⟨by rfl, ?_⟩) ?_ ?_
                rotate_left
                · intro w'
                  go_simp
                  with_reducible rfl
                rotate_left
                · simp only [Act.put, List.setIfInBounds_toArray, List.set_cons_zero, List.set_cons_succ, i64_w, i32_w]
                  rfl
                refine pure_ (i := 2) (N := some 68) (v := ?_) (a' := ?_) #[true, true, true, false, false, false, false, false, false, false] rfl rfl (any_of HT_.out (by kernel_rfl)) (fun _ _ _ h => h) (Or.inl ⟨by rfl, ?_⟩) ?_ ?_
                rotate_left
                · intro w'
                  go_simp
                  with_reducible rfl
                rotate_left
                · simp only [Act.put, List.setIfInBounds_toArray, List.set_cons_zero, List.set_cons_succ, i64_w, i32_w]
                  rfl
                refine take_ (i := 3) (N := some 69) (v := ?_) (a' := ?_) #[true, true, true, true, false, false, false, false, false, false] rfl rfl (take_of HT_.out (by kernel_rfl)) (fun _ _ _ h => h) (Or.inl ⟨by rfl, ?_⟩) hHeld ?_ ?_
                rotate_left
                · intro w' s0
                  have hc := s0.1.cell k hkl
                  rw [VF.out] at hc
                  go_simp
                  with_reducible rfl
                rotate_left
                · simp only [Act.put, List.setIfInBounds_toArray, List.set_cons_zero, List.set_cons_succ, i64_w, i32_w]
                  rfl
                refine pure_ (i := 4) (N := some 70) (v := ?_) (a' := ?_) #[true, true, true, true, true, false, false, false, false, false] rfl rfl (any_of HT_.out (by kernel_rfl)) (fun _ _ _ h => h) (Or.inl ⟨by rfl, ?_⟩) ?_ ?_
                rotate_left
                · intro w'
                  go_simp
                  with_reducible rfl
                rotate_left
                · simp only [Act.put, List.setIfInBounds_toArray, List.set_cons_zero, List.set_cons_succ, i64_w, i32_w]
                  rfl
                refine pure_ (i := 5) (N := some 71) (v := ?_) (a' := ?_) #[true, true, true, true, true, true, false, false, false, false] rfl rfl (any_of HT_.out (by kernel_rfl)) (fun _ _ _ h => h) (Or.inl ⟨by rfl, ?_⟩) ?_ ?_
                rotate_left
                · intro w'
                  go_simp
                  with_reducible rfl
                rotate_left
                · simp only [Act.put, List.setIfInBounds_toArray, List.set_cons_zero, List.set_cons_succ, i64_w, i32_w]
                  rfl
                refine pure_ (i := 6) (N := some 72) (v := ?_) (a' := ?_) #[true, true, true, true, true, true, true, false, false, false] rfl rfl (any_of HT_.out (by kernel_rfl)) (fun _ _ _ h => h) (Or.inl ⟨by rfl, ?_⟩) ?_ ?_
                rotate_left
                · intro w'
                  go_simp
                  with_reducible rfl
                rotate_left
                · simp only [Act.put, List.setIfInBounds_toArray, List.set_cons_zero, List.set_cons_succ, i64_w, i32_w]
                  rfl
                refine take_ (i := 7) (N := some 73) (v := ?_) (a' := ?_) #[true, true, true, true, true, true, true, true, false, false] rfl rfl (take_of HT_.out (by kernel_rfl)) (fun _ _ _ h => h) (Or.inl ⟨by rfl, ?_⟩) hHeld ?_ ?_
                rotate_left
                · intro w' s0
                  have hc := s0.2.1.cell i hlt
                  rw [VG.out] at hc
                  go_simp
                  with_reducible rfl
                rotate_left
                · simp only [Act.put, List.setIfInBounds_toArray, List.set_cons_zero, List.set_cons_succ, i64_w, i32_w]
                  rfl
                refine one_ (i := 8) (N := some 74) #[true, true, true, true, true, true, true, true, true, false] rfl rfl (one_of HT_.out (by kernel_rfl)) (by decide) (fun K hK => ?_)
                refine goes_ Try.func23 (by kernel_rfl) rfl #[.int .i64 xf, .int .i64 xg] (by rfl) rfl rfl (by (try simp only [List.map_toArray, List.map_cons, List.map_nil]); first | done | rfl) ?_
                with_reducible refine (RM.out _).mono ?_
                rintro e w3 ⟨rfl, hD⟩
                refine ⟨_, rfl, ?_⟩
                refine hK.out _ _ (AA.drawn hHeld hD) (fun hHeld => ?_)
                clear hK K
                refine norm_ (a' := ?_) ?_ ?_
                rotate_left
                · show Act.put _ (some 74) _ = _
                  simp only [Act.put, List.setIfInBounds_toArray, List.set_cons_zero, List.set_cons_succ, i64_w, i32_w]
                  rfl
                refine pure_ (i := 9) (N := some 13) (v := ?_) (a' := ?_) #[true, true, true, true, true, true, true, true, true, true] rfl rfl (any_of HT_.out (by kernel_rfl)) (fun _ _ _ h => h) (Or.inl ⟨by rfl, ?_⟩) ?_ ?_
                rotate_left
                · intro w'
                  go_simp
                  with_reducible rfl
                rotate_left
                · simp only [Act.put, List.setIfInBounds_toArray, List.set_cons_zero, List.set_cons_succ, i64_w, i32_w]
                  rfl
                refine done_ (done_of HT_.out (by kernel_rfl)) ?_
                have HS3 := Lib.hid hHeld
                clear hHeld
                by_cases hl : i + k < 256
                · obtain ⟨p, hp⟩ : ∃ p, i + k = p := ⟨_, rfl⟩
                  have hp256 : p < 256 := by omega
                  have hpi : (p : Int) < 256 := by omega
                  have hpd3 : decide ((p : Int) < 256) = true := decide_eq_true hpi
                  have WA : IntKind.i64.wrap ((i : Int) + (k : Int)) = (p : Int) := by rw [IntWalk.i64_in _ (by omega)]; omega
                  have b2 := PW.out p hp256
                  have hcp := HS3.out.2.2.1.cell p hp256
                  obtain ⟨w0, hw0⟩ : ∃ x, wf p = x := ⟨_, rfl⟩
                  rw [hw0] at b2 hcp
                  have WO : IntKind.i64.wrap (w0 + t0) = w0 + t0 := IntWalk.i64_in _ (by omega)
                  have OF := Lib.hid (fun W => of_any (w0 + t0) ((w0 + t0) % 8380417) W (by omega) (by omega) rfl)
                  have vb := mod_bd (w0 + t0)
                  have hac := acc_lo (v := (w0 + t0) % 8380417) AC.out hp hp256 MT.out (by rw [hw0]; exact M.emod _)
                  obtain ⟨v0, hv0⟩ : ∃ x, (w0 + t0) % 8380417 = x := ⟨_, rfl⟩
                  obtain ⟨s0, hs0⟩ : ∃ x, w0 + t0 = x := ⟨_, rfl⟩
                  rw [hv0] at vb hac
                  have WO2 : IntKind.i64.wrap (w0 + t0) = s0 := WO.trans hs0
                  rw [hv0, hs0] at OF
                  have ACN := Lib.hid hac
                  have PN := Lib.hid (upd_PF PW.out p v0 vb)
                  clear WO hac vb hv0 hs0 hw0 b2
                  go_wp2_with (go_at_call 21; (with_reducible refine (OF.out _).mono ?_); rintro e w9 ⟨rfl, hD⟩; have HS3 := Lib.hid (AA.drawn HS3.out hD); have hfp := HS3.out.2.2.1.frozen p; have hcp := HS3.out.2.2.1.cell p hp256; clear hD)
                  go_roundw
                  case rel =>
                    have hrel : A3 w g_f g_g g_w f g i (.int .i64 ((k : Int) + 1)) (w9.setCell ⟨g_w, p, none⟩ (.int .i64 v0)) := ⟨k + 1, upd wf p v0, by omega, by go_num, PN.out, ACN.out, HS3.out.1.other (by have := DW.out; omega) _ _, HS3.out.2.1.other (by have := DW.out; omega) _ _, HS3.out.2.2.1.set p v0, HS3.out.2.2.2.setCell GW.out _⟩
                    first
                    | exact hrel
                    | (repeat apply Exists.intro
                       exact ⟨hrel, rfl⟩)
                  case measure => simp [intOf]; omega
                · obtain ⟨p, hp⟩ : ∃ p, i + k - 256 = p := ⟨_, rfl⟩
                  obtain ⟨s, hs⟩ : ∃ p, i + k = p := ⟨_, rfl⟩
                  have hp256 : p < 256 := by omega
                  have hpi : (p : Int) < 256 := by omega
                  have hpd3 : decide ((s : Int) < 256) = false := decide_eq_false (by omega)
                  have WA : IntKind.i64.wrap ((i : Int) + (k : Int)) = (s : Int) := by rw [IntWalk.i64_in _ (by omega)]; omega
                  have WB : IntKind.i64.wrap ((s : Int) - 256) = (p : Int) := by rw [IntWalk.i64_in _ (by omega)]; omega
                  have b2 := PW.out p hp256
                  have hcp := HS3.out.2.2.1.cell p hp256
                  obtain ⟨w0, hw0⟩ : ∃ x, wf p = x := ⟨_, rfl⟩
                  rw [hw0] at b2 hcp
                  have WO : IntKind.i64.wrap (w0 - t0) = w0 - t0 := IntWalk.i64_in _ (by omega)
                  have OF := Lib.hid (fun W => of_any (w0 - t0) ((w0 - t0) % 8380417) W (by omega) (by omega) rfl)
                  have vb := mod_bd (w0 - t0)
                  have hac := acc_hi (v := (w0 - t0) % 8380417) AC.out (show i + k = p + 256 by omega) hp256 MT.out (by rw [hw0]; exact M.emod _)
                  obtain ⟨v0, hv0⟩ : ∃ x, (w0 - t0) % 8380417 = x := ⟨_, rfl⟩
                  obtain ⟨s0, hs0⟩ : ∃ x, w0 - t0 = x := ⟨_, rfl⟩
                  rw [hv0] at vb hac
                  have WO2 : IntKind.i64.wrap (w0 - t0) = s0 := WO.trans hs0
                  rw [hv0, hs0] at OF
                  have ACN := Lib.hid hac
                  have PN := Lib.hid (upd_PF PW.out p v0 vb)
                  clear WO hac vb hv0 hs0 hw0 b2
                  go_wp2_with (go_at_call 21; (with_reducible refine (OF.out _).mono ?_); rintro e w9 ⟨rfl, hD⟩; have HS3 := Lib.hid (AA.drawn HS3.out hD); have hfp := HS3.out.2.2.1.frozen p; have hcp := HS3.out.2.2.1.cell p hp256; clear hD)
                  go_roundw
                  case rel =>
                    have hrel : A3 w g_f g_g g_w f g i (.int .i64 ((k : Int) + 1)) (w9.setCell ⟨g_w, p, none⟩ (.int .i64 v0)) := ⟨k + 1, upd wf p v0, by omega, by go_num, PN.out, ACN.out, HS3.out.1.other (by have := DW.out; omega) _ _, HS3.out.2.1.other (by have := DW.out; omega) _ _, HS3.out.2.2.1.set p v0, HS3.out.2.2.2.setCell GW.out _⟩
                    first
                    | exact hrel
                    | (repeat apply Exists.intro
                       exact ⟨hrel, rfl⟩)
                  case measure => simp [intOf]; omega
              · have hpd2 : (k < 256 ∧ g i = 0) ∨ k = 256 := by
                  by_cases h1 : k < 256
                  · exact .inl ⟨h1, Classical.byContradiction fun h2 => hg0 ⟨h1, h2⟩⟩
                  · exact .inr (by omega)
                have ACN := Lib.hid (acc_next hac (by rcases hpd2 with h | h; exact .inr h.2; exact .inl h))
                have PW := Lib.hid hpw
                have HS := Lib.hid hAA
                clear hac hpw hAA hg0
                rcases hpd2 with ⟨hkl, hz⟩ | hkl
                · have hpd3 : decide ((k : Int) < 256) = true := decide_eq_true (by omega)
                  rw [hz] at hcg
                  clear hz
                  go_wp2
                  go_roundw
                  case rel =>
                    have hrel : A2 w g_f g_g g_w f g (.int .i64 ((i : Int) + 1)) wr := ⟨i + 1, wf, by omega, by go_num, PW.out, ACN.out, HS.out⟩
                    first
                    | exact hrel
                    | (repeat apply Exists.intro
                       exact ⟨hrel, rfl⟩)
                  case measure => simp [intOf]; omega
                · have hpd3 : decide ((k : Int) < 256) = false := decide_eq_false (by omega)
                  clear hcg
                  go_wp2
                  go_roundw
                  case rel =>
                    have hrel : A2 w g_f g_g g_w f g (.int .i64 ((i : Int) + 1)) wr := ⟨i + 1, wf, by omega, by go_num, PW.out, ACN.out, HS.out⟩
                    first
                    | exact hrel
                    | (repeat apply Exists.intro
                       exact ⟨hrel, rfl⟩)
                  case measure => simp [intOf]; omega
          · have e : i = 256 := by omega
            subst e
            have EE := Lib.hid (acc_end hac hpw)
            have I_f := Lib.hid hAA.1
            have I_g := Lib.hid hAA.2.1
            have I_w := Lib.hid hAA.2.2.1
            have HB := Lib.hid hAA.2.2.2
            clear hac hpw hAA hi hlt
            go_wp2_with fail
            with_reducible refine (over_any _ _ _ _ _ I_f.out.rd C_f.out PFF.out rfl).mono ?_
            rintro e W1 ⟨g_a, c_a, rfl, hc, hg, hI, hB⟩
            have I_f := Lib.hid (I_f.out.below hB)
            have I_g := Lib.hid (I_g.out.below hB)
            have I_w := Lib.hid (I_w.out.below hB)
            have I_a := Lib.hid hI
            have C_a := Lib.hid hc
            have HB := Lib.hid (below_step HB.out hB)
            clear hI hB hg hc
            go_wp2_with fail
            with_reducible refine (over_any _ _ _ _ _ I_g.out.rd C_g.out PFG.out rfl).mono ?_
            rintro e W2 ⟨g_b, c_b, rfl, hc, hg, hI, hB⟩
            have I_f := Lib.hid (I_f.out.below hB)
            have I_g := Lib.hid (I_g.out.below hB)
            have I_w := Lib.hid (I_w.out.below hB)
            have I_a := Lib.hid (I_a.out.below hB)
            have I_b := Lib.hid hI
            have C_b := Lib.hid hc
            have HB := Lib.hid (below_step HB.out hB)
            clear hI hB hg hc
            go_wp2_with fail
            with_reducible refine (times_any _ _ _ _ _ _ _ _ I_a.out.rd I_b.out.rd C_a.out C_b.out (overS_PF _) (overS_PF _) rfl).mono ?_
            rintro e W3 ⟨g_p, c_p, rfl, hc, hg, hI, hB⟩
            have I_f := Lib.hid (I_f.out.below hB)
            have I_g := Lib.hid (I_g.out.below hB)
            have I_w := Lib.hid (I_w.out.below hB)
            have I_a := Lib.hid (I_a.out.below hB)
            have I_b := Lib.hid (I_b.out.below hB)
            have I_p := Lib.hid hI
            have C_p := Lib.hid hc
            have HB := Lib.hid (below_step HB.out hB)
            clear hI hB hg hc
            go_wp2_with fail
            with_reducible refine (back_any _ _ _ _ _ I_p.out.rd C_p.out (mulS_PF _ _) rfl).mono ?_
            rintro e W4 ⟨g_r, c_r, rfl, hc, hg, hI, hB⟩
            have I_f := Lib.hid (I_f.out.below hB)
            have I_g := Lib.hid (I_g.out.below hB)
            have I_w := Lib.hid (I_w.out.below hB)
            have I_a := Lib.hid (I_a.out.below hB)
            have I_b := Lib.hid (I_b.out.below hB)
            have I_p := Lib.hid (I_p.out.below hB)
            have I_r := Lib.hid hI
            have C_r := Lib.hid hc
            have HB := Lib.hid (below_step HB.out hB)
            clear hI hB hg hc
            go_wp2_with fail
            with_reducible refine (same_any _ _ _ _ _ _ _ I_r.out.rd I_w.out.rd C_r.out C_w.out EE.out).mono ?_
            rintro e W5 ⟨rfl, hD⟩
            have I_f := Lib.hid (I_f.out.drawn hD)
            have I_g := Lib.hid (I_g.out.drawn hD)
            have I_w := Lib.hid (I_w.out.drawn hD)
            have I_a := Lib.hid (I_a.out.drawn hD)
            have I_b := Lib.hid (I_b.out.drawn hD)
            have I_p := Lib.hid (I_p.out.drawn hD)
            have I_r := Lib.hid (I_r.out.drawn hD)
            have HB := Lib.hid (below_drawn HB.out hD)
            clear hD
            clear I_a C_a
            clear I_b C_b
            clear I_p C_p
            clear I_r C_r
            go_wp2_with fail
            with_reducible refine (awake_any _).mono ?_
            rintro e W6 ⟨rfl, hB⟩
            have I_f := Lib.hid (I_f.out.below hB)
            have I_g := Lib.hid (I_g.out.below hB)
            have I_w := Lib.hid (I_w.out.below hB)
            have HB := Lib.hid (below_step HB.out hB)
            clear hB
            go_wp2
            go_ret
            exact ⟨rfl, HB.out⟩
      · have hd1 : decide ((i : Int) < (l2.length : Int)) = false := decide_eq_false (by omega)
        have hd3 : decide (i < l2.length) = false := decide_eq_false (by omega)
        clear hin hlt hi hn
        go_wp2
        go_loopw [11] (fun v w' => A2 w g_f g_g g_w f g v w') (fun v _ => (256 - intOf v).toNat)
        case atStart => exact ⟨0, fun _ => 0, by omega, rfl, fun i _ => ⟨Int.le_refl _, show (0 : Int) < 8380417 by omega⟩, AZ.out, HS.out⟩
        case round =>
          clear HS AZ
          obtain ⟨i, wf, hi, rfl, hpw, hac, hAA⟩ := hrel
          by_cases hlt : i < 256
          · have hpd : decide ((i : Int) < 256) = true := decide_eq_true (by omega)
            have hii : (i : Int) < 256 := by omega
            have AC := Lib.hid hac
            have PW := Lib.hid hpw
            have HS := Lib.hid hAA
            clear hac hpw hAA
            go_wp2
            go_loopw [12] (fun v w' => A3 w g_f g_g g_w f g i v w') (fun v _ => (256 - intOf v).toNat)
            case atStart => exact ⟨0, wf, by omega, rfl, PW.out, AC.out, HS.out⟩
            case round =>
              clear HS AC PW
              obtain ⟨k, wf, hk, rfl, hpw, hac, hAA⟩ := hrel
              have bg := PFG.out i hlt
              have hcg := hAA.2.1.cell i hlt
              by_cases hg0 : k < 256 ∧ g i ≠ 0
              · obtain ⟨hkl, hne⟩ := hg0
                have hpd2 : decide ((k : Int) < 256) = true := decide_eq_true (by omega)
                have hki : (k : Int) < 256 := by omega
                have bf := PFF.out k hkl
                obtain ⟨xf, hxf⟩ : ∃ x, f k = x := ⟨_, rfl⟩
                obtain ⟨xg, hxg⟩ : ∃ x, g i = x := ⟨_, rfl⟩
                rw [hxg] at bg hcg hne
                rw [hxf] at bf
                have hneb : (xg != 0) = true := bne_iff_ne.2 hne
                obtain ⟨t0, ht0⟩ : ∃ x, xf * xg % 8380417 = x := ⟨_, rfl⟩
                have tb := mod_bd (xf * xg)
                rw [ht0] at tb
                have RM := Lib.hid (fun W => rmul_any xf xg t0 W bf bg ht0)
                have MT := Lib.hid (show M t0 (f k * g i) by rw [← ht0, ← hxf, ← hxg]; exact M.emod _)
                have VF := Lib.hid hxf
                have VG := Lib.hid hxg
                have AC := Lib.hid hac
                have PW := Lib.hid hpw
                have HS := Lib.hid (AA.drew hAA)
                clear hac hpw hAA hxf hxg ht0 bf bg hne
                go_wp2_with fail
                refine start_ (n := 10) (S := AA w g_f g_g g_w f g wf) (ds := []) #[false, false, false, false, false, false, false, false, false, false] (by kernel_rfl) rfl rfl HS.out (fun hHeld => ?_); refine with_tab tab6_15 (fun HT_ => ?_)
                refine pure_ (i := 0) (N := some 66) (v := ?_) (a' := ?_) #[true, false, false, false, false, false, false, false, false, false] rfl rfl (any_of HT_.out (by kernel_rfl)) (fun _ _ _ h => h) (Or.inl ⟨by rfl, ?_⟩) ?_ ?_
                rotate_left
                · intro w'
                  go_simp
                  with_reducible rfl
                rotate_left
                · simp only [Act.put, List.setIfInBounds_toArray, List.set_cons_zero, List.set_cons_succ, i64_w, i32_w]
                  rfl
                refine pure_ (i := 1) (N := some 67) (v := ?_) (a' := ?_) #[true, true, false, false, false, false, false, false, false, false] rfl rfl (any_of HT_.out (by kernel_rfl)) (fun _ _ _ h => h) (Or.inl ⟨by rfl, ?_⟩) ?_ ?_
                rotate_left
                · intro w'
                  go_simp
                  with_reducible rfl
                rotate_left
                · simp only [Act.put, List.setIfInBounds_toArray, List.set_cons_zero, List.set_cons_succ, i64_w, i32_w]
                  rfl
                refine pure_ (i := 2) (N := some 68) (v := ?_) (a' := ?_) #[true, true, true, false, false, false, false, false, false, false] rfl rfl (any_of HT_.out (by kernel_rfl)) (fun _ _ _ h => h) (Or.inl ⟨by rfl, ?_⟩) ?_ ?_
                rotate_left
                · intro w'
                  go_simp
                  with_reducible rfl
                rotate_left
                · simp only [Act.put, List.setIfInBounds_toArray, List.set_cons_zero, List.set_cons_succ, i64_w, i32_w]
                  rfl
                refine take_ (i := 3) (N := some 69) (v := ?_) (a' := ?_) #[true, true, true, true, false, false, false, false, false, false] rfl rfl (take_of HT_.out (by kernel_rfl)) (fun _ _ _ h => h) (Or.inl ⟨by rfl, ?_⟩) hHeld ?_ ?_
                rotate_left
                · intro w' s0
                  have hc := s0.1.cell k hkl
                  rw [VF.out] at hc
                  go_simp
                  with_reducible rfl
                rotate_left
                · simp only [Act.put, List.setIfInBounds_toArray, List.set_cons_zero, List.set_cons_succ, i64_w, i32_w]
                  rfl
                refine pure_ (i := 4) (N := some 70) (v := ?_) (a' := ?_) #[true, true, true, true, true, false, false, false, false, false] rfl rfl (any_of HT_.out (by kernel_rfl)) (fun _ _ _ h => h) (Or.inl ⟨by rfl, ?_⟩) ?_ ?_
                rotate_left
                · intro w'
                  go_simp
                  with_reducible rfl
                rotate_left
                · simp only [Act.put, List.setIfInBounds_toArray, List.set_cons_zero, List.set_cons_succ, i64_w, i32_w]
                  rfl
                refine pure_ (i := 5) (N := some 71) (v := ?_) (a' := ?_) #[true, true, true, true, true, true, false, false, false, false] rfl rfl (any_of HT_.out (by kernel_rfl)) (fun _ _ _ h => h) (Or.inl ⟨by rfl, ?_⟩) ?_ ?_
                rotate_left
                · intro w'
                  go_simp
                  with_reducible rfl
                rotate_left
                · simp only [Act.put, List.setIfInBounds_toArray, List.set_cons_zero, List.set_cons_succ, i64_w, i32_w]
                  rfl
                refine pure_ (i := 6) (N := some 72) (v := ?_) (a' := ?_) #[true, true, true, true, true, true, true, false, false, false] rfl rfl (any_of HT_.out (by kernel_rfl)) (fun _ _ _ h => h) (Or.inl ⟨by rfl, ?_⟩) ?_ ?_
                rotate_left
                · intro w'
                  go_simp
                  with_reducible rfl
                rotate_left
                · simp only [Act.put, List.setIfInBounds_toArray, List.set_cons_zero, List.set_cons_succ, i64_w, i32_w]
                  rfl
                refine take_ (i := 7) (N := some 73) (v := ?_) (a' := ?_) #[true, true, true, true, true, true, true, true, false, false] rfl rfl (take_of HT_.out (by kernel_rfl)) (fun _ _ _ h => h) (Or.inl ⟨by rfl, ?_⟩) hHeld ?_ ?_
                rotate_left
                · intro w' s0
                  have hc := s0.2.1.cell i hlt
                  rw [VG.out] at hc
                  go_simp
                  with_reducible rfl
                rotate_left
                · simp only [Act.put, List.setIfInBounds_toArray, List.set_cons_zero, List.set_cons_succ, i64_w, i32_w]
                  rfl
                refine one_ (i := 8) (N := some 74) #[true, true, true, true, true, true, true, true, true, false] rfl rfl (one_of HT_.out (by kernel_rfl)) (by decide) (fun K hK => ?_)
                refine goes_ Try.func23 (by kernel_rfl) rfl #[.int .i64 xf, .int .i64 xg] (by rfl) rfl rfl (by (try simp only [List.map_toArray, List.map_cons, List.map_nil]); first | done | rfl) ?_
                with_reducible refine (RM.out _).mono ?_
                rintro e w3 ⟨rfl, hD⟩
                refine ⟨_, rfl, ?_⟩
                refine hK.out _ _ (AA.drawn hHeld hD) (fun hHeld => ?_)
                clear hK K
                refine norm_ (a' := ?_) ?_ ?_
                rotate_left
                · show Act.put _ (some 74) _ = _
                  simp only [Act.put, List.setIfInBounds_toArray, List.set_cons_zero, List.set_cons_succ, i64_w, i32_w]
                  rfl
                refine pure_ (i := 9) (N := some 13) (v := ?_) (a' := ?_) #[true, true, true, true, true, true, true, true, true, true] rfl rfl (any_of HT_.out (by kernel_rfl)) (fun _ _ _ h => h) (Or.inl ⟨by rfl, ?_⟩) ?_ ?_
                rotate_left
                · intro w'
                  go_simp
                  with_reducible rfl
                rotate_left
                · simp only [Act.put, List.setIfInBounds_toArray, List.set_cons_zero, List.set_cons_succ, i64_w, i32_w]
                  rfl
                refine done_ (done_of HT_.out (by kernel_rfl)) ?_
                have HS3 := Lib.hid hHeld
                clear hHeld
                by_cases hl : i + k < 256
                · obtain ⟨p, hp⟩ : ∃ p, i + k = p := ⟨_, rfl⟩
                  have hp256 : p < 256 := by omega
                  have hpi : (p : Int) < 256 := by omega
                  have hpd3 : decide ((p : Int) < 256) = true := decide_eq_true hpi
                  have WA : IntKind.i64.wrap ((i : Int) + (k : Int)) = (p : Int) := by rw [IntWalk.i64_in _ (by omega)]; omega
                  have b2 := PW.out p hp256
                  have hcp := HS3.out.2.2.1.cell p hp256
                  obtain ⟨w0, hw0⟩ : ∃ x, wf p = x := ⟨_, rfl⟩
                  rw [hw0] at b2 hcp
                  have WO : IntKind.i64.wrap (w0 + t0) = w0 + t0 := IntWalk.i64_in _ (by omega)
                  have OF := Lib.hid (fun W => of_any (w0 + t0) ((w0 + t0) % 8380417) W (by omega) (by omega) rfl)
                  have vb := mod_bd (w0 + t0)
                  have hac := acc_lo (v := (w0 + t0) % 8380417) AC.out hp hp256 MT.out (by rw [hw0]; exact M.emod _)
                  obtain ⟨v0, hv0⟩ : ∃ x, (w0 + t0) % 8380417 = x := ⟨_, rfl⟩
                  obtain ⟨s0, hs0⟩ : ∃ x, w0 + t0 = x := ⟨_, rfl⟩
                  rw [hv0] at vb hac
                  have WO2 : IntKind.i64.wrap (w0 + t0) = s0 := WO.trans hs0
                  rw [hv0, hs0] at OF
                  have ACN := Lib.hid hac
                  have PN := Lib.hid (upd_PF PW.out p v0 vb)
                  clear WO hac vb hv0 hs0 hw0 b2
                  go_wp2_with (go_at_call 21; (with_reducible refine (OF.out _).mono ?_); rintro e w9 ⟨rfl, hD⟩; have HS3 := Lib.hid (AA.drawn HS3.out hD); have hfp := HS3.out.2.2.1.frozen p; have hcp := HS3.out.2.2.1.cell p hp256; clear hD)
                  go_roundw
                  case rel =>
                    have hrel : A3 w g_f g_g g_w f g i (.int .i64 ((k : Int) + 1)) (w9.setCell ⟨g_w, p, none⟩ (.int .i64 v0)) := ⟨k + 1, upd wf p v0, by omega, by go_num, PN.out, ACN.out, HS3.out.1.other (by have := DW.out; omega) _ _, HS3.out.2.1.other (by have := DW.out; omega) _ _, HS3.out.2.2.1.set p v0, HS3.out.2.2.2.setCell GW.out _⟩
                    first
                    | exact hrel
                    | (repeat apply Exists.intro
                       exact ⟨hrel, rfl⟩)
                  case measure => simp [intOf]; omega
                · obtain ⟨p, hp⟩ : ∃ p, i + k - 256 = p := ⟨_, rfl⟩
                  obtain ⟨s, hs⟩ : ∃ p, i + k = p := ⟨_, rfl⟩
                  have hp256 : p < 256 := by omega
                  have hpi : (p : Int) < 256 := by omega
                  have hpd3 : decide ((s : Int) < 256) = false := decide_eq_false (by omega)
                  have WA : IntKind.i64.wrap ((i : Int) + (k : Int)) = (s : Int) := by rw [IntWalk.i64_in _ (by omega)]; omega
                  have WB : IntKind.i64.wrap ((s : Int) - 256) = (p : Int) := by rw [IntWalk.i64_in _ (by omega)]; omega
                  have b2 := PW.out p hp256
                  have hcp := HS3.out.2.2.1.cell p hp256
                  obtain ⟨w0, hw0⟩ : ∃ x, wf p = x := ⟨_, rfl⟩
                  rw [hw0] at b2 hcp
                  have WO : IntKind.i64.wrap (w0 - t0) = w0 - t0 := IntWalk.i64_in _ (by omega)
                  have OF := Lib.hid (fun W => of_any (w0 - t0) ((w0 - t0) % 8380417) W (by omega) (by omega) rfl)
                  have vb := mod_bd (w0 - t0)
                  have hac := acc_hi (v := (w0 - t0) % 8380417) AC.out (show i + k = p + 256 by omega) hp256 MT.out (by rw [hw0]; exact M.emod _)
                  obtain ⟨v0, hv0⟩ : ∃ x, (w0 - t0) % 8380417 = x := ⟨_, rfl⟩
                  obtain ⟨s0, hs0⟩ : ∃ x, w0 - t0 = x := ⟨_, rfl⟩
                  rw [hv0] at vb hac
                  have WO2 : IntKind.i64.wrap (w0 - t0) = s0 := WO.trans hs0
                  rw [hv0, hs0] at OF
                  have ACN := Lib.hid hac
                  have PN := Lib.hid (upd_PF PW.out p v0 vb)
                  clear WO hac vb hv0 hs0 hw0 b2
                  go_wp2_with (go_at_call 21; (with_reducible refine (OF.out _).mono ?_); rintro e w9 ⟨rfl, hD⟩; have HS3 := Lib.hid (AA.drawn HS3.out hD); have hfp := HS3.out.2.2.1.frozen p; have hcp := HS3.out.2.2.1.cell p hp256; clear hD)
                  go_roundw
                  case rel =>
                    have hrel : A3 w g_f g_g g_w f g i (.int .i64 ((k : Int) + 1)) (w9.setCell ⟨g_w, p, none⟩ (.int .i64 v0)) := ⟨k + 1, upd wf p v0, by omega, by go_num, PN.out, ACN.out, HS3.out.1.other (by have := DW.out; omega) _ _, HS3.out.2.1.other (by have := DW.out; omega) _ _, HS3.out.2.2.1.set p v0, HS3.out.2.2.2.setCell GW.out _⟩
                    first
                    | exact hrel
                    | (repeat apply Exists.intro
                       exact ⟨hrel, rfl⟩)
                  case measure => simp [intOf]; omega
              · have hpd2 : (k < 256 ∧ g i = 0) ∨ k = 256 := by
                  by_cases h1 : k < 256
                  · exact .inl ⟨h1, Classical.byContradiction fun h2 => hg0 ⟨h1, h2⟩⟩
                  · exact .inr (by omega)
                have ACN := Lib.hid (acc_next hac (by rcases hpd2 with h | h; exact .inr h.2; exact .inl h))
                have PW := Lib.hid hpw
                have HS := Lib.hid hAA
                clear hac hpw hAA hg0
                rcases hpd2 with ⟨hkl, hz⟩ | hkl
                · have hpd3 : decide ((k : Int) < 256) = true := decide_eq_true (by omega)
                  rw [hz] at hcg
                  clear hz
                  go_wp2
                  go_roundw
                  case rel =>
                    have hrel : A2 w g_f g_g g_w f g (.int .i64 ((i : Int) + 1)) wr := ⟨i + 1, wf, by omega, by go_num, PW.out, ACN.out, HS.out⟩
                    first
                    | exact hrel
                    | (repeat apply Exists.intro
                       exact ⟨hrel, rfl⟩)
                  case measure => simp [intOf]; omega
                · have hpd3 : decide ((k : Int) < 256) = false := decide_eq_false (by omega)
                  clear hcg
                  go_wp2
                  go_roundw
                  case rel =>
                    have hrel : A2 w g_f g_g g_w f g (.int .i64 ((i : Int) + 1)) wr := ⟨i + 1, wf, by omega, by go_num, PW.out, ACN.out, HS.out⟩
                    first
                    | exact hrel
                    | (repeat apply Exists.intro
                       exact ⟨hrel, rfl⟩)
                  case measure => simp [intOf]; omega
          · have e : i = 256 := by omega
            subst e
            have EE := Lib.hid (acc_end hac hpw)
            have I_f := Lib.hid hAA.1
            have I_g := Lib.hid hAA.2.1
            have I_w := Lib.hid hAA.2.2.1
            have HB := Lib.hid hAA.2.2.2
            clear hac hpw hAA hi hlt
            go_wp2_with fail
            with_reducible refine (over_any _ _ _ _ _ I_f.out.rd C_f.out PFF.out rfl).mono ?_
            rintro e W1 ⟨g_a, c_a, rfl, hc, hg, hI, hB⟩
            have I_f := Lib.hid (I_f.out.below hB)
            have I_g := Lib.hid (I_g.out.below hB)
            have I_w := Lib.hid (I_w.out.below hB)
            have I_a := Lib.hid hI
            have C_a := Lib.hid hc
            have HB := Lib.hid (below_step HB.out hB)
            clear hI hB hg hc
            go_wp2_with fail
            with_reducible refine (over_any _ _ _ _ _ I_g.out.rd C_g.out PFG.out rfl).mono ?_
            rintro e W2 ⟨g_b, c_b, rfl, hc, hg, hI, hB⟩
            have I_f := Lib.hid (I_f.out.below hB)
            have I_g := Lib.hid (I_g.out.below hB)
            have I_w := Lib.hid (I_w.out.below hB)
            have I_a := Lib.hid (I_a.out.below hB)
            have I_b := Lib.hid hI
            have C_b := Lib.hid hc
            have HB := Lib.hid (below_step HB.out hB)
            clear hI hB hg hc
            go_wp2_with fail
            with_reducible refine (times_any _ _ _ _ _ _ _ _ I_a.out.rd I_b.out.rd C_a.out C_b.out (overS_PF _) (overS_PF _) rfl).mono ?_
            rintro e W3 ⟨g_p, c_p, rfl, hc, hg, hI, hB⟩
            have I_f := Lib.hid (I_f.out.below hB)
            have I_g := Lib.hid (I_g.out.below hB)
            have I_w := Lib.hid (I_w.out.below hB)
            have I_a := Lib.hid (I_a.out.below hB)
            have I_b := Lib.hid (I_b.out.below hB)
            have I_p := Lib.hid hI
            have C_p := Lib.hid hc
            have HB := Lib.hid (below_step HB.out hB)
            clear hI hB hg hc
            go_wp2_with fail
            with_reducible refine (back_any _ _ _ _ _ I_p.out.rd C_p.out (mulS_PF _ _) rfl).mono ?_
            rintro e W4 ⟨g_r, c_r, rfl, hc, hg, hI, hB⟩
            have I_f := Lib.hid (I_f.out.below hB)
            have I_g := Lib.hid (I_g.out.below hB)
            have I_w := Lib.hid (I_w.out.below hB)
            have I_a := Lib.hid (I_a.out.below hB)
            have I_b := Lib.hid (I_b.out.below hB)
            have I_p := Lib.hid (I_p.out.below hB)
            have I_r := Lib.hid hI
            have C_r := Lib.hid hc
            have HB := Lib.hid (below_step HB.out hB)
            clear hI hB hg hc
            go_wp2_with fail
            with_reducible refine (same_any _ _ _ _ _ _ _ I_r.out.rd I_w.out.rd C_r.out C_w.out EE.out).mono ?_
            rintro e W5 ⟨rfl, hD⟩
            have I_f := Lib.hid (I_f.out.drawn hD)
            have I_g := Lib.hid (I_g.out.drawn hD)
            have I_w := Lib.hid (I_w.out.drawn hD)
            have I_a := Lib.hid (I_a.out.drawn hD)
            have I_b := Lib.hid (I_b.out.drawn hD)
            have I_p := Lib.hid (I_p.out.drawn hD)
            have I_r := Lib.hid (I_r.out.drawn hD)
            have HB := Lib.hid (below_drawn HB.out hD)
            clear hD
            clear I_a C_a
            clear I_b C_b
            clear I_p C_p
            clear I_r C_r
            go_wp2_with fail
            with_reducible refine (awake_any _).mono ?_
            rintro e W6 ⟨rfl, hB⟩
            have I_f := Lib.hid (I_f.out.below hB)
            have I_g := Lib.hid (I_g.out.below hB)
            have I_w := Lib.hid (I_w.out.below hB)
            have HB := Lib.hid (below_step HB.out hB)
            clear hB
            go_wp2
            go_ret
            exact ⟨rfl, HB.out⟩
end Go.Proofs.Ytebicdjnhogniaa.T
