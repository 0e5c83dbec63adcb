/- WaveDots: its walk (printed by gen_dots.py). -/
import Derived.Test.YtebicdjnhogniaaDt
namespace Go.Proofs.Ytebicdjnhogniaa.T
open Go.RowKit Go.Proofs.Ytebicdjnhogniaa.PWavePolys Go.Proofs.YtebicdjnhogniaaW.PrintWords Go.Proofs.YtebicdjnhogniaaW.PrintLast Go.Proofs.YtebicdjnhogniaaW.PrintMore
attribute [local go_sem] max2_int min2_int max_two min_two
set_option linter.unusedVariables false
set_option linter.unusedSimpArgs false
abbrev H3 := Option Addr × Nat × Nat
def sl3 : Kd H3 := Kd.scalar (fun p => Value.slice p.1 p.2.1 p.2.2) (fun _ => rfl)
theorem info22 : (Try.prog.info? 22).map (fun i => (i.zero, i.size, i.bytes)) = some (some (.slice none 0 0), 1, 24) := by kernel_rfl
/-- a row of one's own of polys. -/
def PR (b : Nat) (w : World) (v : Value) (hs : List H3) (fs : Nat → F) : Prop :=
  Kd.R sl3 22 w b (fun _ => True) v hs ∧ (hs = [] → v = .slice none 0 0) ∧ ∀ j, j < hs.length → ∃ g c, hs[j]? = some (some ⟨g, 0, none⟩, 256, c) ∧ 256 ≤ c ∧ IR w g (fs j)
section
variable {w w1 W : World} {v v1 u : Value} {hs ks : List H3} {fs : Nat → F} {b b2 g c : Nat} {ok : Nat → Prop} {f : F}
theorem PR.below (h : PR b w v hs fs) (hb : Below w.heap.size w w1) : PR b w1 v hs fs := by
  refine ⟨Kd.R_below h.1 hb, h.2.1, fun j hj => ?_⟩
  obtain ⟨g, c, e, hc, hI⟩ := h.2.2 j hj
  exact ⟨g, c, e, hc, hI.below hb⟩
theorem PR.nil (b : Nat) (w : World) (fs : Nat → F) : PR b w (.slice none 0 0) [] fs := ⟨Kd.R_nil _ _ _ _ _, fun _ => rfl, fun j hj => by simp at hj⟩
theorem IR.grown (h : IR W g f) (hr : Kd.R sl3 22 W b ok v hs) (hg : W.grownBy w1 v.ownBlock) : IR w1 g f := by
  have hlt := h.lt
  obtain ⟨cs, h1, h2⟩ := h
  exact ⟨cs, by rw [hg.block g hlt (Kd.R_ne hr h1 (by decide))]; exact h1, h2⟩
theorem PR.snoc (h : PR b W v hs fs) (hI : IR W g (fs hs.length)) (hc : 256 ≤ c) (ho : Kd.R sl3 22 w1 b (fun _ => True) v1 (hs ++ [(some ⟨g, 0, none⟩, 256, c)])) (hg : W.grownBy w1 v.ownBlock) : PR b w1 v1 (hs ++ [(some ⟨g, 0, none⟩, 256, c)]) fs := by
  refine ⟨ho, fun e => by simp at e, fun j hj => ?_⟩
  rw [List.length_append, List.length_singleton] at hj
  by_cases e : j < hs.length
  · obtain ⟨g2, c2, e2, hc2, hI2⟩ := h.2.2 j e
    exact ⟨g2, c2, by rw [List.getElem?_append_left e]; exact e2, hc2, hI2.grown h.1 hg⟩
  · have e2 : j = hs.length := by omega
    subst e2
    exact ⟨g, c, by simp, hc, hI.grown h.1 hg⟩
theorem PR.grown (h : PR b W v hs fs) (hr : Kd.R sl3 22 W b2 ok u ks) (hg : W.grownBy w1 u.ownBlock) (hne : ∀ k, v.ownBlock = some k → some k ≠ u.ownBlock) : PR b w1 v hs fs := by
  refine ⟨Kd.R_mono (Kd.R_grown (Kd.R_tight rfl h.1) hg (fun k hk => hne k hk.symm)) (fun _ _ => trivial), h.2.1, fun j hj => ?_⟩
  obtain ⟨g, c, e, hc, hI⟩ := h.2.2 j hj
  exact ⟨g, c, e, hc, hI.grown hr hg⟩
def mk3 (n : Nat) (fs : Nat → F) : List (List Int) := (List.range n).map fun j => ls (fs j)
theorem mk3_len (n : Nat) (fs : Nat → F) : (mk3 n fs).length = n := by simp [mk3]
theorem mk3_get (n : Nat) (fs : Nat → F) (j : Nat) (h : j < n) : rd_L1 (mk3 n fs) (j : Int) = ls (fs j) := by
  simp [rd_L1, rdOf, mk3, List.getD_eq_getElem?_getD, h]
theorem LS.of (L : List (List Int)) (hr : Kd.R sl3 22 w b ok v hs) (h0 : hs = [] → v = .slice none 0 0) (hl : hs.length ≤ 8) (hL : L.length = hs.length) (hI : ∀ (j : Nat) (p : H3), hs[j]? = some p → IN w (.slice p.1 p.2.1 p.2.2) (rd_L1 L (j : Int))) : LS w v L := by
  by_cases e : hs = []
  · left
    have e2 : L.length = 0 := by rw [hL, e]; rfl
    exact ⟨List.eq_nil_of_length_eq_zero e2, h0 e⟩
  · right
    have hp : 0 < hs.length := List.length_pos_iff.2 e
    obtain ⟨g, cap, rfl, hb, hlt, cells, hc⟩ := Kd.R_form hr hp
    have hcap := (Kd.R_reads' hr).2.1
    rw [hL]
    refine ⟨_, cap, fun j => .slice (hs.getD j (none, 0, 0)).1 (hs.getD j (none, 0, 0)).2.1 (hs.getD j (none, 0, 0)).2.2, rfl, hp, hcap, hl, fun j hj => ?_, fun j hj => ?_⟩
    · have h2 := (Kd.R_cell ((none, 0, 0) : H3) hr (j : Int) (by omega) (by omega)).1
      rw [Int.toNat_natCast] at h2
      rw [add_at, h2]
      rfl
    · have h3 := hI j _ (List.getElem?_eq_getElem hj)
      simpa [List.getD_eq_getElem?_getD, hj] using h3
theorem PR.ls (h : PR b w v hs fs) (hl : hs.length ≤ 8) : LS w v (mk3 hs.length fs) := LS.of _ h.1 h.2.1 hl (mk3_len _ _) (fun j p hp => by
  have hj := (List.getElem?_eq_some_iff.1 hp).1
  obtain ⟨g, c, e, hc, hI⟩ := h.2.2 j hj
  rw [hp] at e
  injection e with e
  subst e
  rw [mk3_get _ _ j hj]
  exact IN.poly hI hc)
end
def fA (l : List Int) (j : Nat) : F := lowP ((j : Int) :: l)
def fB (l : List Int) (j : Nat) : F := lowP ((7 * (j : Int)) :: l)
def D1 (w : World) (l : List Int) (m : Nat) (v x : Value) (w' : World) : Prop :=
  ∃ (i : Nat) (s : Value) (hs : List H3), i ≤ m ∧ s = v ∧ x = .int .i64 (i : Int) ∧ hs.length = i ∧ PR w.heap.size w' s hs (fA l) ∧ Below w.heap.size w w'
def D2 (w : World) (l : List Int) (m b : Nat) (vf : Value) (hf : List H3) (v x : Value) (w' : World) : Prop :=
  ∃ (i : Nat) (s : Value) (hs : List H3), i ≤ m ∧ s = v ∧ x = .int .i64 (i : Int) ∧ hs.length = i ∧ PR w.heap.size w' s hs (fB l) ∧ PR b w' vf hf (fA l) ∧ Below w.heap.size w w'
theorem one_rep (k : IntKind) (x : Int) (W : World) (base : Nat) (okp : Nat → Prop) : Reps ((Kd.int k).M W base okp) (Kd.int k).sz [x] [.int k x] := (Reps.none _ _).snoc (p := x) rfl rfl
theorem pr_cut {b : Nat} {W : World} {ks : List H3} {fs : Nat → F} {g cap g0 c0 : Nat} (hr : Kd.R sl3 22 W b (fun _ => True) (.slice (some ⟨g, 0, none⟩) ks.length cap) ks) (hp : PR b W (.slice (some ⟨g, 0, none⟩) ks.length cap) ks fs) (h0 : ks[0]? = some (some ⟨g0, 0, none⟩, 256, c0)) (hl : ks.length ≤ 8) :
    W.grownBy (W.setCell ⟨g, 0, none⟩ (.slice (some ⟨g0, 0, none⟩) 9 c0)) (some g) ∧ LS (W.setCell ⟨g, 0, none⟩ (.slice (some ⟨g0, 0, none⟩) 9 c0)) (.slice (some ⟨g, 0, none⟩) ks.length cap) ((mk3 ks.length fs).set 0 ((ls (fs 0)).take 9)) := by
  have hlt : 0 < ks.length := (List.getElem?_eq_some_iff.1 h0).1
  have hput := Kd.R_put (enc := fun p : H3 => Value.slice p.1 p.2.1 p.2.2) (h1 := fun _ => rfl) hr (0 : Int) ((some ⟨g0, 0, none⟩, 9, c0) : H3)
  have hg : W.grownBy (W.setCell ⟨g, 0, none⟩ (.slice (some ⟨g0, 0, none⟩) 9 c0)) (some g) := hput.2
  have hgo : W.grownBy (W.setCell ⟨g, 0, none⟩ (.slice (some ⟨g0, 0, none⟩) 9 c0)) (Value.slice (some ⟨g, 0, none⟩) ks.length cap).ownBlock := by simpa [Value.ownBlock] using hg
  have hr2 : Kd.R sl3 22 (W.setCell ⟨g, 0, none⟩ (.slice (some ⟨g0, 0, none⟩) 9 c0)) b (fun _ => True) (.slice (some ⟨g, 0, none⟩) ks.length cap) (ks.set 0 (some ⟨g0, 0, none⟩, 9, c0)) := hput.1
  refine ⟨hg, LS.of _ hr2 (fun e => ?_) (by rw [List.length_set]; exact hl) (by rw [List.length_set, List.length_set, mk3_len]) (fun j p hj => ?_)⟩
  · have := congrArg List.length e
    rw [List.length_set, List.length_nil] at this
    omega
  · by_cases e : j = 0
    · subst e
      have hp0 : p = (some ⟨g0, 0, none⟩, 9, c0) := by
        rw [List.getElem?_set, if_pos rfl, if_pos hlt] at hj
        injection hj with hj
        exact hj.symm
      subst hp0
      obtain ⟨g1, c1, e1, hc1, hI1⟩ := hp.2.2 0 hlt
      rw [h0] at e1
      injection e1 with e1
      injection e1 with e1 e2
      injection e2 with _ e2
      injection e1 with e1
      injection e1 with e1
      subst e1 e2
      have hC := (hI1.grown hr hgo).rd.C
      have hC9 := Kd.C_take (m := 9) hC (by rw [ls_len]; omega)
      have hrd : rd_L1 ((mk3 ks.length fs).set 0 ((ls (fs 0)).take 9)) ((0 : Nat) : Int) = (ls (fs 0)).take 9 := by
        simp [rd_L1, rdOf, List.getD_eq_getElem?_getD, mk3_len, hlt]
      rw [hrd]
      have hlen : ((ls (fs 0)).take 9).length = 9 := by rw [List.length_take, ls_len]; rfl
      exact ⟨_, c0, by rw [hlen], by rw [hlen]; exact hC9, by rw [hlen]; omega, by rw [hlen]; omega⟩
    · rw [List.getElem?_set, if_neg (fun h => e h.symm)] at hj
      have hjl := (List.getElem?_eq_some_iff.1 hj).1
      obtain ⟨g1, c1, e1, hc1, hI1⟩ := hp.2.2 j hjl
      rw [hj] at e1
      injection e1 with e1
      subst e1
      have hrd : rd_L1 ((mk3 ks.length fs).set 0 ((ls (fs 0)).take 9)) (j : Int) = ls (fs j) := by
        rw [← mk3_get ks.length fs j hjl]
        simp [rd_L1, rdOf, List.getD_eq_getElem?_getD, List.getElem?_set, Ne.symm e]
      rw [hrd]
      exact IN.poly (hI1.grown hr hgo) hc1
set_option maxHeartbeats 8000000 in
set_option maxRecDepth 20000 in
theorem dots_walk (a1 : Option Addr) (len1 cap1 : Nat) (z1 : List Int) (many more : Int) (bad : Bool) (w : World) (w1 : RowIs .i64 w a1 len1 cap1 z1) (y1 : len1 * 8 ≤ 140737488351232) (_wm : (Lit.int .i64 many).wf = true) (_wr : (Lit.int .i64 more).wf = true) :
    Calls Try.prog 9 #[.slice a1 len1 cap1, .int .i64 many, .int .i64 more, .bool bad] w fun e w' => e = .returned (.bool true) ∧ Below w.heap.size w w' := by
  obtain ⟨l1, rfl, hr1, hm1, hw1, hc1⟩ := ReadsInt.ofRowC w1
  have HC1 := Lib.hid (show Kd.C (Kd.int .i64) w a1 l1.length l1 from Kd.C_of_reads (d := (0 : Int)) (h1 := fun _ => rfl) hr1)
  have hc1 := Lib.hid hc1
  clear hr1 hw1 hm1 w1
  by_cases hg1 : 300 < l1.length
  · go_enter Try.func9, Try.ntmps9
    go_wp2_with (go_at_call 11; (with_reducible refine (awake_any _).mono ?_); rintro e w' ⟨rfl, hb⟩)
    go_ret
    exact ⟨rfl, hb⟩
  have Hl1 : Hid (l1.length ≤ 300) := Lib.hid (by omega)
  obtain ⟨mI, hmI⟩ : ∃ r, lowS many 5 = r := ⟨_, rfl⟩
  have hmb := lowS_bd many 5 (by omega)
  rw [hmI] at hmb
  obtain ⟨m, rfl⟩ := Int.eq_ofNat_of_zero_le hmb.1
  have LM := Lib.hid (fun W => llow_any many 5 (m : Int) W (by omega) (by omega) hmI)
  have hm5 : m < 5 := by omega
  obtain ⟨nI, hnI⟩ : ∃ r, lowS more 5 = r := ⟨_, rfl⟩
  have hnb := lowS_bd more 5 (by omega)
  rw [hnI] at hnb
  obtain ⟨n, rfl⟩ := Int.eq_ofNat_of_zero_le hnb.1
  have LN := Lib.hid (fun W => llow_any more 5 (n : Int) W (by omega) (by omega) hnI)
  have hn5 : n < 5 := by omega
  have HC0 := HC1
  clear hmI hmb hnI hnb
  go_enter Try.func9, Try.ntmps9
  go_wp2
  go_loopw [9, 11] (fun v x w' => D1 w l1 m v x w') (fun _ x _ => (m - intOf x).toNat)
  case atStart => exact ⟨0, _, [], by omega, rfl, rfl, rfl, PR.nil _ _ _, Below.refl _ _⟩
  case round =>
    obtain ⟨i, s, hs, hi, rfl, rfl, hl, hP, hB⟩ := hrel
    by_cases hlt : i < m
    · have HC1 := HC0
      have hpd : decide ((i : Int) < (m : Int)) = true := decide_eq_true (by omega)
      have hii : (i : Int) < (m : Int) := by omega
      have HP := Lib.hid hP
      have HBw := Lib.hid hB
      have HL := Lib.hid hl
      clear hP hB hl
      go_wp2_with fail
      with_reducible refine (LM.out _).mono ?_
      rintro e W1 ⟨rfl, hD⟩
      have hD := below_of_drawn hD
      have HP := Lib.hid (HP.out.below hD)
      have HBw := Lib.hid (below_step HBw.out hD)
      clear hD
      go_wp2_with (first
        | ((with_reducible refine gate_dst (N := 25) rfl ?_); refine Kd.R_lit (Kd.int .i64) W1.heap.size 3 rfl (N := 25) rfl (w0 := W1) (xs := [(i : Int)]) (inner := [.int .i64 ((i : Int))]) (okp := fun _ => False) (ok := fun _ => True) ?aR ?aP (fun _ h => h.elim) trivial (Below.refl _ _) (Nat.le_refl _) (by simp) ?_; (case aR => first | (go_simp; done) | (go_simp; rfl)); (case aP => exact one_rep _ _ _ _ _); intro v1 w1 ho hb hg _; have HR1 := Lib.hid ho; have HB1 := Lib.hid hb; have HC1 := Lib.hid (Kd.C_below HC1.out (below_step HBw.out hb)); clear ho hb hg)
        | ((with_reducible refine gate_builtin (b := .append) (xs := #[.tmp 25, .tmp 26]) rfl ?_); at_builtin; refine Kd.R_append_rows (Kd.int .i64) (Rr := fun x cs => cs = [Value.int .i64 x]) (w0 := W1) W1.heap.size rfl (.tmp 25) (.tmp 26) 22 3 (.int .i64 0) 8 rfl Try.underlying22 info3 rfl (by decide) (by omega) v1 [(i : Int)] l1 a1 l1.length cap1 (fun _ => True) (fun _ => False) rfl rfl ?aO ?aR (fun _ _ h => h) (fun _ hk => hk.elim) (fun _ _ => trivial) ?aB ?aS ?aL ?_; (case aB => exact HB1.out); (case aO => exact HR1.out); (case aR => exact HC1.out); (case aS => exact HB1.out.size); (case aL => simp only [List.length_singleton]; have := Hl1.out; omega); intro v2 w2 ho hb hg hat; have HR2 := Lib.hid ho; have HB2 := Lib.hid hb; clear ho hb hg hat))
      obtain ⟨A2, c2, hv2, hl2, hC2⟩ := Kd.R_reads HR2.out
      subst hv2
      have HP := Lib.hid (HP.out.below HB2.out)
      have HBw := Lib.hid (below_step HBw.out HB2.out)
      have C2 := Lib.hid hC2
      clear HR1 HB1 HB2 HR2 hC2 HC1
      go_wp2_with fail
      with_reducible refine (low_any A2 _ c2 ([(i : Int)] ++ l1) (fA l1 i) _ C2.out rfl hl2 (by have := Hl1.out; simp only [List.length_cons, List.length_append, List.length_nil]; omega) rfl).mono ?_
      rintro e W3 ⟨g3, c3, rfl, hc3, hg3, hI3, hB3⟩
      have HP := Lib.hid (HP.out.below hB3)
      have HBw := Lib.hid (below_step HBw.out hB3)
      have HI3 := Lib.hid hI3
      have HC3 := Lib.hid hc3
      clear hI3 hB3 hg3 C2 hl2 hc3
      go_wp2_with ((with_reducible refine gate_builtin (b := .append) (xs := #[.tmp 23, .tmp 29]) rfl ?_); at_builtin; refine Kd.R_append sl3 (w0 := w) w.heap.size rfl (.tmp 23) (.tmp 29) 35 22 (.slice none 0 0) 24 rfl Try.underlying35 info22 rfl (by decide) (by omega) s hs (some ⟨g3, 0, none⟩, 256, c3) [sl g3 c3] (fun _ => True) (fun _ => False) rfl rfl ?aP (fun _ hk => hk.elim) ?aF ?aO ?aB ?aS ?aL ?_; (case aP => exact rfl); (case aB => exact HBw.out); (case aF => exact (fun _ _ => trivial)); (case aO => exact HP.out.1); (case aS => exact (below_size HBw.out)); (case aL => have := HL.out; omega); intro v9 w9 ho hb hg hat; have HP9 := Lib.hid (HP.out.snoc (by rw [HL.out]; exact HI3.out) HC3.out ho hg); have HB9 := Lib.hid hb; clear ho hb hg hat)
      go_roundw
      case rel =>
        have hrel : D1 w l1 m v9 (.int .i64 ((i : Int) + 1)) w9 := ⟨i + 1, _, _, by omega, rfl, by go_num, by rw [List.length_append, HL.out]; rfl, HP9.out, HB9.out⟩
        first
        | exact hrel
        | (repeat apply Exists.intro
           exact ⟨hrel, rfl⟩)
      case measure => simp [intOf]; omega
    · have e : i = m := by omega
      subst e
      have HPF := Lib.hid hP
      have HBw := Lib.hid hB
      have HLF := Lib.hid hl
      clear hP hB hl hi hlt
      go_wp2_with fail
      with_reducible refine (LM.out _).mono ?_
      rintro e W0 ⟨rfl, hD⟩
      have hD := below_of_drawn hD
      have HPF := Lib.hid (HPF.out.below hD)
      have HBw := Lib.hid (below_step HBw.out hD)
      have FLT := Lib.hid (Kd.R_lt HPF.out.1)
      have HC0 := Lib.hid (Kd.C_below HC0.out HBw.out)
      clear hD LM
      go_wp2
      go_loopw [10, 12] (fun v x w' => D2 W0 l1 n w.heap.size s hs v x w') (fun _ x _ => (n - intOf x).toNat)
      case atStart => exact ⟨0, _, [], by omega, rfl, rfl, rfl, PR.nil _ _ _, HPF.out, Below.refl _ _⟩
      case round =>
        clear HPF
        obtain ⟨i2, s2, ks, hi, rfl, rfl, hl, hP, hPF, hB⟩ := hrel
        by_cases hlt : i2 < n
        · have HC1 := HC0
          have hpd : decide ((i2 : Int) < (n : Int)) = true := decide_eq_true (by omega)
          have hii : (i2 : Int) < (n : Int) := by omega
          have W7 : IntKind.i64.wrap (7 * (i2 : Int)) = 7 * (i2 : Int) := IntWalk.i64_in _ (by omega)
          have HP := Lib.hid hP
          have HPF := Lib.hid hPF
          have HBw := Lib.hid hB
          have HL := Lib.hid hl
          clear hP hB hl hPF
          go_wp2_with fail
          with_reducible refine (LN.out _).mono ?_
          rintro e W1 ⟨rfl, hD⟩
          have hD := below_of_drawn hD
          have HP := Lib.hid (HP.out.below hD)
          have HPF := Lib.hid (HPF.out.below hD)
          have HBw := Lib.hid (below_step HBw.out hD)
          clear hD
          go_wp2_with (first
            | ((with_reducible refine gate_dst (N := 40) rfl ?_); refine Kd.R_lit (Kd.int .i64) W1.heap.size 3 rfl (N := 40) rfl (w0 := W1) (xs := [7 * (i2 : Int)]) (inner := [.int .i64 (7 * (i2 : Int))]) (okp := fun _ => False) (ok := fun _ => True) ?aR ?aP (fun _ h => h.elim) trivial (Below.refl _ _) (Nat.le_refl _) (by simp) ?_; (case aR => first | (go_simp; done) | (go_simp; rfl)); (case aP => exact one_rep _ _ _ _ _); intro v1 w1 ho hb hg _; have HR1 := Lib.hid ho; have HB1 := Lib.hid hb; have HC1 := Lib.hid (Kd.C_below HC1.out (below_step HBw.out hb)); clear ho hb hg)
            | ((with_reducible refine gate_builtin (b := .append) (xs := #[.tmp 40, .tmp 41]) rfl ?_); at_builtin; refine Kd.R_append_rows (Kd.int .i64) (Rr := fun x cs => cs = [Value.int .i64 x]) (w0 := W1) W1.heap.size rfl (.tmp 40) (.tmp 41) 22 3 (.int .i64 0) 8 rfl Try.underlying22 info3 rfl (by decide) (by omega) v1 [7 * (i2 : Int)] l1 a1 l1.length cap1 (fun _ => True) (fun _ => False) rfl rfl ?aO ?aR (fun _ _ h => h) (fun _ hk => hk.elim) (fun _ _ => trivial) ?aB ?aS ?aL ?_; (case aB => exact HB1.out); (case aO => exact HR1.out); (case aR => exact HC1.out); (case aS => exact HB1.out.size); (case aL => simp only [List.length_singleton]; have := Hl1.out; omega); intro v2 w2 ho hb hg hat; have HR2 := Lib.hid ho; have HB2 := Lib.hid hb; clear ho hb hg hat))
          obtain ⟨A2, c2, hv2, hl2, hC2⟩ := Kd.R_reads HR2.out
          subst hv2
          have HP := Lib.hid (HP.out.below HB2.out)
          have HPF := Lib.hid (HPF.out.below HB2.out)
          have HBw := Lib.hid (below_step HBw.out HB2.out)
          have C2 := Lib.hid hC2
          clear HR1 HB1 HB2 HR2 hC2 HC1
          go_wp2_with fail
          with_reducible refine (low_any A2 _ c2 ([7 * (i2 : Int)] ++ l1) (fB l1 i2) _ C2.out rfl hl2 (by have := Hl1.out; simp only [List.length_cons, List.length_append, List.length_nil]; omega) rfl).mono ?_
          rintro e W3 ⟨g3, c3, rfl, hc3, hg3, hI3, hB3⟩
          have HP := Lib.hid (HP.out.below hB3)
          have HPF := Lib.hid (HPF.out.below hB3)
          have HBw := Lib.hid (below_step HBw.out hB3)
          have HI3 := Lib.hid hI3
          have HC3 := Lib.hid hc3
          clear hI3 hB3 hg3 C2 hl2 hc3
          go_wp2_with ((with_reducible refine gate_builtin (b := .append) (xs := #[.tmp 37, .tmp 44]) rfl ?_); at_builtin; refine Kd.R_append sl3 (w0 := W0) W0.heap.size rfl (.tmp 37) (.tmp 44) 35 22 (.slice none 0 0) 24 rfl Try.underlying35 info22 rfl (by decide) (by omega) s2 ks (some ⟨g3, 0, none⟩, 256, c3) [sl g3 c3] (fun _ => True) (fun _ => False) rfl rfl ?aP (fun _ hk => hk.elim) ?aF ?aO ?aB ?aS ?aL ?_; (case aP => exact rfl); (case aB => exact HBw.out); (case aF => exact (fun _ _ => trivial)); (case aO => exact HP.out.1); (case aS => exact (below_size HBw.out)); (case aL => have := HL.out; omega); intro v9 w9 ho hb hg hat; have HP9 := Lib.hid (HP.out.snoc (by rw [HL.out]; exact HI3.out) HC3.out ho hg); have HB9 := Lib.hid hb; have HPF9 := Lib.hid (HPF.out.grown HP.out.1 hg (fun k hk e => by have h1 := FLT.out k hk; have h2 := Kd.R_base HP.out.1 k e.symm; omega)); clear ho hb hg hat)
          go_roundw
          case rel =>
            have hrel : D2 W0 l1 n w.heap.size s hs v9 (.int .i64 ((i2 : Int) + 1)) w9 := ⟨i2 + 1, _, _, by omega, rfl, by go_num, by rw [List.length_append, HL.out]; rfl, HP9.out, HPF9.out, HB9.out⟩
            first
            | exact hrel
            | (repeat apply Exists.intro
               exact ⟨hrel, rfl⟩)
          case measure => simp [intOf]; omega
        · have e : i2 = n := by omega
          subst e
          have HP := Lib.hid hP
          have HPF := Lib.hid hPF
          have HB := Lib.hid (below_step HBw.out hB)
          have HLG := Lib.hid hl
          clear hP hPF hB hl hi hlt
          go_wp2_with fail
          with_reducible refine (LN.out _).mono ?_
          rintro e W5 ⟨rfl, hD⟩
          have hD := below_of_drawn hD
          have HPF := Lib.hid (HPF.out.below hD)
          have HP := Lib.hid (HP.out.below hD)
          have HB := Lib.hid (below_step HB.out hD)
          clear hD LN
          have HX := Lib.hid (HPF.out.ls (by have := HLF.out; omega))
          rw [HLF.out] at HX
          by_cases hz : i2 = 0
          · have e0 : ks = [] := List.eq_nil_of_length_eq_zero (by rw [HLG.out, hz])
            have e1 := HP.out.2.1 e0
            subst e1 hz
            have HY : Hid (LS W5 (.slice none 0 0) []) := Lib.hid (.inl ⟨rfl, rfl⟩)
            clear HP HPF HLG e0
            cases bad
            · skip
              obtain ⟨zd, hzd⟩ : ∃ z, dotO (mk3 i (fA l1)) ([] : List (List Int)) = z := ⟨_, rfl⟩
              have ZD := Lib.hid hzd
              obtain ⟨nn, hnn⟩ : ∃ z, normO (fun i => rd_L1 ([] : List (List Int)) (i : Int)) (([] : List (List Int))).length = z := ⟨_, rfl⟩
              have NN := Lib.hid hnn
              clear hnn hzd
              go_wp2_with fail
              with_reducible refine (dot_o _ _ (mk3 i (fA l1)) ([] : List (List Int)) zd _ HX.out HY.out ZD.out).mono ?_
              rintro e X1 ⟨t1, rfl, hO, hB⟩
              have HX := Lib.hid (HX.out.below hB)
              have HY := Lib.hid (HY.out.below hB)
              have O1 := Lib.hid hO.inn
              have HB := Lib.hid (below_step HB.out hB)
              clear hO hB
              go_wp2_with fail
              with_reducible refine (rdot_o _ _ (mk3 i (fA l1)) ([] : List (List Int)) zd _ HX.out HY.out ZD.out).mono ?_
              rintro e X2 ⟨t2, rfl, hO, hB⟩
              have HY := Lib.hid (HY.out.below hB)
              have O1 := Lib.hid (O1.out.below hB)
              have O2 := Lib.hid hO.inn
              have HB := Lib.hid (below_step HB.out hB)
              clear hO hB HX
              go_wp2_with fail
              with_reducible refine (same_o _ _ zd zd _ O1.out O2.out rfl).mono ?_
              rintro e X3 ⟨rfl, hD⟩
              have HY := Lib.hid (HY.out.drawn hD)
              have HB := Lib.hid (below_drawn HB.out hD)
              clear hD O1 O2
              go_wp2_with fail
              with_reducible refine (normL_o _ ([] : List (List Int)) nn _ HY.out NN.out).mono ?_
              rintro e X4 ⟨rfl, hB⟩
              have HY := Lib.hid (HY.out.below hB)
              have HB := Lib.hid (below_step HB.out hB)
              clear hB
              go_wp2_with fail
              with_reducible refine (rnormL_o _ ([] : List (List Int)) nn _ HY.out NN.out).mono ?_
              rintro e X5 ⟨rfl, hB⟩
              have HB := Lib.hid (below_step HB.out hB)
              clear hB HY
              go_wp2_with fail
              with_reducible refine (awake_any _).mono ?_
              rintro e X6 ⟨rfl, hB⟩
              have HB := Lib.hid (below_step HB.out hB)
              clear hB
              go_wp2
              go_ret
              exact ⟨rfl, HB.out⟩
            · skip
              obtain ⟨zd, hzd⟩ : ∃ z, dotO (mk3 i (fA l1)) ([] : List (List Int)) = z := ⟨_, rfl⟩
              have ZD := Lib.hid hzd
              obtain ⟨nn, hnn⟩ : ∃ z, normO (fun i => rd_L1 ([] : List (List Int)) (i : Int)) (([] : List (List Int))).length = z := ⟨_, rfl⟩
              have NN := Lib.hid hnn
              clear hnn hzd
              go_wp2_with fail
              with_reducible refine (dot_o _ _ (mk3 i (fA l1)) ([] : List (List Int)) zd _ HX.out HY.out ZD.out).mono ?_
              rintro e X1 ⟨t1, rfl, hO, hB⟩
              have HX := Lib.hid (HX.out.below hB)
              have HY := Lib.hid (HY.out.below hB)
              have O1 := Lib.hid hO.inn
              have HB := Lib.hid (below_step HB.out hB)
              clear hO hB
              go_wp2_with fail
              with_reducible refine (rdot_o _ _ (mk3 i (fA l1)) ([] : List (List Int)) zd _ HX.out HY.out ZD.out).mono ?_
              rintro e X2 ⟨t2, rfl, hO, hB⟩
              have HY := Lib.hid (HY.out.below hB)
              have O1 := Lib.hid (O1.out.below hB)
              have O2 := Lib.hid hO.inn
              have HB := Lib.hid (below_step HB.out hB)
              clear hO hB HX
              go_wp2_with fail
              with_reducible refine (same_o _ _ zd zd _ O1.out O2.out rfl).mono ?_
              rintro e X3 ⟨rfl, hD⟩
              have HY := Lib.hid (HY.out.drawn hD)
              have HB := Lib.hid (below_drawn HB.out hD)
              clear hD O1 O2
              go_wp2_with fail
              with_reducible refine (normL_o _ ([] : List (List Int)) nn _ HY.out NN.out).mono ?_
              rintro e X4 ⟨rfl, hB⟩
              have HY := Lib.hid (HY.out.below hB)
              have HB := Lib.hid (below_step HB.out hB)
              clear hB
              go_wp2_with fail
              with_reducible refine (rnormL_o _ ([] : List (List Int)) nn _ HY.out NN.out).mono ?_
              rintro e X5 ⟨rfl, hB⟩
              have HB := Lib.hid (below_step HB.out hB)
              clear hB HY
              go_wp2_with fail
              with_reducible refine (awake_any _).mono ?_
              rintro e X6 ⟨rfl, hB⟩
              have HB := Lib.hid (below_step HB.out hB)
              clear hB
              go_wp2
              go_ret
              exact ⟨rfl, HB.out⟩
          · cases bad
            · have HY := Lib.hid (HP.out.ls (by have := HLG.out; omega))
              rw [HLG.out] at HY
              clear HP HPF
              obtain ⟨zd, hzd⟩ : ∃ z, dotO (mk3 i (fA l1)) (mk3 i2 (fB l1)) = z := ⟨_, rfl⟩
              have ZD := Lib.hid hzd
              obtain ⟨nn, hnn⟩ : ∃ z, normO (fun i => rd_L1 (mk3 i2 (fB l1)) (i : Int)) ((mk3 i2 (fB l1))).length = z := ⟨_, rfl⟩
              have NN := Lib.hid hnn
              clear hnn hzd
              go_wp2_with fail
              with_reducible refine (dot_o _ _ (mk3 i (fA l1)) (mk3 i2 (fB l1)) zd _ HX.out HY.out ZD.out).mono ?_
              rintro e X1 ⟨t1, rfl, hO, hB⟩
              have HX := Lib.hid (HX.out.below hB)
              have HY := Lib.hid (HY.out.below hB)
              have O1 := Lib.hid hO.inn
              have HB := Lib.hid (below_step HB.out hB)
              clear hO hB
              go_wp2_with fail
              with_reducible refine (rdot_o _ _ (mk3 i (fA l1)) (mk3 i2 (fB l1)) zd _ HX.out HY.out ZD.out).mono ?_
              rintro e X2 ⟨t2, rfl, hO, hB⟩
              have HY := Lib.hid (HY.out.below hB)
              have O1 := Lib.hid (O1.out.below hB)
              have O2 := Lib.hid hO.inn
              have HB := Lib.hid (below_step HB.out hB)
              clear hO hB HX
              go_wp2_with fail
              with_reducible refine (same_o _ _ zd zd _ O1.out O2.out rfl).mono ?_
              rintro e X3 ⟨rfl, hD⟩
              have HY := Lib.hid (HY.out.drawn hD)
              have HB := Lib.hid (below_drawn HB.out hD)
              clear hD O1 O2
              go_wp2_with fail
              with_reducible refine (normL_o _ (mk3 i2 (fB l1)) nn _ HY.out NN.out).mono ?_
              rintro e X4 ⟨rfl, hB⟩
              have HY := Lib.hid (HY.out.below hB)
              have HB := Lib.hid (below_step HB.out hB)
              clear hB
              go_wp2_with fail
              with_reducible refine (rnormL_o _ (mk3 i2 (fB l1)) nn _ HY.out NN.out).mono ?_
              rintro e X5 ⟨rfl, hB⟩
              have HB := Lib.hid (below_step HB.out hB)
              clear hB HY
              go_wp2_with fail
              with_reducible refine (awake_any _).mono ?_
              rintro e X6 ⟨rfl, hB⟩
              have HB := Lib.hid (below_step HB.out hB)
              clear hB
              go_wp2
              go_ret
              exact ⟨rfl, HB.out⟩
            · obtain ⟨g, cap, hs2, hbg, hlg, cells, hcg⟩ := Kd.R_form HP.out.1 (by have := HLG.out; omega)
              rw [HLG.out] at hs2
              subst hs2
              obtain ⟨g0, c0, hk0, hc0, hI0⟩ := HP.out.2.2 0 (by have := HLG.out; omega)
              have hcell := Kd.R_cell (g := g) (cap := cap) (e := 22) (ok := fun _ => True) (base := W0.heap.size) (W := W5) (enc := fun p : H3 => Value.slice p.1 p.2.1 p.2.2) (h1 := fun _ => rfl) (xs := ks) ((none, 0, 0) : H3) (by rw [HLG.out]; exact HP.out.1) (0 : Int) (by omega) (by have := HLG.out; omega)
              have e0 : rdOf ((none, 0, 0) : H3) ks 0 = (some ⟨g0, 0, none⟩, 256, c0) := by simp [rdOf, List.getD_eq_getElem?_getD, hk0]
              rw [e0] at hcell
              have hcl : W5.cell? ⟨g, 0, none⟩ = some (.slice (some ⟨g0, 0, none⟩) 256 c0) := hcell.1
              have hfz : W5.frozen? ⟨g, 0, none⟩ = false := hcell.2
              clear hcell
              have hput := Kd.R_put (g := g) (cap := cap) (e := 22) (ok := fun _ => True) (base := W0.heap.size) (W := W5) (enc := fun p : H3 => Value.slice p.1 p.2.1 p.2.2) (h1 := fun _ => rfl) (xs := ks) (by rw [HLG.out]; exact HP.out.1) (0 : Int) ((some ⟨g0, 0, none⟩, 9, c0) : H3)
              have hp1 : decide ((i2 : Int) > 0) = true := decide_eq_true (by omega)
              have hp2 : decide (0 < (i2 : Int)) = true := decide_eq_true (by omega)
              have hsl : ∀ W : World, (Instr.slice 22 (.slice (some ⟨g0, 0, none⟩) 256 c0) none (some (.int .i64 9)) none).run Try.prog W = .ok (.slice (some ⟨g0, 0, none⟩) 9 c0) W := fun W => by
                have h := (print_take_int (P := Try.prog) (k := .i64) 22 3 Try.underlying22 rfl rfl (some ⟨g0, 0, none⟩) c0 (ls (fB l1 0)) 9 (by omega) (by rw [ls_len]; omega) (by rw [ls_len]; exact hc0)).1 W
                rw [ls_len, List.length_take, ls_len] at h
                exact h
              have hr1 : Kd.R sl3 22 W5 W0.heap.size (fun _ => True) (.slice (some ⟨g, 0, none⟩) ks.length cap) ks := by rw [HLG.out]; exact HP.out.1
              have hcut := pr_cut hr1 (by rw [HLG.out]; exact HP.out) hk0 (by have := HLG.out; omega)
              have hgo : W5.grownBy (W5.setCell ⟨g, 0, none⟩ (.slice (some ⟨g0, 0, none⟩) 9 c0)) (Value.slice (some ⟨g, 0, none⟩) i2 cap).ownBlock := by simpa [Value.ownBlock] using hcut.1
              have hx := (HPF.out.grown HP.out.1 hgo (fun k hk e => by have h1 := FLT.out k hk; have h2 := Kd.R_base HP.out.1 k e.symm; omega)).ls (by have := HLF.out; omega)
              rw [HLF.out] at hx
              have hy := hcut.2
              rw [HLG.out] at hy
              have HX := Lib.hid hx
              have HY := Lib.hid hy
              have HB := Lib.hid (HB.out.setCell (p := ⟨g, 0, none⟩) (Nat.le_trans HBw.out.size hbg) (.slice (some ⟨g0, 0, none⟩) 9 c0))
              clear hbg hcg hk0 hc0 hI0 hput e0 hx hy hcut hgo hr1 HP HPF
              go_wp2_with fail
              generalize W5.setCell ⟨g, 0, none⟩ (.slice (some ⟨g0, 0, none⟩) 9 c0) = W6 at HX HY HB ⊢
              clear hcl hfz hsl
              obtain ⟨zd, hzd⟩ : ∃ z, dotO (mk3 i (fA l1)) ((mk3 i2 (fB l1)).set 0 ((ls (fB l1 0)).take 9)) = z := ⟨_, rfl⟩
              have ZD := Lib.hid hzd
              obtain ⟨nn, hnn⟩ : ∃ z, normO (fun i => rd_L1 ((mk3 i2 (fB l1)).set 0 ((ls (fB l1 0)).take 9)) (i : Int)) (((mk3 i2 (fB l1)).set 0 ((ls (fB l1 0)).take 9))).length = z := ⟨_, rfl⟩
              have NN := Lib.hid hnn
              clear hnn hzd
              skip
              with_reducible refine (dot_o _ _ (mk3 i (fA l1)) ((mk3 i2 (fB l1)).set 0 ((ls (fB l1 0)).take 9)) zd _ HX.out HY.out ZD.out).mono ?_
              rintro e X1 ⟨t1, rfl, hO, hB⟩
              have HX := Lib.hid (HX.out.below hB)
              have HY := Lib.hid (HY.out.below hB)
              have O1 := Lib.hid hO.inn
              have HB := Lib.hid (below_step HB.out hB)
              clear hO hB
              go_wp2_with fail
              with_reducible refine (rdot_o _ _ (mk3 i (fA l1)) ((mk3 i2 (fB l1)).set 0 ((ls (fB l1 0)).take 9)) zd _ HX.out HY.out ZD.out).mono ?_
              rintro e X2 ⟨t2, rfl, hO, hB⟩
              have HY := Lib.hid (HY.out.below hB)
              have O1 := Lib.hid (O1.out.below hB)
              have O2 := Lib.hid hO.inn
              have HB := Lib.hid (below_step HB.out hB)
              clear hO hB HX
              go_wp2_with fail
              with_reducible refine (same_o _ _ zd zd _ O1.out O2.out rfl).mono ?_
              rintro e X3 ⟨rfl, hD⟩
              have HY := Lib.hid (HY.out.drawn hD)
              have HB := Lib.hid (below_drawn HB.out hD)
              clear hD O1 O2
              go_wp2_with fail
              with_reducible refine (normL_o _ ((mk3 i2 (fB l1)).set 0 ((ls (fB l1 0)).take 9)) nn _ HY.out NN.out).mono ?_
              rintro e X4 ⟨rfl, hB⟩
              have HY := Lib.hid (HY.out.below hB)
              have HB := Lib.hid (below_step HB.out hB)
              clear hB
              go_wp2_with fail
              with_reducible refine (rnormL_o _ ((mk3 i2 (fB l1)).set 0 ((ls (fB l1 0)).take 9)) nn _ HY.out NN.out).mono ?_
              rintro e X5 ⟨rfl, hB⟩
              have HB := Lib.hid (below_step HB.out hB)
              clear hB HY
              go_wp2_with fail
              with_reducible refine (awake_any _).mono ?_
              rintro e X6 ⟨rfl, hB⟩
              have HB := Lib.hid (below_step HB.out hB)
              clear hB
              go_wp2
              go_ret
              exact ⟨rfl, HB.out⟩
end Go.Proofs.Ytebicdjnhogniaa.T
