/- Dot, the reference's Dot, Norm: of lists of lists (printed by gen_dt.py). -/
import Derived.Test.YtebicdjnhogniaaTellsW
namespace Go.Proofs.Ytebicdjnhogniaa.T
open Go.RowKit Go.Proofs.Ytebicdjnhogniaa.PWavePolys Go.Proofs.YtebicdjnhogniaaW.PrintWords Go.Proofs.YtebicdjnhogniaaW.PrintLast Go.Proofs.YtebicdjnhogniaaW.PrintMore
attribute [local go_sem] max2_int min2_int max_two min_two
set_option linter.unusedVariables false
set_option linter.unusedSimpArgs false
/-- a list of lists that is read. -/
def LS (w : World) (v : Value) (L : List (List Int)) : Prop := (L = [] ∧ v = .slice none 0 0) ∨ ∃ (ad : Addr) (c : Nat) (vs : Nat → Value), v = .slice (some ad) L.length c ∧ 0 < L.length ∧ L.length ≤ c ∧ L.length ≤ 8 ∧ (∀ i, i < L.length → w.cell? (ad.add i) = some (vs i)) ∧ ∀ i, i < L.length → IN w (vs i) (rd_L1 L (i : Int))
theorem LS.below {w w1 : World} {v : Value} {L : List (List Int)} (h : LS w v L) (hb : Below w.heap.size w w1) : LS w1 v L := by
  rcases h with h | ⟨ad, c, vs, e, h0, h1, h2, h3, h4⟩
  · exact .inl h
  · exact .inr ⟨ad, c, vs, e, h0, h1, h2, fun i hi => pw_cell_below hb (h3 i hi), fun i hi => (h4 i hi).below hb⟩
theorem LS.drawn {w w1 : World} {v : Value} {L : List (List Int)} (h : LS w v L) (hb : Drawn0 w w1) : LS w1 v L := h.below (below_of_drawn hb)
theorem LS.shape {w : World} {v : Value} {L : List (List Int)} (h : LS w v L) : ∃ A c, v = .slice A L.length c := by
  rcases h with ⟨rfl, rfl⟩ | ⟨ad, c, vs, e, _⟩
  · exact ⟨_, _, rfl⟩
  · exact ⟨_, _, e⟩
theorem normL_o (v : Value) (L : List (List Int)) (r : Int) (w : World) (h : LS w v L) (hr : normO (fun i => rd_L1 L (i : Int)) L.length = r) :
    Calls Try.prog 17 #[v] w fun e w' => e = .returned (.int .i64 r) ∧ Below w.heap.size w w' := by
  rcases h with ⟨rfl, rfl⟩ | ⟨ad, c, vs, rfl, h0, h1, h2, h3, h4⟩
  · have e : r = 0 := by
      rw [← hr]
      unfold normO
      rw [if_pos (fun i hi => absurd hi (by simp))]
      rfl
    subst e
    refine (norm_none w).mono ?_
    rintro e w' ⟨rfl, rfl⟩
    exact ⟨rfl, Below.refl _ _⟩
  · exact norm_o ad L.length c vs _ r w h2 h3 h4 hr
theorem rnormL_o (v : Value) (L : List (List Int)) (r : Int) (w : World) (h : LS w v L) (hr : normO (fun i => rd_L1 L (i : Int)) L.length = r) :
    Calls Try.prog 31 #[v] w fun e w' => e = .returned (.int .i64 r) ∧ Below w.heap.size w w' := by
  rcases h with ⟨rfl, rfl⟩ | ⟨ad, c, vs, rfl, h0, h1, h2, h3, h4⟩
  · obtain ⟨k, hk⟩ := (rnormO_f [] (by simp)).rounds
    rw [hr] at hk
    exact chatelaineref10_Norm.calls k none 0 [] r w (Kd.C_nil _ w) (Nat.le_refl _) hk
  · exact rnorm_o ad c vs L L.length r w rfl h2 h1 h3 h4 hr
def dotL (X Y : List (List Int)) : Nat → List Int
  | 0 => ls (fun _ => 0)
  | i + 1 => two addS (dotL X Y i) (two mulS (rd_L1 X (i : Int)) (rd_L1 Y (i : Int)))
def dotO (X Y : List (List Int)) : List Int := if X.length = Y.length ∧ 0 < X.length then dotL X Y X.length else []
theorem notP_nil : ¬ P [] := fun h => absurd h.1 (by simp)
theorem two_nil_l (op : F → F → F) (xs : List Int) : two op [] xs = [] := if_neg fun h => notP_nil h.1
theorem two_nil_r (op : F → F → F) (xs : List Int) : two op xs [] = [] := if_neg fun h => notP_nil h.2
theorem dotL_nil {X Y : List (List Int)} {i : Nat} (h : two mulS (rd_L1 X (i : Int)) (rd_L1 Y (i : Int)) = []) : ∀ m, i + 1 ≤ m → dotL X Y m = [] := by
  intro m
  induction m with
  | zero => intro hm; omega
  | succ m ih =>
    intro hm
    unfold dotL
    by_cases e : i = m
    · subst e
      rw [h, two_nil_r]
    · rw [ih (by omega), two_nil_l]
theorem OUT.zero (b : Nat) (w : World) (g c : Nat) (hc : 256 ≤ c) (hg : b ≤ g) (h : IR w g (fun _ => 0)) : OUT b w (sl g c) (ls (fun _ => 0)) := .inr ⟨g, c, _, rfl, hc, hg, rfl, h⟩
theorem OUT.lower {b b2 : Nat} {w : World} {v : Value} {xs : List Int} (h : OUT b w v xs) (hb : b2 ≤ b) : OUT b2 w v xs := by
  rcases h with h | ⟨g, c, f, e, hc, hg, e2, h⟩
  · exact .inl h
  · exact .inr ⟨g, c, f, e, hc, by omega, e2, h⟩
def DR (w : World) (X Y : List (List Int)) (n : Nat) (s v : Value) (w' : World) : Prop := ∃ (i : Nat) (s' : Value), i ≤ n ∧ s' = s ∧ v = .int .i64 (i : Int) ∧ OUT w.heap.size w' s' (dotL X Y i) ∧ Below w.heap.size w w'
def T34_7 : Bool × List (List Nat × List Nat) := (true, [([], []), ([], []), ([], []), ([1, 2], [1, 2]), ([3], [3]), ([], []), ([], []), ([5, 6], [5, 6]), ([7], [7]), ([4, 8], [4, 8]), ([0, 9, 9], [0, 9]), ([10, 10, 0, 1, 2, 3, 4, 5, 6, 7, 8, 9, 10], [0, 10])])
theorem tab34_7 : rtab .any (opsOf Try.f34 7) = T34_7 := by kernel_rfl
def T35_7 : Bool × List (List Nat × List Nat) := (true, [([], []), ([], []), ([0, 1], [0, 1]), ([2], [2]), ([], []), ([], []), ([4, 5], [4, 5]), ([6], [6]), ([3, 7], [3, 7]), ([8, 8, 0, 1, 2, 3, 4, 5, 6, 7, 8], [8])])
theorem tab35_7 : rtab .any (opsOf Try.f35 7) = T35_7 := by kernel_rfl
theorem dot_none (A B : Option Addr) (n m c d : Nat) (w : World) (h : ¬ (n = m ∧ 0 < n)) :
    Calls Try.prog 34 #[.slice A n c, .slice B m d] w fun e w' => e = .returned (.slice none 0 0) ∧ w' = w := by
  by_cases e : n = m
  · subst e
    have e0 : n = 0 := by omega
    subst e0
    clear h
    go_enter Try.func34, Try.ntmps34
    go_wp2
    go_ret
    exact ⟨rfl, rfl⟩
  · have f1 : decide ((n : Int) = (m : Int)) = false := decide_eq_false (by omega)
    have f2 : ((n : Int) == (m : Int)) = false := by simp; omega
    have f3 : ((n : Int) != (m : Int)) = true := by simp; omega
    have f4 : decide (¬ (n : Int) = (m : Int)) = true := decide_eq_true (by omega)
    clear h e
    go_enter Try.func34, Try.ntmps34
    go_wp2
    go_ret
    exact ⟨rfl, rfl⟩
theorem rdot_none (A B : Option Addr) (n m c d : Nat) (w : World) (h : ¬ (n = m ∧ 0 < n)) :
    Calls Try.prog 35 #[.slice A n c, .slice B m d] w fun e w' => e = .returned (.slice none 0 0) ∧ w' = w := by
  by_cases e : n = m
  · subst e
    have e0 : n = 0 := by omega
    subst e0
    clear h
    go_enter Try.func35, Try.ntmps35
    go_wp2
    go_ret
    exact ⟨rfl, rfl⟩
  · have f1 : decide ((n : Int) = (m : Int)) = false := decide_eq_false (by omega)
    have f2 : ((n : Int) == (m : Int)) = false := by simp; omega
    have f3 : ((n : Int) != (m : Int)) = true := by simp; omega
    have f4 : decide (¬ (n : Int) = (m : Int)) = true := decide_eq_true (by omega)
    clear h e
    go_enter Try.func35, Try.ntmps35
    go_wp2
    go_ret
    exact ⟨rfl, rfl⟩
set_option maxHeartbeats 4000000 in
set_option maxRecDepth 20000 in
theorem dot_o (v u : Value) (X Y : List (List Int)) (zs : List Int) (w : World) (hv : LS w v X) (hu : LS w u Y) (hz : dotO X Y = zs) :
    Calls Try.prog 34 #[v, u] w fun e w' => ∃ t, e = .returned t ∧ OUT w.heap.size w' t zs ∧ Below w.heap.size w w' := by
  by_cases hc : ¬ (X.length = Y.length ∧ 0 < X.length)
  · obtain ⟨A, c, rfl⟩ := hv.shape
    obtain ⟨B, d, rfl⟩ := hu.shape
    unfold dotO at hz
    rw [if_neg hc] at hz
    refine (dot_none A B _ _ c d w hc).mono ?_
    rintro e w' ⟨rfl, rfl⟩
    exact ⟨_, rfl, .inl ⟨hz.symm, rfl⟩, Below.refl _ _⟩
  · have hc := Decidable.not_not.1 hc
    unfold dotO at hz
    rw [if_pos hc] at hz
    rcases hv with ⟨rfl, _⟩ | ⟨ad, c, vs, rfl, h0, h1, h2, h3, h4⟩
    · exact absurd hc.2 (by simp)
    rcases hu with ⟨rfl, _⟩ | ⟨bd, d, us, rfl, k0, k1, k2, k3, k4⟩
    · exact absurd hc.1 (by have := hc.2; simp only [List.length_nil]; omega)
    rw [← hc.1] at k0 k1 k2 k3 k4 ⊢
    obtain ⟨n, hn⟩ : ∃ n, X.length = n := ⟨_, rfl⟩
    rw [hn] at h0 h1 h2 h3 h4 k3 k4 hz ⊢
    have HA := Lib.hid h3
    have HAI := Lib.hid h4
    have HB := Lib.hid k3
    have HBI := Lib.hid k4
    have HZZ := Lib.hid hz
    have f1 : decide ((n : Int) = 0) = false := decide_eq_false (by omega)
    have f2 : ((n : Int) == 0) = false := by simp; omega
    clear h3 h4 k3 k4 hz hn hc k0 k1 k2
    go_enter Try.func34, Try.ntmps34
    go_wp2_with ((with_reducible refine gate_dst (N := 17) rfl ?_); refine make_IR rfl rfl rfl ?_; intro g1 c1 w1 hc1 hI hB hg; have I1 := Lib.hid (OUT.zero w.heap.size w1 g1 c1 hc1 hg hI); have B1 := Lib.hid hB; clear hI hB hg hc1)
    generalize sl g1 c1 = s0 at I1 ⊢
    go_loopw [5, 20] (fun s v w' => DR w X Y n s v w') (fun _ v _ => (n - intOf v).toNat)
    case atStart => exact ⟨0, _, by omega, rfl, rfl, I1.out, B1.out⟩
    case round =>
      clear I1 B1
      obtain ⟨i, s, hi, rfl, rfl, hO, hD⟩ := hrel
      by_cases hlt : i < n
      · have hpd : decide ((i : Int) < (n : Int)) = true := decide_eq_true (by omega)
        have hii : (i : Int) < (n : Int) := by omega
        have HCA := Lib.hid (pw_cell_below hD (HA.out i hlt))
        have HCB := Lib.hid (pw_cell_below hD (HB.out i hlt))
        have HX := Lib.hid ((HAI.out i hlt).below hD)
        have HY := Lib.hid ((HBI.out i hlt).below hD)
        have hnx : dotL X Y (i + 1) = two addS (dotL X Y i) (two mulS (rd_L1 X (i : Int)) (rd_L1 Y (i : Int))) := rfl
        obtain ⟨xv, hxv⟩ : ∃ x, vs i = x := ⟨_, rfl⟩
        obtain ⟨yv, hyv⟩ : ∃ x, us i = x := ⟨_, rfl⟩
        rw [hxv] at HCA HX
        rw [hyv] at HCB HY
        obtain ⟨x, hx⟩ : ∃ x, rd_L1 X (i : Int) = x := ⟨_, rfl⟩
        obtain ⟨y, hy⟩ : ∃ x, rd_L1 Y (i : Int) = x := ⟨_, rfl⟩
        rw [hx] at HX hnx
        rw [hy] at HY hnx
        obtain ⟨z, hz⟩ : ∃ q, two mulS x y = q := ⟨_, rfl⟩
        rw [hz] at hnx
        have HZ := Lib.hid hz
        obtain ⟨d0, hd0⟩ : ∃ x, dotL X Y i = x := ⟨_, rfl⟩
        rw [hd0] at hO hnx
        obtain ⟨d1, hd1⟩ : ∃ x, two addS d0 z = x := ⟨_, rfl⟩
        rw [hd1] at hnx
        have HD := Lib.hid hd1
        have NX := Lib.hid hnx
        have HS := Lib.hid hO
        have DD := Lib.hid hD
        clear hO hD hnx hxv hyv hx hy hz hd0 hd1
        go_wp2_with fail
        refine start_ (n := 12) (S := fun w' => Below wr.heap.size wr w') (ds := []) #[false, false, false, false, false, false, false, false, false, false, false, false] (by kernel_rfl) rfl rfl (below_drew (Below.refl _ _)) (fun hHeld => ?_); refine with_tab tab34_7 (fun HT_ => ?_)
        refine pure_ (i := 0) (N := some 23) (v := ?_) (a' := ?_) #[true, false, false, false, false, false, false, false, false, false, false, false] rfl rfl (any_of HT_.out (by kernel_rfl)) (fun _ _ _ h => h) (Or.inl ⟨by rfl, ?_⟩) ?_ ?_
        rotate_left
        · intro w'
          go_simp
          with_reducible rfl
        rotate_left
        · simp only [Act.put, List.setIfInBounds_toArray, List.set_cons_zero, List.set_cons_succ, i64_w, i32_w]
          rfl
        refine pure_ (i := 1) (N := some 24) (v := ?_) (a' := ?_) #[true, true, false, false, false, false, false, false, false, false, false, false] rfl rfl (any_of HT_.out (by kernel_rfl)) (fun _ _ _ h => h) (Or.inl ⟨by rfl, ?_⟩) ?_ ?_
        rotate_left
        · intro w'
          go_simp
          with_reducible rfl
        rotate_left
        · simp only [Act.put, List.setIfInBounds_toArray, List.set_cons_zero, List.set_cons_succ, i64_w, i32_w]
          rfl
        refine pure_ (i := 2) (N := some 25) (v := ?_) (a' := ?_) #[true, true, true, false, false, false, false, false, false, false, false, false] rfl rfl (any_of HT_.out (by kernel_rfl)) (fun _ _ _ h => h) (Or.inl ⟨by rfl, ?_⟩) ?_ ?_
        rotate_left
        · intro w'
          go_simp
          with_reducible rfl
        rotate_left
        · simp only [Act.put, List.setIfInBounds_toArray, List.set_cons_zero, List.set_cons_succ, i64_w, i32_w]
          rfl
        refine pure_ (i := 3) (N := some 26) (v := ?_) (a' := ?_) #[true, true, true, true, false, false, false, false, false, false, false, false] rfl rfl (any_of HT_.out (by kernel_rfl)) (fun _ _ _ h => h) (Or.inl ⟨by rfl, ?_⟩) ?_ ?_
        rotate_left
        · intro w'
          go_simp
          with_reducible rfl
        rotate_left
        · simp only [Act.put, List.setIfInBounds_toArray, List.set_cons_zero, List.set_cons_succ, i64_w, i32_w]
          rfl
        refine take_ (i := 4) (N := some 27) (v := ?_) (a' := ?_) #[true, true, true, true, true, false, false, false, false, false, false, false] rfl rfl (take_of HT_.out (by kernel_rfl)) (fun _ _ _ h => h) (Or.inl ⟨by rfl, ?_⟩) hHeld ?_ ?_
        rotate_left
        · intro w' s0
          have hc := pw_cell_below s0 HCA.out
          go_simp
          with_reducible rfl
        rotate_left
        · simp only [Act.put, List.setIfInBounds_toArray, List.set_cons_zero, List.set_cons_succ, i64_w, i32_w]
          rfl
        refine pure_ (i := 5) (N := some 28) (v := ?_) (a' := ?_) #[true, true, true, true, true, true, false, false, false, false, false, false] rfl rfl (any_of HT_.out (by kernel_rfl)) (fun _ _ _ h => h) (Or.inl ⟨by rfl, ?_⟩) ?_ ?_
        rotate_left
        · intro w'
          go_simp
          with_reducible rfl
        rotate_left
        · simp only [Act.put, List.setIfInBounds_toArray, List.set_cons_zero, List.set_cons_succ, i64_w, i32_w]
          rfl
        refine pure_ (i := 6) (N := some 29) (v := ?_) (a' := ?_) #[true, true, true, true, true, true, true, false, false, false, false, false] rfl rfl (any_of HT_.out (by kernel_rfl)) (fun _ _ _ h => h) (Or.inl ⟨by rfl, ?_⟩) ?_ ?_
        rotate_left
        · intro w'
          go_simp
          with_reducible rfl
        rotate_left
        · simp only [Act.put, List.setIfInBounds_toArray, List.set_cons_zero, List.set_cons_succ, i64_w, i32_w]
          rfl
        refine pure_ (i := 7) (N := some 30) (v := ?_) (a' := ?_) #[true, true, true, true, true, true, true, true, false, false, false, false] rfl rfl (any_of HT_.out (by kernel_rfl)) (fun _ _ _ h => h) (Or.inl ⟨by rfl, ?_⟩) ?_ ?_
        rotate_left
        · intro w'
          go_simp
          with_reducible rfl
        rotate_left
        · simp only [Act.put, List.setIfInBounds_toArray, List.set_cons_zero, List.set_cons_succ, i64_w, i32_w]
          rfl
        refine take_ (i := 8) (N := some 31) (v := ?_) (a' := ?_) #[true, true, true, true, true, true, true, true, true, false, false, false] rfl rfl (take_of HT_.out (by kernel_rfl)) (fun _ _ _ h => h) (Or.inl ⟨by rfl, ?_⟩) hHeld ?_ ?_
        rotate_left
        · intro w' s0
          have hc := pw_cell_below s0 HCB.out
          go_simp
          with_reducible rfl
        rotate_left
        · simp only [Act.put, List.setIfInBounds_toArray, List.set_cons_zero, List.set_cons_succ, i64_w, i32_w]
          rfl
        refine one_ (i := 9) (N := some 32) #[true, true, true, true, true, true, true, true, true, true, false, false] rfl rfl (one_of HT_.out (by kernel_rfl)) (by decide) (fun K hK => ?_)
        refine goes_ Try.func22 (by kernel_rfl) rfl #[xv, yv] (by rfl) rfl rfl (by (try simp only [List.map_toArray, List.map_cons, List.map_nil]); first | done | rfl) ?_
        with_reducible refine (times_o xv yv x y z _ (HX.out.below hHeld) (HY.out.below hHeld) HZ.out).mono ?_
        rintro e w3 ⟨t1, rfl, hO, hB1⟩
        have O1 := Lib.hid hO.inn
        clear hO
        refine ⟨_, rfl, ?_⟩
        refine hK.out _ _ (below_step hHeld hB1) (fun hHeld => ?_)
        clear hK K
        refine norm_ (a' := ?_) ?_ ?_
        rotate_left
        · show Act.put _ (some 32) _ = _
          simp only [Act.put, List.setIfInBounds_toArray, List.set_cons_zero, List.set_cons_succ, i64_w, i32_w]
          rfl
        refine one_ (i := 10) (N := some 33) #[true, true, true, true, true, true, true, true, true, true, true, false] rfl rfl (one_of HT_.out (by kernel_rfl)) (by decide) (fun K hK => ?_)
        refine goes_ Try.func16 (by kernel_rfl) rfl #[s, t1] (by rfl) rfl rfl (by (try simp only [List.map_toArray, List.map_cons, List.map_nil]); first | done | rfl) ?_
        with_reducible refine (add_o s t1 d0 z d1 _ (HS.out.inn.below hHeld) O1.out HD.out).mono ?_
        rintro e w4 ⟨t2, rfl, hO, hB2⟩
        have O2 := Lib.hid (hO.out.lower (b2 := w.heap.size) (Nat.le_trans DD.out.size hHeld.size))
        clear hO
        refine ⟨_, rfl, ?_⟩
        refine hK.out _ _ (below_step hHeld hB2) (fun hHeld => ?_)
        clear hK K
        refine norm_ (a' := ?_) ?_ ?_
        rotate_left
        · show Act.put _ (some 33) _ = _
          simp only [Act.put, List.setIfInBounds_toArray, List.set_cons_zero, List.set_cons_succ, i64_w, i32_w]
          rfl
        refine pure_ (i := 11) (N := some 5) (v := ?_) (a' := ?_) #[true, true, true, true, true, true, true, true, true, true, true, true] rfl rfl (any_of HT_.out (by kernel_rfl)) (fun _ _ _ h => h) (Or.inl ⟨by rfl, ?_⟩) ?_ ?_
        rotate_left
        · intro w'
          go_simp
          with_reducible rfl
        rotate_left
        · simp only [Act.put, List.setIfInBounds_toArray, List.set_cons_zero, List.set_cons_succ, i64_w, i32_w]
          rfl
        refine done_ (done_of HT_.out (by kernel_rfl)) ?_
        have DD := Lib.hid (below_step DD.out hHeld)
        clear hHeld HT_ O1
        go_wp2
        go_roundw
        case rel =>
          have hrel : DR w X Y n t2 (.int .i64 ((i : Int) + 1)) _ := ⟨i + 1, _, by omega, rfl, by go_num, by rw [NX.out]; exact O2.out, DD.out⟩
          first
          | exact hrel
          | (repeat apply Exists.intro
             exact ⟨hrel, rfl⟩)
        case measure => simp [intOf]; omega
      · have e : i = n := by omega
        subst e
        rw [HZZ.out] at hO
        have HO := Lib.hid hO
        have DD := Lib.hid hD
        clear hO hD hi hlt
        go_wp2
        go_ret
        exact ⟨_, rfl, HO.out, DD.out⟩
set_option maxHeartbeats 4000000 in
set_option maxRecDepth 20000 in
theorem rdot_o (v u : Value) (X Y : List (List Int)) (zs : List Int) (w : World) (hv : LS w v X) (hu : LS w u Y) (hz : dotO X Y = zs) :
    Calls Try.prog 35 #[v, u] w fun e w' => ∃ t, e = .returned t ∧ OUT w.heap.size w' t zs ∧ Below w.heap.size w w' := by
  by_cases hc : ¬ (X.length = Y.length ∧ 0 < X.length)
  · obtain ⟨A, c, rfl⟩ := hv.shape
    obtain ⟨B, d, rfl⟩ := hu.shape
    unfold dotO at hz
    rw [if_neg hc] at hz
    refine (rdot_none A B _ _ c d w hc).mono ?_
    rintro e w' ⟨rfl, rfl⟩
    exact ⟨_, rfl, .inl ⟨hz.symm, rfl⟩, Below.refl _ _⟩
  · have hc := Decidable.not_not.1 hc
    unfold dotO at hz
    rw [if_pos hc] at hz
    rcases hv with ⟨rfl, _⟩ | ⟨ad, c, vs, rfl, h0, h1, h2, h3, h4⟩
    · exact absurd hc.2 (by simp)
    rcases hu with ⟨rfl, _⟩ | ⟨bd, d, us, rfl, k0, k1, k2, k3, k4⟩
    · exact absurd hc.1 (by have := hc.2; simp only [List.length_nil]; omega)
    rw [← hc.1] at k0 k1 k2 k3 k4 ⊢
    obtain ⟨n, hn⟩ : ∃ n, X.length = n := ⟨_, rfl⟩
    rw [hn] at h0 h1 h2 h3 h4 k3 k4 hz ⊢
    have HA := Lib.hid h3
    have HAI := Lib.hid h4
    have HB := Lib.hid k3
    have HBI := Lib.hid k4
    have HZZ := Lib.hid hz
    have f1 : decide ((n : Int) = 0) = false := decide_eq_false (by omega)
    have f2 : ((n : Int) == 0) = false := by simp; omega
    clear h3 h4 k3 k4 hz hn hc k0 k1 k2
    go_enter Try.func35, Try.ntmps35
    go_wp2_with ((with_reducible refine gate_dst (N := 18) rfl ?_); refine make_IR rfl rfl rfl ?_; intro g1 c1 w1 hc1 hI hB hg; have I1 := Lib.hid (OUT.zero w.heap.size w1 g1 c1 hc1 hg hI); have B1 := Lib.hid hB; clear hI hB hg hc1)
    generalize sl g1 c1 = s0 at I1 ⊢
    go_loopw [5, 6] (fun s v w' => DR w X Y n s v w') (fun _ v _ => (n - intOf v).toNat)
    case atStart => exact ⟨0, _, by omega, rfl, rfl, I1.out, B1.out⟩
    case round =>
      clear I1 B1
      obtain ⟨i, s, hi, rfl, rfl, hO, hD⟩ := hrel
      by_cases hlt : i < n
      · have hpd : decide ((i : Int) < (n : Int)) = true := decide_eq_true (by omega)
        have hii : (i : Int) < (n : Int) := by omega
        have HCA := Lib.hid (pw_cell_below hD (HA.out i hlt))
        have HCB := Lib.hid (pw_cell_below hD (HB.out i hlt))
        have HX := Lib.hid ((HAI.out i hlt).below hD)
        have HY := Lib.hid ((HBI.out i hlt).below hD)
        have hnx : dotL X Y (i + 1) = two addS (dotL X Y i) (two mulS (rd_L1 X (i : Int)) (rd_L1 Y (i : Int))) := rfl
        have hnil := fun h => dotL_nil (X := X) (Y := Y) (i := i) h n (by omega)
        rw [HZZ.out] at hnil
        obtain ⟨xv, hxv⟩ : ∃ x, vs i = x := ⟨_, rfl⟩
        obtain ⟨yv, hyv⟩ : ∃ x, us i = x := ⟨_, rfl⟩
        rw [hxv] at HCA HX
        rw [hyv] at HCB HY
        obtain ⟨x, hx⟩ : ∃ x, rd_L1 X (i : Int) = x := ⟨_, rfl⟩
        obtain ⟨y, hy⟩ : ∃ x, rd_L1 Y (i : Int) = x := ⟨_, rfl⟩
        rw [hx] at HX hnx hnil
        rw [hy] at HY hnx hnil
        obtain ⟨z, hz⟩ : ∃ q, two mulS x y = q := ⟨_, rfl⟩
        rw [hz] at hnx hnil
        have HZ := Lib.hid hz
        have NIL := Lib.hid hnil
        obtain ⟨d0, hd0⟩ : ∃ x, dotL X Y i = x := ⟨_, rfl⟩
        rw [hd0] at hO hnx
        obtain ⟨d1, hd1⟩ : ∃ x, two addS d0 z = x := ⟨_, rfl⟩
        rw [hd1] at hnx
        have HD := Lib.hid hd1
        have NX := Lib.hid hnx
        have HS := Lib.hid hO
        have DD := Lib.hid hD
        clear hO hD hnx hxv hyv hx hy hz hd0 hd1 hnil
        go_wp2_with fail
        refine start_ (n := 10) (S := fun w' => Below wr.heap.size wr w') (ds := []) #[false, false, false, false, false, false, false, false, false, false] (by kernel_rfl) rfl rfl (below_drew (Below.refl _ _)) (fun hHeld => ?_); refine with_tab tab35_7 (fun HT_ => ?_)
        refine pure_ (i := 0) (N := some 25) (v := ?_) (a' := ?_) #[true, false, false, false, false, false, false, false, false, false] rfl rfl (any_of HT_.out (by kernel_rfl)) (fun _ _ _ h => h) (Or.inl ⟨by rfl, ?_⟩) ?_ ?_
        rotate_left
        · intro w'
          go_simp
          with_reducible rfl
        rotate_left
        · simp only [Act.put, List.setIfInBounds_toArray, List.set_cons_zero, List.set_cons_succ, i64_w, i32_w]
          rfl
        refine pure_ (i := 1) (N := some 26) (v := ?_) (a' := ?_) #[true, true, false, false, false, false, false, false, false, false] rfl rfl (any_of HT_.out (by kernel_rfl)) (fun _ _ _ h => h) (Or.inl ⟨by rfl, ?_⟩) ?_ ?_
        rotate_left
        · intro w'
          go_simp
          with_reducible rfl
        rotate_left
        · simp only [Act.put, List.setIfInBounds_toArray, List.set_cons_zero, List.set_cons_succ, i64_w, i32_w]
          rfl
        refine pure_ (i := 2) (N := some 27) (v := ?_) (a' := ?_) #[true, true, true, false, false, false, false, false, false, false] rfl rfl (any_of HT_.out (by kernel_rfl)) (fun _ _ _ h => h) (Or.inl ⟨by rfl, ?_⟩) ?_ ?_
        rotate_left
        · intro w'
          go_simp
          with_reducible rfl
        rotate_left
        · simp only [Act.put, List.setIfInBounds_toArray, List.set_cons_zero, List.set_cons_succ, i64_w, i32_w]
          rfl
        refine take_ (i := 3) (N := some 28) (v := ?_) (a' := ?_) #[true, true, true, true, false, false, false, false, false, false] rfl rfl (take_of HT_.out (by kernel_rfl)) (fun _ _ _ h => h) (Or.inl ⟨by rfl, ?_⟩) hHeld ?_ ?_
        rotate_left
        · intro w' s0
          have hc := pw_cell_below s0 HCA.out
          go_simp
          with_reducible rfl
        rotate_left
        · simp only [Act.put, List.setIfInBounds_toArray, List.set_cons_zero, List.set_cons_succ, i64_w, i32_w]
          rfl
        refine pure_ (i := 4) (N := some 29) (v := ?_) (a' := ?_) #[true, true, true, true, true, false, false, false, false, false] rfl rfl (any_of HT_.out (by kernel_rfl)) (fun _ _ _ h => h) (Or.inl ⟨by rfl, ?_⟩) ?_ ?_
        rotate_left
        · intro w'
          go_simp
          with_reducible rfl
        rotate_left
        · simp only [Act.put, List.setIfInBounds_toArray, List.set_cons_zero, List.set_cons_succ, i64_w, i32_w]
          rfl
        refine pure_ (i := 5) (N := some 30) (v := ?_) (a' := ?_) #[true, true, true, true, true, true, false, false, false, false] rfl rfl (any_of HT_.out (by kernel_rfl)) (fun _ _ _ h => h) (Or.inl ⟨by rfl, ?_⟩) ?_ ?_
        rotate_left
        · intro w'
          go_simp
          with_reducible rfl
        rotate_left
        · simp only [Act.put, List.setIfInBounds_toArray, List.set_cons_zero, List.set_cons_succ, i64_w, i32_w]
          rfl
        refine pure_ (i := 6) (N := some 31) (v := ?_) (a' := ?_) #[true, true, true, true, true, true, true, false, false, false] rfl rfl (any_of HT_.out (by kernel_rfl)) (fun _ _ _ h => h) (Or.inl ⟨by rfl, ?_⟩) ?_ ?_
        rotate_left
        · intro w'
          go_simp
          with_reducible rfl
        rotate_left
        · simp only [Act.put, List.setIfInBounds_toArray, List.set_cons_zero, List.set_cons_succ, i64_w, i32_w]
          rfl
        refine take_ (i := 7) (N := some 32) (v := ?_) (a' := ?_) #[true, true, true, true, true, true, true, true, false, false] rfl rfl (take_of HT_.out (by kernel_rfl)) (fun _ _ _ h => h) (Or.inl ⟨by rfl, ?_⟩) hHeld ?_ ?_
        rotate_left
        · intro w' s0
          have hc := pw_cell_below s0 HCB.out
          go_simp
          with_reducible rfl
        rotate_left
        · simp only [Act.put, List.setIfInBounds_toArray, List.set_cons_zero, List.set_cons_succ, i64_w, i32_w]
          rfl
        refine one_ (i := 8) (N := some 33) #[true, true, true, true, true, true, true, true, true, false] rfl rfl (one_of HT_.out (by kernel_rfl)) (by decide) (fun K hK => ?_)
        refine goes_ Try.func30 (by kernel_rfl) rfl #[xv, yv] (by rfl) rfl rfl (by (try simp only [List.map_toArray, List.map_cons, List.map_nil]); first | done | rfl) ?_
        with_reducible refine (rTimes_o xv yv x y z _ (HX.out.below hHeld) (HY.out.below hHeld) HZ.out).mono ?_
        rintro e w3 ⟨t1, rfl, hO, hB1⟩
        have O1 := Lib.hid hO
        clear hO
        refine ⟨_, rfl, ?_⟩
        refine hK.out _ _ (below_step hHeld hB1) (fun hHeld => ?_)
        clear hK K
        refine norm_ (a' := ?_) ?_ ?_
        rotate_left
        · show Act.put _ (some 33) _ = _
          simp only [Act.put, List.setIfInBounds_toArray, List.set_cons_zero, List.set_cons_succ, i64_w, i32_w]
          rfl
        refine pure_ (i := 9) (N := some 7) (v := ?_) (a' := ?_) #[true, true, true, true, true, true, true, true, true, true] rfl rfl (any_of HT_.out (by kernel_rfl)) (fun _ _ _ h => h) (Or.inl ⟨by rfl, ?_⟩) ?_ ?_
        rotate_left
        · intro w'
          go_simp
          with_reducible rfl
        rotate_left
        · simp only [Act.put, List.setIfInBounds_toArray, List.set_cons_zero, List.set_cons_succ, i64_w, i32_w]
          rfl
        refine done_ (done_of HT_.out (by kernel_rfl)) ?_
        have HS := Lib.hid (HS.out.below hHeld)
        have DD := Lib.hid (below_step DD.out hHeld)
        clear hHeld HT_ HX HY HCA HCB HZ
        rcases O1.out with ⟨hz0, ht1⟩ | ⟨g3, c3, f3, ht1, hc3, hg3, hz3, hI3⟩
        · subst ht1
          have HZ0 := Lib.hid (NIL.out hz0)
          have hE := Lib.run_eql_slice_nil (P := Try.prog) w3 22 3 none 0 0 0 0 Try.underlying22
          clear hz0 O1
          go_wp2
          go_ret
          exact ⟨_, rfl, .inl ⟨HZ0.out, rfl⟩, DD.out⟩
        · subst ht1
          have hE := Lib.run_eql_slice_nil (P := Try.prog) w3 22 3 (some ⟨g3, 0, none⟩) 256 c3 0 0 Try.underlying22
          clear hc3 hg3 hz3 hI3
          go_wp2_with fail
          with_reducible refine (rAdd_o s _ d0 z d1 _ HS.out.inn O1.out.inn HD.out).mono ?_
          rintro e w4 ⟨t2, rfl, hO, hB2⟩
          have O2 := Lib.hid (hO.lower (b2 := w.heap.size) DD.out.size)
          have DD := Lib.hid (below_step DD.out hB2)
          clear hO hB2 O1 hE
          go_wp2
          go_roundw
          case rel =>
            have hrel : DR w X Y n t2 (.int .i64 ((i : Int) + 1)) _ := ⟨i + 1, _, by omega, rfl, by go_num, by rw [NX.out]; exact O2.out, DD.out⟩
            first
            | exact hrel
            | (repeat apply Exists.intro
               exact ⟨hrel, rfl⟩)
          case measure => simp [intOf]; omega
      · have e : i = n := by omega
        subst e
        rw [HZZ.out] at hO
        have HO := Lib.hid hO
        have DD := Lib.hid hD
        clear hO hD hi hlt
        go_wp2
        go_ret
        exact ⟨_, rfl, HO.out, DD.out⟩
end Go.Proofs.Ytebicdjnhogniaa.T
