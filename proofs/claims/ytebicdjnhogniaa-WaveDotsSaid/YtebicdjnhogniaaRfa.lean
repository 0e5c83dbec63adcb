/- The reference's May, Add, Sub, Times, Root, Norm of polys: by the printed contracts (printed by gen_rfa.py). -/
import Derived.Test.YtebicdjnhogniaaPWavePolysx4
import Derived.Test.YtebicdjnhogniaaAwk
namespace Go.Proofs.Ytebicdjnhogniaa.T
open Go.RowKit Go.Proofs.Ytebicdjnhogniaa.PWavePolys Go.Proofs.YtebicdjnhogniaaW.PrintWords Go.Proofs.YtebicdjnhogniaaW.PrintLast Go.Proofs.YtebicdjnhogniaaW.PrintMore
set_option linter.unusedVariables false
set_option linter.unusedSimpArgs false
theorem rd_ls (f : F) (i : Nat) (h : i < 256) : rd (ls f) (i : Int) = f i := by
  unfold rd
  rw [Int.toNat_natCast, List.getD_eq_getElem?_getD, ls_get f i h]
  rfl
theorem rmay_f (f : F) (hf : PF f) : Ev (fun k => chatelaineref10_May.f k (ls f)) true := by
  have key : ∀ m i : Nat, i + m = 256 → Ev (fun k => chatelaineref10_May.l0 k (ls f) i) true := by
    intro m
    induction m with
    | zero =>
      intro i hi
      refine Ev.step (f := fun k => chatelaineref10_May.j1 k (ls f) i false) (fun k => ?_) ⟨1, fun k hk => ?_⟩
      · simp only [chatelaineref10_May.l0]
        rw [if_neg (by rw [ls_len]; omega)]
      · obtain ⟨k, rfl⟩ : ∃ q, k = q + 1 := ⟨k - 1, by omega⟩
        simp only [chatelaineref10_May.j1]
        rw [if_neg (by simp), ls_len]
        rfl
    | succ m ih =>
      intro i hi
      have b := hf i (by omega)
      refine Ev.step (f := fun k => chatelaineref10_May.j1 k (ls f) i true) (fun k => ?_) ?_
      · simp only [chatelaineref10_May.l0]
        rw [if_pos (by rw [ls_len]; omega), ls_len]
        rfl
      · refine Ev.step (f := fun k => chatelaineref10_May.l0 k (ls f) ((i + 1 : Nat) : Int)) (fun k => ?_) (ih (i + 1) (by omega))
        simp only [chatelaineref10_May.j1]
        rw [if_pos trivial, if_pos (by omega), if_pos (by rw [ls_len]; omega), rd_ls f i (by omega), if_neg (by omega), if_neg (by omega), wrap_s (by omega) (by omega)]
        rfl
  exact key 256 0 (by omega)
theorem rmay_any (A : Option Addr) (c : Nat) (f : F) (w : World) (hA : RD w A f) (hc : 256 ≤ c) (hf : PF f) :
    Calls Try.prog 37 #[.slice A 256 c] w fun e w' => e = .returned (.bool true) ∧ Below w.heap.size w w' := by
  obtain ⟨k, hk⟩ := (rmay_f f hf).rounds
  have := chatelaineref10_May.calls k A c (ls f) true w hA.C (by rw [ls_len]; exact hc) hk
  rw [ls_len] at this
  exact this.mono fun e w' h => ⟨h.1, by first | exact h.2 | exact below_of_drawn h.2⟩
theorem root_tab : ∀ m ∈ List.range 256, chatelaineref10_Root.f 300 (m : Int) = some (zS m) := by decide +kernel
theorem root_any (m : Nat) (w : World) (h : m < 256) : Calls Try.prog 39 #[.int .i64 (m : Int)] w fun e w' => e = .returned (.int .i64 (zS m)) ∧ Below w.heap.size w w' :=
  (chatelaineref10_Root.calls 300 (m : Int) _ w (root_tab m (List.mem_range.2 h))).mono fun e w' h => ⟨h.1, by first | exact h.2 | exact below_of_drawn h.2⟩
theorem rAdd_f (f g : F) (hf : PF f) (hg : PF g) : Ev (fun k => chatelaineref10_Add.f k (ls f) (ls g)) (ls (addS f g)) := by
  have key : ∀ m i : Nat, i + m = 256 → Ev (fun k => chatelaineref10_Add.l0 k (ls f) (ls g) (ls (flt i (addS f g))) i) (ls (addS f g)) := by
    intro m
    induction m with
    | zero =>
      intro i hi
      refine ⟨1, fun k hk => ?_⟩
      obtain ⟨k, rfl⟩ : ∃ q, k = q + 1 := ⟨k - 1, by omega⟩
      simp only [chatelaineref10_Add.l0]
      rw [if_neg (by omega), show i = 256 by omega]
      exact congrArg some (ls_ext fun j hj => flt_all _ j hj)
    | succ m ih =>
      intro i hi
      have bf := hf i (by omega)
      have bg := hg i (by omega)
      have W0 : wrap64 (f i + g i) = f i + g i := wrap_s (by omega) (by omega)
      have hv : Int.tmod (wrap64 ((rd (ls f) (i : Int)) + (rd (ls g) (i : Int)))) 8380417 = addS f g i := by
        rw [rd_ls f i (by omega), rd_ls g i (by omega)]
        rw [W0, Int.tmod_eq_emod_of_nonneg (by omega)]; rfl
      refine Ev.step (f := fun k => chatelaineref10_Add.l0 k (ls f) (ls g) (ls (flt (i + 1) (addS f g))) ((i + 1 : Nat) : Int)) (fun k => ?_) (ih (i + 1) (by omega))
      simp only [chatelaineref10_Add.l0]
      rw [if_pos (by omega), if_pos (by omega), if_pos (by rw [ls_len]; omega), if_pos (by rw [ls_len]; omega), if_pos (by rw [ls_len]; omega), hv, Int.toNat_natCast, ls_set, flt_succ, wrap_s (by omega) (by omega)]
      rfl
  have hj : Ev (fun k => chatelaineref10_Add.j0 k (ls f) (ls g) false) (ls (addS f g)) := by
    refine Ev.step (f := fun k => chatelaineref10_Add.l0 k (ls f) (ls g) (List.replicate 256 0) 0) (fun k => ?_) ?_
    · simp only [chatelaineref10_Add.j0]
      rw [if_neg (by simp), if_pos (by omega)]
    · have h := key 256 0 (by omega)
      rw [flt_zero, ls_zero] at h
      exact h
  refine Ev.congr (f := fun k => (chatelaineref10_May.f k (ls f)).bind fun t => (if t = true then ((chatelaineref10_May.f k (ls g)).bind fun t2 => (chatelaineref10_Add.j0 k (ls f) (ls g) (!t2))) else (chatelaineref10_Add.j0 k (ls f) (ls g) true))) (fun k => rfl) ?_
  refine Ev.bind (rmay_f f hf) ?_
  refine Ev.congr (f := fun k => (chatelaineref10_May.f k (ls g)).bind fun t2 => (chatelaineref10_Add.j0 k (ls f) (ls g) (!t2))) (fun k => if_pos rfl) ?_
  exact Ev.bind (rmay_f g hg) hj
theorem rAdd_any (A B : Option Addr) (c d : Nat) (f g h : F) (w : World) (hA : RD w A f) (hB : RD w B g) (hc : 256 ≤ c) (hd : 256 ≤ d) (hf : PF f) (hg : PF g) (hh : addS f g = h) :
    Calls Try.prog 26 #[.slice A 256 c, .slice B 256 d] w fun e w' => ∃ g1 c1, e = .returned (sl g1 c1) ∧ 256 ≤ c1 ∧ w.heap.size ≤ g1 ∧ IR w' g1 h ∧ Below w.heap.size w w' := by
  subst hh
  obtain ⟨k, hk⟩ := (rAdd_f f g hf hg).rounds
  have := chatelaineref10_Add.calls k A c (ls f) B d (ls g) _ w hA.C (by rw [ls_len]; exact hc) hB.C (by rw [ls_len]; exact hd) hk
  simp only [ls_len] at this
  refine this.mono ?_
  rintro e w' ⟨v, rfl, hR, hB⟩
  obtain ⟨g1, c1, rfl, hc1, hg1, hI⟩ := ir_of_R (f := addS f g) hR (ls_len _) (fun j hj => ls_get _ j hj)
  exact ⟨g1, c1, rfl, hc1, hg1, hI, hB⟩
theorem rSub_f (f g : F) (hf : PF f) (hg : PF g) : Ev (fun k => chatelaineref10_Sub.f k (ls f) (ls g)) (ls (subS f g)) := by
  have key : ∀ m i : Nat, i + m = 256 → Ev (fun k => chatelaineref10_Sub.l0 k (ls f) (ls g) (ls (flt i (subS f g))) i) (ls (subS f g)) := by
    intro m
    induction m with
    | zero =>
      intro i hi
      refine ⟨1, fun k hk => ?_⟩
      obtain ⟨k, rfl⟩ : ∃ q, k = q + 1 := ⟨k - 1, by omega⟩
      simp only [chatelaineref10_Sub.l0]
      rw [if_neg (by omega), show i = 256 by omega]
      exact congrArg some (ls_ext fun j hj => flt_all _ j hj)
    | succ m ih =>
      intro i hi
      have bf := hf i (by omega)
      have bg := hg i (by omega)
      have W0 : wrap64 (f i - g i) = f i - g i := wrap_s (by omega) (by omega)
      have W1 : wrap64 (f i - g i + 8380417) = f i - g i + 8380417 := wrap_s (by omega) (by omega)
      have hv : Int.tmod (wrap64 ((wrap64 ((rd (ls f) (i : Int)) - (rd (ls g) (i : Int)))) + 8380417)) 8380417 = subS f g i := by
        rw [rd_ls f i (by omega), rd_ls g i (by omega)]
        rw [W0, W1, Int.tmod_eq_emod_of_nonneg (by omega)]; unfold subS; congr 1; omega
      refine Ev.step (f := fun k => chatelaineref10_Sub.l0 k (ls f) (ls g) (ls (flt (i + 1) (subS f g))) ((i + 1 : Nat) : Int)) (fun k => ?_) (ih (i + 1) (by omega))
      simp only [chatelaineref10_Sub.l0]
      rw [if_pos (by omega), if_pos (by omega), if_pos (by rw [ls_len]; omega), if_pos (by rw [ls_len]; omega), if_pos (by rw [ls_len]; omega), hv, Int.toNat_natCast, ls_set, flt_succ, wrap_s (by omega) (by omega)]
      rfl
  have hj : Ev (fun k => chatelaineref10_Sub.j0 k (ls f) (ls g) false) (ls (subS f g)) := by
    refine Ev.step (f := fun k => chatelaineref10_Sub.l0 k (ls f) (ls g) (List.replicate 256 0) 0) (fun k => ?_) ?_
    · simp only [chatelaineref10_Sub.j0]
      rw [if_neg (by simp), if_pos (by omega)]
    · have h := key 256 0 (by omega)
      rw [flt_zero, ls_zero] at h
      exact h
  refine Ev.congr (f := fun k => (chatelaineref10_May.f k (ls f)).bind fun t => (if t = true then ((chatelaineref10_May.f k (ls g)).bind fun t2 => (chatelaineref10_Sub.j0 k (ls f) (ls g) (!t2))) else (chatelaineref10_Sub.j0 k (ls f) (ls g) true))) (fun k => rfl) ?_
  refine Ev.bind (rmay_f f hf) ?_
  refine Ev.congr (f := fun k => (chatelaineref10_May.f k (ls g)).bind fun t2 => (chatelaineref10_Sub.j0 k (ls f) (ls g) (!t2))) (fun k => if_pos rfl) ?_
  exact Ev.bind (rmay_f g hg) hj
theorem rSub_any (A B : Option Addr) (c d : Nat) (f g h : F) (w : World) (hA : RD w A f) (hB : RD w B g) (hc : 256 ≤ c) (hd : 256 ≤ d) (hf : PF f) (hg : PF g) (hh : subS f g = h) :
    Calls Try.prog 27 #[.slice A 256 c, .slice B 256 d] w fun e w' => ∃ g1 c1, e = .returned (sl g1 c1) ∧ 256 ≤ c1 ∧ w.heap.size ≤ g1 ∧ IR w' g1 h ∧ Below w.heap.size w w' := by
  subst hh
  obtain ⟨k, hk⟩ := (rSub_f f g hf hg).rounds
  have := chatelaineref10_Sub.calls k A c (ls f) B d (ls g) _ w hA.C (by rw [ls_len]; exact hc) hB.C (by rw [ls_len]; exact hd) hk
  simp only [ls_len] at this
  refine this.mono ?_
  rintro e w' ⟨v, rfl, hR, hB⟩
  obtain ⟨g1, c1, rfl, hc1, hg1, hI⟩ := ir_of_R (f := subS f g) hR (ls_len _) (fun j hj => ls_get _ j hj)
  exact ⟨g1, c1, rfl, hc1, hg1, hI, hB⟩
theorem rTimes_f (f g : F) (hf : PF f) (hg : PF g) : Ev (fun k => chatelaineref10_Times.f k (ls f) (ls g)) (ls (mulS f g)) := by
  have key : ∀ m i : Nat, i + m = 256 → Ev (fun k => chatelaineref10_Times.l0 k (ls f) (ls g) (ls (flt i (mulS f g))) i) (ls (mulS f g)) := by
    intro m
    induction m with
    | zero =>
      intro i hi
      refine ⟨1, fun k hk => ?_⟩
      obtain ⟨k, rfl⟩ : ∃ q, k = q + 1 := ⟨k - 1, by omega⟩
      simp only [chatelaineref10_Times.l0]
      rw [if_neg (by omega), show i = 256 by omega]
      exact congrArg some (ls_ext fun j hj => flt_all _ j hj)
    | succ m ih =>
      intro i hi
      have bf := hf i (by omega)
      have bg := hg i (by omega)
      have mb := mul_bd bf.1 bf.2 bg.1 (show g i ≤ 20000000 by omega)
      have W0 : wrap64 (f i * g i) = f i * g i := wrap_s (by omega) (by omega)
      have hv : Int.tmod (wrap64 ((rd (ls f) (i : Int)) * (rd (ls g) (i : Int)))) 8380417 = mulS f g i := by
        rw [rd_ls f i (by omega), rd_ls g i (by omega)]
        rw [W0, Int.tmod_eq_emod_of_nonneg mb.1]; rfl
      refine Ev.step (f := fun k => chatelaineref10_Times.l0 k (ls f) (ls g) (ls (flt (i + 1) (mulS f g))) ((i + 1 : Nat) : Int)) (fun k => ?_) (ih (i + 1) (by omega))
      simp only [chatelaineref10_Times.l0]
      rw [if_pos (by omega), if_pos (by omega), if_pos (by rw [ls_len]; omega), if_pos (by rw [ls_len]; omega), if_pos (by rw [ls_len]; omega), hv, Int.toNat_natCast, ls_set, flt_succ, wrap_s (by omega) (by omega)]
      rfl
  have hj : Ev (fun k => chatelaineref10_Times.j0 k (ls f) (ls g) false) (ls (mulS f g)) := by
    refine Ev.step (f := fun k => chatelaineref10_Times.l0 k (ls f) (ls g) (List.replicate 256 0) 0) (fun k => ?_) ?_
    · simp only [chatelaineref10_Times.j0]
      rw [if_neg (by simp), if_pos (by omega)]
    · have h := key 256 0 (by omega)
      rw [flt_zero, ls_zero] at h
      exact h
  refine Ev.congr (f := fun k => (chatelaineref10_May.f k (ls f)).bind fun t => (if t = true then ((chatelaineref10_May.f k (ls g)).bind fun t2 => (chatelaineref10_Times.j0 k (ls f) (ls g) (!t2))) else (chatelaineref10_Times.j0 k (ls f) (ls g) true))) (fun k => rfl) ?_
  refine Ev.bind (rmay_f f hf) ?_
  refine Ev.congr (f := fun k => (chatelaineref10_May.f k (ls g)).bind fun t2 => (chatelaineref10_Times.j0 k (ls f) (ls g) (!t2))) (fun k => if_pos rfl) ?_
  exact Ev.bind (rmay_f g hg) hj
theorem rTimes_any (A B : Option Addr) (c d : Nat) (f g h : F) (w : World) (hA : RD w A f) (hB : RD w B g) (hc : 256 ≤ c) (hd : 256 ≤ d) (hf : PF f) (hg : PF g) (hh : mulS f g = h) :
    Calls Try.prog 30 #[.slice A 256 c, .slice B 256 d] w fun e w' => ∃ g1 c1, e = .returned (sl g1 c1) ∧ 256 ≤ c1 ∧ w.heap.size ≤ g1 ∧ IR w' g1 h ∧ Below w.heap.size w w' := by
  subst hh
  obtain ⟨k, hk⟩ := (rTimes_f f g hf hg).rounds
  have := chatelaineref10_Times.calls k A c (ls f) B d (ls g) _ w hA.C (by rw [ls_len]; exact hc) hB.C (by rw [ls_len]; exact hd) hk
  simp only [ls_len] at this
  refine this.mono ?_
  rintro e w' ⟨v, rfl, hR, hB⟩
  obtain ⟨g1, c1, rfl, hc1, hg1, hI⟩ := ir_of_R (f := mulS f g) hR (ls_len _) (fun j hj => ls_get _ j hj)
  exact ⟨g1, c1, rfl, hc1, hg1, hI, hB⟩
theorem r9norm_f (x : Int) (h0 : 0 ≤ x) (h1 : x < 8380417) : chatelaineref9_Norm.f x = some (nm x) := by
  have h : chatelaineref9_Of.f x = some x := by
    unfold chatelaineref9_Of.f
    have e : Int.tmod x 8380417 = x := by rw [Int.tmod_eq_emod_of_nonneg h0, Int.emod_eq_of_lt h0 h1]
    rw [e, wrap_s (by omega) (by omega), Int.tmod_eq_emod_of_nonneg (by omega)]
    congr 1
    omega
  unfold chatelaineref9_Norm.f
  rw [h, Option.bind_some, Option.bind_some, wrap_s (by omega) (by omega)]
  rfl
/-- Norm of a list of polys. -/
theorem rnormL_f (n : Nat) (fs : Nat → F) (hn : n < 1000000) (hf : ∀ i, i < n → PF (fs i)) : Ev (fun k => chatelaineref10_Norm.f k ((List.range n).map fun i => ls (fs i))) (nrmK fs n) := by
  obtain ⟨L, hL⟩ : ∃ L, ((List.range n).map fun i => ls (fs i)) = L := ⟨_, rfl⟩
  have hlen : L.length = n := by rw [← hL]; simp
  have hget : ∀ i : Nat, i < n → rd_L1 L (i : Int) = ls (fs i) := fun i hi => by
    rw [← hL]
    simp [rd_L1, rdOf, List.getD_eq_getElem?_getD, hi]
  rw [hL]
  have inner : ∀ (i : Nat), i < n → ∀ m j : Nat, j + m = 256 → ∀ r : Int, Ev (fun k => chatelaineref10_Norm.l0 k L (mxs (nrmK fs i) (fs i) 256) ((i + 1 : Nat) : Int)) r → Ev (fun k => chatelaineref10_Norm.l1 k L (mxs (nrmK fs i) (fs i) j) i j) r := by
    intro i hi m
    induction m with
    | zero =>
      intro j hj r h
      refine Ev.step (f := fun k => chatelaineref10_Norm.l0 k L (mxs (nrmK fs i) (fs i) 256) ((i + 1 : Nat) : Int)) (fun k => ?_) h
      simp only [chatelaineref10_Norm.l1]
      rw [if_neg (by omega), wrap_s (by omega) (by omega), show j = 256 by omega]
      rfl
    | succ m ih =>
      intro j hj r h
      have b := hf i hi j (by omega)
      refine Ev.step (f := fun k => chatelaineref10_Norm.l1 k L (mxs (nrmK fs i) (fs i) (j + 1)) i ((j + 1 : Nat) : Int)) (fun k => ?_) (ih (j + 1) (by omega) r h)
      simp only [chatelaineref10_Norm.l1]
      rw [if_pos (by omega), if_pos (by omega), if_pos (by rw [hlen]; omega), if_pos (by omega), hget i hi, if_pos (by rw [ls_len]; omega), rd_ls _ j (by omega), r9norm_f _ b.1 b.2, Option.bind_some, wrap_s (by omega) (by omega)]
      rfl
  have outer : ∀ m i : Nat, i + m = n → Ev (fun k => chatelaineref10_Norm.l0 k L (nrmK fs i) i) (nrmK fs n) := by
    intro m
    induction m with
    | zero =>
      intro i hi
      refine ⟨1, fun k hk => ?_⟩
      obtain ⟨k, rfl⟩ : ∃ q, k = q + 1 := ⟨k - 1, by omega⟩
      simp only [chatelaineref10_Norm.l0]
      rw [if_neg (by rw [hlen]; omega), show i = n by omega]
    | succ m ih =>
      intro i hi
      refine Ev.step (f := fun k => (chatelaineref10_May.f k (rd_L1 L i)).bind fun t => (if t = true then (chatelaineref10_Norm.l1 k L (nrmK fs i) i 0) else (some (-1)))) (fun k => ?_) ?_
      · simp only [chatelaineref10_Norm.l0]
        rw [if_pos (by rw [hlen]; omega), if_pos (by omega)]
      · rw [hget i (by omega)]
        refine Ev.bind (rmay_f _ (hf i (by omega))) ?_
        exact Ev.congr (fun k => if_pos rfl) (inner i (by omega) 256 0 (by omega) _ (ih (i + 1) (by omega)))
  exact outer n 0 (by omega)
theorem rnorm2_any (W : World) (A B : Option Addr) (c d : Nat) (f g : F) (r : Int) (hR : RD W A f) (hRB : RD W B g) (hc : 256 ≤ c) (hd : 256 ≤ d) (hf : PF f) (hg : PF g) (hr : nrm2 f g = r) :
    Calls Try.prog 31 #[.slice (some ⟨W.heap.size, 0, none⟩) 2 2] (W.alloc (.cells #[.slice A 256 c, .slice B 256 d] 22)) fun e w' => e = .returned (.int .i64 r) ∧ Below W.heap.size W w' := by
  have hb := below_alloc1 W (.cells #[.slice A 256 c, .slice B 256 d] 22)
  obtain ⟨k, hk⟩ := (rnormL_f 2 (fun i => if i = 0 then f else g) (by omega) (fun i hi => by show PF (if i = 0 then f else g); split <;> assumption)).rounds
  have hC : Kd.C (Kd.slice 3 (Kd.int .i64)) (W.alloc (.cells #[.slice A 256 c, .slice B 256 d] 22)) (some ⟨W.heap.size, 0, none⟩) 2 [ls f, ls g] := by
    refine ⟨rfl, by decide, fun _ => ⟨_, rfl, fun j p hp => ?_⟩⟩
    match j, hp with
    | 0, hp =>
      obtain rfl : ls f = p := by simpa using hp
      refine ⟨[.slice A 256 c], rfl, ⟨A, c, by rw [ls_len], by rw [ls_len]; exact hc, (hR.below hb).C⟩, fun i u hu => ?_⟩
      match i, hu with
      | 0, hu =>
        obtain rfl : Value.slice A 256 c = u := by simpa using hu
        show World.cell? _ (Addr.add _ 0) = _
        rw [add_at, cell_of_row _ _ _ _ _ _ (heap_alloc_new W _)]
        rfl
    | 1, hp =>
      obtain rfl : ls g = p := by simpa using hp
      refine ⟨[.slice B 256 d], rfl, ⟨B, d, by rw [ls_len], by rw [ls_len]; exact hd, (hRB.below hb).C⟩, fun i u hu => ?_⟩
      match i, hu with
      | 0, hu =>
        obtain rfl : Value.slice B 256 d = u := by simpa using hu
        show World.cell? _ (Addr.add _ 1) = _
        rw [add_at, cell_of_row _ _ _ _ _ _ (heap_alloc_new W _)]
        rfl
  have := chatelaineref10_Norm.calls k (some ⟨W.heap.size, 0, none⟩) 2 [ls f, ls g] r _ hC (Nat.le_refl _) (by rw [← hr]; exact hk)
  refine this.mono ?_
  rintro e w' ⟨rfl, hB⟩
  exact ⟨rfl, below_step hb hB⟩
end Go.Proofs.Ytebicdjnhogniaa.T
