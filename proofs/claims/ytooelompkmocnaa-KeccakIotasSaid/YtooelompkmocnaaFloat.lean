/- KeccakIotas' statement of four calls and four new variables, in whatever order they come: walked once, by what holds whichever have come. -/
import Derived.Test.YtooelompkmocnaaPc
namespace Go.Proofs.Ytooelompkmocnaa.T
open Go.RowKit
open Go.Proofs.YtooelompkmocnaaW.PrintWords Go.Proofs.YtooelompkmocnaaW.PrintLast
set_option linter.unusedVariables false
set_option linter.unusedSimpArgs false
/-- an invariant over all orders. -/
theorem inv_ {P : Program} {ops : Array Oper} {Q : Exit → Act → World → Prop} {md : Region.Mode} {S : World → Prop} {m : Nat} (J : Nat → Array Bool → Act → World → Prop)
    (hstep : ∀ n l a w, J (n + 1) l a w → Region.ready md ops l ≠ [] ∧ ∀ i ∈ Region.ready md ops l, ∃ o, ops[i]? = some o ∧ ∀ K' : Act → World → Prop, (∀ a' w', J n (l.setIfInBounds i true) a' w' → K' a' w') → if Region.wanted o (yielded ops a.tmps) = true then Oper.wp P o a w K' Q else K' (a.put o.dst undef) w)
    (hS : ∀ n l a w, J n l a w → S w) (hend : ∀ l a w, J 0 l a w → wpAnyLast P md ops Q S [] m l a w) :
    ∀ n l a w, J n l a w → wpAnyLast P md ops Q S [] (m + n) l a w
  | 0, l, a, w, h => hend l a w h
  | n + 1, l, a, w, h => by
    obtain ⟨hne, hs⟩ := hstep n l a w h
    refine wpAnyLast_all (fuel := m + n) rfl hne fun i hi => ?_
    obtain ⟨o, ho, hk⟩ := hs i hi
    exact wpOp_step ho fun K' hK => hk K' fun a' w' hJ => hK a' w' ⟨fun _ _ => hS n _ a' w' hJ, inv_ J hstep hS hend n _ a' w' hJ⟩
theorem exec_alloc_av {P : Program} {o : Oper} {a : Act} {W : World} (T : TypeId) (ho : o.op = .alloc T) (n : Nat) (i : TypeInfo) (z : Value) (hi : P.info? T = some i) (hz : i.zero = some z) (hc : z.cells = av n (fun _ => 0)) :
    (execOp a.eval o).run P W = .ok (.value (.pointer (some ⟨W.heap.size, 0, none⟩))) (W.alloc (.cells (av n (fun _ => 0)) T)) := by
  simp [execOp, ho, Instr.alloc, newVar, newRow, zeroValue, typeInfo, hi, hz, hc]
def At (ops : Array Oper) (i : Nat) (x : Op) (d : Tmp) : Prop := ∃ o, ops[i]? = some o ∧ o.op = x ∧ o.dst = some d ∧ o.guard = none
def lst (k : Nat) (b0 b1 b2 b3 : Bool) : Array Bool := #[true, true, decide (0 < k), true, true, decide (1 < k), true, true, decide (2 < k), true, true, decide (3 < k), b0, b1, b2, b3, false, false, false, false]
def mkA (a b : L) (x y r s : Int) (g4 g5 : Nat) (c p : Nat → Value) : Act :=
  { tmps := #[.agg (av 25 a), .agg (av 25 b), .int .i64 r, .int .i64 s, .pointer (some ⟨g4, 0, none⟩), .pointer (some ⟨g5, 0, none⟩), undef, undef, .bool false, p 0, p 1, p 2, p 3, undef, undef, undef,
      .int .i64 x, .int .i64 r, .int .i64 y, .int .i64 s, .agg (av 25 a), .int .i64 r, c 0, .agg (av 25 a), .int .i64 s, c 1, .agg (av 25 b), .int .i64 r, c 2, .agg (av 25 b), .int .i64 s, c 3, undef, undef, undef, undef, undef, undef, undef, undef, undef, undef, undef, undef, undef, undef, undef, undef, undef, undef, undef, undef, undef, undef, undef, undef, undef, undef, undef, undef, undef, undef, undef, undef, undef, undef, undef, undef, undef, undef, undef, undef, undef, undef, undef, undef, undef, undef, undef, undef, undef, undef, undef, undef, undef, undef, undef, undef, undef, undef, undef, undef, undef, undef, undef, undef, undef, undef, undef, undef, undef, undef, undef, undef, undef, undef, undef, undef, undef, undef, undef, undef, undef], defers := [] }
def T7_2 : Bool × List (List Nat × List Nat) := (true, [([], []), ([], []), ([0, 1], [0, 1]), ([], []), ([], []), ([3, 4, 2], [3, 4]), ([], []), ([], []), ([6, 7, 5], [6, 7]), ([], []), ([], []), ([9, 10, 8], [9, 10]), ([], []), ([], []), ([], []), ([], []), ([12, 2, 11, 0, 1, 2, 12, 13, 14, 15], [2, 12]), ([13, 5, 16, 0, 1, 2, 3, 4, 5, 12, 13, 14, 15, 16], [5, 13]), ([14, 8, 17, 0, 1, 2, 3, 4, 5, 6, 7, 8, 12, 13, 14, 15, 16, 17], [8, 14]), ([15, 11, 18, 0, 1, 2, 3, 4, 5, 6, 7, 8, 9, 10, 11, 12, 13, 14, 15, 16, 17, 18], [11, 15])])
theorem tab7_2 : rtab .any (opsOf Try.f7 2) = T7_2 := by kernel_rfl
def rok (k : Nat) (b0 b1 b2 b3 : Bool) : Bool := (readyT T7_2.2 (lst k b0 b1 b2 b3).toList != []) && (readyT T7_2.2 (lst k b0 b1 b2 b3).toList).all fun i => (i == 2 + 3 * k && decide (k < 4)) || ((i == 12 && !b0) || ((i == 13 && !b1) || ((i == 14 && !b2) || (i == 15 && !b3))))
theorem rdyB : ∀ k ∈ List.range 5, ∀ b0 b1 b2 b3 : Bool, ((!decide (k < 4) && (b0 && (b1 && (b2 && b3)))) || rok k b0 b1 b2 b3) = true := by decide +kernel
theorem rdy (k : Nat) (hk : k ∈ List.range 5) (b0 b1 b2 b3 : Bool) (h : k < 4 ∨ b0 = false ∨ b1 = false ∨ b2 = false ∨ b3 = false) : readyT T7_2.2 (lst k b0 b1 b2 b3).toList ≠ [] ∧ ∀ i ∈ readyT T7_2.2 (lst k b0 b1 b2 b3).toList, (i = 2 + 3 * k ∧ k < 4) ∨ (i = 12 ∧ b0 = false) ∨ (i = 13 ∧ b1 = false) ∨ (i = 14 ∧ b2 = false) ∨ (i = 15 ∧ b3 = false) := by
  have h1 := rdyB k hk b0 b1 b2 b3
  have h2 : rok k b0 b1 b2 b3 = true := by
    rw [Bool.or_eq_true] at h1
    rcases h1 with h1 | h1
    · simp only [Bool.and_eq_true, Bool.not_eq_true', decide_eq_false_iff_not] at h1
      obtain ⟨g, g0, g1, g2, g3⟩ := h1
      rw [g0, g1, g2, g3] at h
      simp at h
      omega
    · exact h1
  unfold rok at h2
  rw [Bool.and_eq_true] at h2
  refine ⟨bne_iff_ne.1 h2.1, fun i hi => ?_⟩
  have h3 := List.all_eq_true.1 h2.2 i hi
  simpa only [Bool.or_eq_true, Bool.and_eq_true, beq_iff_eq, decide_eq_true_eq, Bool.not_eq_true'] using h3
def cv (X : Nat → L) (k : Nat) : Nat → Value := fun j => if j < k then .agg (av 25 (X j)) else undef
def pv (bs : Nat → Bool) (hs : Nat → Nat) : Nat → Value := fun j => if bs j = true then .pointer (some ⟨hs j, 0, none⟩) else undef
def pt (bs : Nat → Bool) (i : Nat) : Nat → Bool := fun j => if j = i then true else bs j
def pn (hs : Nat → Nat) (i v : Nat) : Nat → Nat := fun j => if j = i then v else hs j
def Xs (a b : L) (r s : Int) : Nat → L
  | 0 => roundS a r
  | 1 => roundS a s
  | 2 => roundS b r
  | _ => roundS b s
def SI (a b : L) (g4 g5 : Nat) (w0 W : World) : Prop := AR W g4 23 25 a ∧ AR W g5 23 25 b ∧ Below w0.heap.size w0 W
structure JM (a b : L) (g4 g5 : Nat) (w0 : World) (bs : Nat → Bool) (hs : Nat → Nat) (W : World) : Prop where
  si : SI a b g4 g5 w0 W
  ar : ∀ j, bs j = true → AR W (hs j) 23 25 (fun _ => 0)
  up : ∀ j, bs j = true → w0.heap.size ≤ hs j ∧ g4 < hs j ∧ g5 < hs j
  ne : ∀ i j, bs i = true → bs j = true → i ≠ j → hs i ≠ hs j
theorem JM.below {a b : L} {g4 g5 : Nat} {w0 : World} {bs : Nat → Bool} {hs : Nat → Nat} {W W2 : World} (h : JM a b g4 g5 w0 bs hs W) (hB : Below W.heap.size W W2) : JM a b g4 g5 w0 bs hs W2 :=
  ⟨⟨h.si.1.below hB, h.si.2.1.below hB, below_step h.si.2.2 hB⟩, fun j hj => (h.ar j hj).below hB, h.up, h.ne⟩
theorem JM.alloc {a b : L} {g4 g5 : Nat} {w0 : World} {bs : Nat → Bool} {hs : Nat → Nat} {W : World} (h : JM a b g4 g5 w0 bs hs W) (i : Nat) : JM a b g4 g5 w0 (pt bs i) (pn hs i W.heap.size) (W.alloc (.cells (av 25 (fun _ => 0)) 23)) := by
  have hB : Below W.heap.size W (W.alloc (.cells (av 25 (fun _ => 0)) 23)) := (Below.refl _ _).alloc (Nat.le_refl _) _
  refine ⟨(h.below hB).si, fun j hj => ?_, fun j hj => ?_, fun m j hm hj hne => ?_⟩
  · unfold pt at hj
    unfold pn
    by_cases e : j = i
    · rw [if_pos e]; exact heap_alloc_new W _
    · rw [if_neg e] at hj ⊢; exact (h.ar j hj).below hB
  · unfold pt at hj
    unfold pn
    by_cases e : j = i
    · rw [if_pos e]; exact ⟨h.si.2.2.size, h.si.1.lt, h.si.2.1.lt⟩
    · rw [if_neg e] at hj ⊢; exact h.up j hj
  · unfold pt at hm hj
    unfold pn
    by_cases e : j = i
    · rw [if_pos e]
      rw [if_neg (by omega)] at hm
      rw [if_neg (by omega)]
      have := (h.ar m hm).lt
      omega
    · rw [if_neg e] at hj ⊢
      by_cases e2 : m = i
      · rw [if_pos e2]
        have := (h.ar j hj).lt
        omega
      · rw [if_neg e2] at hm ⊢
        exact h.ne m j hm hj hne
def JF (a b : L) (x y r s : Int) (g4 g5 : Nat) (w0 : World) (n : Nat) (l : Array Bool) (A : Act) (W : World) : Prop :=
  ∃ (k : Nat) (bs : Nat → Bool) (hs : Nat → Nat), k ≤ 4 ∧ n + k + (bs 0).toNat + (bs 1).toNat + (bs 2).toNat + (bs 3).toNat = 8 ∧ l = lst k (bs 0) (bs 1) (bs 2) (bs 3) ∧
    A = mkA a b x y r s g4 g5 (cv (Xs a b r s) k) (pv bs hs) ∧ JM a b g4 g5 w0 bs hs W
theorem wanted_none {o : Oper} (h : o.guard = none) (d : Nat → Option Bool) : Region.wanted o d = true := by
  unfold Region.wanted
  rw [h]
set_option maxHeartbeats 2000000 in
set_option maxRecDepth 20000 in
theorem float_step {ops : Array Oper} {Q : Exit → Act → World → Prop} {a b : L} {x y r s : Int} {g4 g5 : Nat} {w0 : World} {i23 : TypeInfo} (I23 : Try.prog.info? 23 = some i23) (Z23 : i23.zero = some (.agg (av 25 fun _ => 0)))
    (hT : rtab .any ops = T7_2)
    (c0 : At ops 2 (.call { callee := .value (.func 19), args := #[.tmp 20, .tmp 21], argTypes := #[23, 3] }) 22)
    (c1 : At ops 5 (.call { callee := .value (.func 19), args := #[.tmp 23, .tmp 24], argTypes := #[23, 3] }) 25)
    (c2 : At ops 8 (.call { callee := .value (.func 19), args := #[.tmp 26, .tmp 27], argTypes := #[23, 3] }) 28)
    (c3 : At ops 11 (.call { callee := .value (.func 19), args := #[.tmp 29, .tmp 30], argTypes := #[23, 3] }) 31)
    (p0 : At ops 12 (.alloc 23) 9) (p1 : At ops 13 (.alloc 23) 10) (p2 : At ops 14 (.alloc 23) 11) (p3 : At ops 15 (.alloc 23) 12)
    (n : Nat) (l : Array Bool) (A : Act) (W : World) (h : JF a b x y r s g4 g5 w0 (n + 1) l A W) :
    Region.ready .any ops l ≠ [] ∧ ∀ i ∈ Region.ready .any ops l, ∃ o, ops[i]? = some o ∧ ∀ K' : Act → World → Prop, (∀ a' w', JF a b x y r s g4 g5 w0 n (l.setIfInBounds i true) a' w' → K' a' w') → if Region.wanted o (yielded ops A.tmps) = true then Oper.wp Try.prog o A W K' Q else K' (A.put o.dst undef) W := by
  obtain ⟨k, bs, hs, hk, hn, rfl, rfl, hM⟩ := h
  have hnot : k < 4 ∨ bs 0 = false ∨ bs 1 = false ∨ bs 2 = false ∨ bs 3 = false := by
    by_cases e : k < 4
    · exact .inl e
    · right
      cases h0 : bs 0 with
      | false => exact .inl rfl
      | true =>
        cases h1 : bs 1 with
        | false => exact .inr (.inl rfl)
        | true =>
          cases h2 : bs 2 with
          | false => exact .inr (.inr (.inl rfl))
          | true =>
            cases h3 : bs 3 with
            | false => exact .inr (.inr (.inr rfl))
            | true => rw [h0, h1, h2, h3] at hn; simp at hn; omega
  obtain ⟨hne, hall⟩ := rdy k (List.mem_range.2 (by omega)) (bs 0) (bs 1) (bs 2) (bs 3) hnot
  have hr : Region.ready .any ops (lst k (bs 0) (bs 1) (bs 2) (bs 3)) = readyT T7_2.2 (lst k (bs 0) (bs 1) (bs 2) (bs 3)).toList := by rw [ready_eq, hT]
  rw [hr]
  refine ⟨hne, fun i hi => ?_⟩
  have callStep : ∀ (m : Nat) (f : L) (rr : Int) (t1 t2 d : Tmp), k = m → m < 4 → At ops (2 + 3 * m) (.call { callee := .value (.func 19), args := #[.tmp t1, .tmp t2], argTypes := #[23, 3] }) d →
      (mkA a b x y r s g4 g5 (cv (Xs a b r s) k) (pv bs hs)).eval (.tmp t1) = .agg (av 25 f) → (mkA a b x y r s g4 g5 (cv (Xs a b r s) k) (pv bs hs)).eval (.tmp t2) = .int .i64 rr →
      (mkA a b x y r s g4 g5 (cv (Xs a b r s) k) (pv bs hs)).put (some d) (.agg (av 25 (roundS f rr))) = mkA a b x y r s g4 g5 (cv (Xs a b r s) (k + 1)) (pv bs hs) →
      (lst k (bs 0) (bs 1) (bs 2) (bs 3)).setIfInBounds (2 + 3 * m) true = lst (k + 1) (bs 0) (bs 1) (bs 2) (bs 3) →
      ∃ o, ops[2 + 3 * m]? = some o ∧ ∀ K' : Act → World → Prop, (∀ a' w', JF a b x y r s g4 g5 w0 n ((lst k (bs 0) (bs 1) (bs 2) (bs 3)).setIfInBounds (2 + 3 * m) true) a' w' → K' a' w') → if Region.wanted o (yielded ops (mkA a b x y r s g4 g5 (cv (Xs a b r s) k) (pv bs hs)).tmps) = true then Oper.wp Try.prog o (mkA a b x y r s g4 g5 (cv (Xs a b r s) k) (pv bs hs)) W K' Q else K' ((mkA a b x y r s g4 g5 (cv (Xs a b r s) k) (pv bs hs)).put o.dst undef) W := by
    intro m f rr t1 t2 d hkm hm4 hat e1 e2 hput hset
    obtain ⟨o, ho, hop, hd, hg⟩ := hat
    refine ⟨o, ho, fun K' hK => ?_⟩
    rw [hd]
    refine goes_ Try.func19 (by kernel_rfl) rfl #[.agg (av 25 f), .int .i64 rr] (wanted_none hg _) hd hop (by simp [e1, e2]) ?_
    refine (round_any f rr W).mono ?_
    rintro e w' ⟨rfl, hB⟩
    refine ⟨_, rfl, hK _ _ ?_⟩
    rw [hput, hset]
    exact ⟨k + 1, bs, hs, by omega, by omega, rfl, rfl, hM.below hB⟩
  have allocStep : ∀ (m : Nat) (d : Tmp), m < 4 → bs m = false → At ops (12 + m) (.alloc 23) d →
      (∀ v, (mkA a b x y r s g4 g5 (cv (Xs a b r s) k) (pv bs hs)).put (some d) (.pointer (some ⟨v, 0, none⟩)) = mkA a b x y r s g4 g5 (cv (Xs a b r s) k) (pv (pt bs m) (pn hs m v))) →
      (lst k (bs 0) (bs 1) (bs 2) (bs 3)).setIfInBounds (12 + m) true = lst k (pt bs m 0) (pt bs m 1) (pt bs m 2) (pt bs m 3) →
      n + k + (pt bs m 0).toNat + (pt bs m 1).toNat + (pt bs m 2).toNat + (pt bs m 3).toNat = 8 →
      ∃ o, ops[12 + m]? = some o ∧ ∀ K' : Act → World → Prop, (∀ a' w', JF a b x y r s g4 g5 w0 n ((lst k (bs 0) (bs 1) (bs 2) (bs 3)).setIfInBounds (12 + m) true) a' w' → K' a' w') → if Region.wanted o (yielded ops (mkA a b x y r s g4 g5 (cv (Xs a b r s) k) (pv bs hs)).tmps) = true then Oper.wp Try.prog o (mkA a b x y r s g4 g5 (cv (Xs a b r s) k) (pv bs hs)) W K' Q else K' ((mkA a b x y r s g4 g5 (cv (Xs a b r s) k) (pv bs hs)).put o.dst undef) W := by
    intro m d hm4 hbm hat hput hset hcnt
    obtain ⟨o, ho, hop, hd, hg⟩ := hat
    refine ⟨o, ho, fun K' hK => ?_⟩
    rw [hd]
    refine value_ (wanted_none hg _) hd (exec_alloc_av 23 hop 25 i23 _ I23 Z23 rfl) ?_
    refine hK _ _ ?_
    rw [hput, hset]
    exact ⟨k, pt bs m, pn hs m W.heap.size, hk, hcnt, rfl, rfl, hM.alloc m⟩
  rcases hall i hi with ⟨rfl, hk4⟩ | ⟨rfl, hb⟩ | ⟨rfl, hb⟩ | ⟨rfl, hb⟩ | ⟨rfl, hb⟩
  · match k, hk4 with
    | 0, _ => exact callStep 0 a r 20 21 22 rfl (by omega) c0 rfl rfl rfl rfl
    | 1, _ => exact callStep 1 a s 23 24 25 rfl (by omega) c1 rfl rfl rfl rfl
    | 2, _ => exact callStep 2 b r 26 27 28 rfl (by omega) c2 rfl rfl rfl rfl
    | 3, _ => exact callStep 3 b s 29 30 31 rfl (by omega) c3 rfl rfl rfl rfl
  · exact allocStep 0 9 (by omega) hb p0 (fun v => rfl) rfl (by rw [hb] at hn; simp [pt] at hn ⊢; omega)
  · exact allocStep 1 10 (by omega) hb p1 (fun v => rfl) rfl (by rw [hb] at hn; simp [pt] at hn ⊢; omega)
  · exact allocStep 2 11 (by omega) hb p2 (fun v => rfl) rfl (by rw [hb] at hn; simp [pt] at hn ⊢; omega)
  · exact allocStep 3 12 (by omega) hb p3 (fun v => rfl) rfl (by rw [hb] at hn; simp [pt] at hn ⊢; omega)
set_option maxRecDepth 20000 in
theorem float_ {ops : Array Oper} {Q : Exit → Act → World → Prop} {a b : L} {x y r s : Int} {g4 g5 : Nat} {w0 : World} {i23 : TypeInfo} (I23 : Try.prog.info? 23 = some i23) (Z23 : i23.zero = some (.agg (av 25 fun _ => 0)))
    (hT : rtab .any ops = T7_2)
    (c0 : At ops 2 (.call { callee := .value (.func 19), args := #[.tmp 20, .tmp 21], argTypes := #[23, 3] }) 22)
    (c1 : At ops 5 (.call { callee := .value (.func 19), args := #[.tmp 23, .tmp 24], argTypes := #[23, 3] }) 25)
    (c2 : At ops 8 (.call { callee := .value (.func 19), args := #[.tmp 26, .tmp 27], argTypes := #[23, 3] }) 28)
    (c3 : At ops 11 (.call { callee := .value (.func 19), args := #[.tmp 29, .tmp 30], argTypes := #[23, 3] }) 31)
    (p0 : At ops 12 (.alloc 23) 9) (p1 : At ops 13 (.alloc 23) 10) (p2 : At ops 14 (.alloc 23) 11) (p3 : At ops 15 (.alloc 23) 12)
    (W : World) (hW : SI a b g4 g5 w0 W)
    (hend : ∀ (h0 h1 h2 h3 : Nat) (W' : World), SI a b g4 g5 w0 W' → AR W' h0 23 25 (fun _ => 0) → AR W' h1 23 25 (fun _ => 0) → AR W' h2 23 25 (fun _ => 0) → AR W' h3 23 25 (fun _ => 0) →
      (w0.heap.size ≤ h0 ∧ g4 < h0 ∧ g5 < h0) → (w0.heap.size ≤ h1 ∧ g4 < h1 ∧ g5 < h1) → (w0.heap.size ≤ h2 ∧ g4 < h2 ∧ g5 < h2) → (w0.heap.size ≤ h3 ∧ g4 < h3 ∧ g5 < h3) →
      (h0 ≠ h1 ∧ h0 ≠ h2 ∧ h0 ≠ h3 ∧ h1 ≠ h2 ∧ h1 ≠ h3 ∧ h2 ≠ h3) →
      wpAnyLast Try.prog .any ops Q (SI a b g4 g5 w0) [] 4 #[true, true, true, true, true, true, true, true, true, true, true, true, true, true, true, true, false, false, false, false]
        (mkA a b x y r s g4 g5 (fun j => .agg (av 25 (Xs a b r s j))) (fun j => match j with | 0 => .pointer (some ⟨h0, 0, none⟩) | 1 => .pointer (some ⟨h1, 0, none⟩) | 2 => .pointer (some ⟨h2, 0, none⟩) | _ => .pointer (some ⟨h3, 0, none⟩))) W') :
    wpAnyLast Try.prog .any ops Q (SI a b g4 g5 w0) [] 12 #[true, true, false, true, true, false, true, true, false, true, true, false, false, false, false, false, false, false, false, false] (mkA a b x y r s g4 g5 (fun _ => undef) (fun _ => undef)) W := by
  refine inv_ (m := 4) (JF a b x y r s g4 g5 w0) (float_step I23 Z23 hT c0 c1 c2 c3 p0 p1 p2 p3) (fun n l A W h => ?_) (fun l A W h => ?_) 8 _ _ W ?_
  · obtain ⟨k, bs, hs, _, _, _, _, hM⟩ := h
    exact hM.si
  · obtain ⟨k, bs, hs, hk, hn, rfl, rfl, hM⟩ := h
    have t0 := Bool.toNat_le (bs 0)
    have t1 := Bool.toNat_le (bs 1)
    have t2 := Bool.toNat_le (bs 2)
    have t3 := Bool.toNat_le (bs 3)
    have e4 : k = 4 := by omega
    have e0 : bs 0 = true := by cases h : bs 0 <;> simp_all <;> omega
    have e1 : bs 1 = true := by cases h : bs 1 <;> simp_all <;> omega
    have e2 : bs 2 = true := by cases h : bs 2 <;> simp_all <;> omega
    have e3 : bs 3 = true := by cases h : bs 3 <;> simp_all <;> omega
    subst e4
    have hA : mkA a b x y r s g4 g5 (cv (Xs a b r s) 4) (pv bs hs) = mkA a b x y r s g4 g5 (fun j => .agg (av 25 (Xs a b r s j))) (fun j => match j with | 0 => .pointer (some ⟨hs 0, 0, none⟩) | 1 => .pointer (some ⟨hs 1, 0, none⟩) | 2 => .pointer (some ⟨hs 2, 0, none⟩) | _ => .pointer (some ⟨hs 3, 0, none⟩)) := by
      unfold mkA cv pv
      simp [e0, e1, e2, e3]
    rw [hA, e0, e1, e2, e3]
    exact hend (hs 0) (hs 1) (hs 2) (hs 3) W hM.si (hM.ar 0 e0) (hM.ar 1 e1) (hM.ar 2 e2) (hM.ar 3 e3) (hM.up 0 e0) (hM.up 1 e1) (hM.up 2 e2) (hM.up 3 e3)
      ⟨hM.ne 0 1 e0 e1 (by omega), hM.ne 0 2 e0 e2 (by omega), hM.ne 0 3 e0 e3 (by omega), hM.ne 1 2 e1 e2 (by omega), hM.ne 1 3 e1 e3 (by omega), hM.ne 2 3 e2 e3 (by omega)⟩
  · refine ⟨0, fun _ => false, fun _ => 0, by omega, rfl, rfl, ?_, ⟨hW, fun j h => (by cases h), fun j h => (by cases h), fun i j h => (by cases h)⟩⟩
    unfold mkA cv pv
    simp
end Go.Proofs.Ytooelompkmocnaa.T
