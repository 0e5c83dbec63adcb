/- Polys in memory, and the contracts of the printed functions, told by functions of a place. -/
import Derived.Test.YtebicdjnhogniaaPw
import Derived.Lib.Hide
import Derived.Outline
import Derived.IntWalk
import Derived.StillTailTactics
namespace Go.Proofs.Ytebicdjnhogniaa.T
open Go.RowKit Go.Proofs.Ytebicdjnhogniaa.PWaveRing Go.Proofs.YtebicdjnhogniaaW.PrintWords Go.Proofs.YtebicdjnhogniaaW.PrintLast
set_option linter.unusedVariables false
set_option linter.unusedSimpArgs false
theorem ret_int {k : IntKind} {a b : Int} (h : a = b) : Ending.returned (.int k a) = .returned (.int k b) := by rw [h]
theorem wf_bd {a : Int} (h : (Lit.int .i64 a).wf = true) : -9223372036854775808 ≤ a ∧ a ≤ 9223372036854775807 := by
  simp [Lit.wf, IntKind.min, IntKind.max, IntKind.signed, IntKind.bits] at h
  omega
theorem below_step {w W w2 : World} (h : Below w.heap.size w W) (k : Below W.heap.size W w2) : Below w.heap.size w w2 := h.trans (k.mono h.size)
theorem below_of_drawn {w w' : World} (h : Drawn0 w w') : Below w.heap.size w w' := by
  obtain ⟨n, rfl⟩ := h
  exact pw_below_drewN (Below.refl _ _) n
abbrev F := Nat → Int
def q : Int := 8380417
def PF (f : F) : Prop := ∀ i, i < 256 → 0 ≤ f i ∧ f i < 8380417
def upd (f : F) (i : Nat) (v : Int) : F := fun j => if j = i then v else f j
def ls (f : F) : List Int := (List.range 256).map f
theorem ls_len (f : F) : (ls f).length = 256 := by simp [ls]
theorem ls_get (f : F) (i : Nat) (h : i < 256) : (ls f)[i]? = some (f i) := by simp [ls, h]
theorem ls_ext {f g : F} (h : ∀ i, i < 256 → f i = g i) : ls f = ls g := by
  unfold ls
  apply List.map_congr_left
  intro i hi
  exact h i (List.mem_range.1 hi)
/-- what is read. -/
def RD (w : World) (A : Option Addr) (f : F) : Prop := ∃ ad, A = some ad ∧ ∀ i, i < 256 → w.cell? (ad.add i) = some (.int .i64 (f i))
/-- a row in a block of its own. -/
def IR (w : World) (g : Nat) (f : F) : Prop := ∃ cells, w.heap[g]? = some (.cells cells 3 (0, 0)) ∧ ∀ i, i < 256 → cells[i]? = some (.int .i64 (f i))
abbrev sl (g c : Nat) : Value := .slice (some ⟨g, 0, none⟩) 256 c
section
variable {w w1 : World} {g g' : Nat} {f f' : F} {A : Option Addr}
theorem RD.below (h : RD w A f) (hb : Below w.heap.size w w1) : RD w1 A f := by
  obtain ⟨ad, e, hc⟩ := h
  exact ⟨ad, e, fun i hi => pw_cell_below hb (hc i hi)⟩
theorem RD.ext (h : RD w A f) (he : ∀ i, i < 256 → f i = f' i) : RD w A f' := by
  obtain ⟨ad, e, hc⟩ := h
  exact ⟨ad, e, fun i hi => by rw [hc i hi, he i hi]⟩
theorem IR.lt (h : IR w g f) : g < w.heap.size := by
  obtain ⟨cs, h1, _⟩ := h
  exact (Array.getElem?_eq_some_iff.1 h1).1
theorem IR.cell (h : IR w g f) (i : Nat) (hi : i < 256) : w.cell? ⟨g, i, none⟩ = some (.int .i64 (f i)) := by
  obtain ⟨cs, h1, h2⟩ := h
  rw [cell_of_row w g i cs 3 (0, 0) h1, h2 i hi]
theorem IR.frozen (h : IR w g f) (i : Nat) : w.frozen? ⟨g, i, none⟩ = false := by
  obtain ⟨cs, h1, h2⟩ := h
  exact frozen_of_row w g i cs 3 h1
theorem IR.set (h : IR w g f) (i : Nat) (v : Int) : IR (w.setCell ⟨g, i, none⟩ (.int .i64 v)) g (upd f i v) := by
  obtain ⟨cs, h1, h2⟩ := h
  refine ⟨_, Go.heap_setCell_same w g i cs 3 _ h1, fun j hj => ?_⟩
  rw [Array.getElem?_setIfInBounds]
  unfold upd
  by_cases e : i = j
  · subst e
    have := (Array.getElem?_eq_some_iff.1 (h2 i hj)).1
    simp [this]
  · rw [if_neg e, if_neg (fun k => e k.symm), h2 j hj]
theorem IR.other (h : IR w g f) (hne : g ≠ g') (i : Nat) (v : Value) : IR (w.setCell ⟨g', i, none⟩ v) g f := by
  obtain ⟨cs, h1, h2⟩ := h
  exact ⟨cs, by rw [heap_setCell_other w _ g v hne]; exact h1, h2⟩
theorem IR.below (h : IR w g f) (hb : Below w.heap.size w w1) : IR w1 g f := by
  obtain ⟨cs, h1, h2⟩ := h
  exact ⟨cs, by rw [hb.block g (Array.getElem?_eq_some_iff.1 h1).1]; exact h1, h2⟩
theorem IR.ext (h : IR w g f) (he : ∀ i, i < 256 → f i = f' i) : IR w g f' := by
  obtain ⟨cs, h1, h2⟩ := h
  exact ⟨cs, h1, fun i hi => by rw [h2 i hi, he i hi]⟩
theorem add_at (g i : Nat) : (⟨g, 0, none⟩ : Addr).add i = ⟨g, i, none⟩ := by
  unfold Addr.add
  by_cases h : i = 0
  · subst h; rfl
  · rw [if_neg h]; simp
theorem IR.rd (h : IR w g f) : RD w (some ⟨g, 0, none⟩) f := ⟨_, rfl, fun i hi => by rw [add_at]; exact h.cell i hi⟩
theorem RD.C (h : RD w A f) : Kd.C (Kd.int .i64) w A (ls f).length (ls f) := by
  obtain ⟨ad, e, hc⟩ := h
  refine Kd.C_of_reads (enc := Value.int .i64) (d := (0 : Int)) (h1 := fun _ => rfl) ⟨rfl, by rw [ls_len]; decide, fun _ => ⟨ad, e, fun j hj => ?_⟩⟩
  rw [ls_len] at hj
  rw [hc j hj, List.getD_eq_getElem?_getD, ls_get f j hj]
  rfl
theorem ir_of_R {base : Nat} {v : Value} {xs : List Int} (h : Kd.R (Kd.int .i64) 3 w base (fun _ => True) v xs) (hl : xs.length = 256) (hx : ∀ i, i < 256 → xs[i]? = some (f i)) :
    ∃ g c, v = sl g c ∧ 256 ≤ c ∧ base ≤ g ∧ IR w g f := by
  obtain ⟨g, cap, e, hb, hlt, cells, hc⟩ := Kd.R_form h (by omega)
  subst e
  obtain ⟨_, hcap, _⟩ := Kd.R_reads' h
  rw [hl] at h hcap
  refine ⟨g, cap, by rw [hl], hcap, hb, cells, hc, fun i hi => ?_⟩
  have h2 := (Kd.R_celln (0 : Int) h (i : Int) (by omega) (by omega)).1
  rw [Int.toNat_natCast, cell_of_row w g i cells 3 (0, 0) hc] at h2
  rw [h2]
  have h3 := hx i hi
  simp [rdOf, List.getD_eq_getElem?_getD, h3]
end
/-! ### the printed functions -/
def lowS (x n : Int) : Int := (x % 18446744073709551616) % n
theorem lowS_bd (x n : Int) (h : 0 < n) : 0 ≤ lowS x n ∧ lowS x n < n := ⟨Int.emod_nonneg _ (by omega), Int.emod_lt_of_pos _ h⟩
theorem low_fact (x n : Int) (h1 : 1 ≤ n) (h2 : n ≤ 9223372036854775807) : wrap64 (Int.tmod (IntKind.u64.wrap x) n) = lowS x n ∧ (IntKind.u64.wrap n == 0) = false := by
  have e1 : IntKind.u64.wrap n = n := by simp [IntKind.wrap, IntKind.bits, IntKind.signed]; omega
  have e2 : IntKind.u64.wrap x = x % 18446744073709551616 := by simp [IntKind.wrap, IntKind.bits, IntKind.signed]
  rw [e2, e1]
  have h3 := lowS_bd x n (by omega)
  have h4 : (x % 18446744073709551616).tmod n = lowS x n := by rw [Int.tmod_eq_emod_of_nonneg (by omega)]; rfl
  rw [h4]
  exact ⟨by unfold wrap64; omega, by simp; omega⟩
theorem llow_f (x n : Int) (h1 : 1 ≤ n) (h2 : n ≤ 9223372036854775807) : chatelainelaw0_Low.f x n = some (lowS x n) := by
  have h := low_fact x n h1 h2
  have e1 : IntKind.u64.wrap n = n := by simp [IntKind.wrap, IntKind.bits, IntKind.signed]; omega
  unfold chatelainelaw0_Low.f
  rw [if_neg (by rw [e1]; omega), e1, h.1]
theorem llow_any (x n r : Int) (w : World) (h1 : 1 ≤ n) (h2 : n ≤ 9223372036854775807) (hr : lowS x n = r) :
    Calls Try.prog 18 #[.int .i64 x, .int .i64 n] w fun e w' => e = .returned (.int .i64 r) ∧ Drawn0 w w' :=
  chatelainelaw0_Low.calls x n r w (by rw [llow_f x n h1 h2, hr])
def unitS (i : Nat) : F := fun j => if j = i then 1 else 0
theorem unit_any (i : Nat) (I : Int) (w : World) (hi : i < 256) (hI : I = (i : Int)) : Calls Try.prog 19 #[.int .i64 I] w fun e w' => ∃ g c, e = .returned (sl g c) ∧ 256 ≤ c ∧ w.heap.size ≤ g ∧ IR w' g (unitS i) ∧ Below w.heap.size w w' := by
  subst hI
  have h : chatelainelaw10_unit.f (i : Int) = some ((List.replicate 256 0).set i 1) := by
    unfold chatelainelaw10_unit.f
    rw [if_pos (by omega), Option.bind_some, if_pos (by omega), if_pos (by rw [List.length_replicate]; omega), Int.toNat_natCast]
  refine (chatelainelaw10_unit.calls i _ w h).mono ?_
  rintro e w' ⟨v, rfl, hR, hB⟩
  obtain ⟨g, c, rfl, hc, hg, hI⟩ := ir_of_R (f := unitS i) hR (by rw [List.length_set, List.length_replicate]) (fun j hj => by
    rw [List.getElem?_set]
    unfold unitS
    by_cases e : i = j
    · subst e; rw [if_pos rfl, if_pos (by rw [List.length_replicate]; exact hi), if_pos rfl]
    · rw [if_neg e, if_neg (fun k => e k.symm), List.getElem?_replicate, if_pos hj])
  exact ⟨g, c, rfl, hc, hg, hI, hB⟩
theorem wrap_s {a : Int} (h1 : -9223372036854775808 ≤ a) (h2 : a ≤ 9223372036854775807) : wrap64 a = a := by unfold wrap64; omega
theorem same_ints_f (xs : List Int) (hl : xs.length < 1000000000) : Ev (fun k => chatelainelaw0_SameInts.f k xs xs) true := by
  have key : ∀ m i : Nat, i + m = xs.length → Ev (fun k => chatelainelaw0_SameInts.l0 k xs xs i) true := by
    intro m
    induction m with
    | zero =>
      intro i hi
      refine ⟨1, fun k hk => ?_⟩
      obtain ⟨k, rfl⟩ : ∃ q, k = q + 1 := ⟨k - 1, by omega⟩
      simp only [chatelainelaw0_SameInts.l0]
      rw [if_neg (by omega)]
    | succ m ih =>
      intro i hi
      refine Ev.step (f := fun k => chatelainelaw0_SameInts.l0 k xs xs ((i + 1 : Nat) : Int)) (fun k => ?_) (ih (i + 1) (by omega))
      simp only [chatelainelaw0_SameInts.l0]
      rw [if_pos (by omega), if_pos (by omega), if_pos (by omega), if_pos trivial, wrap_s (a := (i : Int) + 1) (by omega) (by omega)]
      rfl
  refine Ev.congr (fun k => ?_) (key xs.length 0 (by omega))
  simp only [chatelainelaw0_SameInts.f]
  rw [if_pos trivial]
  rfl
theorem same_any (A B : Option Addr) (c d : Nat) (f g : F) (w : World) (hA : RD w A f) (hB : RD w B g) (hc : 256 ≤ c) (hd : 256 ≤ d) (he : ∀ i, i < 256 → f i = g i) :
    Calls Try.prog 14 #[.slice A 256 c, .slice B 256 d] w fun e w' => e = .returned (.bool true) ∧ Drawn0 w w' := by
  have h1 := hA.C
  have h2 := hB.C
  rw [← ls_ext he] at h2
  obtain ⟨k, hk⟩ := (same_ints_f (ls f) (by rw [ls_len]; omega)).rounds
  have := chatelainelaw0_SameInts.calls k A c (ls f) B d (ls f) true w h1 (by rw [ls_len]; exact hc) h2 (by rw [ls_len]; exact hd) hk
  simp only [ls_len] at this
  exact this
theorem ls_set (f : F) (i : Nat) (v : Int) : (ls f).set i v = ls (upd f i v) := by
  apply List.ext_getElem?
  intro j
  by_cases hj : j < 256
  · rw [ls_get _ j hj, List.getElem?_set]
    unfold upd
    by_cases e : i = j
    · subst e; rw [if_pos rfl, if_pos (by rw [ls_len]; exact hj), if_pos rfl]
    · rw [if_neg e, if_neg (fun k => e k.symm), ls_get _ j hj]
  · rw [List.getElem?_eq_none (by rw [List.length_set, ls_len]; omega), List.getElem?_eq_none (by rw [ls_len]; omega)]
theorem ls_zero : ls (fun _ => 0) = List.replicate 256 0 := by
  apply List.ext_getElem?
  intro j
  by_cases hj : j < 256
  · rw [ls_get _ j hj, List.getElem?_replicate, if_pos hj]
  · rw [List.getElem?_eq_none (by rw [ls_len]; omega), List.getElem?_eq_none (by rw [List.length_replicate]; omega)]
/-- the poly made of numbers. -/
def lowP (xs : List Int) : F := fun i => if 0 < xs.length then lowS (wrap64 ((wrap64 ((rd xs (Int.tmod (i : Int) (xs.length : Int))) * (wrap64 ((i : Int) + 1)))) + (i : Int))) 8380417 else 0
theorem lowP_PF (xs : List Int) : PF (lowP xs) := fun i hi => by
  unfold lowP
  split
  · exact lowS_bd _ _ (by omega)
  · omega
theorem low_f (xs : List Int) (hl : xs.length < 1000000) : Ev (fun k => chatelainelaw10_low.f k xs) (ls (lowP xs)) := by
  have key : ∀ m i : Nat, i + m = 256 → Ev (fun k => chatelainelaw10_low.l0 k xs (ls (fun j => if j < i then lowP xs j else 0)) i) (ls (lowP xs)) := by
    intro m
    induction m with
    | zero =>
      intro i hi
      refine ⟨1, fun k hk => ?_⟩
      obtain ⟨k, rfl⟩ : ∃ q, k = q + 1 := ⟨k - 1, by omega⟩
      simp only [chatelainelaw10_low.l0]
      rw [if_neg (by omega)]
      exact congrArg some (ls_ext fun j hj => by rw [if_pos (by omega)])
    | succ m ih =>
      intro i hi
      by_cases h0 : 0 < xs.length
      · have hm0 : 0 ≤ Int.tmod (i : Int) (xs.length : Int) := Int.tmod_nonneg _ (by omega)
        have hm1 : Int.tmod (i : Int) (xs.length : Int) < (xs.length : Int) := Int.tmod_lt_of_pos _ (by omega)
        refine Ev.step (f := fun k => chatelainelaw10_low.l0 k xs (ls (fun j => if j < i + 1 then lowP xs j else 0)) ((i + 1 : Nat) : Int)) (fun k => ?_) (ih (i + 1) (by omega))
        simp only [chatelainelaw10_low.l0]
        rw [if_pos (by omega), if_pos (by omega), if_neg (by omega), if_pos hm0, if_pos hm1, llow_f _ _ (by omega) (by omega), Option.bind_some, if_pos (by omega), if_pos (by rw [ls_len]; omega), Int.toNat_natCast, ls_set, wrap_s (a := (i : Int) + 1) (by omega) (by omega)]
        have he : ls (upd (fun j => if j < i then lowP xs j else 0) i (lowS (wrap64 ((wrap64 ((rd xs (Int.tmod (i : Int) (xs.length : Int))) * ((i : Int) + 1))) + (i : Int))) 8380417)) = ls (fun j => if j < i + 1 then lowP xs j else 0) := ls_ext fun j hj => by
          unfold upd
          by_cases e : j = i
          · subst e
            rw [if_pos rfl, if_pos (by omega)]
            unfold lowP
            rw [if_pos h0, wrap_s (a := (j : Int) + 1) (by omega) (by omega)]
          · rw [if_neg e]
            show (if j < i then lowP xs j else 0) = _
            by_cases e2 : j < i
            · rw [if_pos e2, if_pos (by omega)]
            · rw [if_neg e2, if_neg (by omega)]
        rw [he]
        rfl
      · refine ⟨1, fun k hk => ?_⟩
        obtain ⟨k, rfl⟩ : ∃ q, k = q + 1 := ⟨k - 1, by omega⟩
        simp only [chatelainelaw10_low.l0]
        rw [if_pos (by omega), if_neg (by omega)]
        exact congrArg some (ls_ext fun j hj => by unfold lowP; rw [if_neg h0]; split <;> rfl)
  refine Ev.congr (fun k => ?_) (key 256 0 (by omega))
  simp only [chatelainelaw10_low.f]
  rw [if_pos (by omega), ← ls_zero]
  rfl
theorem low_any (A : Option Addr) (n c : Nat) (xs : List Int) (p : F) (w : World) (hC : Kd.C (Kd.int .i64) w A xs.length xs) (hn : n = xs.length) (hc : n ≤ c) (hl : xs.length < 1000000) (hp : lowP xs = p) :
    Calls Try.prog 12 #[.slice A n c] w fun e w' => ∃ g c', e = .returned (sl g c') ∧ 256 ≤ c' ∧ w.heap.size ≤ g ∧ IR w' g p ∧ Below w.heap.size w w' := by
  subst hn hp
  obtain ⟨k, hk⟩ := (low_f xs hl).rounds
  refine (chatelainelaw10_low.calls k A c xs _ w hC hc hk).mono ?_
  rintro e w' ⟨v, rfl, hR, hB⟩
  obtain ⟨g, c', rfl, hc', hg, hI⟩ := ir_of_R (f := lowP xs) hR (ls_len _) (fun j hj => ls_get _ j hj)
  exact ⟨g, c', rfl, hc', hg, hI, hB⟩
end Go.Proofs.Ytebicdjnhogniaa.T
