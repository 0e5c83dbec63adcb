/- What every walk of this seat begins with: the library's modules; arrays of words in memory, told by a function. -/
import Derived.Test.YtooelompkmocnaaProg
import Derived.Below
import Derived.Deep.Draws
import Derived.Tactics
import Derived.Laws.Slices
import Derived.Laws.Rows
import Derived.Laws.Tables
import Derived.WalkKit
import Derived.KernelRfl
import Derived.RowKit3
import Derived.Deep.LoopGhost
import Derived.Deep.QuietTactic
import Derived.BigQuiet
import Derived.WideLaws
import Derived.Deep.DeepCutAuto
import Derived.Deep.CutBlock
import Derived.Laws.BitsLemmas
import Derived.RowKit
import Derived.Outline
import Derived.Lib.Hide
import Derived.StillTailTactics
import Derived.DeepKeys
namespace Go.Proofs.Ytooelompkmocnaa.T
open Go.RowKit
set_option linter.unusedVariables false
structure Drawn0 (w w' : World) : Prop where mk :: (out : ∃ n, w' = w.drewN n)
theorem Drawn0.refl (w : World) : Drawn0 w w := ⟨⟨0, rfl⟩⟩
theorem Drawn0.drewN (w : World) (n : Nat) : Drawn0 w (w.drewN n) := ⟨⟨n, rfl⟩⟩
theorem ret_int {k : IntKind} {a b : Int} (h : a = b) : Ending.returned (.int k a) = .returned (.int k b) := by rw [h]
theorem below_drewN {B : Nat} {a w : World} (h : Below B a w) (n : Nat) : Below B a (w.drewN n) := ⟨h.os, h.tape, h.output, h.size, h.block⟩
theorem below_step {w W w2 : World} (h : Below w.heap.size w W) (k : Below W.heap.size W w2) : Below w.heap.size w w2 := h.trans (k.mono h.size)
/-! ### arrays of words -/
abbrev L := Nat → BitVec 64
def enc (x : BitVec 64) : Value := .int .u64 (x.toNat : Int)
def av (n : Nat) (f : L) : Array Value := ((List.range n).map fun i => enc (f i)).toArray
def upd (f : L) (i : Nat) (v : BitVec 64) : L := fun j => if j = i then v else f j
theorem av_size (n : Nat) (f : L) : (av n f).size = n := by simp [av]
theorem av_get (n : Nat) (f : L) (i : Nat) (h : i < n) : (av n f)[i]? = some (enc (f i)) := by simp [av, h]
theorem av_ext {n : Nat} {f g : L} (h : ∀ i, i < n → f i = g i) : av n f = av n g := by
  unfold av
  congr 1
  apply List.map_congr_left
  intro i hi
  rw [h i (List.mem_range.1 hi)]
theorem enc_inj {x y : BitVec 64} (h : enc x = enc y) : x = y := by
  unfold enc at h
  injection h with _ h
  exact BitVec.eq_of_toNat_eq (by omega)
theorem av_inj {n : Nat} {f g : L} (h : av n f = av n g) (i : Nat) (hi : i < n) : f i = g i := by
  have h1 := av_get n f i hi
  rw [h, av_get n g i hi] at h1
  exact (enc_inj (Option.some.inj h1)).symm
theorem av_set (n : Nat) (f : L) (i : Nat) (v : BitVec 64) : (av n f).setIfInBounds i (enc v) = av n (upd f i v) := by
  apply Array.ext_getElem?
  intro j
  rw [Array.getElem?_setIfInBounds]
  by_cases hj : j < n
  · rw [av_get n _ j hj, av_get n _ j hj, av_size]
    unfold upd
    by_cases e : i = j
    · subst e; simp [hj]
    · rw [if_neg e, if_neg (fun h => e h.symm)]
  · have h1 : (av n f)[j]? = none := by rw [Array.getElem?_eq_none]; rw [av_size]; omega
    have h2 : (av n (upd f i v))[j]? = none := by rw [Array.getElem?_eq_none]; rw [av_size]; omega
    rw [h1, h2, av_size]
    split
    · rename_i e; subst e; simp [hj]
    · rfl
theorem av_one (n : Nat) (f : L) : (av n f).all (·.oneCell') = true := by
  rw [Array.all_eq_true]
  intro i h
  simp [av, enc, Value.oneCell']
/-- an array of words in a block of its own. -/
def AR (w : World) (g : Nat) (T : TypeId) (n : Nat) (f : L) : Prop := w.heap[g]? = some (.cells (av n f) T (0, 0))
section
variable {w w1 : World} {g g' n : Nat} {T : TypeId} {f : L}
theorem AR.lt (h : AR w g T n f) : g < w.heap.size := by
  unfold AR at h
  exact (Array.getElem?_eq_some_iff.1 h).1
theorem AR.cell (h : AR w g T n f) (i : Nat) (hi : i < n) : w.cell? ⟨g, i, none⟩ = some (.int .u64 ((f i).toNat : Int)) := by
  rw [cell_of_row w g i _ T (0, 0) h, av_get n f i hi]; rfl
theorem AR.frozen (h : AR w g T n f) (i : Nat) : w.frozen? ⟨g, i, none⟩ = false := frozen_of_row w g i _ T h
theorem AR.set (h : AR w g T n f) (i : Nat) (v : BitVec 64) : AR (w.setCell ⟨g, i, none⟩ (.int .u64 (v.toNat : Int))) g T n (upd f i v) := by
  have := heap_setCell_same w g i _ T (enc v) h
  rw [av_set] at this
  exact this
theorem AR.other (h : AR w g T n f) (hne : g ≠ g') (i : Nat) (v : Value) : AR (w.setCell ⟨g', i, none⟩ v) g T n f := by
  unfold AR
  rw [heap_setCell_other w _ g v hne]
  exact h
theorem AR.below (h : AR w g T n f) (hb : Below w.heap.size w w1) : AR w1 g T n f := by
  unfold AR
  rw [hb.block g h.lt]
  exact h
theorem AR.drewN (h : AR w g T n f) (m : Nat) : AR (w.drewN m) g T n f := h
theorem AR.ext {f' : L} (h : AR w g T n f) (he : ∀ i, i < n → f i = f' i) : AR w g T n f' := by
  unfold AR at *
  rw [h, av_ext he]
end
section
variable {P : Program} {ops : Array Oper} {rest : List Oper} {o : Oper} {a : Act} {Q : Exit → Act → World → Prop} {W : World}
theorem gate_dst {N : Tmp} (_hN : o.dst = some N) (h : wpList P ops Q (o :: rest) a W) : wpList P ops Q (o :: rest) a W := h
theorem gate_store {t : TypeId} {p : Tmp} {v : Operand} (_ho : o.op = .store t (.tmp p) v) (h : wpList P ops Q (o :: rest) a W) : wpList P ops Q (o :: rest) a W := h
theorem box_av (hgd : o.guard = none) (T : TypeId) (x : Operand) (ho : o.op = .box T x) (n : Nat) (f : L) (hx : a.eval x = .agg (av n f))
    (h : ∀ g w1, AR w1 g T n f → Below W.heap.size W w1 → W.heap.size ≤ g → g < w1.heap.size → wpList P ops Q rest (a.put o.dst (.pointer (some ⟨g, 0, none⟩))) w1) : wpList P ops Q (o :: rest) a W := by
  refine wpList_plain hgd fun K hK => ?_
  have hr : (execOp a.eval o).run P W = .ok (.value (.pointer (some ⟨W.heap.size, 0, none⟩))) (W.alloc (.cells (av n f) T)) := by
    simp [execOp, ho, hx, Instr.box, newVar, newRow, Value.cells]
  unfold Oper.wp
  rw [hr]
  exact hK _ _ (h _ _ (heap_alloc_new W _) ((Below.refl _ _).alloc (Nat.le_refl _) _) (Nat.le_refl _) (by simp))
theorem alloc_av (hgd : o.guard = none) (T : TypeId) (ho : o.op = .alloc T) (n : Nat) (i : TypeInfo) (z : Value) (hi : P.info? T = some i) (hz : i.zero = some z) (hc : z.cells = av n (fun _ => 0))
    (h : ∀ g w1, AR w1 g T n (fun _ => 0) → Below W.heap.size W w1 → W.heap.size ≤ g → g < w1.heap.size → wpList P ops Q rest (a.put o.dst (.pointer (some ⟨g, 0, none⟩))) w1) : wpList P ops Q (o :: rest) a W := by
  refine wpList_plain hgd fun K hK => ?_
  have hr : (execOp a.eval o).run P W = .ok (.value (.pointer (some ⟨W.heap.size, 0, none⟩))) (W.alloc (.cells (av n (fun _ => 0)) T)) := by
    simp [execOp, ho, Instr.alloc, newVar, newRow, zeroValue, typeInfo, hi, hz, hc]
  unfold Oper.wp
  rw [hr]
  exact hK _ _ (h _ _ (heap_alloc_new W _) ((Below.refl _ _).alloc (Nat.le_refl _) _) (Nat.le_refl _) (by simp))
theorem setRow_AR {w : World} {g n : Nat} {T : TypeId} {f f' : L} (h : AR w g T n f) : AR (w.setRow g (av n f')) g T n f' := setRow_heap w g _ _ T _ h
theorem setRow_other_AR {w : World} {g g' n : Nat} {T : TypeId} {f : L} {cs : Array Value} (h : AR w g T n f) (hne : g ≠ g') : AR (w.setRow g' cs) g T n f := by
  unfold AR
  rw [setRow_other w g' g cs hne]
  exact h
theorem below_setRow {B : Nat} {w W : World} (h : Below B w W) {g : Nat} (hg : B ≤ g) (cs : Array Value) : Below B w (W.setRow g cs) := by
  refine ⟨h.os, h.tape, h.output, ?_, fun i hi => ?_⟩
  · rw [size_setRow]; exact h.size
  · rw [setRow_other W g i cs (by omega)]; exact h.block i hi
theorem store_av (hgd : o.guard = none) (hd : o.dst = none) (ty : TypeId) (x y : Operand) (ho : o.op = .store ty x y) (g n : Nat) (T : TypeId) (f f' : L) (hx : a.eval x = .pointer (some ⟨g, 0, none⟩)) (hy : a.eval y = .agg (av n f')) (hA : AR W g T n f) (hi : (P.info? ty).map (·.size) = some n)
    (h : ∀ w1, AR w1 g T n f' → (∀ g' T' n' f'', AR W g' T' n' f'' → g' ≠ g → AR w1 g' T' n' f'') → (∀ B w0, Below B w0 W → B ≤ g → Below B w0 w1) → wpList P ops Q rest a w1) : wpList P ops Q (o :: rest) a W := by
  refine wpList_store_row hgd ty x y ho g (av n f') hx hy T _ hA (by rw [av_size]; exact hi) (by rw [av_size, av_size]) (av_one n f') ?_
  rw [hd]
  exact h _ (setRow_AR hA) (fun g' T' n' f'' h' hne => setRow_other_AR h' hne) (fun B w0 hb hg => below_setRow hb hg _)
theorem load_av (hgd : o.guard = none) (ty : TypeId) (x : Operand) (ho : o.op = .load ty x) (g n : Nat) (T : TypeId) (f : L) (d : TypeDesc) (hx : a.eval x = .pointer (some ⟨g, 0, none⟩)) (hA : AR W g T n f)
    (hu : P.underlying ty = some d) (hd : (match d with | .struct _ | .array _ _ => true | _ => false) = true) (hi : (P.info? ty).map (·.size) = some n)
    (h : wpList P ops Q rest (a.put o.dst (.agg (av n f))) W) : wpList P ops Q (o :: rest) a W :=
  wpList_load_row hgd ty x ho g hx T _ (0, 0) d hA hu hd (by rw [av_size]; exact hi) h
end
end Go.Proofs.Ytooelompkmocnaa.T
