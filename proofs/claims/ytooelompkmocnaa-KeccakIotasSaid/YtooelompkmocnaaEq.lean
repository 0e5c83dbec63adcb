/- Wide loads, and '==' of arrays of words, as single operations. -/
import Derived.Test.YtooelompkmocnaaIo
import Derived.ChangeKeysEq
import Derived.Laws.StructEq
import Derived.Test.YtooelompkmocnaaWTab
namespace Go.Proofs.Ytooelompkmocnaa.T
open Go.RowKit
open Go.Proofs.YtooelompkmocnaaW.PrintWords Go.Proofs.YtooelompkmocnaaW.PrintLast
set_option linter.unusedVariables false
set_option linter.unusedSimpArgs false
def eqA (f g : L) : Bool := decide (∀ i ∈ List.range 25, f i = g i)
theorem eqA_iff (f g : L) : eqA f g = true ↔ ∀ i, i < 25 → f i = g i := by
  unfold eqA
  rw [decide_eq_true_iff]
  exact ⟨fun h i hi => h i (List.mem_range.2 hi), fun h i hi => h i (List.mem_range.1 hi)⟩
theorem exec_load_av {P : Program} {o : Oper} {a : Act} {W : World} {ty : TypeId} {x : Operand} {g n : Nat} {T : TypeId} {f : L} {d : TypeDesc} (ho : o.op = .load ty x) (hx : a.eval x = .pointer (some ⟨g, 0, none⟩)) (hA : AR W g T n f)
    (hu : P.underlying ty = some d) (hd : (match d with | .struct _ | .array _ _ => true | _ => false) = true) (hi : (P.info? ty).map (·.size) = some n) :
    (execOp a.eval o).run P W = .ok (.value (.agg (av n f))) W := by
  unfold execOp
  simp only [ho, hx, Instr.loadAt, Instr.sureAddr, Sem.run_bind, Sem.run_pure, Result.andThen_ok, run_loadVar_row W g T ty (av n f) (0, 0) d hA hu hd (by rw [av_size]; exact hi)]
theorem und22 : Try.prog.underlying 22 = some (.int .u64) := by kernel_rfl
theorem und23 : Try.prog.underlying 23 = some (.array 25 22) := by kernel_rfl
theorem cells22 : Try.prog.cellsOf 22 = 1 := by kernel_rfl
theorem run_part_av (f : L) (i : Nat) (hi : i < 25) (w : World) : (part 22 (av 25 f) (i * Try.prog.cellsOf 22)).run Try.prog w = .ok (enc (f i)) w := by
  obtain ⟨ie, hie, hsz⟩ := Option.map_eq_some_iff.1 info22
  rw [cells22, Nat.mul_one]
  have hg := av_get 25 f i hi
  simp [part, isAgg, run_underlying und22, hg, enc]
theorem run_equalIn_enc (d : Nat) (x y : BitVec 64) (w : World) : (Op.equalIn (d + 1) 22 (enc x) (enc y)).run Try.prog w = .ok (decide (x = y)) w := by
  have e : (((x.toNat : Int)) == (y.toNat : Int)) = decide (x = y) := by
    by_cases h : x = y
    · subst h; simp
    · rw [decide_eq_false h, beq_eq_false_iff_ne]
      intro k
      exact h (BitVec.eq_of_toNat_eq (by omega))
  simp [Op.equalIn, enc, run_underlying und22, e]
theorem run_eqItems_av (d : Nat) (f g : L) (w : World) : ∀ is : List Nat, (∀ i ∈ is, i < 25) → (Op.eqItems (d + 1) 22 (Try.prog.cellsOf 22) (av 25 f) (av 25 g) is).run Try.prog w = .ok (decide (∀ i ∈ is, f i = g i)) w
  | [], _ => by simp [Op.eqItems]
  | i :: is, h => by
    have ih := run_eqItems_av d f g w is (fun j hj => h j (List.mem_cons_of_mem _ hj))
    have hi := h i (List.mem_cons_self ..)
    simp only [Op.eqItems, Sem.run_bind, run_part_av f i hi, run_part_av g i hi, run_equalIn_enc, Result.andThen_ok]
    by_cases e : f i = g i
    · simp [e, ih]
    · simp [e]
theorem run_equalIn_av (f g : L) (w : World) : (Op.equalIn 10000 23 (.agg (av 25 f)) (.agg (av 25 g))).run Try.prog w = .ok (eqA f g) w := by
  obtain ⟨ie, hie, hsz⟩ := Option.map_eq_some_iff.1 info22
  rw [run_equalIn_array w 9999 (av 25 f) (av 25 g) und23 hie, run_eqItems_av 9998 f g w (List.range 25) (fun i hi => List.mem_range.1 hi)]
  rfl
theorem guard23 : Try.prog.eqGuardType Try.prog.depth 23 = false := by kernel_rfl
theorem exec_eq_av {o : Oper} {a : Act} {W : World} {x y : Operand} {f g : L} {t : TypeId} (ho : o.op = .binOp .eql 23 x y t) (hx : a.eval x = .agg (av 25 f)) (hy : a.eval y = .agg (av 25 g)) :
    (execOp a.eval o).run Try.prog W = .ok (.value (.bool (eqA f g))) W := by
  unfold execOp
  simp [ho, hx, hy, run_eqGuard_agg, guard23, run_eql_struct, run_equalIn_av]
theorem eqA_refl (f : L) : eqA f f = true := (eqA_iff f f).2 fun _ _ => rfl
theorem exec_same_av {o : Oper} {a : Act} {W : World} {x y : Operand} {f : L} {t : TypeId} (ho : o.op = .binOp .eql 23 x y t) (hx : a.eval x = .agg (av 25 f)) (hy : a.eval y = .agg (av 25 f)) :
    (execOp a.eval o).run Try.prog W = .ok (.value (.bool true)) W := by
  rw [exec_eq_av ho hx hy, eqA_refl]
theorem exec_store_av {P : Program} {o : Oper} {a : Act} {W : World} {ty : TypeId} {x y : Operand} {g n : Nat} {T : TypeId} {f f' : L} (ho : o.op = .store ty x y) (hx : a.eval x = .pointer (some ⟨g, 0, none⟩)) (hy : a.eval y = .agg (av n f')) (hA : AR W g T n f) (hi : (P.info? ty).map (·.size) = some n) :
    (execOp a.eval o).run P W = .ok .skip (W.setRow g (av n f')) := by
  unfold execOp
  simp only [ho, hx, hy, Instr.storeAt, Instr.sureAddr, Sem.run_bind, Sem.run_pure, Result.andThen_ok, run_storeVar_row W g T ty (av n f) (av n f') hA (by rw [av_size]; exact hi) (by rw [av_size, av_size]) (av_one n f')]
theorem und35 : Try.prog.underlying 35 = some (.array 24 22) := by kernel_rfl
theorem exec_index_av {o : Oper} {a : Act} {W : World} {x y : Operand} {n : Nat} {T : TypeId} {f : L} {i : Nat} {I : Int} (ho : o.op = .index T x y) (hx : a.eval x = .agg (av n f)) (hy : a.eval y = .int .i64 I) (hI : I = (i : Int)) (hi : i < n) (hu : Try.prog.underlying T = some (.array n 22)) :
    (execOp a.eval o).run Try.prog W = .ok (.value (.int .u64 ((f i).toNat : Int))) W := by
  subst hI
  unfold execOp
  simp only [ho, hx, hy, Sem.run_bind, run_index_av T 22 n f i hi hu und22 info22 W, Result.andThen_ok]
  rfl
theorem wpList_index_av {ops : Array Oper} {rest : List Oper} {o : Oper} {a : Act} {w : World} {Q : Exit → Act → World → Prop} (hgd : o.guard = none) (T : TypeId) (x y : Operand) (ho : o.op = .index T x y) (n : Nat) (f : L) (i : Nat) (hx : a.eval x = .agg (av n f)) (I : Int) (hy : a.eval y = .int .i64 I) (hI : I = (i : Int)) (hi : i < n) (hu : Try.prog.underlying T = some (.array n 22))
    (h : wpList Try.prog ops Q rest (a.put o.dst (.int .u64 ((f i).toNat : Int))) w) : wpList Try.prog ops Q (o :: rest) a w := by
  refine wpList_plain hgd fun K hK => ?_
  unfold Oper.wp
  rw [exec_index_av ho hx hy hI hi hu]
  exact hK _ _ h
end Go.Proofs.Ytooelompkmocnaa.T
