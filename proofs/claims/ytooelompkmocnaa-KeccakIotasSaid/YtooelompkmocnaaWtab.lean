/- The words of the rounds are the reference's. -/
import Derived.Test.YtooelompkmocnaaWords
namespace Go.Proofs.Ytooelompkmocnaa.T
open Go.RowKit
set_option linter.unusedVariables false
set_option linter.unusedSimpArgs false
set_option maxRecDepth 100000
def wtab : List Nat := [0x0000000000000001, 0x0000000000008082, 0x800000000000808A, 0x8000000080008000, 0x000000000000808B, 0x0000000080000001,
    0x8000000080008081, 0x8000000000008009, 0x000000000000008A, 0x0000000000000088, 0x0000000080008009, 0x000000008000000A,
    0x000000008000808B, 0x800000000000008B, 0x8000000000008089, 0x8000000000008003, 0x8000000000008002, 0x8000000000000080,
    0x000000000000800A, 0x800000008000000A, 0x8000000080008081, 0x8000000000008080, 0x0000000080000001, 0x8000000080008008]
theorem words_tab : ∀ i, i < 24 → words i = BitVec.ofNat 64 (wtab.getD i 0) := by decide +kernel
theorem av_words : av 24 words = (wtab.map fun (x : Nat) => Value.int .u64 (x : Int)).toArray := by
  have h : av 24 words = av 24 (fun i => BitVec.ofNat 64 (wtab.getD i 0)) := av_ext (fun i hi => words_tab i hi)
  exact h.trans (by kernel_rfl)
def iotaS (a : L) (r : Int) : L := fun j => if j = 0 ∧ 0 ≤ r ∧ r < 24 then a 0 ^^^ words r.toNat else a j
theorem iotaS_out (a : L) (r : Int) (h : ¬ (0 ≤ r ∧ r < 24)) : iotaS a r = a := by
  funext j
  unfold iotaS
  rw [if_neg (fun k => h k.2)]
theorem iotaS_in (a : L) (n : Nat) (h : n < 24) : upd a 0 (a 0 ^^^ words n) = iotaS a (n : Int) := by
  funext j
  unfold upd iotaS
  by_cases e : j = 0
  · subst e
    rw [if_pos rfl, if_pos ⟨rfl, by omega, by omega⟩]; simp
  · rw [if_neg e, if_neg (fun k => e k.1)]
section
variable {P : Program} {ops : Array Oper} {rest : List Oper} {o : Oper} {a : Act} {Q : Exit → Act → World → Prop} {W : World}
theorem build_av (hgd : o.guard = none) (T : TypeId) (parts : Array (Nat × Operand)) (ho : o.op = .build T parts) (n : Nat) (f : L) (hb : P.built T (parts.map fun (i, x) => (i, a.eval x)).toList = some (av n f))
    (h : wpList P ops Q rest (a.put o.dst (.agg (av n f))) W) : wpList P ops Q (o :: rest) a W :=
  wpList_build hgd T parts ho (by rw [hb]; rfl) (by rw [hb]; exact h)
end
end Go.Proofs.Ytooelompkmocnaa.T
