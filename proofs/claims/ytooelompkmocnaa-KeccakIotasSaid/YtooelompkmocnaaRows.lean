/-
  No cell of these rows narrows 'for every input' (looked for: loops, veiled, ifaces, maps, wideKeys, modest, calm, conditions, laid).
  DERIVED. THE GIVEN ROWS OF THIS SEAT. 6 by the template 'for every input the law returns true; each argument reads behind the call as it read before'; 0 by the template 'total and deterministic' (their statements: YtooelompkmocnaaTotals.lean).
  GIVEN WITH THE SEED: the statements are not yours to turn. If you find one false, say at which input.
  Laid BY PROGRAM, IN A SANDBOX (cutbox-rows.mjs): the forced cells as the released guide's own fill.sh prints them over the translation 7e13e8b1ab0f9c07… (all of the seat's roots in one cut). By AI agents, Wed Nov 11 2026. No macro, syntax, notation, axiom, sorry.
-/
import Derived.Test.YtooelompkmocnaaChecked
import GoSem.Claim
import GoSem.ClaimJoined
import GoSem.ClaimMapViews
import Derived.JoinedTies
import Derived.KernelRfl
namespace Go.Proofs.Ytooelompkmocnaa
/- THE CELL 'sum', in the pinned program and in every row, IS THE sha256 OF THE DUMP (.gsa) THAT YtooelompkmocnaaProg.lean LOADS. Nothing in Lean hashes anything: it is a label: what it is worth is what the hold of that sum in a sandbox is worth. -/
noncomputable def Try.pinned : Pinned := { name := "ytooelompkmocnaa", sum := "7e13e8b1ab0f9c07bcd99fce7637057f7f522988cfc0096c31f45c426c4c1244", checked := Try.checked }
namespace Rows
def none {H : Type} : Left H := { results := [], args := [] }

/-- 'chatelainelaw1.KeccakSteps': WHATEVER THE INPUT: true; the input reads as it did. -/
def keccakStepsSpec : ChangeSpec := { name := "keccakSteps", fn := fun _ => fun
  | [d1, d2] => { results := [.lit (.bool true)], args := [d1, d2] }
  | _ => none }
def keccakStepsRow : OpenClaim := { program := "ytooelompkmocnaa", sum := "7e13e8b1ab0f9c07bcd99fce7637057f7f522988cfc0096c31f45c426c4c1244", func := "chatelaine/chatelainelaw1.KeccakSteps", spec := "keccakSteps", apart := false }
def KeccakStepsSaid : Prop := keccakStepsRow.holds Try.pinned (OpenSpec.ofChange keccakStepsSpec)

/-- ITS FALSE NEIGHBOUR: 'it returns false'. Refute it at one input. -/
def keccakStepsWrong : ChangeSpec := { name := "keccakSteps", fn := fun _ => fun
  | [d1, d2] => { results := [.lit (.bool false)], args := [d1, d2] }
  | _ => none }
def KeccakStepsWrongFalsely : Prop := keccakStepsRow.holds Try.pinned (OpenSpec.ofChange keccakStepsWrong)

/-- 'chatelainelaw1.KeccakPermutes': WHATEVER THE INPUT: true; the input reads as it did. -/
def keccakPermutesSpec : ChangeSpec := { name := "keccakPermutes", fn := fun _ => fun
  | [d] => { results := [.lit (.bool true)], args := [d] }
  | _ => none }
def keccakPermutesRow : OpenClaim := { program := "ytooelompkmocnaa", sum := "7e13e8b1ab0f9c07bcd99fce7637057f7f522988cfc0096c31f45c426c4c1244", func := "chatelaine/chatelainelaw1.KeccakPermutes", spec := "keccakPermutes", apart := false }
def KeccakPermutesSaid : Prop := keccakPermutesRow.holds Try.pinned (OpenSpec.ofChange keccakPermutesSpec)

/-- ITS FALSE NEIGHBOUR: 'it returns false'. Refute it at one input. -/
def keccakPermutesWrong : ChangeSpec := { name := "keccakPermutes", fn := fun _ => fun
  | [d] => { results := [.lit (.bool false)], args := [d] }
  | _ => none }
def KeccakPermutesWrongFalsely : Prop := keccakPermutesRow.holds Try.pinned (OpenSpec.ofChange keccakPermutesWrong)

/-- 'chatelainelaw1.KeccakSums': WHATEVER THE INPUT: true; the input reads as it did. -/
def keccakSumsSpec : ChangeSpec := { name := "keccakSums", fn := fun _ => fun
  | [d1, d2] => { results := [.lit (.bool true)], args := [d1, d2] }
  | _ => none }
def keccakSumsRow : OpenClaim := { program := "ytooelompkmocnaa", sum := "7e13e8b1ab0f9c07bcd99fce7637057f7f522988cfc0096c31f45c426c4c1244", func := "chatelaine/chatelainelaw1.KeccakSums", spec := "keccakSums", apart := false }
def KeccakSumsSaid : Prop := keccakSumsRow.holds Try.pinned (OpenSpec.ofChange keccakSumsSpec)

/-- ITS FALSE NEIGHBOUR: 'it returns false'. Refute it at one input. -/
def keccakSumsWrong : ChangeSpec := { name := "keccakSums", fn := fun _ => fun
  | [d1, d2] => { results := [.lit (.bool false)], args := [d1, d2] }
  | _ => none }
def KeccakSumsWrongFalsely : Prop := keccakSumsRow.holds Try.pinned (OpenSpec.ofChange keccakSumsWrong)

/-- 'chatelainelaw1.KeccakApart': WHATEVER THE INPUT: true; the input reads as it did. -/
def keccakApartSpec : ChangeSpec := { name := "keccakApart", fn := fun _ => fun
  | [d1, d2] => { results := [.lit (.bool true)], args := [d1, d2] }
  | _ => none }
def keccakApartRow : OpenClaim := { program := "ytooelompkmocnaa", sum := "7e13e8b1ab0f9c07bcd99fce7637057f7f522988cfc0096c31f45c426c4c1244", func := "chatelaine/chatelainelaw1.KeccakApart", spec := "keccakApart", apart := false }
def KeccakApartSaid : Prop := keccakApartRow.holds Try.pinned (OpenSpec.ofChange keccakApartSpec)

/-- ITS FALSE NEIGHBOUR: 'it returns false'. Refute it at one input. -/
def keccakApartWrong : ChangeSpec := { name := "keccakApart", fn := fun _ => fun
  | [d1, d2] => { results := [.lit (.bool false)], args := [d1, d2] }
  | _ => none }
def KeccakApartWrongFalsely : Prop := keccakApartRow.holds Try.pinned (OpenSpec.ofChange keccakApartWrong)

/-- 'chatelainelaw1.KeccakIotas': WHATEVER THE INPUT: true; the input reads as it did. -/
def keccakIotasSpec : ChangeSpec := { name := "keccakIotas", fn := fun _ => fun
  | [d1, d2, d3, d4] => { results := [.lit (.bool true)], args := [d1, d2, d3, d4] }
  | _ => none }
def keccakIotasRow : OpenClaim := { program := "ytooelompkmocnaa", sum := "7e13e8b1ab0f9c07bcd99fce7637057f7f522988cfc0096c31f45c426c4c1244", func := "chatelaine/chatelainelaw1.KeccakIotas", spec := "keccakIotas", apart := false }
def KeccakIotasSaid : Prop := keccakIotasRow.holds Try.pinned (OpenSpec.ofChange keccakIotasSpec)

/-- ITS FALSE NEIGHBOUR: 'it returns false'. Refute it at one input. -/
def keccakIotasWrong : ChangeSpec := { name := "keccakIotas", fn := fun _ => fun
  | [d1, d2, d3, d4] => { results := [.lit (.bool false)], args := [d1, d2, d3, d4] }
  | _ => none }
def KeccakIotasWrongFalsely : Prop := keccakIotasRow.holds Try.pinned (OpenSpec.ofChange keccakIotasWrong)

/-- 'chatelainelaw1.KeccakMoves': WHATEVER THE INPUT: true; the input reads as it did. -/
def keccakMovesSpec : ChangeSpec := { name := "keccakMoves", fn := fun _ => fun
  | [d1, d2] => { results := [.lit (.bool true)], args := [d1, d2] }
  | _ => none }
def keccakMovesRow : OpenClaim := { program := "ytooelompkmocnaa", sum := "7e13e8b1ab0f9c07bcd99fce7637057f7f522988cfc0096c31f45c426c4c1244", func := "chatelaine/chatelainelaw1.KeccakMoves", spec := "keccakMoves", apart := false }
def KeccakMovesSaid : Prop := keccakMovesRow.holds Try.pinned (OpenSpec.ofChange keccakMovesSpec)

/-- ITS FALSE NEIGHBOUR: 'it returns false'. Refute it at one input. -/
def keccakMovesWrong : ChangeSpec := { name := "keccakMoves", fn := fun _ => fun
  | [d1, d2] => { results := [.lit (.bool false)], args := [d1, d2] }
  | _ => none }
def KeccakMovesWrongFalsely : Prop := keccakMovesRow.holds Try.pinned (OpenSpec.ofChange keccakMovesWrong)

/- THE SECOND FORM. 'bulk': how many values and letters a reading holds, each counted each time it is reached (what is shared counts as often as it is met; a slice's spare places count too). A statement '..UptoSaid' is the law's where the arguments, and the package variables that the reading takes, are together of bulk at most 1048576: NARROWER than '..Said'. Prove '..Said' where nothing that the law and all that it calls make is longer than what came in: it says more and counts as full. Else prove '..UptoSaid'. A law counts once. -/
mutual
def uptoBulk {H : Type} : DataW H → Nat
  | .lit (.string bytes) => bytes.length + 1
  | .lit _ => 1
  | .nil => 1
  | .ptr d => uptoBulk d + 1
  | .slice elems spare => uptoBulkAll elems + uptoBulkAll spare + 1
  | .agg parts => uptoBulkAll parts + 1
  | .iface _ d => uptoBulk d + 1
  | .map entries => uptoBulkEntries entries + 1
  | .held _ => 1
def uptoBulkAll {H : Type} : List (DataW H) → Nat
  | [] => 0
  | d :: r => uptoBulk d + uptoBulkAll r
def uptoBulkEntries {H : Type} : List (Lit × DataW H) → Nat
  | [] => 0
  | x :: r => uptoBulkEntry x + uptoBulkEntries r
def uptoBulkEntry {H : Type} : Lit × DataW H → Nat
  | (.string bytes, d) => bytes.length + uptoBulk d + 1
  | (_, d) => uptoBulk d + 1
 end
def uptoSmall : (H : Type) → List (DataW H) → Bool := fun _ ds => decide (uptoBulkAll ds ≤ 1048576)
def OpenSpec.upto (s : _root_.Go.ChangeSpec) : _root_.Go.OpenSpec := { _root_.Go.OpenSpec.ofChange s with cond := some uptoSmall }

/-- 'chatelainelaw1.KeccakSteps', WHERE WHAT IT READS IS OF BULK AT MOST 1048576: true; the input reads as it did. -/
def keccakStepsUptoRow : OpenClaim := { program := "ytooelompkmocnaa", sum := "7e13e8b1ab0f9c07bcd99fce7637057f7f522988cfc0096c31f45c426c4c1244", func := "chatelaine/chatelainelaw1.KeccakSteps", spec := "keccakSteps", apart := false, narrowed := true }
def KeccakStepsUptoSaid : Prop := keccakStepsUptoRow.holds Try.pinned (OpenSpec.upto keccakStepsSpec)

/-- 'chatelainelaw1.KeccakPermutes', WHERE WHAT IT READS IS OF BULK AT MOST 1048576: true; the input reads as it did. -/
def keccakPermutesUptoRow : OpenClaim := { program := "ytooelompkmocnaa", sum := "7e13e8b1ab0f9c07bcd99fce7637057f7f522988cfc0096c31f45c426c4c1244", func := "chatelaine/chatelainelaw1.KeccakPermutes", spec := "keccakPermutes", apart := false, narrowed := true }
def KeccakPermutesUptoSaid : Prop := keccakPermutesUptoRow.holds Try.pinned (OpenSpec.upto keccakPermutesSpec)

/-- 'chatelainelaw1.KeccakSums', WHERE WHAT IT READS IS OF BULK AT MOST 1048576: true; the input reads as it did. -/
def keccakSumsUptoRow : OpenClaim := { program := "ytooelompkmocnaa", sum := "7e13e8b1ab0f9c07bcd99fce7637057f7f522988cfc0096c31f45c426c4c1244", func := "chatelaine/chatelainelaw1.KeccakSums", spec := "keccakSums", apart := false, narrowed := true }
def KeccakSumsUptoSaid : Prop := keccakSumsUptoRow.holds Try.pinned (OpenSpec.upto keccakSumsSpec)

/-- 'chatelainelaw1.KeccakApart', WHERE WHAT IT READS IS OF BULK AT MOST 1048576: true; the input reads as it did. -/
def keccakApartUptoRow : OpenClaim := { program := "ytooelompkmocnaa", sum := "7e13e8b1ab0f9c07bcd99fce7637057f7f522988cfc0096c31f45c426c4c1244", func := "chatelaine/chatelainelaw1.KeccakApart", spec := "keccakApart", apart := false, narrowed := true }
def KeccakApartUptoSaid : Prop := keccakApartUptoRow.holds Try.pinned (OpenSpec.upto keccakApartSpec)

/-- 'chatelainelaw1.KeccakIotas', WHERE WHAT IT READS IS OF BULK AT MOST 1048576: true; the input reads as it did. -/
def keccakIotasUptoRow : OpenClaim := { program := "ytooelompkmocnaa", sum := "7e13e8b1ab0f9c07bcd99fce7637057f7f522988cfc0096c31f45c426c4c1244", func := "chatelaine/chatelainelaw1.KeccakIotas", spec := "keccakIotas", apart := false, narrowed := true }
def KeccakIotasUptoSaid : Prop := keccakIotasUptoRow.holds Try.pinned (OpenSpec.upto keccakIotasSpec)

/-- 'chatelainelaw1.KeccakMoves', WHERE WHAT IT READS IS OF BULK AT MOST 1048576: true; the input reads as it did. -/
def keccakMovesUptoRow : OpenClaim := { program := "ytooelompkmocnaa", sum := "7e13e8b1ab0f9c07bcd99fce7637057f7f522988cfc0096c31f45c426c4c1244", func := "chatelaine/chatelainelaw1.KeccakMoves", spec := "keccakMoves", apart := false, narrowed := true }
def KeccakMovesUptoSaid : Prop := keccakMovesUptoRow.holds Try.pinned (OpenSpec.upto keccakMovesSpec)

end Rows
end Go.Proofs.Ytooelompkmocnaa
