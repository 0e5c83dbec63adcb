/-
  No cell of these rows narrows 'for every input' (looked for: loops, veiled, ifaces, maps, wideKeys, modest, calm, conditions, laid).
  DERIVED. THE GIVEN ROWS OF THIS SEAT. 7 by the template 'for every input the law returns true; each argument reads behind the call as it read before'; 0 by the template 'total and deterministic' (their statements: YtaheabkfgohobaaTotals.lean).
  GIVEN WITH THE SEED: the statements are not yours to turn. If you find one false, say at which input.
  Laid BY PROGRAM, IN A SANDBOX (cutbox-rows.mjs): the forced cells as the released guide's own fill.sh prints them over the translation 5eb1e925adeb7825… (all of the seat's roots in one cut). By AI agents, Wed Nov 11 2026. No macro, syntax, notation, axiom, sorry.
-/
import Derived.Test.YtaheabkfgohobaaChecked
import GoSem.Claim
import GoSem.ClaimJoined
import GoSem.ClaimMapViews
import Derived.JoinedTies
import Derived.KernelRfl
namespace Go.Proofs.Ytaheabkfgohobaa
/- THE CELL 'sum', in the pinned program and in every row, IS THE sha256 OF THE DUMP (.gsa) THAT YtaheabkfgohobaaProg.lean LOADS. Nothing in Lean hashes anything: it is a label: what it is worth is what the hold of that sum in a sandbox is worth. -/
noncomputable def Try.pinned : Pinned := { name := "ytaheabkfgohobaa", sum := "5eb1e925adeb7825cd41fc670a0626d000648e1968d92c4fdd6608380b95eac9", checked := Try.checked }
namespace Rows
def none {H : Type} : Left H := { results := [], args := [] }

/-- 'chatelainelaw9.RoundBack': WHATEVER THE INPUT: true; the input reads as it did. -/
def roundBackSpec : ChangeSpec := { name := "roundBack", fn := fun _ => fun
  | [d1, d2] => { results := [.lit (.bool true)], args := [d1, d2] }
  | _ => none }
def roundBackRow : OpenClaim := { program := "ytaheabkfgohobaa", sum := "5eb1e925adeb7825cd41fc670a0626d000648e1968d92c4fdd6608380b95eac9", func := "chatelaine/chatelainelaw9.RoundBack", spec := "roundBack", apart := false }
def RoundBackSaid : Prop := roundBackRow.holds Try.pinned (OpenSpec.ofChange roundBackSpec)

/-- ITS FALSE NEIGHBOUR: 'it returns false'. Refute it at one input. -/
def roundBackWrong : ChangeSpec := { name := "roundBack", fn := fun _ => fun
  | [d1, d2] => { results := [.lit (.bool false)], args := [d1, d2] }
  | _ => none }
def RoundBackWrongFalsely : Prop := roundBackRow.holds Try.pinned (OpenSpec.ofChange roundBackWrong)

/-- 'chatelainelaw9.RoundUses': WHATEVER THE INPUT: true; the input reads as it did. -/
def roundUsesSpec : ChangeSpec := { name := "roundUses", fn := fun _ => fun
  | [d1, d2] => { results := [.lit (.bool true)], args := [d1, d2] }
  | _ => none }
def roundUsesRow : OpenClaim := { program := "ytaheabkfgohobaa", sum := "5eb1e925adeb7825cd41fc670a0626d000648e1968d92c4fdd6608380b95eac9", func := "chatelaine/chatelainelaw9.RoundUses", spec := "roundUses", apart := false }
def RoundUsesSaid : Prop := roundUsesRow.holds Try.pinned (OpenSpec.ofChange roundUsesSpec)

/-- ITS FALSE NEIGHBOUR: 'it returns false'. Refute it at one input. -/
def roundUsesWrong : ChangeSpec := { name := "roundUses", fn := fun _ => fun
  | [d1, d2] => { results := [.lit (.bool false)], args := [d1, d2] }
  | _ => none }
def RoundUsesWrongFalsely : Prop := roundUsesRow.holds Try.pinned (OpenSpec.ofChange roundUsesWrong)

/-- 'chatelainelaw9.RoundSteps': WHATEVER THE INPUT: true; the input reads as it did. -/
def roundStepsSpec : ChangeSpec := { name := "roundSteps", fn := fun _ => fun
  | [d1, d2, d3, d4] => { results := [.lit (.bool true)], args := [d1, d2, d3, d4] }
  | _ => none }
def roundStepsRow : OpenClaim := { program := "ytaheabkfgohobaa", sum := "5eb1e925adeb7825cd41fc670a0626d000648e1968d92c4fdd6608380b95eac9", func := "chatelaine/chatelainelaw9.RoundSteps", spec := "roundSteps", apart := false }
def RoundStepsSaid : Prop := roundStepsRow.holds Try.pinned (OpenSpec.ofChange roundStepsSpec)

/-- ITS FALSE NEIGHBOUR: 'it returns false'. Refute it at one input. -/
def roundStepsWrong : ChangeSpec := { name := "roundSteps", fn := fun _ => fun
  | [d1, d2, d3, d4] => { results := [.lit (.bool false)], args := [d1, d2, d3, d4] }
  | _ => none }
def RoundStepsWrongFalsely : Prop := roundStepsRow.holds Try.pinned (OpenSpec.ofChange roundStepsWrong)

/-- 'chatelainelaw9.RoundNorms': WHATEVER THE INPUT: true; the input reads as it did. -/
def roundNormsSpec : ChangeSpec := { name := "roundNorms", fn := fun _ => fun
  | [d1, d2] => { results := [.lit (.bool true)], args := [d1, d2] }
  | _ => none }
def roundNormsRow : OpenClaim := { program := "ytaheabkfgohobaa", sum := "5eb1e925adeb7825cd41fc670a0626d000648e1968d92c4fdd6608380b95eac9", func := "chatelaine/chatelainelaw9.RoundNorms", spec := "roundNorms", apart := false }
def RoundNormsSaid : Prop := roundNormsRow.holds Try.pinned (OpenSpec.ofChange roundNormsSpec)

/-- ITS FALSE NEIGHBOUR: 'it returns false'. Refute it at one input. -/
def roundNormsWrong : ChangeSpec := { name := "roundNorms", fn := fun _ => fun
  | [d1, d2] => { results := [.lit (.bool false)], args := [d1, d2] }
  | _ => none }
def RoundNormsWrongFalsely : Prop := roundNormsRow.holds Try.pinned (OpenSpec.ofChange roundNormsWrong)

/-- 'chatelainelaw9.RoundCuts': WHATEVER THE INPUT: true; the input reads as it did. -/
def roundCutsSpec : ChangeSpec := { name := "roundCuts", fn := fun _ => fun
  | [d1, d2, d3, d4] => { results := [.lit (.bool true)], args := [d1, d2, d3, d4] }
  | _ => none }
def roundCutsRow : OpenClaim := { program := "ytaheabkfgohobaa", sum := "5eb1e925adeb7825cd41fc670a0626d000648e1968d92c4fdd6608380b95eac9", func := "chatelaine/chatelainelaw9.RoundCuts", spec := "roundCuts", apart := false }
def RoundCutsSaid : Prop := roundCutsRow.holds Try.pinned (OpenSpec.ofChange roundCutsSpec)

/-- ITS FALSE NEIGHBOUR: 'it returns false'. Refute it at one input. -/
def roundCutsWrong : ChangeSpec := { name := "roundCuts", fn := fun _ => fun
  | [d1, d2, d3, d4] => { results := [.lit (.bool false)], args := [d1, d2, d3, d4] }
  | _ => none }
def RoundCutsWrongFalsely : Prop := roundCutsRow.holds Try.pinned (OpenSpec.ofChange roundCutsWrong)

/-- 'chatelainelaw9.RoundHints': WHATEVER THE INPUT: true; the input reads as it did. -/
def roundHintsSpec : ChangeSpec := { name := "roundHints", fn := fun _ => fun
  | [d1, d2, d3] => { results := [.lit (.bool true)], args := [d1, d2, d3] }
  | _ => none }
def roundHintsRow : OpenClaim := { program := "ytaheabkfgohobaa", sum := "5eb1e925adeb7825cd41fc670a0626d000648e1968d92c4fdd6608380b95eac9", func := "chatelaine/chatelainelaw9.RoundHints", spec := "roundHints", apart := false }
def RoundHintsSaid : Prop := roundHintsRow.holds Try.pinned (OpenSpec.ofChange roundHintsSpec)

/-- ITS FALSE NEIGHBOUR: 'it returns false'. Refute it at one input. -/
def roundHintsWrong : ChangeSpec := { name := "roundHints", fn := fun _ => fun
  | [d1, d2, d3] => { results := [.lit (.bool false)], args := [d1, d2, d3] }
  | _ => none }
def RoundHintsWrongFalsely : Prop := roundHintsRow.holds Try.pinned (OpenSpec.ofChange roundHintsWrong)

/-- 'chatelainelaw9.RoundTells': WHATEVER THE INPUT: true; the input reads as it did. -/
def roundTellsSpec : ChangeSpec := { name := "roundTells", fn := fun _ => fun
  | [d1, d2, d3, d4] => { results := [.lit (.bool true)], args := [d1, d2, d3, d4] }
  | _ => none }
def roundTellsRow : OpenClaim := { program := "ytaheabkfgohobaa", sum := "5eb1e925adeb7825cd41fc670a0626d000648e1968d92c4fdd6608380b95eac9", func := "chatelaine/chatelainelaw9.RoundTells", spec := "roundTells", apart := false }
def RoundTellsSaid : Prop := roundTellsRow.holds Try.pinned (OpenSpec.ofChange roundTellsSpec)

/-- ITS FALSE NEIGHBOUR: 'it returns false'. Refute it at one input. -/
def roundTellsWrong : ChangeSpec := { name := "roundTells", fn := fun _ => fun
  | [d1, d2, d3, d4] => { results := [.lit (.bool false)], args := [d1, d2, d3, d4] }
  | _ => none }
def RoundTellsWrongFalsely : Prop := roundTellsRow.holds Try.pinned (OpenSpec.ofChange roundTellsWrong)

/- THE SECOND FORM. 'bulk': how many values and letters a reading holds, each counted each time it is reached (what is shared counts as often as it is met; a slice's spare places count too). A statement '..UptoSaid' is the law's where the arguments, and the package variables that the reading takes, are together of bulk at most 1048576: NARROWER than '..Said'. Prove '..Said' where nothing that the law and all that it calls make is longer than what came in: it says more and counts as full. Else prove '..UptoSaid'. A law counts once. -/
mutual
def uptoBulk {H : Type} : DataW H → Nat
  | .lit (.string bytes) => bytes.length + 1
  | .lit _ => 1
  | .nil => 1
  | .ptr d => uptoBulk d + 1
  | .slice elems spare => uptoBulkAll elems + uptoBulkAll spare + 1
  | .agg parts => uptoBulkAll parts + 1
  | .iface _ d => uptoBulk d + 1
  | .map entries => uptoBulkEntries entries + 1
  | .held _ => 1
def uptoBulkAll {H : Type} : List (DataW H) → Nat
  | [] => 0
  | d :: r => uptoBulk d + uptoBulkAll r
def uptoBulkEntries {H : Type} : List (Lit × DataW H) → Nat
  | [] => 0
  | x :: r => uptoBulkEntry x + uptoBulkEntries r
def uptoBulkEntry {H : Type} : Lit × DataW H → Nat
  | (.string bytes, d) => bytes.length + uptoBulk d + 1
  | (_, d) => uptoBulk d + 1
 end
def uptoSmall : (H : Type) → List (DataW H) → Bool := fun _ ds => decide (uptoBulkAll ds ≤ 1048576)
def OpenSpec.upto (s : _root_.Go.ChangeSpec) : _root_.Go.OpenSpec := { _root_.Go.OpenSpec.ofChange s with cond := some uptoSmall }

/-- 'chatelainelaw9.RoundBack', WHERE WHAT IT READS IS OF BULK AT MOST 1048576: true; the input reads as it did. -/
def roundBackUptoRow : OpenClaim := { program := "ytaheabkfgohobaa", sum := "5eb1e925adeb7825cd41fc670a0626d000648e1968d92c4fdd6608380b95eac9", func := "chatelaine/chatelainelaw9.RoundBack", spec := "roundBack", apart := false, narrowed := true }
def RoundBackUptoSaid : Prop := roundBackUptoRow.holds Try.pinned (OpenSpec.upto roundBackSpec)

/-- 'chatelainelaw9.RoundUses', WHERE WHAT IT READS IS OF BULK AT MOST 1048576: true; the input reads as it did. -/
def roundUsesUptoRow : OpenClaim := { program := "ytaheabkfgohobaa", sum := "5eb1e925adeb7825cd41fc670a0626d000648e1968d92c4fdd6608380b95eac9", func := "chatelaine/chatelainelaw9.RoundUses", spec := "roundUses", apart := false, narrowed := true }
def RoundUsesUptoSaid : Prop := roundUsesUptoRow.holds Try.pinned (OpenSpec.upto roundUsesSpec)

/-- 'chatelainelaw9.RoundSteps', WHERE WHAT IT READS IS OF BULK AT MOST 1048576: true; the input reads as it did. -/
def roundStepsUptoRow : OpenClaim := { program := "ytaheabkfgohobaa", sum := "5eb1e925adeb7825cd41fc670a0626d000648e1968d92c4fdd6608380b95eac9", func := "chatelaine/chatelainelaw9.RoundSteps", spec := "roundSteps", apart := false, narrowed := true }
def RoundStepsUptoSaid : Prop := roundStepsUptoRow.holds Try.pinned (OpenSpec.upto roundStepsSpec)

/-- 'chatelainelaw9.RoundNorms', WHERE WHAT IT READS IS OF BULK AT MOST 1048576: true; the input reads as it did. -/
def roundNormsUptoRow : OpenClaim := { program := "ytaheabkfgohobaa", sum := "5eb1e925adeb7825cd41fc670a0626d000648e1968d92c4fdd6608380b95eac9", func := "chatelaine/chatelainelaw9.RoundNorms", spec := "roundNorms", apart := false, narrowed := true }
def RoundNormsUptoSaid : Prop := roundNormsUptoRow.holds Try.pinned (OpenSpec.upto roundNormsSpec)

/-- 'chatelainelaw9.RoundCuts', WHERE WHAT IT READS IS OF BULK AT MOST 1048576: true; the input reads as it did. -/
def roundCutsUptoRow : OpenClaim := { program := "ytaheabkfgohobaa", sum := "5eb1e925adeb7825cd41fc670a0626d000648e1968d92c4fdd6608380b95eac9", func := "chatelaine/chatelainelaw9.RoundCuts", spec := "roundCuts", apart := false, narrowed := true }
def RoundCutsUptoSaid : Prop := roundCutsUptoRow.holds Try.pinned (OpenSpec.upto roundCutsSpec)

/-- 'chatelainelaw9.RoundHints', WHERE WHAT IT READS IS OF BULK AT MOST 1048576: true; the input reads as it did. -/
def roundHintsUptoRow : OpenClaim := { program := "ytaheabkfgohobaa", sum := "5eb1e925adeb7825cd41fc670a0626d000648e1968d92c4fdd6608380b95eac9", func := "chatelaine/chatelainelaw9.RoundHints", spec := "roundHints", apart := false, narrowed := true }
def RoundHintsUptoSaid : Prop := roundHintsUptoRow.holds Try.pinned (OpenSpec.upto roundHintsSpec)

/-- 'chatelainelaw9.RoundTells', WHERE WHAT IT READS IS OF BULK AT MOST 1048576: true; the input reads as it did. -/
def roundTellsUptoRow : OpenClaim := { program := "ytaheabkfgohobaa", sum := "5eb1e925adeb7825cd41fc670a0626d000648e1968d92c4fdd6608380b95eac9", func := "chatelaine/chatelainelaw9.RoundTells", spec := "roundTells", apart := false, narrowed := true }
def RoundTellsUptoSaid : Prop := roundTellsUptoRow.holds Try.pinned (OpenSpec.upto roundTellsSpec)

end Rows
end Go.Proofs.Ytaheabkfgohobaa
