/-
  No cell of these rows narrows 'for every input' (looked for: loops, veiled, ifaces, maps, wideKeys, modest, calm, conditions, laid).
  DERIVED. THE GIVEN ROWS OF THIS SEAT. 8 by the template 'for every input the law returns true; each argument reads behind the call as it read before'; 0 by the template 'total and deterministic' (their statements: YtebicdjnhogniaaTotals.lean).
  GIVEN WITH THE SEED: the statements are not yours to turn. If you find one false, say at which input.
  Laid BY PROGRAM, IN A SANDBOX (cutbox-rows.mjs): the forced cells as the released guide's own fill.sh prints them over the translation ec3beb40e0a05931… (all of the seat's roots in one cut). By AI agents, Wed Nov 11 2026. No macro, syntax, notation, axiom, sorry.
-/
import Derived.Test.YtebicdjnhogniaaChecked
import GoSem.Claim
import GoSem.ClaimJoined
import GoSem.ClaimMapViews
import Derived.JoinedTies
import Derived.KernelRfl
namespace Go.Proofs.Ytebicdjnhogniaa
/- THE CELL 'sum', in the pinned program and in every row, IS THE sha256 OF THE DUMP (.gsa) THAT YtebicdjnhogniaaProg.lean LOADS. Nothing in Lean hashes anything: it is a label: what it is worth is what the hold of that sum in a sandbox is worth. -/
noncomputable def Try.pinned : Pinned := { name := "ytebicdjnhogniaa", sum := "ec3beb40e0a05931603ae09d72d688b3b05085b05f68b4b6634e4a5ded8e03a1", checked := Try.checked }
namespace Rows
def none {H : Type} : Left H := { results := [], args := [] }

/-- 'chatelainelaw10.WaveBack': WHATEVER THE INPUT: true; the input reads as it did. -/
def waveBackSpec : ChangeSpec := { name := "waveBack", fn := fun _ => fun
  | [d1, d2] => { results := [.lit (.bool true)], args := [d1, d2] }
  | _ => none }
def waveBackRow : OpenClaim := { program := "ytebicdjnhogniaa", sum := "ec3beb40e0a05931603ae09d72d688b3b05085b05f68b4b6634e4a5ded8e03a1", func := "chatelaine/chatelainelaw10.WaveBack", spec := "waveBack", unfollowed := true, recurses := true, apart := false }
def WaveBackSaid : Prop := waveBackRow.holds Try.pinned (OpenSpec.ofChange waveBackSpec)

/-- ITS FALSE NEIGHBOUR: 'it returns false'. Refute it at one input. -/
def waveBackWrong : ChangeSpec := { name := "waveBack", fn := fun _ => fun
  | [d1, d2] => { results := [.lit (.bool false)], args := [d1, d2] }
  | _ => none }
def WaveBackWrongFalsely : Prop := waveBackRow.holds Try.pinned (OpenSpec.ofChange waveBackWrong)

/-- 'chatelainelaw10.WaveUnits': WHATEVER THE INPUT: true; the input reads as it did. -/
def waveUnitsSpec : ChangeSpec := { name := "waveUnits", fn := fun _ => fun
  | [d] => { results := [.lit (.bool true)], args := [d] }
  | _ => none }
def waveUnitsRow : OpenClaim := { program := "ytebicdjnhogniaa", sum := "ec3beb40e0a05931603ae09d72d688b3b05085b05f68b4b6634e4a5ded8e03a1", func := "chatelaine/chatelainelaw10.WaveUnits", spec := "waveUnits", unfollowed := true, recurses := true, apart := false }
def WaveUnitsSaid : Prop := waveUnitsRow.holds Try.pinned (OpenSpec.ofChange waveUnitsSpec)

/-- ITS FALSE NEIGHBOUR: 'it returns false'. Refute it at one input. -/
def waveUnitsWrong : ChangeSpec := { name := "waveUnits", fn := fun _ => fun
  | [d] => { results := [.lit (.bool false)], args := [d] }
  | _ => none }
def WaveUnitsWrongFalsely : Prop := waveUnitsRow.holds Try.pinned (OpenSpec.ofChange waveUnitsWrong)

/-- 'chatelainelaw10.WaveTurns': WHATEVER THE INPUT: true; the input reads as it did. -/
def waveTurnsSpec : ChangeSpec := { name := "waveTurns", fn := fun _ => fun
  | [d1, d2] => { results := [.lit (.bool true)], args := [d1, d2] }
  | _ => none }
def waveTurnsRow : OpenClaim := { program := "ytebicdjnhogniaa", sum := "ec3beb40e0a05931603ae09d72d688b3b05085b05f68b4b6634e4a5ded8e03a1", func := "chatelaine/chatelainelaw10.WaveTurns", spec := "waveTurns", unfollowed := true, recurses := true, apart := false }
def WaveTurnsSaid : Prop := waveTurnsRow.holds Try.pinned (OpenSpec.ofChange waveTurnsSpec)

/-- ITS FALSE NEIGHBOUR: 'it returns false'. Refute it at one input. -/
def waveTurnsWrong : ChangeSpec := { name := "waveTurns", fn := fun _ => fun
  | [d1, d2] => { results := [.lit (.bool false)], args := [d1, d2] }
  | _ => none }
def WaveTurnsWrongFalsely : Prop := waveTurnsRow.holds Try.pinned (OpenSpec.ofChange waveTurnsWrong)

/-- 'chatelainelaw10.WaveProducts': WHATEVER THE INPUT: true; the input reads as it did. -/
def waveProductsSpec : ChangeSpec := { name := "waveProducts", fn := fun _ => fun
  | [d1, d2, d3] => { results := [.lit (.bool true)], args := [d1, d2, d3] }
  | _ => none }
def waveProductsRow : OpenClaim := { program := "ytebicdjnhogniaa", sum := "ec3beb40e0a05931603ae09d72d688b3b05085b05f68b4b6634e4a5ded8e03a1", func := "chatelaine/chatelainelaw10.WaveProducts", spec := "waveProducts", unfollowed := true, recurses := true, apart := false }
def WaveProductsSaid : Prop := waveProductsRow.holds Try.pinned (OpenSpec.ofChange waveProductsSpec)

/-- ITS FALSE NEIGHBOUR: 'it returns false'. Refute it at one input. -/
def waveProductsWrong : ChangeSpec := { name := "waveProducts", fn := fun _ => fun
  | [d1, d2, d3] => { results := [.lit (.bool false)], args := [d1, d2, d3] }
  | _ => none }
def WaveProductsWrongFalsely : Prop := waveProductsRow.holds Try.pinned (OpenSpec.ofChange waveProductsWrong)

/-- 'chatelainelaw10.WavePolys': WHATEVER THE INPUT: true; the input reads as it did. -/
def wavePolysSpec : ChangeSpec := { name := "wavePolys", fn := fun _ => fun
  | [d1, d2] => { results := [.lit (.bool true)], args := [d1, d2] }
  | _ => none }
def wavePolysRow : OpenClaim := { program := "ytebicdjnhogniaa", sum := "ec3beb40e0a05931603ae09d72d688b3b05085b05f68b4b6634e4a5ded8e03a1", func := "chatelaine/chatelainelaw10.WavePolys", spec := "wavePolys", unfollowed := true, recurses := true, apart := false }
def WavePolysSaid : Prop := wavePolysRow.holds Try.pinned (OpenSpec.ofChange wavePolysSpec)

/-- ITS FALSE NEIGHBOUR: 'it returns false'. Refute it at one input. -/
def wavePolysWrong : ChangeSpec := { name := "wavePolys", fn := fun _ => fun
  | [d1, d2] => { results := [.lit (.bool false)], args := [d1, d2] }
  | _ => none }
def WavePolysWrongFalsely : Prop := wavePolysRow.holds Try.pinned (OpenSpec.ofChange wavePolysWrong)

/-- 'chatelainelaw10.WaveRing': WHATEVER THE INPUT: true; the input reads as it did. -/
def waveRingSpec : ChangeSpec := { name := "waveRing", fn := fun _ => fun
  | [d1, d2, d3] => { results := [.lit (.bool true)], args := [d1, d2, d3] }
  | _ => none }
def waveRingRow : OpenClaim := { program := "ytebicdjnhogniaa", sum := "ec3beb40e0a05931603ae09d72d688b3b05085b05f68b4b6634e4a5ded8e03a1", func := "chatelaine/chatelainelaw10.WaveRing", spec := "waveRing", unfollowed := true, recurses := true, apart := false }
def WaveRingSaid : Prop := waveRingRow.holds Try.pinned (OpenSpec.ofChange waveRingSpec)

/-- ITS FALSE NEIGHBOUR: 'it returns false'. Refute it at one input. -/
def waveRingWrong : ChangeSpec := { name := "waveRing", fn := fun _ => fun
  | [d1, d2, d3] => { results := [.lit (.bool false)], args := [d1, d2, d3] }
  | _ => none }
def WaveRingWrongFalsely : Prop := waveRingRow.holds Try.pinned (OpenSpec.ofChange waveRingWrong)

/-- 'chatelainelaw10.WaveDots': WHATEVER THE INPUT: true; the input reads as it did. -/
def waveDotsSpec : ChangeSpec := { name := "waveDots", fn := fun _ => fun
  | [d1, d2, d3, d4] => { results := [.lit (.bool true)], args := [d1, d2, d3, d4] }
  | _ => none }
def waveDotsRow : OpenClaim := { program := "ytebicdjnhogniaa", sum := "ec3beb40e0a05931603ae09d72d688b3b05085b05f68b4b6634e4a5ded8e03a1", func := "chatelaine/chatelainelaw10.WaveDots", spec := "waveDots", unfollowed := true, recurses := true, apart := false }
def WaveDotsSaid : Prop := waveDotsRow.holds Try.pinned (OpenSpec.ofChange waveDotsSpec)

/-- ITS FALSE NEIGHBOUR: 'it returns false'. Refute it at one input. -/
def waveDotsWrong : ChangeSpec := { name := "waveDots", fn := fun _ => fun
  | [d1, d2, d3, d4] => { results := [.lit (.bool false)], args := [d1, d2, d3, d4] }
  | _ => none }
def WaveDotsWrongFalsely : Prop := waveDotsRow.holds Try.pinned (OpenSpec.ofChange waveDotsWrong)

/-- 'chatelainelaw10.WaveTells': WHATEVER THE INPUT: true; the input reads as it did. -/
def waveTellsSpec : ChangeSpec := { name := "waveTells", fn := fun _ => fun
  | [d1, d2, d3] => { results := [.lit (.bool true)], args := [d1, d2, d3] }
  | _ => none }
def waveTellsRow : OpenClaim := { program := "ytebicdjnhogniaa", sum := "ec3beb40e0a05931603ae09d72d688b3b05085b05f68b4b6634e4a5ded8e03a1", func := "chatelaine/chatelainelaw10.WaveTells", spec := "waveTells", unfollowed := true, recurses := true, apart := false }
def WaveTellsSaid : Prop := waveTellsRow.holds Try.pinned (OpenSpec.ofChange waveTellsSpec)

/-- ITS FALSE NEIGHBOUR: 'it returns false'. Refute it at one input. -/
def waveTellsWrong : ChangeSpec := { name := "waveTells", fn := fun _ => fun
  | [d1, d2, d3] => { results := [.lit (.bool false)], args := [d1, d2, d3] }
  | _ => none }
def WaveTellsWrongFalsely : Prop := waveTellsRow.holds Try.pinned (OpenSpec.ofChange waveTellsWrong)

/- THE SECOND FORM. 'bulk': how many values and letters a reading holds, each counted each time it is reached (what is shared counts as often as it is met; a slice's spare places count too). A statement '..UptoSaid' is the law's where the arguments, and the package variables that the reading takes, are together of bulk at most 1048576: NARROWER than '..Said'. Prove '..Said' where nothing that the law and all that it calls make is longer than what came in: it says more and counts as full. Else prove '..UptoSaid'. A law counts once. -/
mutual
def uptoBulk {H : Type} : DataW H → Nat
  | .lit (.string bytes) => bytes.length + 1
  | .lit _ => 1
  | .nil => 1
  | .ptr d => uptoBulk d + 1
  | .slice elems spare => uptoBulkAll elems + uptoBulkAll spare + 1
  | .agg parts => uptoBulkAll parts + 1
  | .iface _ d => uptoBulk d + 1
  | .map entries => uptoBulkEntries entries + 1
  | .held _ => 1
def uptoBulkAll {H : Type} : List (DataW H) → Nat
  | [] => 0
  | d :: r => uptoBulk d + uptoBulkAll r
def uptoBulkEntries {H : Type} : List (Lit × DataW H) → Nat
  | [] => 0
  | x :: r => uptoBulkEntry x + uptoBulkEntries r
def uptoBulkEntry {H : Type} : Lit × DataW H → Nat
  | (.string bytes, d) => bytes.length + uptoBulk d + 1
  | (_, d) => uptoBulk d + 1
 end
def uptoSmall : (H : Type) → List (DataW H) → Bool := fun _ ds => decide (uptoBulkAll ds ≤ 1048576)
def OpenSpec.upto (s : _root_.Go.ChangeSpec) : _root_.Go.OpenSpec := { _root_.Go.OpenSpec.ofChange s with cond := some uptoSmall }

/-- 'chatelainelaw10.WaveBack', WHERE WHAT IT READS IS OF BULK AT MOST 1048576: true; the input reads as it did. -/
def waveBackUptoRow : OpenClaim := { program := "ytebicdjnhogniaa", sum := "ec3beb40e0a05931603ae09d72d688b3b05085b05f68b4b6634e4a5ded8e03a1", func := "chatelaine/chatelainelaw10.WaveBack", spec := "waveBack", unfollowed := true, recurses := true, apart := false, narrowed := true }
def WaveBackUptoSaid : Prop := waveBackUptoRow.holds Try.pinned (OpenSpec.upto waveBackSpec)

/-- 'chatelainelaw10.WaveUnits', WHERE WHAT IT READS IS OF BULK AT MOST 1048576: true; the input reads as it did. -/
def waveUnitsUptoRow : OpenClaim := { program := "ytebicdjnhogniaa", sum := "ec3beb40e0a05931603ae09d72d688b3b05085b05f68b4b6634e4a5ded8e03a1", func := "chatelaine/chatelainelaw10.WaveUnits", spec := "waveUnits", unfollowed := true, recurses := true, apart := false, narrowed := true }
def WaveUnitsUptoSaid : Prop := waveUnitsUptoRow.holds Try.pinned (OpenSpec.upto waveUnitsSpec)

/-- 'chatelainelaw10.WaveTurns', WHERE WHAT IT READS IS OF BULK AT MOST 1048576: true; the input reads as it did. -/
def waveTurnsUptoRow : OpenClaim := { program := "ytebicdjnhogniaa", sum := "ec3beb40e0a05931603ae09d72d688b3b05085b05f68b4b6634e4a5ded8e03a1", func := "chatelaine/chatelainelaw10.WaveTurns", spec := "waveTurns", unfollowed := true, recurses := true, apart := false, narrowed := true }
def WaveTurnsUptoSaid : Prop := waveTurnsUptoRow.holds Try.pinned (OpenSpec.upto waveTurnsSpec)

/-- 'chatelainelaw10.WaveProducts', WHERE WHAT IT READS IS OF BULK AT MOST 1048576: true; the input reads as it did. -/
def waveProductsUptoRow : OpenClaim := { program := "ytebicdjnhogniaa", sum := "ec3beb40e0a05931603ae09d72d688b3b05085b05f68b4b6634e4a5ded8e03a1", func := "chatelaine/chatelainelaw10.WaveProducts", spec := "waveProducts", unfollowed := true, recurses := true, apart := false, narrowed := true }
def WaveProductsUptoSaid : Prop := waveProductsUptoRow.holds Try.pinned (OpenSpec.upto waveProductsSpec)

/-- 'chatelainelaw10.WavePolys', WHERE WHAT IT READS IS OF BULK AT MOST 1048576: true; the input reads as it did. -/
def wavePolysUptoRow : OpenClaim := { program := "ytebicdjnhogniaa", sum := "ec3beb40e0a05931603ae09d72d688b3b05085b05f68b4b6634e4a5ded8e03a1", func := "chatelaine/chatelainelaw10.WavePolys", spec := "wavePolys", unfollowed := true, recurses := true, apart := false, narrowed := true }
def WavePolysUptoSaid : Prop := wavePolysUptoRow.holds Try.pinned (OpenSpec.upto wavePolysSpec)

/-- 'chatelainelaw10.WaveRing', WHERE WHAT IT READS IS OF BULK AT MOST 1048576: true; the input reads as it did. -/
def waveRingUptoRow : OpenClaim := { program := "ytebicdjnhogniaa", sum := "ec3beb40e0a05931603ae09d72d688b3b05085b05f68b4b6634e4a5ded8e03a1", func := "chatelaine/chatelainelaw10.WaveRing", spec := "waveRing", unfollowed := true, recurses := true, apart := false, narrowed := true }
def WaveRingUptoSaid : Prop := waveRingUptoRow.holds Try.pinned (OpenSpec.upto waveRingSpec)

/-- 'chatelainelaw10.WaveDots', WHERE WHAT IT READS IS OF BULK AT MOST 1048576: true; the input reads as it did. -/
def waveDotsUptoRow : OpenClaim := { program := "ytebicdjnhogniaa", sum := "ec3beb40e0a05931603ae09d72d688b3b05085b05f68b4b6634e4a5ded8e03a1", func := "chatelaine/chatelainelaw10.WaveDots", spec := "waveDots", unfollowed := true, recurses := true, apart := false, narrowed := true }
def WaveDotsUptoSaid : Prop := waveDotsUptoRow.holds Try.pinned (OpenSpec.upto waveDotsSpec)

/-- 'chatelainelaw10.WaveTells', WHERE WHAT IT READS IS OF BULK AT MOST 1048576: true; the input reads as it did. -/
def waveTellsUptoRow : OpenClaim := { program := "ytebicdjnhogniaa", sum := "ec3beb40e0a05931603ae09d72d688b3b05085b05f68b4b6634e4a5ded8e03a1", func := "chatelaine/chatelainelaw10.WaveTells", spec := "waveTells", unfollowed := true, recurses := true, apart := false, narrowed := true }
def WaveTellsUptoSaid : Prop := waveTellsUptoRow.holds Try.pinned (OpenSpec.upto waveTellsSpec)

end Rows
end Go.Proofs.Ytebicdjnhogniaa
