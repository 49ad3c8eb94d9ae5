/-
  No cell of these rows narrows 'for every input' (looked for: loops, veiled, ifaces, maps, wideKeys, modest, calm, conditions, laid).
  DERIVED. THE GIVEN ROWS OF THIS SEAT. 9 by the template 'for every input the law returns true; each argument reads behind the call as it read before'; 0 by the template 'total and deterministic' (their statements: YtbodacjhhkjdfaaTotals.lean).
  GIVEN WITH THE SEED: the statements are not yours to turn. If you find one false, say at which input.
  Laid BY PROGRAM, IN A SANDBOX (cutbox-rows.mjs): the forced cells as the released guide's own fill.sh prints them over the translation 0be9e2f0b8feb4e3… (all of the seat's roots in one cut). By AI agents, Wed Nov 11 2026. No macro, syntax, notation, axiom, sorry.
-/
import Derived.Test.YtbodacjhhkjdfaaChecked
import GoSem.Claim
import GoSem.ClaimJoined
import GoSem.ClaimMapViews
import Derived.JoinedTies
import Derived.KernelRfl
namespace Go.Proofs.Ytbodacjhhkjdfaa
/- THE CELL 'sum', in the pinned program and in every row, IS THE sha256 OF THE DUMP (.gsa) THAT YtbodacjhhkjdfaaProg.lean LOADS. Nothing in Lean hashes anything: it is a label: what it is worth is what the hold of that sum in a sandbox is worth. -/
noncomputable def Try.pinned : Pinned := { name := "ytbodacjhhkjdfaa", sum := "0be9e2f0b8feb4e3d3e573c1645d59fc3f562cb66adb8077a1cea9da5a048025", checked := Try.checked }
namespace Rows
def none {H : Type} : Left H := { results := [], args := [] }

/-- 'quartolaw12.NodeMatches': WHATEVER THE INPUT: true; the input reads as it did. -/
def nodeMatchesSpec : ChangeSpec := { name := "nodeMatches", fn := fun _ => fun
  | [d1, d2] => { results := [.lit (.bool true)], args := [d1, d2] }
  | _ => none }
def nodeMatchesRow : OpenClaim := { program := "ytbodacjhhkjdfaa", sum := "0be9e2f0b8feb4e3d3e573c1645d59fc3f562cb66adb8077a1cea9da5a048025", func := "quarto/quartolaw12.NodeMatches", spec := "nodeMatches", unfollowed := true, recurses := true, apart := false }
def NodeMatchesSaid : Prop := nodeMatchesRow.holds Try.pinned (OpenSpec.ofChange nodeMatchesSpec)

/-- ITS FALSE NEIGHBOUR: 'it returns false'. Refute it at one input. -/
def nodeMatchesWrong : ChangeSpec := { name := "nodeMatches", fn := fun _ => fun
  | [d1, d2] => { results := [.lit (.bool false)], args := [d1, d2] }
  | _ => none }
def NodeMatchesWrongFalsely : Prop := nodeMatchesRow.holds Try.pinned (OpenSpec.ofChange nodeMatchesWrong)

/-- 'quartolaw12.NodeDecodes': WHATEVER THE INPUT: true; the input reads as it did. -/
def nodeDecodesSpec : ChangeSpec := { name := "nodeDecodes", fn := fun _ => fun
  | [d] => { results := [.lit (.bool true)], args := [d] }
  | _ => none }
def nodeDecodesRow : OpenClaim := { program := "ytbodacjhhkjdfaa", sum := "0be9e2f0b8feb4e3d3e573c1645d59fc3f562cb66adb8077a1cea9da5a048025", func := "quarto/quartolaw12.NodeDecodes", spec := "nodeDecodes", unfollowed := true, recurses := true, apart := false }
def NodeDecodesSaid : Prop := nodeDecodesRow.holds Try.pinned (OpenSpec.ofChange nodeDecodesSpec)

/-- ITS FALSE NEIGHBOUR: 'it returns false'. Refute it at one input. -/
def nodeDecodesWrong : ChangeSpec := { name := "nodeDecodes", fn := fun _ => fun
  | [d] => { results := [.lit (.bool false)], args := [d] }
  | _ => none }
def NodeDecodesWrongFalsely : Prop := nodeDecodesRow.holds Try.pinned (OpenSpec.ofChange nodeDecodesWrong)

/-- 'quartolaw12.NodeEquals': WHATEVER THE INPUT: true; the input reads as it did. -/
def nodeEqualsSpec : ChangeSpec := { name := "nodeEquals", fn := fun _ => fun
  | [d1, d2] => { results := [.lit (.bool true)], args := [d1, d2] }
  | _ => none }
def nodeEqualsRow : OpenClaim := { program := "ytbodacjhhkjdfaa", sum := "0be9e2f0b8feb4e3d3e573c1645d59fc3f562cb66adb8077a1cea9da5a048025", func := "quarto/quartolaw12.NodeEquals", spec := "nodeEquals", unfollowed := true, recurses := true, apart := false }
def NodeEqualsSaid : Prop := nodeEqualsRow.holds Try.pinned (OpenSpec.ofChange nodeEqualsSpec)

/-- ITS FALSE NEIGHBOUR: 'it returns false'. Refute it at one input. -/
def nodeEqualsWrong : ChangeSpec := { name := "nodeEquals", fn := fun _ => fun
  | [d1, d2] => { results := [.lit (.bool false)], args := [d1, d2] }
  | _ => none }
def NodeEqualsWrongFalsely : Prop := nodeEqualsRow.holds Try.pinned (OpenSpec.ofChange nodeEqualsWrong)

/-- 'quartolaw12.NodeBack': WHATEVER THE INPUT: true; the input reads as it did. -/
def nodeBackSpec : ChangeSpec := { name := "nodeBack", fn := fun _ => fun
  | [d1, d2, d3] => { results := [.lit (.bool true)], args := [d1, d2, d3] }
  | _ => none }
def nodeBackRow : OpenClaim := { program := "ytbodacjhhkjdfaa", sum := "0be9e2f0b8feb4e3d3e573c1645d59fc3f562cb66adb8077a1cea9da5a048025", func := "quarto/quartolaw12.NodeBack", spec := "nodeBack", unfollowed := true, recurses := true, apart := false }
def NodeBackSaid : Prop := nodeBackRow.holds Try.pinned (OpenSpec.ofChange nodeBackSpec)

/-- ITS FALSE NEIGHBOUR: 'it returns false'. Refute it at one input. -/
def nodeBackWrong : ChangeSpec := { name := "nodeBack", fn := fun _ => fun
  | [d1, d2, d3] => { results := [.lit (.bool false)], args := [d1, d2, d3] }
  | _ => none }
def NodeBackWrongFalsely : Prop := nodeBackRow.holds Try.pinned (OpenSpec.ofChange nodeBackWrong)

/-- 'quartolaw12.NodeMeasures': WHATEVER THE INPUT: true; the input reads as it did. -/
def nodeMeasuresSpec : ChangeSpec := { name := "nodeMeasures", fn := fun _ => fun
  | [d] => { results := [.lit (.bool true)], args := [d] }
  | _ => none }
def nodeMeasuresRow : OpenClaim := { program := "ytbodacjhhkjdfaa", sum := "0be9e2f0b8feb4e3d3e573c1645d59fc3f562cb66adb8077a1cea9da5a048025", func := "quarto/quartolaw12.NodeMeasures", spec := "nodeMeasures", unfollowed := true, recurses := true, apart := false }
def NodeMeasuresSaid : Prop := nodeMeasuresRow.holds Try.pinned (OpenSpec.ofChange nodeMeasuresSpec)

/-- ITS FALSE NEIGHBOUR: 'it returns false'. Refute it at one input. -/
def nodeMeasuresWrong : ChangeSpec := { name := "nodeMeasures", fn := fun _ => fun
  | [d] => { results := [.lit (.bool false)], args := [d] }
  | _ => none }
def NodeMeasuresWrongFalsely : Prop := nodeMeasuresRow.holds Try.pinned (OpenSpec.ofChange nodeMeasuresWrong)

/-- 'quartolaw12.NodeFinds': WHATEVER THE INPUT: true; the input reads as it did. -/
def nodeFindsSpec : ChangeSpec := { name := "nodeFinds", fn := fun _ => fun
  | [d1, d2] => { results := [.lit (.bool true)], args := [d1, d2] }
  | _ => none }
def nodeFindsRow : OpenClaim := { program := "ytbodacjhhkjdfaa", sum := "0be9e2f0b8feb4e3d3e573c1645d59fc3f562cb66adb8077a1cea9da5a048025", func := "quarto/quartolaw12.NodeFinds", spec := "nodeFinds", unfollowed := true, recurses := true, apart := false }
def NodeFindsSaid : Prop := nodeFindsRow.holds Try.pinned (OpenSpec.ofChange nodeFindsSpec)

/-- ITS FALSE NEIGHBOUR: 'it returns false'. Refute it at one input. -/
def nodeFindsWrong : ChangeSpec := { name := "nodeFinds", fn := fun _ => fun
  | [d1, d2] => { results := [.lit (.bool false)], args := [d1, d2] }
  | _ => none }
def NodeFindsWrongFalsely : Prop := nodeFindsRow.holds Try.pinned (OpenSpec.ofChange nodeFindsWrong)

/-- 'quartolaw12.NodeOrder': WHATEVER THE INPUT: true; the input reads as it did. -/
def nodeOrderSpec : ChangeSpec := { name := "nodeOrder", fn := fun _ => fun
  | [d1, d2, d3] => { results := [.lit (.bool true)], args := [d1, d2, d3] }
  | _ => none }
def nodeOrderRow : OpenClaim := { program := "ytbodacjhhkjdfaa", sum := "0be9e2f0b8feb4e3d3e573c1645d59fc3f562cb66adb8077a1cea9da5a048025", func := "quarto/quartolaw12.NodeOrder", spec := "nodeOrder", unfollowed := true, recurses := true, apart := false }
def NodeOrderSaid : Prop := nodeOrderRow.holds Try.pinned (OpenSpec.ofChange nodeOrderSpec)

/-- ITS FALSE NEIGHBOUR: 'it returns false'. Refute it at one input. -/
def nodeOrderWrong : ChangeSpec := { name := "nodeOrder", fn := fun _ => fun
  | [d1, d2, d3] => { results := [.lit (.bool false)], args := [d1, d2, d3] }
  | _ => none }
def NodeOrderWrongFalsely : Prop := nodeOrderRow.holds Try.pinned (OpenSpec.ofChange nodeOrderWrong)

/-- 'quartolaw12.NodeMakes': WHATEVER THE INPUT: true; the input reads as it did. -/
def nodeMakesSpec : ChangeSpec := { name := "nodeMakes", fn := fun _ => fun
  | [d1, d2, d3] => { results := [.lit (.bool true)], args := [d1, d2, d3] }
  | _ => none }
def nodeMakesRow : OpenClaim := { program := "ytbodacjhhkjdfaa", sum := "0be9e2f0b8feb4e3d3e573c1645d59fc3f562cb66adb8077a1cea9da5a048025", func := "quarto/quartolaw12.NodeMakes", spec := "nodeMakes", unfollowed := true, recurses := true, apart := false }
def NodeMakesSaid : Prop := nodeMakesRow.holds Try.pinned (OpenSpec.ofChange nodeMakesSpec)

/-- ITS FALSE NEIGHBOUR: 'it returns false'. Refute it at one input. -/
def nodeMakesWrong : ChangeSpec := { name := "nodeMakes", fn := fun _ => fun
  | [d1, d2, d3] => { results := [.lit (.bool false)], args := [d1, d2, d3] }
  | _ => none }
def NodeMakesWrongFalsely : Prop := nodeMakesRow.holds Try.pinned (OpenSpec.ofChange nodeMakesWrong)

/-- 'quartolaw12.NodeExamples': WHATEVER THE INPUT: true; the input reads as it did. -/
def nodeExamplesSpec : ChangeSpec := { name := "nodeExamples", fn := fun _ => fun
  | [] => { results := [.lit (.bool true)], args := [] }
  | _ => none }
def nodeExamplesRow : OpenClaim := { program := "ytbodacjhhkjdfaa", sum := "0be9e2f0b8feb4e3d3e573c1645d59fc3f562cb66adb8077a1cea9da5a048025", func := "quarto/quartolaw12.NodeExamples", spec := "nodeExamples", unfollowed := true, recurses := true, apart := false }
def NodeExamplesSaid : Prop := nodeExamplesRow.holds Try.pinned (OpenSpec.ofChange nodeExamplesSpec)

/-- ITS FALSE NEIGHBOUR: 'it returns false'. Refute it at one input. -/
def nodeExamplesWrong : ChangeSpec := { name := "nodeExamples", fn := fun _ => fun
  | [] => { results := [.lit (.bool false)], args := [] }
  | _ => none }
def NodeExamplesWrongFalsely : Prop := nodeExamplesRow.holds Try.pinned (OpenSpec.ofChange nodeExamplesWrong)

/- THE SECOND FORM. 'bulk': how many values and letters a reading holds, each counted each time it is reached (what is shared counts as often as it is met; a slice's spare places count too). A statement '..UptoSaid' is the law's where the arguments, and the package variables that the reading takes, are together of bulk at most 1048576: NARROWER than '..Said'. Prove '..Said' where nothing that the law and all that it calls make is longer than what came in: it says more and counts as full. Else prove '..UptoSaid'. A law counts once. -/
mutual
def uptoBulk {H : Type} : DataW H → Nat
  | .lit (.string bytes) => bytes.length + 1
  | .lit _ => 1
  | .nil => 1
  | .ptr d => uptoBulk d + 1
  | .slice elems spare => uptoBulkAll elems + uptoBulkAll spare + 1
  | .agg parts => uptoBulkAll parts + 1
  | .iface _ d => uptoBulk d + 1
  | .map entries => uptoBulkEntries entries + 1
  | .held _ => 1
def uptoBulkAll {H : Type} : List (DataW H) → Nat
  | [] => 0
  | d :: r => uptoBulk d + uptoBulkAll r
def uptoBulkEntries {H : Type} : List (Lit × DataW H) → Nat
  | [] => 0
  | x :: r => uptoBulkEntry x + uptoBulkEntries r
def uptoBulkEntry {H : Type} : Lit × DataW H → Nat
  | (.string bytes, d) => bytes.length + uptoBulk d + 1
  | (_, d) => uptoBulk d + 1
 end
def uptoSmall : (H : Type) → List (DataW H) → Bool := fun _ ds => decide (uptoBulkAll ds ≤ 1048576)
def OpenSpec.upto (s : _root_.Go.ChangeSpec) : _root_.Go.OpenSpec := { _root_.Go.OpenSpec.ofChange s with cond := some uptoSmall }

/-- 'quartolaw12.NodeMatches', WHERE WHAT IT READS IS OF BULK AT MOST 1048576: true; the input reads as it did. -/
def nodeMatchesUptoRow : OpenClaim := { program := "ytbodacjhhkjdfaa", sum := "0be9e2f0b8feb4e3d3e573c1645d59fc3f562cb66adb8077a1cea9da5a048025", func := "quarto/quartolaw12.NodeMatches", spec := "nodeMatches", unfollowed := true, recurses := true, apart := false, narrowed := true }
def NodeMatchesUptoSaid : Prop := nodeMatchesUptoRow.holds Try.pinned (OpenSpec.upto nodeMatchesSpec)

/-- 'quartolaw12.NodeDecodes', WHERE WHAT IT READS IS OF BULK AT MOST 1048576: true; the input reads as it did. -/
def nodeDecodesUptoRow : OpenClaim := { program := "ytbodacjhhkjdfaa", sum := "0be9e2f0b8feb4e3d3e573c1645d59fc3f562cb66adb8077a1cea9da5a048025", func := "quarto/quartolaw12.NodeDecodes", spec := "nodeDecodes", unfollowed := true, recurses := true, apart := false, narrowed := true }
def NodeDecodesUptoSaid : Prop := nodeDecodesUptoRow.holds Try.pinned (OpenSpec.upto nodeDecodesSpec)

/-- 'quartolaw12.NodeEquals', WHERE WHAT IT READS IS OF BULK AT MOST 1048576: true; the input reads as it did. -/
def nodeEqualsUptoRow : OpenClaim := { program := "ytbodacjhhkjdfaa", sum := "0be9e2f0b8feb4e3d3e573c1645d59fc3f562cb66adb8077a1cea9da5a048025", func := "quarto/quartolaw12.NodeEquals", spec := "nodeEquals", unfollowed := true, recurses := true, apart := false, narrowed := true }
def NodeEqualsUptoSaid : Prop := nodeEqualsUptoRow.holds Try.pinned (OpenSpec.upto nodeEqualsSpec)

/-- 'quartolaw12.NodeBack', WHERE WHAT IT READS IS OF BULK AT MOST 1048576: true; the input reads as it did. -/
def nodeBackUptoRow : OpenClaim := { program := "ytbodacjhhkjdfaa", sum := "0be9e2f0b8feb4e3d3e573c1645d59fc3f562cb66adb8077a1cea9da5a048025", func := "quarto/quartolaw12.NodeBack", spec := "nodeBack", unfollowed := true, recurses := true, apart := false, narrowed := true }
def NodeBackUptoSaid : Prop := nodeBackUptoRow.holds Try.pinned (OpenSpec.upto nodeBackSpec)

/-- 'quartolaw12.NodeMeasures', WHERE WHAT IT READS IS OF BULK AT MOST 1048576: true; the input reads as it did. -/
def nodeMeasuresUptoRow : OpenClaim := { program := "ytbodacjhhkjdfaa", sum := "0be9e2f0b8feb4e3d3e573c1645d59fc3f562cb66adb8077a1cea9da5a048025", func := "quarto/quartolaw12.NodeMeasures", spec := "nodeMeasures", unfollowed := true, recurses := true, apart := false, narrowed := true }
def NodeMeasuresUptoSaid : Prop := nodeMeasuresUptoRow.holds Try.pinned (OpenSpec.upto nodeMeasuresSpec)

/-- 'quartolaw12.NodeFinds', WHERE WHAT IT READS IS OF BULK AT MOST 1048576: true; the input reads as it did. -/
def nodeFindsUptoRow : OpenClaim := { program := "ytbodacjhhkjdfaa", sum := "0be9e2f0b8feb4e3d3e573c1645d59fc3f562cb66adb8077a1cea9da5a048025", func := "quarto/quartolaw12.NodeFinds", spec := "nodeFinds", unfollowed := true, recurses := true, apart := false, narrowed := true }
def NodeFindsUptoSaid : Prop := nodeFindsUptoRow.holds Try.pinned (OpenSpec.upto nodeFindsSpec)

/-- 'quartolaw12.NodeOrder', WHERE WHAT IT READS IS OF BULK AT MOST 1048576: true; the input reads as it did. -/
def nodeOrderUptoRow : OpenClaim := { program := "ytbodacjhhkjdfaa", sum := "0be9e2f0b8feb4e3d3e573c1645d59fc3f562cb66adb8077a1cea9da5a048025", func := "quarto/quartolaw12.NodeOrder", spec := "nodeOrder", unfollowed := true, recurses := true, apart := false, narrowed := true }
def NodeOrderUptoSaid : Prop := nodeOrderUptoRow.holds Try.pinned (OpenSpec.upto nodeOrderSpec)

/-- 'quartolaw12.NodeMakes', WHERE WHAT IT READS IS OF BULK AT MOST 1048576: true; the input reads as it did. -/
def nodeMakesUptoRow : OpenClaim := { program := "ytbodacjhhkjdfaa", sum := "0be9e2f0b8feb4e3d3e573c1645d59fc3f562cb66adb8077a1cea9da5a048025", func := "quarto/quartolaw12.NodeMakes", spec := "nodeMakes", unfollowed := true, recurses := true, apart := false, narrowed := true }
def NodeMakesUptoSaid : Prop := nodeMakesUptoRow.holds Try.pinned (OpenSpec.upto nodeMakesSpec)

/-- 'quartolaw12.NodeExamples', WHERE WHAT IT READS IS OF BULK AT MOST 1048576: true; the input reads as it did. -/
def nodeExamplesUptoRow : OpenClaim := { program := "ytbodacjhhkjdfaa", sum := "0be9e2f0b8feb4e3d3e573c1645d59fc3f562cb66adb8077a1cea9da5a048025", func := "quarto/quartolaw12.NodeExamples", spec := "nodeExamples", unfollowed := true, recurses := true, apart := false, narrowed := true }
def NodeExamplesUptoSaid : Prop := nodeExamplesUptoRow.holds Try.pinned (OpenSpec.upto nodeExamplesSpec)

end Rows
end Go.Proofs.Ytbodacjhhkjdfaa
