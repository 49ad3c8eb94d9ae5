/-
  No cell of these rows narrows 'for every input' (looked for: loops, veiled, ifaces, maps, wideKeys, modest, calm, conditions, laid).
  DERIVED. THE GIVEN ROWS OF THIS SEAT. 8 by the template 'for every input the law returns true; each argument reads behind the call as it read before'; 0 by the template 'total and deterministic' (their statements: YtalkafjccpijiaaTotals.lean).
  GIVEN WITH THE SEED: the statements are not yours to turn. If you find one false, say at which input.
  Laid BY PROGRAM, IN A SANDBOX (cutbox-rows.mjs): the forced cells as the released guide's own fill.sh prints them over the translation 776b90ab235a503d… (all of the seat's roots in one cut). By AI agents, Wed Nov 11 2026. No macro, syntax, notation, axiom, sorry.
-/
import Derived.Test.YtalkafjccpijiaaChecked
import GoSem.Claim
import GoSem.ClaimJoined
import GoSem.ClaimMapViews
import Derived.JoinedTies
import Derived.KernelRfl
namespace Go.Proofs.Ytalkafjccpijiaa
/- THE CELL 'sum', in the pinned program and in every row, IS THE sha256 OF THE DUMP (.gsa) THAT YtalkafjccpijiaaProg.lean LOADS. Nothing in Lean hashes anything: it is a label: what it is worth is what the hold of that sum in a sandbox is worth. -/
noncomputable def Try.pinned : Pinned := { name := "ytalkafjccpijiaa", sum := "776b90ab235a503dc71273fed4564f2c1e62c6aac66733f6a8067b1afa0a0ad7", checked := Try.checked }
namespace Rows
def none {H : Type} : Left H := { results := [], args := [] }

/-- 'quartolaw02.MeasureOf': WHATEVER THE INPUT: true; the input reads as it did. -/
def measureOfSpec : ChangeSpec := { name := "measureOf", fn := fun _ => fun
  | [d] => { results := [.lit (.bool true)], args := [d] }
  | _ => none }
def measureOfRow : OpenClaim := { program := "ytalkafjccpijiaa", sum := "776b90ab235a503dc71273fed4564f2c1e62c6aac66733f6a8067b1afa0a0ad7", func := "quarto/quartolaw02.MeasureOf", spec := "measureOf", unfollowed := true, recurses := true, apart := false }
def MeasureOfSaid : Prop := measureOfRow.holds Try.pinned (OpenSpec.ofChange measureOfSpec)

/-- ITS FALSE NEIGHBOUR: 'it returns false'. Refute it at one input. -/
def measureOfWrong : ChangeSpec := { name := "measureOf", fn := fun _ => fun
  | [d] => { results := [.lit (.bool false)], args := [d] }
  | _ => none }
def MeasureOfWrongFalsely : Prop := measureOfRow.holds Try.pinned (OpenSpec.ofChange measureOfWrong)

/-- 'quartolaw02.MeasureRunes': WHATEVER THE INPUT: true; the input reads as it did. -/
def measureRunesSpec : ChangeSpec := { name := "measureRunes", fn := fun _ => fun
  | [d1, d2, d3] => { results := [.lit (.bool true)], args := [d1, d2, d3] }
  | _ => none }
def measureRunesRow : OpenClaim := { program := "ytalkafjccpijiaa", sum := "776b90ab235a503dc71273fed4564f2c1e62c6aac66733f6a8067b1afa0a0ad7", func := "quarto/quartolaw02.MeasureRunes", spec := "measureRunes", unfollowed := true, recurses := true, apart := false }
def MeasureRunesSaid : Prop := measureRunesRow.holds Try.pinned (OpenSpec.ofChange measureRunesSpec)

/-- ITS FALSE NEIGHBOUR: 'it returns false'. Refute it at one input. -/
def measureRunesWrong : ChangeSpec := { name := "measureRunes", fn := fun _ => fun
  | [d1, d2, d3] => { results := [.lit (.bool false)], args := [d1, d2, d3] }
  | _ => none }
def MeasureRunesWrongFalsely : Prop := measureRunesRow.holds Try.pinned (OpenSpec.ofChange measureRunesWrong)

/-- 'quartolaw02.MeasureLines': WHATEVER THE INPUT: true; the input reads as it did. -/
def measureLinesSpec : ChangeSpec := { name := "measureLines", fn := fun _ => fun
  | [d1, d2, d3] => { results := [.lit (.bool true)], args := [d1, d2, d3] }
  | _ => none }
def measureLinesRow : OpenClaim := { program := "ytalkafjccpijiaa", sum := "776b90ab235a503dc71273fed4564f2c1e62c6aac66733f6a8067b1afa0a0ad7", func := "quarto/quartolaw02.MeasureLines", spec := "measureLines", unfollowed := true, recurses := true, apart := false }
def MeasureLinesSaid : Prop := measureLinesRow.holds Try.pinned (OpenSpec.ofChange measureLinesSpec)

/-- ITS FALSE NEIGHBOUR: 'it returns false'. Refute it at one input. -/
def measureLinesWrong : ChangeSpec := { name := "measureLines", fn := fun _ => fun
  | [d1, d2, d3] => { results := [.lit (.bool false)], args := [d1, d2, d3] }
  | _ => none }
def MeasureLinesWrongFalsely : Prop := measureLinesRow.holds Try.pinned (OpenSpec.ofChange measureLinesWrong)

/-- 'quartolaw02.MeasureInverse': WHATEVER THE INPUT: true; the input reads as it did. -/
def measureInverseSpec : ChangeSpec := { name := "measureInverse", fn := fun _ => fun
  | [d] => { results := [.lit (.bool true)], args := [d] }
  | _ => none }
def measureInverseRow : OpenClaim := { program := "ytalkafjccpijiaa", sum := "776b90ab235a503dc71273fed4564f2c1e62c6aac66733f6a8067b1afa0a0ad7", func := "quarto/quartolaw02.MeasureInverse", spec := "measureInverse", unfollowed := true, recurses := true, apart := false }
def MeasureInverseSaid : Prop := measureInverseRow.holds Try.pinned (OpenSpec.ofChange measureInverseSpec)

/-- ITS FALSE NEIGHBOUR: 'it returns false'. Refute it at one input. -/
def measureInverseWrong : ChangeSpec := { name := "measureInverse", fn := fun _ => fun
  | [d] => { results := [.lit (.bool false)], args := [d] }
  | _ => none }
def MeasureInverseWrongFalsely : Prop := measureInverseRow.holds Try.pinned (OpenSpec.ofChange measureInverseWrong)

/-- 'quartolaw02.MeasureRows': WHATEVER THE INPUT: true; the input reads as it did. -/
def measureRowsSpec : ChangeSpec := { name := "measureRows", fn := fun _ => fun
  | [d] => { results := [.lit (.bool true)], args := [d] }
  | _ => none }
def measureRowsRow : OpenClaim := { program := "ytalkafjccpijiaa", sum := "776b90ab235a503dc71273fed4564f2c1e62c6aac66733f6a8067b1afa0a0ad7", func := "quarto/quartolaw02.MeasureRows", spec := "measureRows", unfollowed := true, recurses := true, apart := false }
def MeasureRowsSaid : Prop := measureRowsRow.holds Try.pinned (OpenSpec.ofChange measureRowsSpec)

/-- ITS FALSE NEIGHBOUR: 'it returns false'. Refute it at one input. -/
def measureRowsWrong : ChangeSpec := { name := "measureRows", fn := fun _ => fun
  | [d] => { results := [.lit (.bool false)], args := [d] }
  | _ => none }
def MeasureRowsWrongFalsely : Prop := measureRowsRow.holds Try.pinned (OpenSpec.ofChange measureRowsWrong)

/-- 'quartolaw02.MeasureJoins': WHATEVER THE INPUT: true; the input reads as it did. -/
def measureJoinsSpec : ChangeSpec := { name := "measureJoins", fn := fun _ => fun
  | [d1, d2, d3] => { results := [.lit (.bool true)], args := [d1, d2, d3] }
  | _ => none }
def measureJoinsRow : OpenClaim := { program := "ytalkafjccpijiaa", sum := "776b90ab235a503dc71273fed4564f2c1e62c6aac66733f6a8067b1afa0a0ad7", func := "quarto/quartolaw02.MeasureJoins", spec := "measureJoins", unfollowed := true, recurses := true, apart := false }
def MeasureJoinsSaid : Prop := measureJoinsRow.holds Try.pinned (OpenSpec.ofChange measureJoinsSpec)

/-- ITS FALSE NEIGHBOUR: 'it returns false'. Refute it at one input. -/
def measureJoinsWrong : ChangeSpec := { name := "measureJoins", fn := fun _ => fun
  | [d1, d2, d3] => { results := [.lit (.bool false)], args := [d1, d2, d3] }
  | _ => none }
def MeasureJoinsWrongFalsely : Prop := measureJoinsRow.holds Try.pinned (OpenSpec.ofChange measureJoinsWrong)

/-- 'quartolaw02.MeasureSums': WHATEVER THE INPUT: true; the input reads as it did. -/
def measureSumsSpec : ChangeSpec := { name := "measureSums", fn := fun _ => fun
  | [d1, d2, d3] => { results := [.lit (.bool true)], args := [d1, d2, d3] }
  | _ => none }
def measureSumsRow : OpenClaim := { program := "ytalkafjccpijiaa", sum := "776b90ab235a503dc71273fed4564f2c1e62c6aac66733f6a8067b1afa0a0ad7", func := "quarto/quartolaw02.MeasureSums", spec := "measureSums", unfollowed := true, recurses := true, apart := false }
def MeasureSumsSaid : Prop := measureSumsRow.holds Try.pinned (OpenSpec.ofChange measureSumsSpec)

/-- ITS FALSE NEIGHBOUR: 'it returns false'. Refute it at one input. -/
def measureSumsWrong : ChangeSpec := { name := "measureSums", fn := fun _ => fun
  | [d1, d2, d3] => { results := [.lit (.bool false)], args := [d1, d2, d3] }
  | _ => none }
def MeasureSumsWrongFalsely : Prop := measureSumsRow.holds Try.pinned (OpenSpec.ofChange measureSumsWrong)

/-- 'quartolaw02.MeasureAdds': WHATEVER THE INPUT: true; the input reads as it did. -/
def measureAddsSpec : ChangeSpec := { name := "measureAdds", fn := fun _ => fun
  | [d1, d2, d3] => { results := [.lit (.bool true)], args := [d1, d2, d3] }
  | _ => none }
def measureAddsRow : OpenClaim := { program := "ytalkafjccpijiaa", sum := "776b90ab235a503dc71273fed4564f2c1e62c6aac66733f6a8067b1afa0a0ad7", func := "quarto/quartolaw02.MeasureAdds", spec := "measureAdds", unfollowed := true, recurses := true, apart := false }
def MeasureAddsSaid : Prop := measureAddsRow.holds Try.pinned (OpenSpec.ofChange measureAddsSpec)

/-- ITS FALSE NEIGHBOUR: 'it returns false'. Refute it at one input. -/
def measureAddsWrong : ChangeSpec := { name := "measureAdds", fn := fun _ => fun
  | [d1, d2, d3] => { results := [.lit (.bool false)], args := [d1, d2, d3] }
  | _ => none }
def MeasureAddsWrongFalsely : Prop := measureAddsRow.holds Try.pinned (OpenSpec.ofChange measureAddsWrong)

/- THE SECOND FORM. 'bulk': how many values and letters a reading holds, each counted each time it is reached (what is shared counts as often as it is met; a slice's spare places count too). A statement '..UptoSaid' is the law's where the arguments, and the package variables that the reading takes, are together of bulk at most 1048576: NARROWER than '..Said'. Prove '..Said' where nothing that the law and all that it calls make is longer than what came in: it says more and counts as full. Else prove '..UptoSaid'. A law counts once. -/
mutual
def uptoBulk {H : Type} : DataW H → Nat
  | .lit (.string bytes) => bytes.length + 1
  | .lit _ => 1
  | .nil => 1
  | .ptr d => uptoBulk d + 1
  | .slice elems spare => uptoBulkAll elems + uptoBulkAll spare + 1
  | .agg parts => uptoBulkAll parts + 1
  | .iface _ d => uptoBulk d + 1
  | .map entries => uptoBulkEntries entries + 1
  | .held _ => 1
def uptoBulkAll {H : Type} : List (DataW H) → Nat
  | [] => 0
  | d :: r => uptoBulk d + uptoBulkAll r
def uptoBulkEntries {H : Type} : List (Lit × DataW H) → Nat
  | [] => 0
  | x :: r => uptoBulkEntry x + uptoBulkEntries r
def uptoBulkEntry {H : Type} : Lit × DataW H → Nat
  | (.string bytes, d) => bytes.length + uptoBulk d + 1
  | (_, d) => uptoBulk d + 1
 end
def uptoSmall : (H : Type) → List (DataW H) → Bool := fun _ ds => decide (uptoBulkAll ds ≤ 1048576)
def OpenSpec.upto (s : _root_.Go.ChangeSpec) : _root_.Go.OpenSpec := { _root_.Go.OpenSpec.ofChange s with cond := some uptoSmall }

/-- 'quartolaw02.MeasureOf', WHERE WHAT IT READS IS OF BULK AT MOST 1048576: true; the input reads as it did. -/
def measureOfUptoRow : OpenClaim := { program := "ytalkafjccpijiaa", sum := "776b90ab235a503dc71273fed4564f2c1e62c6aac66733f6a8067b1afa0a0ad7", func := "quarto/quartolaw02.MeasureOf", spec := "measureOf", unfollowed := true, recurses := true, apart := false, narrowed := true }
def MeasureOfUptoSaid : Prop := measureOfUptoRow.holds Try.pinned (OpenSpec.upto measureOfSpec)

/-- 'quartolaw02.MeasureRunes', WHERE WHAT IT READS IS OF BULK AT MOST 1048576: true; the input reads as it did. -/
def measureRunesUptoRow : OpenClaim := { program := "ytalkafjccpijiaa", sum := "776b90ab235a503dc71273fed4564f2c1e62c6aac66733f6a8067b1afa0a0ad7", func := "quarto/quartolaw02.MeasureRunes", spec := "measureRunes", unfollowed := true, recurses := true, apart := false, narrowed := true }
def MeasureRunesUptoSaid : Prop := measureRunesUptoRow.holds Try.pinned (OpenSpec.upto measureRunesSpec)

/-- 'quartolaw02.MeasureLines', WHERE WHAT IT READS IS OF BULK AT MOST 1048576: true; the input reads as it did. -/
def measureLinesUptoRow : OpenClaim := { program := "ytalkafjccpijiaa", sum := "776b90ab235a503dc71273fed4564f2c1e62c6aac66733f6a8067b1afa0a0ad7", func := "quarto/quartolaw02.MeasureLines", spec := "measureLines", unfollowed := true, recurses := true, apart := false, narrowed := true }
def MeasureLinesUptoSaid : Prop := measureLinesUptoRow.holds Try.pinned (OpenSpec.upto measureLinesSpec)

/-- 'quartolaw02.MeasureInverse', WHERE WHAT IT READS IS OF BULK AT MOST 1048576: true; the input reads as it did. -/
def measureInverseUptoRow : OpenClaim := { program := "ytalkafjccpijiaa", sum := "776b90ab235a503dc71273fed4564f2c1e62c6aac66733f6a8067b1afa0a0ad7", func := "quarto/quartolaw02.MeasureInverse", spec := "measureInverse", unfollowed := true, recurses := true, apart := false, narrowed := true }
def MeasureInverseUptoSaid : Prop := measureInverseUptoRow.holds Try.pinned (OpenSpec.upto measureInverseSpec)

/-- 'quartolaw02.MeasureRows', WHERE WHAT IT READS IS OF BULK AT MOST 1048576: true; the input reads as it did. -/
def measureRowsUptoRow : OpenClaim := { program := "ytalkafjccpijiaa", sum := "776b90ab235a503dc71273fed4564f2c1e62c6aac66733f6a8067b1afa0a0ad7", func := "quarto/quartolaw02.MeasureRows", spec := "measureRows", unfollowed := true, recurses := true, apart := false, narrowed := true }
def MeasureRowsUptoSaid : Prop := measureRowsUptoRow.holds Try.pinned (OpenSpec.upto measureRowsSpec)

/-- 'quartolaw02.MeasureJoins', WHERE WHAT IT READS IS OF BULK AT MOST 1048576: true; the input reads as it did. -/
def measureJoinsUptoRow : OpenClaim := { program := "ytalkafjccpijiaa", sum := "776b90ab235a503dc71273fed4564f2c1e62c6aac66733f6a8067b1afa0a0ad7", func := "quarto/quartolaw02.MeasureJoins", spec := "measureJoins", unfollowed := true, recurses := true, apart := false, narrowed := true }
def MeasureJoinsUptoSaid : Prop := measureJoinsUptoRow.holds Try.pinned (OpenSpec.upto measureJoinsSpec)

/-- 'quartolaw02.MeasureSums', WHERE WHAT IT READS IS OF BULK AT MOST 1048576: true; the input reads as it did. -/
def measureSumsUptoRow : OpenClaim := { program := "ytalkafjccpijiaa", sum := "776b90ab235a503dc71273fed4564f2c1e62c6aac66733f6a8067b1afa0a0ad7", func := "quarto/quartolaw02.MeasureSums", spec := "measureSums", unfollowed := true, recurses := true, apart := false, narrowed := true }
def MeasureSumsUptoSaid : Prop := measureSumsUptoRow.holds Try.pinned (OpenSpec.upto measureSumsSpec)

/-- 'quartolaw02.MeasureAdds', WHERE WHAT IT READS IS OF BULK AT MOST 1048576: true; the input reads as it did. -/
def measureAddsUptoRow : OpenClaim := { program := "ytalkafjccpijiaa", sum := "776b90ab235a503dc71273fed4564f2c1e62c6aac66733f6a8067b1afa0a0ad7", func := "quarto/quartolaw02.MeasureAdds", spec := "measureAdds", unfollowed := true, recurses := true, apart := false, narrowed := true }
def MeasureAddsUptoSaid : Prop := measureAddsUptoRow.holds Try.pinned (OpenSpec.upto measureAddsSpec)

end Rows
end Go.Proofs.Ytalkafjccpijiaa
