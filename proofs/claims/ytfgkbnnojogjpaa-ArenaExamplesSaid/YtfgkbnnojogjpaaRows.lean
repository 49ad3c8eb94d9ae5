/-
  No cell of these rows narrows 'for every input' (looked for: loops, veiled, ifaces, maps, wideKeys, modest, calm, conditions, laid).
  DERIVED. THE GIVEN ROWS OF THIS SEAT. 7 by the template 'for every input the law returns true; each argument reads behind the call as it read before'; 0 by the template 'total and deterministic' (their statements: YtfgkbnnojogjpaaTotals.lean).
  GIVEN WITH THE SEED: the statements are not yours to turn. If you find one false, say at which input.
  Laid BY PROGRAM, IN A SANDBOX (cutbox-rows.mjs): the forced cells as the released guide's own fill.sh prints them over the translation ccf81e84e7bfbacd… (all of the seat's roots in one cut). By AI agents, Wed Nov 11 2026. No macro, syntax, notation, axiom, sorry.
-/
import Derived.Test.YtfgkbnnojogjpaaChecked
import GoSem.Claim
import GoSem.ClaimJoined
import GoSem.ClaimMapViews
import Derived.JoinedTies
import Derived.KernelRfl
namespace Go.Proofs.Ytfgkbnnojogjpaa
/- THE CELL 'sum', in the pinned program and in every row, IS THE sha256 OF THE DUMP (.gsa) THAT YtfgkbnnojogjpaaProg.lean LOADS. Nothing in Lean hashes anything: it is a label: what it is worth is what the hold of that sum in a sandbox is worth. -/
noncomputable def Try.pinned : Pinned := { name := "ytfgkbnnojogjpaa", sum := "ccf81e84e7bfbacdda405ea8caefe666adb25b5bc54a61ff9584dae09a7c29ac", checked := Try.checked }
namespace Rows
def none {H : Type} : Left H := { results := [], args := [] }

/-- 'quartolaw13.ArenaMakes': WHATEVER THE INPUT: true; the input reads as it did. -/
def arenaMakesSpec : ChangeSpec := { name := "arenaMakes", fn := fun _ => fun
  | [d1, d2] => { results := [.lit (.bool true)], args := [d1, d2] }
  | _ => none }
def arenaMakesRow : OpenClaim := { program := "ytfgkbnnojogjpaa", sum := "ccf81e84e7bfbacdda405ea8caefe666adb25b5bc54a61ff9584dae09a7c29ac", func := "quarto/quartolaw13.ArenaMakes", spec := "arenaMakes", unfollowed := true, recurses := true, apart := false }
def ArenaMakesSaid : Prop := arenaMakesRow.holds Try.pinned (OpenSpec.ofChange arenaMakesSpec)

/-- ITS FALSE NEIGHBOUR: 'it returns false'. Refute it at one input. -/
def arenaMakesWrong : ChangeSpec := { name := "arenaMakes", fn := fun _ => fun
  | [d1, d2] => { results := [.lit (.bool false)], args := [d1, d2] }
  | _ => none }
def ArenaMakesWrongFalsely : Prop := arenaMakesRow.holds Try.pinned (OpenSpec.ofChange arenaMakesWrong)

/-- 'quartolaw13.ArenaCounts': WHATEVER THE INPUT: true; the input reads as it did. -/
def arenaCountsSpec : ChangeSpec := { name := "arenaCounts", fn := fun _ => fun
  | [d1, d2, d3] => { results := [.lit (.bool true)], args := [d1, d2, d3] }
  | _ => none }
def arenaCountsRow : OpenClaim := { program := "ytfgkbnnojogjpaa", sum := "ccf81e84e7bfbacdda405ea8caefe666adb25b5bc54a61ff9584dae09a7c29ac", func := "quarto/quartolaw13.ArenaCounts", spec := "arenaCounts", unfollowed := true, recurses := true, apart := false }
def ArenaCountsSaid : Prop := arenaCountsRow.holds Try.pinned (OpenSpec.ofChange arenaCountsSpec)

/-- ITS FALSE NEIGHBOUR: 'it returns false'. Refute it at one input. -/
def arenaCountsWrong : ChangeSpec := { name := "arenaCounts", fn := fun _ => fun
  | [d1, d2, d3] => { results := [.lit (.bool false)], args := [d1, d2, d3] }
  | _ => none }
def ArenaCountsWrongFalsely : Prop := arenaCountsRow.holds Try.pinned (OpenSpec.ofChange arenaCountsWrong)

/-- 'quartolaw13.ArenaTrees': WHATEVER THE INPUT: true; the input reads as it did. -/
def arenaTreesSpec : ChangeSpec := { name := "arenaTrees", fn := fun _ => fun
  | [d1, d2, d3] => { results := [.lit (.bool true)], args := [d1, d2, d3] }
  | _ => none }
def arenaTreesRow : OpenClaim := { program := "ytfgkbnnojogjpaa", sum := "ccf81e84e7bfbacdda405ea8caefe666adb25b5bc54a61ff9584dae09a7c29ac", func := "quarto/quartolaw13.ArenaTrees", spec := "arenaTrees", unfollowed := true, recurses := true, apart := false }
def ArenaTreesSaid : Prop := arenaTreesRow.holds Try.pinned (OpenSpec.ofChange arenaTreesSpec)

/-- ITS FALSE NEIGHBOUR: 'it returns false'. Refute it at one input. -/
def arenaTreesWrong : ChangeSpec := { name := "arenaTrees", fn := fun _ => fun
  | [d1, d2, d3] => { results := [.lit (.bool false)], args := [d1, d2, d3] }
  | _ => none }
def ArenaTreesWrongFalsely : Prop := arenaTreesRow.holds Try.pinned (OpenSpec.ofChange arenaTreesWrong)

/-- 'quartolaw13.ArenaPlays': WHATEVER THE INPUT: true; the input reads as it did. -/
def arenaPlaysSpec : ChangeSpec := { name := "arenaPlays", fn := fun _ => fun
  | [d1, d2, d3] => { results := [.lit (.bool true)], args := [d1, d2, d3] }
  | _ => none }
def arenaPlaysRow : OpenClaim := { program := "ytfgkbnnojogjpaa", sum := "ccf81e84e7bfbacdda405ea8caefe666adb25b5bc54a61ff9584dae09a7c29ac", func := "quarto/quartolaw13.ArenaPlays", spec := "arenaPlays", unfollowed := true, recurses := true, apart := false }
def ArenaPlaysSaid : Prop := arenaPlaysRow.holds Try.pinned (OpenSpec.ofChange arenaPlaysSpec)

/-- ITS FALSE NEIGHBOUR: 'it returns false'. Refute it at one input. -/
def arenaPlaysWrong : ChangeSpec := { name := "arenaPlays", fn := fun _ => fun
  | [d1, d2, d3] => { results := [.lit (.bool false)], args := [d1, d2, d3] }
  | _ => none }
def ArenaPlaysWrongFalsely : Prop := arenaPlaysRow.holds Try.pinned (OpenSpec.ofChange arenaPlaysWrong)

/-- 'quartolaw13.ArenaExamples': WHATEVER THE INPUT: true; the input reads as it did. -/
def arenaExamplesSpec : ChangeSpec := { name := "arenaExamples", fn := fun _ => fun
  | [] => { results := [.lit (.bool true)], args := [] }
  | _ => none }
def arenaExamplesRow : OpenClaim := { program := "ytfgkbnnojogjpaa", sum := "ccf81e84e7bfbacdda405ea8caefe666adb25b5bc54a61ff9584dae09a7c29ac", func := "quarto/quartolaw13.ArenaExamples", spec := "arenaExamples", unfollowed := true, recurses := true, apart := false }
def ArenaExamplesSaid : Prop := arenaExamplesRow.holds Try.pinned (OpenSpec.ofChange arenaExamplesSpec)

/-- ITS FALSE NEIGHBOUR: 'it returns false'. Refute it at one input. -/
def arenaExamplesWrong : ChangeSpec := { name := "arenaExamples", fn := fun _ => fun
  | [] => { results := [.lit (.bool false)], args := [] }
  | _ => none }
def ArenaExamplesWrongFalsely : Prop := arenaExamplesRow.holds Try.pinned (OpenSpec.ofChange arenaExamplesWrong)

/-- 'quartolaw13.ArenaKeeps': WHATEVER THE INPUT: true; the input reads as it did. -/
def arenaKeepsSpec : ChangeSpec := { name := "arenaKeeps", fn := fun _ => fun
  | [d1, d2, d3] => { results := [.lit (.bool true)], args := [d1, d2, d3] }
  | _ => none }
def arenaKeepsRow : OpenClaim := { program := "ytfgkbnnojogjpaa", sum := "ccf81e84e7bfbacdda405ea8caefe666adb25b5bc54a61ff9584dae09a7c29ac", func := "quarto/quartolaw13.ArenaKeeps", spec := "arenaKeeps", unfollowed := true, recurses := true, apart := false }
def ArenaKeepsSaid : Prop := arenaKeepsRow.holds Try.pinned (OpenSpec.ofChange arenaKeepsSpec)

/-- ITS FALSE NEIGHBOUR: 'it returns false'. Refute it at one input. -/
def arenaKeepsWrong : ChangeSpec := { name := "arenaKeeps", fn := fun _ => fun
  | [d1, d2, d3] => { results := [.lit (.bool false)], args := [d1, d2, d3] }
  | _ => none }
def ArenaKeepsWrongFalsely : Prop := arenaKeepsRow.holds Try.pinned (OpenSpec.ofChange arenaKeepsWrong)

/-- 'quartolaw13.ArenaRefuses': WHATEVER THE INPUT: true; the input reads as it did. -/
def arenaRefusesSpec : ChangeSpec := { name := "arenaRefuses", fn := fun _ => fun
  | [d1, d2, d3] => { results := [.lit (.bool true)], args := [d1, d2, d3] }
  | _ => none }
def arenaRefusesRow : OpenClaim := { program := "ytfgkbnnojogjpaa", sum := "ccf81e84e7bfbacdda405ea8caefe666adb25b5bc54a61ff9584dae09a7c29ac", func := "quarto/quartolaw13.ArenaRefuses", spec := "arenaRefuses", unfollowed := true, recurses := true, apart := false }
def ArenaRefusesSaid : Prop := arenaRefusesRow.holds Try.pinned (OpenSpec.ofChange arenaRefusesSpec)

/-- ITS FALSE NEIGHBOUR: 'it returns false'. Refute it at one input. -/
def arenaRefusesWrong : ChangeSpec := { name := "arenaRefuses", fn := fun _ => fun
  | [d1, d2, d3] => { results := [.lit (.bool false)], args := [d1, d2, d3] }
  | _ => none }
def ArenaRefusesWrongFalsely : Prop := arenaRefusesRow.holds Try.pinned (OpenSpec.ofChange arenaRefusesWrong)

/- THE SECOND FORM. 'bulk': how many values and letters a reading holds, each counted each time it is reached (what is shared counts as often as it is met; a slice's spare places count too). A statement '..UptoSaid' is the law's where the arguments, and the package variables that the reading takes, are together of bulk at most 1048576: NARROWER than '..Said'. Prove '..Said' where nothing that the law and all that it calls make is longer than what came in: it says more and counts as full. Else prove '..UptoSaid'. A law counts once. -/
mutual
def uptoBulk {H : Type} : DataW H → Nat
  | .lit (.string bytes) => bytes.length + 1
  | .lit _ => 1
  | .nil => 1
  | .ptr d => uptoBulk d + 1
  | .slice elems spare => uptoBulkAll elems + uptoBulkAll spare + 1
  | .agg parts => uptoBulkAll parts + 1
  | .iface _ d => uptoBulk d + 1
  | .map entries => uptoBulkEntries entries + 1
  | .held _ => 1
def uptoBulkAll {H : Type} : List (DataW H) → Nat
  | [] => 0
  | d :: r => uptoBulk d + uptoBulkAll r
def uptoBulkEntries {H : Type} : List (Lit × DataW H) → Nat
  | [] => 0
  | x :: r => uptoBulkEntry x + uptoBulkEntries r
def uptoBulkEntry {H : Type} : Lit × DataW H → Nat
  | (.string bytes, d) => bytes.length + uptoBulk d + 1
  | (_, d) => uptoBulk d + 1
 end
def uptoSmall : (H : Type) → List (DataW H) → Bool := fun _ ds => decide (uptoBulkAll ds ≤ 1048576)
def OpenSpec.upto (s : _root_.Go.ChangeSpec) : _root_.Go.OpenSpec := { _root_.Go.OpenSpec.ofChange s with cond := some uptoSmall }

/-- 'quartolaw13.ArenaMakes', WHERE WHAT IT READS IS OF BULK AT MOST 1048576: true; the input reads as it did. -/
def arenaMakesUptoRow : OpenClaim := { program := "ytfgkbnnojogjpaa", sum := "ccf81e84e7bfbacdda405ea8caefe666adb25b5bc54a61ff9584dae09a7c29ac", func := "quarto/quartolaw13.ArenaMakes", spec := "arenaMakes", unfollowed := true, recurses := true, apart := false, narrowed := true }
def ArenaMakesUptoSaid : Prop := arenaMakesUptoRow.holds Try.pinned (OpenSpec.upto arenaMakesSpec)

/-- 'quartolaw13.ArenaCounts', WHERE WHAT IT READS IS OF BULK AT MOST 1048576: true; the input reads as it did. -/
def arenaCountsUptoRow : OpenClaim := { program := "ytfgkbnnojogjpaa", sum := "ccf81e84e7bfbacdda405ea8caefe666adb25b5bc54a61ff9584dae09a7c29ac", func := "quarto/quartolaw13.ArenaCounts", spec := "arenaCounts", unfollowed := true, recurses := true, apart := false, narrowed := true }
def ArenaCountsUptoSaid : Prop := arenaCountsUptoRow.holds Try.pinned (OpenSpec.upto arenaCountsSpec)

/-- 'quartolaw13.ArenaTrees', WHERE WHAT IT READS IS OF BULK AT MOST 1048576: true; the input reads as it did. -/
def arenaTreesUptoRow : OpenClaim := { program := "ytfgkbnnojogjpaa", sum := "ccf81e84e7bfbacdda405ea8caefe666adb25b5bc54a61ff9584dae09a7c29ac", func := "quarto/quartolaw13.ArenaTrees", spec := "arenaTrees", unfollowed := true, recurses := true, apart := false, narrowed := true }
def ArenaTreesUptoSaid : Prop := arenaTreesUptoRow.holds Try.pinned (OpenSpec.upto arenaTreesSpec)

/-- 'quartolaw13.ArenaPlays', WHERE WHAT IT READS IS OF BULK AT MOST 1048576: true; the input reads as it did. -/
def arenaPlaysUptoRow : OpenClaim := { program := "ytfgkbnnojogjpaa", sum := "ccf81e84e7bfbacdda405ea8caefe666adb25b5bc54a61ff9584dae09a7c29ac", func := "quarto/quartolaw13.ArenaPlays", spec := "arenaPlays", unfollowed := true, recurses := true, apart := false, narrowed := true }
def ArenaPlaysUptoSaid : Prop := arenaPlaysUptoRow.holds Try.pinned (OpenSpec.upto arenaPlaysSpec)

/-- 'quartolaw13.ArenaExamples', WHERE WHAT IT READS IS OF BULK AT MOST 1048576: true; the input reads as it did. -/
def arenaExamplesUptoRow : OpenClaim := { program := "ytfgkbnnojogjpaa", sum := "ccf81e84e7bfbacdda405ea8caefe666adb25b5bc54a61ff9584dae09a7c29ac", func := "quarto/quartolaw13.ArenaExamples", spec := "arenaExamples", unfollowed := true, recurses := true, apart := false, narrowed := true }
def ArenaExamplesUptoSaid : Prop := arenaExamplesUptoRow.holds Try.pinned (OpenSpec.upto arenaExamplesSpec)

/-- 'quartolaw13.ArenaKeeps', WHERE WHAT IT READS IS OF BULK AT MOST 1048576: true; the input reads as it did. -/
def arenaKeepsUptoRow : OpenClaim := { program := "ytfgkbnnojogjpaa", sum := "ccf81e84e7bfbacdda405ea8caefe666adb25b5bc54a61ff9584dae09a7c29ac", func := "quarto/quartolaw13.ArenaKeeps", spec := "arenaKeeps", unfollowed := true, recurses := true, apart := false, narrowed := true }
def ArenaKeepsUptoSaid : Prop := arenaKeepsUptoRow.holds Try.pinned (OpenSpec.upto arenaKeepsSpec)

/-- 'quartolaw13.ArenaRefuses', WHERE WHAT IT READS IS OF BULK AT MOST 1048576: true; the input reads as it did. -/
def arenaRefusesUptoRow : OpenClaim := { program := "ytfgkbnnojogjpaa", sum := "ccf81e84e7bfbacdda405ea8caefe666adb25b5bc54a61ff9584dae09a7c29ac", func := "quarto/quartolaw13.ArenaRefuses", spec := "arenaRefuses", unfollowed := true, recurses := true, apart := false, narrowed := true }
def ArenaRefusesUptoSaid : Prop := arenaRefusesUptoRow.holds Try.pinned (OpenSpec.upto arenaRefusesSpec)

end Rows
end Go.Proofs.Ytfgkbnnojogjpaa
