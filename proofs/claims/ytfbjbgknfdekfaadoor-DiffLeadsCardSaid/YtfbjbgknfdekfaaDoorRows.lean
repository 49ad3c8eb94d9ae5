/-
  NARROWER THAN 'FOR EVERY INPUT', by the rows' own cells (each row's printed sentence says how): DiffCommon: laid · DiffBetween: laid · DiffLines: laid · DiffCosts: laid · DiffDistance: laid · DiffLeast: laid · DiffLeads: laid · DiffValid: laid.
  DERIVED. THE GIVEN ROWS OF THIS SEAT. 8 by the template 'for every input the law returns true; each argument reads behind the call as it read before'; 0 by the template 'total and deterministic' (their statements: YtfbjbgknfdekfaaDoorTotals.lean).
  GIVEN WITH THE SEED: the statements are not yours to turn. If you find one false, say at which input.
  Laid BY PROGRAM, IN A SANDBOX (cutbox-rows.mjs): the forced cells as the released guide's own fill.sh prints them over the translation e7904e175a3ca7ef… (all of the seat's roots in one cut). By AI agents, Wed Nov 11 2026. No macro, syntax, notation, axiom, sorry.
-/
import Derived.Test.YtfbjbgknfdekfaaDoorChecked
import GoSem.PinnedTables
import GoSem.Claim
import GoSem.ClaimJoined
import GoSem.ClaimMapViews
import Derived.JoinedTies
import Derived.KernelRfl
namespace Go.Proofs.YtfbjbgknfdekfaaDoor
/- THE CELL 'sum', in the pinned program and in every row, IS THE sha256 OF THE DUMP (.gsa) THAT YtfbjbgknfdekfaaDoorProg.lean LOADS. Nothing in Lean hashes anything: it is a label: what it is worth is what the hold of that sum in a sandbox is worth. -/
noncomputable def Tryd.pinned : Pinned := { name := "ytfbjbgknfdekfaadoor", sum := "e7904e175a3ca7ef8b41649fb68cfcfed090f48c487f8caadd80bd6471c1dc6a", checked := Tryd.checked }
namespace Rows
def none {H : Type} : Left H := { results := [], args := [] }

/- WHAT THE LISTED PACKAGE-LEVEL VARIABLES READ AS WHEN THE CALL BEGINS. Each datum BY PROGRAM (the guide's laid-datum.mjs) off the statement by which the dump's own 'gosem.cut.vars' lays the variable. In a bare row this is a premise. The card (YtfbjbgknfdekfaaDoorCards.lean) ties it to the program's text. -/
def laid_unicode_utf8_acceptRanges {H : Type} : DataW H := .agg [.agg [.lit (.int .u8 128), .lit (.int .u8 191)], .agg [.lit (.int .u8 160), .lit (.int .u8 191)], .agg [.lit (.int .u8 128), .lit (.int .u8 159)], .agg [.lit (.int .u8 144), .lit (.int .u8 191)], .agg [.lit (.int .u8 128), .lit (.int .u8 143)], .agg [.lit (.int .u8 0), .lit (.int .u8 0)], .agg [.lit (.int .u8 0), .lit (.int .u8 0)], .agg [.lit (.int .u8 0), .lit (.int .u8 0)], .agg [.lit (.int .u8 0), .lit (.int .u8 0)], .agg [.lit (.int .u8 0), .lit (.int .u8 0)], .agg [.lit (.int .u8 0), .lit (.int .u8 0)], .agg [.lit (.int .u8 0), .lit (.int .u8 0)], .agg [.lit (.int .u8 0), .lit (.int .u8 0)], .agg [.lit (.int .u8 0), .lit (.int .u8 0)], .agg [.lit (.int .u8 0), .lit (.int .u8 0)], .agg [.lit (.int .u8 0), .lit (.int .u8 0)]]
/-- One of Go's own tables, pinned by name: the form's constant. -/
def laid_unicode_utf8_first : DataW Unit := Go.Pinned.utf8First

/-- 'quartolaw08.DiffCommon': WHATEVER THE INPUT: true; the input reads as it did. -/
def diffCommonSpec : ChangeSpec := { name := "diffCommon", fn := fun _ => fun
  | [d1, d2] => { results := [.lit (.bool true)], args := [d1, d2] }
  | _ => none }
def diffCommonRow : OpenClaim := { program := "ytfbjbgknfdekfaadoor", sum := "e7904e175a3ca7ef8b41649fb68cfcfed090f48c487f8caadd80bd6471c1dc6a", func := "quarto/quartolaw08.DiffCommon", spec := "diffCommon", inPlace := ["internal/abi.NoEscape", "internal/bytealg.CountString", "internal/bytealg.IndexByteString", "internal/bytealg.IndexString"], unfollowed := true, recurses := true, named := ["unicode/utf8.first", "unicode/utf8.acceptRanges", "internal/bytealg.MaxLen"], apart := false, laid := [("unicode/utf8.acceptRanges", laid_unicode_utf8_acceptRanges), ("unicode/utf8.first", laid_unicode_utf8_first)] }
def DiffCommonSaid : Prop := diffCommonRow.holds Tryd.pinned (OpenSpec.ofChange diffCommonSpec)

/-- ITS FALSE NEIGHBOUR: 'it returns false'. Refute it at one input. -/
def diffCommonWrong : ChangeSpec := { name := "diffCommon", fn := fun _ => fun
  | [d1, d2] => { results := [.lit (.bool false)], args := [d1, d2] }
  | _ => none }
def DiffCommonWrongFalsely : Prop := diffCommonRow.holds Tryd.pinned (OpenSpec.ofChange diffCommonWrong)

/-- 'quartolaw08.DiffBetween': WHATEVER THE INPUT: true; the input reads as it did. -/
def diffBetweenSpec : ChangeSpec := { name := "diffBetween", fn := fun _ => fun
  | [d1, d2] => { results := [.lit (.bool true)], args := [d1, d2] }
  | _ => none }
def diffBetweenRow : OpenClaim := { program := "ytfbjbgknfdekfaadoor", sum := "e7904e175a3ca7ef8b41649fb68cfcfed090f48c487f8caadd80bd6471c1dc6a", func := "quarto/quartolaw08.DiffBetween", spec := "diffBetween", inPlace := ["internal/abi.NoEscape", "internal/bytealg.CountString", "internal/bytealg.IndexByteString", "internal/bytealg.IndexString"], unfollowed := true, recurses := true, named := ["unicode/utf8.first", "unicode/utf8.acceptRanges", "internal/bytealg.MaxLen"], apart := false, laid := [("unicode/utf8.acceptRanges", laid_unicode_utf8_acceptRanges), ("unicode/utf8.first", laid_unicode_utf8_first)] }
def DiffBetweenSaid : Prop := diffBetweenRow.holds Tryd.pinned (OpenSpec.ofChange diffBetweenSpec)

/-- ITS FALSE NEIGHBOUR: 'it returns false'. Refute it at one input. -/
def diffBetweenWrong : ChangeSpec := { name := "diffBetween", fn := fun _ => fun
  | [d1, d2] => { results := [.lit (.bool false)], args := [d1, d2] }
  | _ => none }
def DiffBetweenWrongFalsely : Prop := diffBetweenRow.holds Tryd.pinned (OpenSpec.ofChange diffBetweenWrong)

/-- 'quartolaw08.DiffLines': WHATEVER THE INPUT: true; the input reads as it did. -/
def diffLinesSpec : ChangeSpec := { name := "diffLines", fn := fun _ => fun
  | [d1, d2] => { results := [.lit (.bool true)], args := [d1, d2] }
  | _ => none }
def diffLinesRow : OpenClaim := { program := "ytfbjbgknfdekfaadoor", sum := "e7904e175a3ca7ef8b41649fb68cfcfed090f48c487f8caadd80bd6471c1dc6a", func := "quarto/quartolaw08.DiffLines", spec := "diffLines", inPlace := ["internal/bytealg.CountString", "internal/bytealg.IndexByteString", "internal/bytealg.IndexString", "internal/abi.NoEscape"], unfollowed := true, recurses := true, named := ["unicode/utf8.first", "unicode/utf8.acceptRanges", "internal/bytealg.MaxLen"], apart := false, laid := [("unicode/utf8.acceptRanges", laid_unicode_utf8_acceptRanges), ("unicode/utf8.first", laid_unicode_utf8_first)] }
def DiffLinesSaid : Prop := diffLinesRow.holds Tryd.pinned (OpenSpec.ofChange diffLinesSpec)

/-- ITS FALSE NEIGHBOUR: 'it returns false'. Refute it at one input. -/
def diffLinesWrong : ChangeSpec := { name := "diffLines", fn := fun _ => fun
  | [d1, d2] => { results := [.lit (.bool false)], args := [d1, d2] }
  | _ => none }
def DiffLinesWrongFalsely : Prop := diffLinesRow.holds Tryd.pinned (OpenSpec.ofChange diffLinesWrong)

/-- 'quartolaw08.DiffCosts': WHATEVER THE INPUT: true; the input reads as it did. -/
def diffCostsSpec : ChangeSpec := { name := "diffCosts", fn := fun _ => fun
  | [d] => { results := [.lit (.bool true)], args := [d] }
  | _ => none }
def diffCostsRow : OpenClaim := { program := "ytfbjbgknfdekfaadoor", sum := "e7904e175a3ca7ef8b41649fb68cfcfed090f48c487f8caadd80bd6471c1dc6a", func := "quarto/quartolaw08.DiffCosts", spec := "diffCosts", inPlace := ["internal/abi.NoEscape", "internal/bytealg.CountString", "internal/bytealg.IndexByteString", "internal/bytealg.IndexString"], unfollowed := true, recurses := true, named := ["unicode/utf8.first", "unicode/utf8.acceptRanges", "internal/bytealg.MaxLen"], apart := false, laid := [("unicode/utf8.acceptRanges", laid_unicode_utf8_acceptRanges), ("unicode/utf8.first", laid_unicode_utf8_first)] }
def DiffCostsSaid : Prop := diffCostsRow.holds Tryd.pinned (OpenSpec.ofChange diffCostsSpec)

/-- ITS FALSE NEIGHBOUR: 'it returns false'. Refute it at one input. -/
def diffCostsWrong : ChangeSpec := { name := "diffCosts", fn := fun _ => fun
  | [d] => { results := [.lit (.bool false)], args := [d] }
  | _ => none }
def DiffCostsWrongFalsely : Prop := diffCostsRow.holds Tryd.pinned (OpenSpec.ofChange diffCostsWrong)

/-- 'quartolaw08.DiffDistance': WHATEVER THE INPUT: true; the input reads as it did. -/
def diffDistanceSpec : ChangeSpec := { name := "diffDistance", fn := fun _ => fun
  | [d1, d2, d3] => { results := [.lit (.bool true)], args := [d1, d2, d3] }
  | _ => none }
def diffDistanceRow : OpenClaim := { program := "ytfbjbgknfdekfaadoor", sum := "e7904e175a3ca7ef8b41649fb68cfcfed090f48c487f8caadd80bd6471c1dc6a", func := "quarto/quartolaw08.DiffDistance", spec := "diffDistance", inPlace := ["internal/bytealg.CountString", "internal/bytealg.IndexByteString", "internal/bytealg.IndexString", "internal/abi.NoEscape"], unfollowed := true, recurses := true, named := ["unicode/utf8.first", "unicode/utf8.acceptRanges", "internal/bytealg.MaxLen"], apart := false, laid := [("unicode/utf8.acceptRanges", laid_unicode_utf8_acceptRanges), ("unicode/utf8.first", laid_unicode_utf8_first)] }
def DiffDistanceSaid : Prop := diffDistanceRow.holds Tryd.pinned (OpenSpec.ofChange diffDistanceSpec)

/-- ITS FALSE NEIGHBOUR: 'it returns false'. Refute it at one input. -/
def diffDistanceWrong : ChangeSpec := { name := "diffDistance", fn := fun _ => fun
  | [d1, d2, d3] => { results := [.lit (.bool false)], args := [d1, d2, d3] }
  | _ => none }
def DiffDistanceWrongFalsely : Prop := diffDistanceRow.holds Tryd.pinned (OpenSpec.ofChange diffDistanceWrong)

/-- 'quartolaw08.DiffLeast': WHATEVER THE INPUT: true; the input reads as it did. -/
def diffLeastSpec : ChangeSpec := { name := "diffLeast", fn := fun _ => fun
  | [d1, d2, d3] => { results := [.lit (.bool true)], args := [d1, d2, d3] }
  | _ => none }
def diffLeastRow : OpenClaim := { program := "ytfbjbgknfdekfaadoor", sum := "e7904e175a3ca7ef8b41649fb68cfcfed090f48c487f8caadd80bd6471c1dc6a", func := "quarto/quartolaw08.DiffLeast", spec := "diffLeast", inPlace := ["internal/bytealg.CountString", "internal/bytealg.IndexByteString", "internal/bytealg.IndexString", "internal/abi.NoEscape"], unfollowed := true, recurses := true, named := ["unicode/utf8.first", "unicode/utf8.acceptRanges", "internal/bytealg.MaxLen"], apart := false, laid := [("unicode/utf8.acceptRanges", laid_unicode_utf8_acceptRanges), ("unicode/utf8.first", laid_unicode_utf8_first)] }
def DiffLeastSaid : Prop := diffLeastRow.holds Tryd.pinned (OpenSpec.ofChange diffLeastSpec)

/-- ITS FALSE NEIGHBOUR: 'it returns false'. Refute it at one input. -/
def diffLeastWrong : ChangeSpec := { name := "diffLeast", fn := fun _ => fun
  | [d1, d2, d3] => { results := [.lit (.bool false)], args := [d1, d2, d3] }
  | _ => none }
def DiffLeastWrongFalsely : Prop := diffLeastRow.holds Tryd.pinned (OpenSpec.ofChange diffLeastWrong)

/-- 'quartolaw08.DiffLeads': WHATEVER THE INPUT: true; the input reads as it did. -/
def diffLeadsSpec : ChangeSpec := { name := "diffLeads", fn := fun _ => fun
  | [d1, d2] => { results := [.lit (.bool true)], args := [d1, d2] }
  | _ => none }
def diffLeadsRow : OpenClaim := { program := "ytfbjbgknfdekfaadoor", sum := "e7904e175a3ca7ef8b41649fb68cfcfed090f48c487f8caadd80bd6471c1dc6a", func := "quarto/quartolaw08.DiffLeads", spec := "diffLeads", inPlace := ["internal/abi.NoEscape", "internal/bytealg.CountString", "internal/bytealg.IndexByteString", "internal/bytealg.IndexString"], unfollowed := true, recurses := true, named := ["unicode/utf8.first", "unicode/utf8.acceptRanges", "internal/bytealg.MaxLen"], apart := false, laid := [("unicode/utf8.acceptRanges", laid_unicode_utf8_acceptRanges), ("unicode/utf8.first", laid_unicode_utf8_first)] }
def DiffLeadsSaid : Prop := diffLeadsRow.holds Tryd.pinned (OpenSpec.ofChange diffLeadsSpec)

/-- ITS FALSE NEIGHBOUR: 'it returns false'. Refute it at one input. -/
def diffLeadsWrong : ChangeSpec := { name := "diffLeads", fn := fun _ => fun
  | [d1, d2] => { results := [.lit (.bool false)], args := [d1, d2] }
  | _ => none }
def DiffLeadsWrongFalsely : Prop := diffLeadsRow.holds Tryd.pinned (OpenSpec.ofChange diffLeadsWrong)

/-- 'quartolaw08.DiffValid': WHATEVER THE INPUT: true; the input reads as it did. -/
def diffValidSpec : ChangeSpec := { name := "diffValid", fn := fun _ => fun
  | [d1, d2] => { results := [.lit (.bool true)], args := [d1, d2] }
  | _ => none }
def diffValidRow : OpenClaim := { program := "ytfbjbgknfdekfaadoor", sum := "e7904e175a3ca7ef8b41649fb68cfcfed090f48c487f8caadd80bd6471c1dc6a", func := "quarto/quartolaw08.DiffValid", spec := "diffValid", inPlace := ["internal/abi.NoEscape", "internal/bytealg.CountString", "internal/bytealg.IndexByteString", "internal/bytealg.IndexString"], unfollowed := true, recurses := true, named := ["unicode/utf8.first", "unicode/utf8.acceptRanges", "internal/bytealg.MaxLen"], apart := false, laid := [("unicode/utf8.acceptRanges", laid_unicode_utf8_acceptRanges), ("unicode/utf8.first", laid_unicode_utf8_first)] }
def DiffValidSaid : Prop := diffValidRow.holds Tryd.pinned (OpenSpec.ofChange diffValidSpec)

/-- ITS FALSE NEIGHBOUR: 'it returns false'. Refute it at one input. -/
def diffValidWrong : ChangeSpec := { name := "diffValid", fn := fun _ => fun
  | [d1, d2] => { results := [.lit (.bool false)], args := [d1, d2] }
  | _ => none }
def DiffValidWrongFalsely : Prop := diffValidRow.holds Tryd.pinned (OpenSpec.ofChange diffValidWrong)

/- THE SECOND FORM. 'bulk': how many values and letters a reading holds, each counted each time it is reached (what is shared counts as often as it is met; a slice's spare places count too). A statement '..UptoSaid' is the law's where the arguments, and the package variables that the reading takes, are together of bulk at most 1048576: NARROWER than '..Said'. Prove '..Said' where nothing that the law and all that it calls make is longer than what came in: it says more and counts as full. Else prove '..UptoSaid'. A law counts once. -/
mutual
def uptoBulk {H : Type} : DataW H → Nat
  | .lit (.string bytes) => bytes.length + 1
  | .lit _ => 1
  | .nil => 1
  | .ptr d => uptoBulk d + 1
  | .slice elems spare => uptoBulkAll elems + uptoBulkAll spare + 1
  | .agg parts => uptoBulkAll parts + 1
  | .iface _ d => uptoBulk d + 1
  | .map entries => uptoBulkEntries entries + 1
  | .held _ => 1
def uptoBulkAll {H : Type} : List (DataW H) → Nat
  | [] => 0
  | d :: r => uptoBulk d + uptoBulkAll r
def uptoBulkEntries {H : Type} : List (Lit × DataW H) → Nat
  | [] => 0
  | x :: r => uptoBulkEntry x + uptoBulkEntries r
def uptoBulkEntry {H : Type} : Lit × DataW H → Nat
  | (.string bytes, d) => bytes.length + uptoBulk d + 1
  | (_, d) => uptoBulk d + 1
 end
def uptoSmall : (H : Type) → List (DataW H) → Bool := fun _ ds => decide (uptoBulkAll ds ≤ 1048576)
def OpenSpec.upto (s : _root_.Go.ChangeSpec) : _root_.Go.OpenSpec := { _root_.Go.OpenSpec.ofChange s with cond := some uptoSmall }

/-- 'quartolaw08.DiffCommon', WHERE WHAT IT READS IS OF BULK AT MOST 1048576: true; the input reads as it did. -/
def diffCommonUptoRow : OpenClaim := { program := "ytfbjbgknfdekfaadoor", sum := "e7904e175a3ca7ef8b41649fb68cfcfed090f48c487f8caadd80bd6471c1dc6a", func := "quarto/quartolaw08.DiffCommon", spec := "diffCommon", inPlace := ["internal/abi.NoEscape", "internal/bytealg.CountString", "internal/bytealg.IndexByteString", "internal/bytealg.IndexString"], unfollowed := true, recurses := true, named := ["unicode/utf8.first", "unicode/utf8.acceptRanges", "internal/bytealg.MaxLen"], apart := false, laid := [("unicode/utf8.acceptRanges", laid_unicode_utf8_acceptRanges), ("unicode/utf8.first", laid_unicode_utf8_first)], narrowed := true }
def DiffCommonUptoSaid : Prop := diffCommonUptoRow.holds Tryd.pinned (OpenSpec.upto diffCommonSpec)

/-- 'quartolaw08.DiffBetween', WHERE WHAT IT READS IS OF BULK AT MOST 1048576: true; the input reads as it did. -/
def diffBetweenUptoRow : OpenClaim := { program := "ytfbjbgknfdekfaadoor", sum := "e7904e175a3ca7ef8b41649fb68cfcfed090f48c487f8caadd80bd6471c1dc6a", func := "quarto/quartolaw08.DiffBetween", spec := "diffBetween", inPlace := ["internal/abi.NoEscape", "internal/bytealg.CountString", "internal/bytealg.IndexByteString", "internal/bytealg.IndexString"], unfollowed := true, recurses := true, named := ["unicode/utf8.first", "unicode/utf8.acceptRanges", "internal/bytealg.MaxLen"], apart := false, laid := [("unicode/utf8.acceptRanges", laid_unicode_utf8_acceptRanges), ("unicode/utf8.first", laid_unicode_utf8_first)], narrowed := true }
def DiffBetweenUptoSaid : Prop := diffBetweenUptoRow.holds Tryd.pinned (OpenSpec.upto diffBetweenSpec)

/-- 'quartolaw08.DiffLines', WHERE WHAT IT READS IS OF BULK AT MOST 1048576: true; the input reads as it did. -/
def diffLinesUptoRow : OpenClaim := { program := "ytfbjbgknfdekfaadoor", sum := "e7904e175a3ca7ef8b41649fb68cfcfed090f48c487f8caadd80bd6471c1dc6a", func := "quarto/quartolaw08.DiffLines", spec := "diffLines", inPlace := ["internal/bytealg.CountString", "internal/bytealg.IndexByteString", "internal/bytealg.IndexString", "internal/abi.NoEscape"], unfollowed := true, recurses := true, named := ["unicode/utf8.first", "unicode/utf8.acceptRanges", "internal/bytealg.MaxLen"], apart := false, laid := [("unicode/utf8.acceptRanges", laid_unicode_utf8_acceptRanges), ("unicode/utf8.first", laid_unicode_utf8_first)], narrowed := true }
def DiffLinesUptoSaid : Prop := diffLinesUptoRow.holds Tryd.pinned (OpenSpec.upto diffLinesSpec)

/-- 'quartolaw08.DiffCosts', WHERE WHAT IT READS IS OF BULK AT MOST 1048576: true; the input reads as it did. -/
def diffCostsUptoRow : OpenClaim := { program := "ytfbjbgknfdekfaadoor", sum := "e7904e175a3ca7ef8b41649fb68cfcfed090f48c487f8caadd80bd6471c1dc6a", func := "quarto/quartolaw08.DiffCosts", spec := "diffCosts", inPlace := ["internal/abi.NoEscape", "internal/bytealg.CountString", "internal/bytealg.IndexByteString", "internal/bytealg.IndexString"], unfollowed := true, recurses := true, named := ["unicode/utf8.first", "unicode/utf8.acceptRanges", "internal/bytealg.MaxLen"], apart := false, laid := [("unicode/utf8.acceptRanges", laid_unicode_utf8_acceptRanges), ("unicode/utf8.first", laid_unicode_utf8_first)], narrowed := true }
def DiffCostsUptoSaid : Prop := diffCostsUptoRow.holds Tryd.pinned (OpenSpec.upto diffCostsSpec)

/-- 'quartolaw08.DiffDistance', WHERE WHAT IT READS IS OF BULK AT MOST 1048576: true; the input reads as it did. -/
def diffDistanceUptoRow : OpenClaim := { program := "ytfbjbgknfdekfaadoor", sum := "e7904e175a3ca7ef8b41649fb68cfcfed090f48c487f8caadd80bd6471c1dc6a", func := "quarto/quartolaw08.DiffDistance", spec := "diffDistance", inPlace := ["internal/bytealg.CountString", "internal/bytealg.IndexByteString", "internal/bytealg.IndexString", "internal/abi.NoEscape"], unfollowed := true, recurses := true, named := ["unicode/utf8.first", "unicode/utf8.acceptRanges", "internal/bytealg.MaxLen"], apart := false, laid := [("unicode/utf8.acceptRanges", laid_unicode_utf8_acceptRanges), ("unicode/utf8.first", laid_unicode_utf8_first)], narrowed := true }
def DiffDistanceUptoSaid : Prop := diffDistanceUptoRow.holds Tryd.pinned (OpenSpec.upto diffDistanceSpec)

/-- 'quartolaw08.DiffLeast', WHERE WHAT IT READS IS OF BULK AT MOST 1048576: true; the input reads as it did. -/
def diffLeastUptoRow : OpenClaim := { program := "ytfbjbgknfdekfaadoor", sum := "e7904e175a3ca7ef8b41649fb68cfcfed090f48c487f8caadd80bd6471c1dc6a", func := "quarto/quartolaw08.DiffLeast", spec := "diffLeast", inPlace := ["internal/bytealg.CountString", "internal/bytealg.IndexByteString", "internal/bytealg.IndexString", "internal/abi.NoEscape"], unfollowed := true, recurses := true, named := ["unicode/utf8.first", "unicode/utf8.acceptRanges", "internal/bytealg.MaxLen"], apart := false, laid := [("unicode/utf8.acceptRanges", laid_unicode_utf8_acceptRanges), ("unicode/utf8.first", laid_unicode_utf8_first)], narrowed := true }
def DiffLeastUptoSaid : Prop := diffLeastUptoRow.holds Tryd.pinned (OpenSpec.upto diffLeastSpec)

/-- 'quartolaw08.DiffLeads', WHERE WHAT IT READS IS OF BULK AT MOST 1048576: true; the input reads as it did. -/
def diffLeadsUptoRow : OpenClaim := { program := "ytfbjbgknfdekfaadoor", sum := "e7904e175a3ca7ef8b41649fb68cfcfed090f48c487f8caadd80bd6471c1dc6a", func := "quarto/quartolaw08.DiffLeads", spec := "diffLeads", inPlace := ["internal/abi.NoEscape", "internal/bytealg.CountString", "internal/bytealg.IndexByteString", "internal/bytealg.IndexString"], unfollowed := true, recurses := true, named := ["unicode/utf8.first", "unicode/utf8.acceptRanges", "internal/bytealg.MaxLen"], apart := false, laid := [("unicode/utf8.acceptRanges", laid_unicode_utf8_acceptRanges), ("unicode/utf8.first", laid_unicode_utf8_first)], narrowed := true }
def DiffLeadsUptoSaid : Prop := diffLeadsUptoRow.holds Tryd.pinned (OpenSpec.upto diffLeadsSpec)

/-- 'quartolaw08.DiffValid', WHERE WHAT IT READS IS OF BULK AT MOST 1048576: true; the input reads as it did. -/
def diffValidUptoRow : OpenClaim := { program := "ytfbjbgknfdekfaadoor", sum := "e7904e175a3ca7ef8b41649fb68cfcfed090f48c487f8caadd80bd6471c1dc6a", func := "quarto/quartolaw08.DiffValid", spec := "diffValid", inPlace := ["internal/abi.NoEscape", "internal/bytealg.CountString", "internal/bytealg.IndexByteString", "internal/bytealg.IndexString"], unfollowed := true, recurses := true, named := ["unicode/utf8.first", "unicode/utf8.acceptRanges", "internal/bytealg.MaxLen"], apart := false, laid := [("unicode/utf8.acceptRanges", laid_unicode_utf8_acceptRanges), ("unicode/utf8.first", laid_unicode_utf8_first)], narrowed := true }
def DiffValidUptoSaid : Prop := diffValidUptoRow.holds Tryd.pinned (OpenSpec.upto diffValidSpec)

end Rows
end Go.Proofs.YtfbjbgknfdekfaaDoor
