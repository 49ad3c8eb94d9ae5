/-
  NARROWER THAN 'FOR EVERY INPUT', by the rows' own cells (each row's printed sentence says how): DeltaChecks: laid · DeltaNormalizes: laid · DeltaIdentity: laid · DeltaPrints: laid · DeltaParses: laid · DeltaForms: laid · DeltaReads: laid · DeltaEquals: laid · DeltaMeans: laid · DeltaJoins: laid · DeltaGroups: laid.
  DERIVED. THE GIVEN ROWS OF THIS SEAT. 11 by the template 'for every input the law returns true; each argument reads behind the call as it read before'; 0 by the template 'total and deterministic' (their statements: YtkocknhpnmkicaaDoorTotals.lean).
  GIVEN WITH THE SEED: the statements are not yours to turn. If you find one false, say at which input.
  Laid BY PROGRAM, IN A SANDBOX (cutbox-rows.mjs): the forced cells as the released guide's own fill.sh prints them over the translation 7b0acae743c67e01… (all of the seat's roots in one cut). By AI agents, Wed Nov 11 2026. No macro, syntax, notation, axiom, sorry.
-/
import Derived.Test.YtkocknhpnmkicaaDoorChecked
import GoSem.Claim
import GoSem.ClaimJoined
import GoSem.ClaimMapViews
import Derived.JoinedTies
import Derived.KernelRfl
namespace Go.Proofs.YtkocknhpnmkicaaDoor
/- THE CELL 'sum', in the pinned program and in every row, IS THE sha256 OF THE DUMP (.gsa) THAT YtkocknhpnmkicaaDoorProg.lean LOADS. Nothing in Lean hashes anything: it is a label: what it is worth is what the hold of that sum in a sandbox is worth. -/
noncomputable def Tryd.pinned : Pinned := { name := "ytkocknhpnmkicaadoor", sum := "7b0acae743c67e017e2895ac308d6f76288c344e7566e4974daa6af6d4f7c49c", checked := Tryd.checked }
namespace Rows
def none {H : Type} : Left H := { results := [], args := [] }

/- WHAT THE LISTED PACKAGE-LEVEL VARIABLES READ AS WHEN THE CALL BEGINS. Each datum BY PROGRAM (the guide's laid-datum.mjs) off the statement by which the dump's own 'gosem.cut.vars' lays the variable. In a bare row this is a premise. The card (YtkocknhpnmkicaaDoorCards.lean) ties it to the program's text. -/
def laid_math_bits_deBruijn32tab {H : Type} : DataW H := .agg [.lit (.int .u8 0), .lit (.int .u8 1), .lit (.int .u8 28), .lit (.int .u8 2), .lit (.int .u8 29), .lit (.int .u8 14), .lit (.int .u8 24), .lit (.int .u8 3), .lit (.int .u8 30), .lit (.int .u8 22), .lit (.int .u8 20), .lit (.int .u8 15), .lit (.int .u8 25), .lit (.int .u8 17), .lit (.int .u8 4), .lit (.int .u8 8), .lit (.int .u8 31), .lit (.int .u8 27), .lit (.int .u8 13), .lit (.int .u8 23), .lit (.int .u8 21), .lit (.int .u8 19), .lit (.int .u8 16), .lit (.int .u8 7), .lit (.int .u8 26), .lit (.int .u8 12), .lit (.int .u8 18), .lit (.int .u8 6), .lit (.int .u8 11), .lit (.int .u8 5), .lit (.int .u8 10), .lit (.int .u8 9)]
def laid_math_bits_deBruijn64tab {H : Type} : DataW H := .agg [.lit (.int .u8 0), .lit (.int .u8 1), .lit (.int .u8 56), .lit (.int .u8 2), .lit (.int .u8 57), .lit (.int .u8 49), .lit (.int .u8 28), .lit (.int .u8 3), .lit (.int .u8 61), .lit (.int .u8 58), .lit (.int .u8 42), .lit (.int .u8 50), .lit (.int .u8 38), .lit (.int .u8 29), .lit (.int .u8 17), .lit (.int .u8 4), .lit (.int .u8 62), .lit (.int .u8 47), .lit (.int .u8 59), .lit (.int .u8 36), .lit (.int .u8 45), .lit (.int .u8 43), .lit (.int .u8 51), .lit (.int .u8 22), .lit (.int .u8 53), .lit (.int .u8 39), .lit (.int .u8 33), .lit (.int .u8 30), .lit (.int .u8 24), .lit (.int .u8 18), .lit (.int .u8 12), .lit (.int .u8 5), .lit (.int .u8 63), .lit (.int .u8 55), .lit (.int .u8 48), .lit (.int .u8 27), .lit (.int .u8 60), .lit (.int .u8 41), .lit (.int .u8 37), .lit (.int .u8 16), .lit (.int .u8 46), .lit (.int .u8 35), .lit (.int .u8 44), .lit (.int .u8 21), .lit (.int .u8 52), .lit (.int .u8 32), .lit (.int .u8 23), .lit (.int .u8 11), .lit (.int .u8 54), .lit (.int .u8 26), .lit (.int .u8 40), .lit (.int .u8 15), .lit (.int .u8 34), .lit (.int .u8 20), .lit (.int .u8 31), .lit (.int .u8 10), .lit (.int .u8 25), .lit (.int .u8 14), .lit (.int .u8 19), .lit (.int .u8 9), .lit (.int .u8 13), .lit (.int .u8 8), .lit (.int .u8 7), .lit (.int .u8 6)]
def laid_internal_strconv_uint64pow10 {H : Type} : DataW H := .agg [.lit (.int .u64 1), .lit (.int .u64 10), .lit (.int .u64 100), .lit (.int .u64 1000), .lit (.int .u64 10000), .lit (.int .u64 100000), .lit (.int .u64 1000000), .lit (.int .u64 10000000), .lit (.int .u64 100000000), .lit (.int .u64 1000000000), .lit (.int .u64 10000000000), .lit (.int .u64 100000000000), .lit (.int .u64 1000000000000), .lit (.int .u64 10000000000000), .lit (.int .u64 100000000000000), .lit (.int .u64 1000000000000000), .lit (.int .u64 10000000000000000), .lit (.int .u64 100000000000000000), .lit (.int .u64 1000000000000000000), .lit (.int .u64 10000000000000000000)]

/-- 'quartolaw03.DeltaChecks': WHATEVER THE INPUT: true; the input reads as it did. -/
def deltaChecksSpec : ChangeSpec := { name := "deltaChecks", fn := fun _ => fun
  | [d] => { results := [.lit (.bool true)], args := [d] }
  | _ => none }
def deltaChecksRow : OpenClaim := { program := "ytkocknhpnmkicaadoor", sum := "7b0acae743c67e017e2895ac308d6f76288c344e7566e4974daa6af6d4f7c49c", func := "quarto/quartolaw03.DeltaChecks", spec := "deltaChecks", inPlace := ["internal/abi.NoEscape", "internal/bytealg.IndexByteString"], unfollowed := true, recurses := true, named := ["internal/strconv.uint64pow10", "math/bits.deBruijn32tab", "math/bits.deBruijn64tab"], apart := false, laid := [("math/bits.deBruijn32tab", laid_math_bits_deBruijn32tab), ("math/bits.deBruijn64tab", laid_math_bits_deBruijn64tab), ("internal/strconv.uint64pow10", laid_internal_strconv_uint64pow10)] }
def DeltaChecksSaid : Prop := deltaChecksRow.holds Tryd.pinned (OpenSpec.ofChange deltaChecksSpec)

/-- ITS FALSE NEIGHBOUR: 'it returns false'. Refute it at one input. -/
def deltaChecksWrong : ChangeSpec := { name := "deltaChecks", fn := fun _ => fun
  | [d] => { results := [.lit (.bool false)], args := [d] }
  | _ => none }
def DeltaChecksWrongFalsely : Prop := deltaChecksRow.holds Tryd.pinned (OpenSpec.ofChange deltaChecksWrong)

/-- 'quartolaw03.DeltaNormalizes': WHATEVER THE INPUT: true; the input reads as it did. -/
def deltaNormalizesSpec : ChangeSpec := { name := "deltaNormalizes", fn := fun _ => fun
  | [d] => { results := [.lit (.bool true)], args := [d] }
  | _ => none }
def deltaNormalizesRow : OpenClaim := { program := "ytkocknhpnmkicaadoor", sum := "7b0acae743c67e017e2895ac308d6f76288c344e7566e4974daa6af6d4f7c49c", func := "quarto/quartolaw03.DeltaNormalizes", spec := "deltaNormalizes", inPlace := ["internal/abi.NoEscape", "internal/bytealg.IndexByteString"], unfollowed := true, recurses := true, named := ["internal/strconv.uint64pow10", "math/bits.deBruijn32tab", "math/bits.deBruijn64tab"], apart := false, laid := [("math/bits.deBruijn32tab", laid_math_bits_deBruijn32tab), ("math/bits.deBruijn64tab", laid_math_bits_deBruijn64tab), ("internal/strconv.uint64pow10", laid_internal_strconv_uint64pow10)] }
def DeltaNormalizesSaid : Prop := deltaNormalizesRow.holds Tryd.pinned (OpenSpec.ofChange deltaNormalizesSpec)

/-- ITS FALSE NEIGHBOUR: 'it returns false'. Refute it at one input. -/
def deltaNormalizesWrong : ChangeSpec := { name := "deltaNormalizes", fn := fun _ => fun
  | [d] => { results := [.lit (.bool false)], args := [d] }
  | _ => none }
def DeltaNormalizesWrongFalsely : Prop := deltaNormalizesRow.holds Tryd.pinned (OpenSpec.ofChange deltaNormalizesWrong)

/-- 'quartolaw03.DeltaIdentity': WHATEVER THE INPUT: true; the input reads as it did. -/
def deltaIdentitySpec : ChangeSpec := { name := "deltaIdentity", fn := fun _ => fun
  | [d] => { results := [.lit (.bool true)], args := [d] }
  | _ => none }
def deltaIdentityRow : OpenClaim := { program := "ytkocknhpnmkicaadoor", sum := "7b0acae743c67e017e2895ac308d6f76288c344e7566e4974daa6af6d4f7c49c", func := "quarto/quartolaw03.DeltaIdentity", spec := "deltaIdentity", inPlace := ["internal/abi.NoEscape", "internal/bytealg.IndexByteString"], unfollowed := true, recurses := true, named := ["internal/strconv.uint64pow10", "math/bits.deBruijn32tab", "math/bits.deBruijn64tab"], apart := false, laid := [("math/bits.deBruijn32tab", laid_math_bits_deBruijn32tab), ("math/bits.deBruijn64tab", laid_math_bits_deBruijn64tab), ("internal/strconv.uint64pow10", laid_internal_strconv_uint64pow10)] }
def DeltaIdentitySaid : Prop := deltaIdentityRow.holds Tryd.pinned (OpenSpec.ofChange deltaIdentitySpec)

/-- ITS FALSE NEIGHBOUR: 'it returns false'. Refute it at one input. -/
def deltaIdentityWrong : ChangeSpec := { name := "deltaIdentity", fn := fun _ => fun
  | [d] => { results := [.lit (.bool false)], args := [d] }
  | _ => none }
def DeltaIdentityWrongFalsely : Prop := deltaIdentityRow.holds Tryd.pinned (OpenSpec.ofChange deltaIdentityWrong)

/-- 'quartolaw03.DeltaPrints': WHATEVER THE INPUT: true; the input reads as it did. -/
def deltaPrintsSpec : ChangeSpec := { name := "deltaPrints", fn := fun _ => fun
  | [d] => { results := [.lit (.bool true)], args := [d] }
  | _ => none }
def deltaPrintsRow : OpenClaim := { program := "ytkocknhpnmkicaadoor", sum := "7b0acae743c67e017e2895ac308d6f76288c344e7566e4974daa6af6d4f7c49c", func := "quarto/quartolaw03.DeltaPrints", spec := "deltaPrints", inPlace := ["internal/abi.NoEscape", "internal/bytealg.IndexByteString"], unfollowed := true, recurses := true, named := ["internal/strconv.uint64pow10", "math/bits.deBruijn32tab", "math/bits.deBruijn64tab"], apart := false, laid := [("math/bits.deBruijn32tab", laid_math_bits_deBruijn32tab), ("math/bits.deBruijn64tab", laid_math_bits_deBruijn64tab), ("internal/strconv.uint64pow10", laid_internal_strconv_uint64pow10)] }
def DeltaPrintsSaid : Prop := deltaPrintsRow.holds Tryd.pinned (OpenSpec.ofChange deltaPrintsSpec)

/-- ITS FALSE NEIGHBOUR: 'it returns false'. Refute it at one input. -/
def deltaPrintsWrong : ChangeSpec := { name := "deltaPrints", fn := fun _ => fun
  | [d] => { results := [.lit (.bool false)], args := [d] }
  | _ => none }
def DeltaPrintsWrongFalsely : Prop := deltaPrintsRow.holds Tryd.pinned (OpenSpec.ofChange deltaPrintsWrong)

/-- 'quartolaw03.DeltaParses': WHATEVER THE INPUT: true; the input reads as it did. -/
def deltaParsesSpec : ChangeSpec := { name := "deltaParses", fn := fun _ => fun
  | [d] => { results := [.lit (.bool true)], args := [d] }
  | _ => none }
def deltaParsesRow : OpenClaim := { program := "ytkocknhpnmkicaadoor", sum := "7b0acae743c67e017e2895ac308d6f76288c344e7566e4974daa6af6d4f7c49c", func := "quarto/quartolaw03.DeltaParses", spec := "deltaParses", inPlace := ["internal/bytealg.IndexByteString", "internal/abi.NoEscape"], unfollowed := true, recurses := true, named := ["internal/strconv.uint64pow10", "math/bits.deBruijn32tab", "math/bits.deBruijn64tab"], apart := false, laid := [("math/bits.deBruijn32tab", laid_math_bits_deBruijn32tab), ("math/bits.deBruijn64tab", laid_math_bits_deBruijn64tab), ("internal/strconv.uint64pow10", laid_internal_strconv_uint64pow10)] }
def DeltaParsesSaid : Prop := deltaParsesRow.holds Tryd.pinned (OpenSpec.ofChange deltaParsesSpec)

/-- ITS FALSE NEIGHBOUR: 'it returns false'. Refute it at one input. -/
def deltaParsesWrong : ChangeSpec := { name := "deltaParses", fn := fun _ => fun
  | [d] => { results := [.lit (.bool false)], args := [d] }
  | _ => none }
def DeltaParsesWrongFalsely : Prop := deltaParsesRow.holds Tryd.pinned (OpenSpec.ofChange deltaParsesWrong)

/-- 'quartolaw03.DeltaForms': WHATEVER THE INPUT: true; the input reads as it did. -/
def deltaFormsSpec : ChangeSpec := { name := "deltaForms", fn := fun _ => fun
  | [d] => { results := [.lit (.bool true)], args := [d] }
  | _ => none }
def deltaFormsRow : OpenClaim := { program := "ytkocknhpnmkicaadoor", sum := "7b0acae743c67e017e2895ac308d6f76288c344e7566e4974daa6af6d4f7c49c", func := "quarto/quartolaw03.DeltaForms", spec := "deltaForms", inPlace := ["internal/abi.NoEscape", "internal/bytealg.IndexByteString"], unfollowed := true, recurses := true, named := ["internal/strconv.uint64pow10", "math/bits.deBruijn32tab", "math/bits.deBruijn64tab"], apart := false, laid := [("math/bits.deBruijn32tab", laid_math_bits_deBruijn32tab), ("math/bits.deBruijn64tab", laid_math_bits_deBruijn64tab), ("internal/strconv.uint64pow10", laid_internal_strconv_uint64pow10)] }
def DeltaFormsSaid : Prop := deltaFormsRow.holds Tryd.pinned (OpenSpec.ofChange deltaFormsSpec)

/-- ITS FALSE NEIGHBOUR: 'it returns false'. Refute it at one input. -/
def deltaFormsWrong : ChangeSpec := { name := "deltaForms", fn := fun _ => fun
  | [d] => { results := [.lit (.bool false)], args := [d] }
  | _ => none }
def DeltaFormsWrongFalsely : Prop := deltaFormsRow.holds Tryd.pinned (OpenSpec.ofChange deltaFormsWrong)

/-- 'quartolaw03.DeltaReads': WHATEVER THE INPUT: true; the input reads as it did. -/
def deltaReadsSpec : ChangeSpec := { name := "deltaReads", fn := fun _ => fun
  | [d1, d2] => { results := [.lit (.bool true)], args := [d1, d2] }
  | _ => none }
def deltaReadsRow : OpenClaim := { program := "ytkocknhpnmkicaadoor", sum := "7b0acae743c67e017e2895ac308d6f76288c344e7566e4974daa6af6d4f7c49c", func := "quarto/quartolaw03.DeltaReads", spec := "deltaReads", inPlace := ["internal/abi.NoEscape", "internal/bytealg.IndexByteString"], unfollowed := true, recurses := true, named := ["internal/strconv.uint64pow10", "math/bits.deBruijn32tab", "math/bits.deBruijn64tab"], apart := false, laid := [("math/bits.deBruijn32tab", laid_math_bits_deBruijn32tab), ("math/bits.deBruijn64tab", laid_math_bits_deBruijn64tab), ("internal/strconv.uint64pow10", laid_internal_strconv_uint64pow10)] }
def DeltaReadsSaid : Prop := deltaReadsRow.holds Tryd.pinned (OpenSpec.ofChange deltaReadsSpec)

/-- ITS FALSE NEIGHBOUR: 'it returns false'. Refute it at one input. -/
def deltaReadsWrong : ChangeSpec := { name := "deltaReads", fn := fun _ => fun
  | [d1, d2] => { results := [.lit (.bool false)], args := [d1, d2] }
  | _ => none }
def DeltaReadsWrongFalsely : Prop := deltaReadsRow.holds Tryd.pinned (OpenSpec.ofChange deltaReadsWrong)

/-- 'quartolaw03.DeltaEquals': WHATEVER THE INPUT: true; the input reads as it did. -/
def deltaEqualsSpec : ChangeSpec := { name := "deltaEquals", fn := fun _ => fun
  | [d1, d2] => { results := [.lit (.bool true)], args := [d1, d2] }
  | _ => none }
def deltaEqualsRow : OpenClaim := { program := "ytkocknhpnmkicaadoor", sum := "7b0acae743c67e017e2895ac308d6f76288c344e7566e4974daa6af6d4f7c49c", func := "quarto/quartolaw03.DeltaEquals", spec := "deltaEquals", inPlace := ["internal/abi.NoEscape", "internal/bytealg.IndexByteString"], unfollowed := true, recurses := true, named := ["internal/strconv.uint64pow10", "math/bits.deBruijn32tab", "math/bits.deBruijn64tab"], apart := false, laid := [("math/bits.deBruijn32tab", laid_math_bits_deBruijn32tab), ("math/bits.deBruijn64tab", laid_math_bits_deBruijn64tab), ("internal/strconv.uint64pow10", laid_internal_strconv_uint64pow10)] }
def DeltaEqualsSaid : Prop := deltaEqualsRow.holds Tryd.pinned (OpenSpec.ofChange deltaEqualsSpec)

/-- ITS FALSE NEIGHBOUR: 'it returns false'. Refute it at one input. -/
def deltaEqualsWrong : ChangeSpec := { name := "deltaEquals", fn := fun _ => fun
  | [d1, d2] => { results := [.lit (.bool false)], args := [d1, d2] }
  | _ => none }
def DeltaEqualsWrongFalsely : Prop := deltaEqualsRow.holds Tryd.pinned (OpenSpec.ofChange deltaEqualsWrong)

/-- 'quartolaw03.DeltaMeans': WHATEVER THE INPUT: true; the input reads as it did. -/
def deltaMeansSpec : ChangeSpec := { name := "deltaMeans", fn := fun _ => fun
  | [d1, d2] => { results := [.lit (.bool true)], args := [d1, d2] }
  | _ => none }
def deltaMeansRow : OpenClaim := { program := "ytkocknhpnmkicaadoor", sum := "7b0acae743c67e017e2895ac308d6f76288c344e7566e4974daa6af6d4f7c49c", func := "quarto/quartolaw03.DeltaMeans", spec := "deltaMeans", inPlace := ["internal/abi.NoEscape", "internal/bytealg.IndexByteString"], unfollowed := true, recurses := true, named := ["internal/strconv.uint64pow10", "math/bits.deBruijn32tab", "math/bits.deBruijn64tab"], apart := false, laid := [("math/bits.deBruijn32tab", laid_math_bits_deBruijn32tab), ("math/bits.deBruijn64tab", laid_math_bits_deBruijn64tab), ("internal/strconv.uint64pow10", laid_internal_strconv_uint64pow10)] }
def DeltaMeansSaid : Prop := deltaMeansRow.holds Tryd.pinned (OpenSpec.ofChange deltaMeansSpec)

/-- ITS FALSE NEIGHBOUR: 'it returns false'. Refute it at one input. -/
def deltaMeansWrong : ChangeSpec := { name := "deltaMeans", fn := fun _ => fun
  | [d1, d2] => { results := [.lit (.bool false)], args := [d1, d2] }
  | _ => none }
def DeltaMeansWrongFalsely : Prop := deltaMeansRow.holds Tryd.pinned (OpenSpec.ofChange deltaMeansWrong)

/-- 'quartolaw03.DeltaJoins': WHATEVER THE INPUT: true; the input reads as it did. -/
def deltaJoinsSpec : ChangeSpec := { name := "deltaJoins", fn := fun _ => fun
  | [d] => { results := [.lit (.bool true)], args := [d] }
  | _ => none }
def deltaJoinsRow : OpenClaim := { program := "ytkocknhpnmkicaadoor", sum := "7b0acae743c67e017e2895ac308d6f76288c344e7566e4974daa6af6d4f7c49c", func := "quarto/quartolaw03.DeltaJoins", spec := "deltaJoins", inPlace := ["internal/abi.NoEscape", "internal/bytealg.IndexByteString"], unfollowed := true, recurses := true, named := ["internal/strconv.uint64pow10", "math/bits.deBruijn32tab", "math/bits.deBruijn64tab"], apart := false, laid := [("math/bits.deBruijn32tab", laid_math_bits_deBruijn32tab), ("math/bits.deBruijn64tab", laid_math_bits_deBruijn64tab), ("internal/strconv.uint64pow10", laid_internal_strconv_uint64pow10)] }
def DeltaJoinsSaid : Prop := deltaJoinsRow.holds Tryd.pinned (OpenSpec.ofChange deltaJoinsSpec)

/-- ITS FALSE NEIGHBOUR: 'it returns false'. Refute it at one input. -/
def deltaJoinsWrong : ChangeSpec := { name := "deltaJoins", fn := fun _ => fun
  | [d] => { results := [.lit (.bool false)], args := [d] }
  | _ => none }
def DeltaJoinsWrongFalsely : Prop := deltaJoinsRow.holds Tryd.pinned (OpenSpec.ofChange deltaJoinsWrong)

/-- 'quartolaw03.DeltaGroups': WHATEVER THE INPUT: true; the input reads as it did. -/
def deltaGroupsSpec : ChangeSpec := { name := "deltaGroups", fn := fun _ => fun
  | [d1, d2, d3] => { results := [.lit (.bool true)], args := [d1, d2, d3] }
  | _ => none }
def deltaGroupsRow : OpenClaim := { program := "ytkocknhpnmkicaadoor", sum := "7b0acae743c67e017e2895ac308d6f76288c344e7566e4974daa6af6d4f7c49c", func := "quarto/quartolaw03.DeltaGroups", spec := "deltaGroups", inPlace := ["internal/abi.NoEscape", "internal/bytealg.IndexByteString"], unfollowed := true, recurses := true, named := ["internal/strconv.uint64pow10", "math/bits.deBruijn32tab", "math/bits.deBruijn64tab"], apart := false, laid := [("math/bits.deBruijn32tab", laid_math_bits_deBruijn32tab), ("math/bits.deBruijn64tab", laid_math_bits_deBruijn64tab), ("internal/strconv.uint64pow10", laid_internal_strconv_uint64pow10)] }
def DeltaGroupsSaid : Prop := deltaGroupsRow.holds Tryd.pinned (OpenSpec.ofChange deltaGroupsSpec)

/-- ITS FALSE NEIGHBOUR: 'it returns false'. Refute it at one input. -/
def deltaGroupsWrong : ChangeSpec := { name := "deltaGroups", fn := fun _ => fun
  | [d1, d2, d3] => { results := [.lit (.bool false)], args := [d1, d2, d3] }
  | _ => none }
def DeltaGroupsWrongFalsely : Prop := deltaGroupsRow.holds Tryd.pinned (OpenSpec.ofChange deltaGroupsWrong)

/- THE SECOND FORM. 'bulk': how many values and letters a reading holds, each counted each time it is reached (what is shared counts as often as it is met; a slice's spare places count too). A statement '..UptoSaid' is the law's where the arguments, and the package variables that the reading takes, are together of bulk at most 1048576: NARROWER than '..Said'. Prove '..Said' where nothing that the law and all that it calls make is longer than what came in: it says more and counts as full. Else prove '..UptoSaid'. A law counts once. -/
mutual
def uptoBulk {H : Type} : DataW H → Nat
  | .lit (.string bytes) => bytes.length + 1
  | .lit _ => 1
  | .nil => 1
  | .ptr d => uptoBulk d + 1
  | .slice elems spare => uptoBulkAll elems + uptoBulkAll spare + 1
  | .agg parts => uptoBulkAll parts + 1
  | .iface _ d => uptoBulk d + 1
  | .map entries => uptoBulkEntries entries + 1
  | .held _ => 1
def uptoBulkAll {H : Type} : List (DataW H) → Nat
  | [] => 0
  | d :: r => uptoBulk d + uptoBulkAll r
def uptoBulkEntries {H : Type} : List (Lit × DataW H) → Nat
  | [] => 0
  | x :: r => uptoBulkEntry x + uptoBulkEntries r
def uptoBulkEntry {H : Type} : Lit × DataW H → Nat
  | (.string bytes, d) => bytes.length + uptoBulk d + 1
  | (_, d) => uptoBulk d + 1
 end
def uptoSmall : (H : Type) → List (DataW H) → Bool := fun _ ds => decide (uptoBulkAll ds ≤ 1048576)
def OpenSpec.upto (s : _root_.Go.ChangeSpec) : _root_.Go.OpenSpec := { _root_.Go.OpenSpec.ofChange s with cond := some uptoSmall }

/-- 'quartolaw03.DeltaChecks', WHERE WHAT IT READS IS OF BULK AT MOST 1048576: true; the input reads as it did. -/
def deltaChecksUptoRow : OpenClaim := { program := "ytkocknhpnmkicaadoor", sum := "7b0acae743c67e017e2895ac308d6f76288c344e7566e4974daa6af6d4f7c49c", func := "quarto/quartolaw03.DeltaChecks", spec := "deltaChecks", inPlace := ["internal/abi.NoEscape", "internal/bytealg.IndexByteString"], unfollowed := true, recurses := true, named := ["internal/strconv.uint64pow10", "math/bits.deBruijn32tab", "math/bits.deBruijn64tab"], apart := false, laid := [("math/bits.deBruijn32tab", laid_math_bits_deBruijn32tab), ("math/bits.deBruijn64tab", laid_math_bits_deBruijn64tab), ("internal/strconv.uint64pow10", laid_internal_strconv_uint64pow10)], narrowed := true }
def DeltaChecksUptoSaid : Prop := deltaChecksUptoRow.holds Tryd.pinned (OpenSpec.upto deltaChecksSpec)

/-- 'quartolaw03.DeltaNormalizes', WHERE WHAT IT READS IS OF BULK AT MOST 1048576: true; the input reads as it did. -/
def deltaNormalizesUptoRow : OpenClaim := { program := "ytkocknhpnmkicaadoor", sum := "7b0acae743c67e017e2895ac308d6f76288c344e7566e4974daa6af6d4f7c49c", func := "quarto/quartolaw03.DeltaNormalizes", spec := "deltaNormalizes", inPlace := ["internal/abi.NoEscape", "internal/bytealg.IndexByteString"], unfollowed := true, recurses := true, named := ["internal/strconv.uint64pow10", "math/bits.deBruijn32tab", "math/bits.deBruijn64tab"], apart := false, laid := [("math/bits.deBruijn32tab", laid_math_bits_deBruijn32tab), ("math/bits.deBruijn64tab", laid_math_bits_deBruijn64tab), ("internal/strconv.uint64pow10", laid_internal_strconv_uint64pow10)], narrowed := true }
def DeltaNormalizesUptoSaid : Prop := deltaNormalizesUptoRow.holds Tryd.pinned (OpenSpec.upto deltaNormalizesSpec)

/-- 'quartolaw03.DeltaIdentity', WHERE WHAT IT READS IS OF BULK AT MOST 1048576: true; the input reads as it did. -/
def deltaIdentityUptoRow : OpenClaim := { program := "ytkocknhpnmkicaadoor", sum := "7b0acae743c67e017e2895ac308d6f76288c344e7566e4974daa6af6d4f7c49c", func := "quarto/quartolaw03.DeltaIdentity", spec := "deltaIdentity", inPlace := ["internal/abi.NoEscape", "internal/bytealg.IndexByteString"], unfollowed := true, recurses := true, named := ["internal/strconv.uint64pow10", "math/bits.deBruijn32tab", "math/bits.deBruijn64tab"], apart := false, laid := [("math/bits.deBruijn32tab", laid_math_bits_deBruijn32tab), ("math/bits.deBruijn64tab", laid_math_bits_deBruijn64tab), ("internal/strconv.uint64pow10", laid_internal_strconv_uint64pow10)], narrowed := true }
def DeltaIdentityUptoSaid : Prop := deltaIdentityUptoRow.holds Tryd.pinned (OpenSpec.upto deltaIdentitySpec)

/-- 'quartolaw03.DeltaPrints', WHERE WHAT IT READS IS OF BULK AT MOST 1048576: true; the input reads as it did. -/
def deltaPrintsUptoRow : OpenClaim := { program := "ytkocknhpnmkicaadoor", sum := "7b0acae743c67e017e2895ac308d6f76288c344e7566e4974daa6af6d4f7c49c", func := "quarto/quartolaw03.DeltaPrints", spec := "deltaPrints", inPlace := ["internal/abi.NoEscape", "internal/bytealg.IndexByteString"], unfollowed := true, recurses := true, named := ["internal/strconv.uint64pow10", "math/bits.deBruijn32tab", "math/bits.deBruijn64tab"], apart := false, laid := [("math/bits.deBruijn32tab", laid_math_bits_deBruijn32tab), ("math/bits.deBruijn64tab", laid_math_bits_deBruijn64tab), ("internal/strconv.uint64pow10", laid_internal_strconv_uint64pow10)], narrowed := true }
def DeltaPrintsUptoSaid : Prop := deltaPrintsUptoRow.holds Tryd.pinned (OpenSpec.upto deltaPrintsSpec)

/-- 'quartolaw03.DeltaParses', WHERE WHAT IT READS IS OF BULK AT MOST 1048576: true; the input reads as it did. -/
def deltaParsesUptoRow : OpenClaim := { program := "ytkocknhpnmkicaadoor", sum := "7b0acae743c67e017e2895ac308d6f76288c344e7566e4974daa6af6d4f7c49c", func := "quarto/quartolaw03.DeltaParses", spec := "deltaParses", inPlace := ["internal/bytealg.IndexByteString", "internal/abi.NoEscape"], unfollowed := true, recurses := true, named := ["internal/strconv.uint64pow10", "math/bits.deBruijn32tab", "math/bits.deBruijn64tab"], apart := false, laid := [("math/bits.deBruijn32tab", laid_math_bits_deBruijn32tab), ("math/bits.deBruijn64tab", laid_math_bits_deBruijn64tab), ("internal/strconv.uint64pow10", laid_internal_strconv_uint64pow10)], narrowed := true }
def DeltaParsesUptoSaid : Prop := deltaParsesUptoRow.holds Tryd.pinned (OpenSpec.upto deltaParsesSpec)

/-- 'quartolaw03.DeltaForms', WHERE WHAT IT READS IS OF BULK AT MOST 1048576: true; the input reads as it did. -/
def deltaFormsUptoRow : OpenClaim := { program := "ytkocknhpnmkicaadoor", sum := "7b0acae743c67e017e2895ac308d6f76288c344e7566e4974daa6af6d4f7c49c", func := "quarto/quartolaw03.DeltaForms", spec := "deltaForms", inPlace := ["internal/abi.NoEscape", "internal/bytealg.IndexByteString"], unfollowed := true, recurses := true, named := ["internal/strconv.uint64pow10", "math/bits.deBruijn32tab", "math/bits.deBruijn64tab"], apart := false, laid := [("math/bits.deBruijn32tab", laid_math_bits_deBruijn32tab), ("math/bits.deBruijn64tab", laid_math_bits_deBruijn64tab), ("internal/strconv.uint64pow10", laid_internal_strconv_uint64pow10)], narrowed := true }
def DeltaFormsUptoSaid : Prop := deltaFormsUptoRow.holds Tryd.pinned (OpenSpec.upto deltaFormsSpec)

/-- 'quartolaw03.DeltaReads', WHERE WHAT IT READS IS OF BULK AT MOST 1048576: true; the input reads as it did. -/
def deltaReadsUptoRow : OpenClaim := { program := "ytkocknhpnmkicaadoor", sum := "7b0acae743c67e017e2895ac308d6f76288c344e7566e4974daa6af6d4f7c49c", func := "quarto/quartolaw03.DeltaReads", spec := "deltaReads", inPlace := ["internal/abi.NoEscape", "internal/bytealg.IndexByteString"], unfollowed := true, recurses := true, named := ["internal/strconv.uint64pow10", "math/bits.deBruijn32tab", "math/bits.deBruijn64tab"], apart := false, laid := [("math/bits.deBruijn32tab", laid_math_bits_deBruijn32tab), ("math/bits.deBruijn64tab", laid_math_bits_deBruijn64tab), ("internal/strconv.uint64pow10", laid_internal_strconv_uint64pow10)], narrowed := true }
def DeltaReadsUptoSaid : Prop := deltaReadsUptoRow.holds Tryd.pinned (OpenSpec.upto deltaReadsSpec)

/-- 'quartolaw03.DeltaEquals', WHERE WHAT IT READS IS OF BULK AT MOST 1048576: true; the input reads as it did. -/
def deltaEqualsUptoRow : OpenClaim := { program := "ytkocknhpnmkicaadoor", sum := "7b0acae743c67e017e2895ac308d6f76288c344e7566e4974daa6af6d4f7c49c", func := "quarto/quartolaw03.DeltaEquals", spec := "deltaEquals", inPlace := ["internal/abi.NoEscape", "internal/bytealg.IndexByteString"], unfollowed := true, recurses := true, named := ["internal/strconv.uint64pow10", "math/bits.deBruijn32tab", "math/bits.deBruijn64tab"], apart := false, laid := [("math/bits.deBruijn32tab", laid_math_bits_deBruijn32tab), ("math/bits.deBruijn64tab", laid_math_bits_deBruijn64tab), ("internal/strconv.uint64pow10", laid_internal_strconv_uint64pow10)], narrowed := true }
def DeltaEqualsUptoSaid : Prop := deltaEqualsUptoRow.holds Tryd.pinned (OpenSpec.upto deltaEqualsSpec)

/-- 'quartolaw03.DeltaMeans', WHERE WHAT IT READS IS OF BULK AT MOST 1048576: true; the input reads as it did. -/
def deltaMeansUptoRow : OpenClaim := { program := "ytkocknhpnmkicaadoor", sum := "7b0acae743c67e017e2895ac308d6f76288c344e7566e4974daa6af6d4f7c49c", func := "quarto/quartolaw03.DeltaMeans", spec := "deltaMeans", inPlace := ["internal/abi.NoEscape", "internal/bytealg.IndexByteString"], unfollowed := true, recurses := true, named := ["internal/strconv.uint64pow10", "math/bits.deBruijn32tab", "math/bits.deBruijn64tab"], apart := false, laid := [("math/bits.deBruijn32tab", laid_math_bits_deBruijn32tab), ("math/bits.deBruijn64tab", laid_math_bits_deBruijn64tab), ("internal/strconv.uint64pow10", laid_internal_strconv_uint64pow10)], narrowed := true }
def DeltaMeansUptoSaid : Prop := deltaMeansUptoRow.holds Tryd.pinned (OpenSpec.upto deltaMeansSpec)

/-- 'quartolaw03.DeltaJoins', WHERE WHAT IT READS IS OF BULK AT MOST 1048576: true; the input reads as it did. -/
def deltaJoinsUptoRow : OpenClaim := { program := "ytkocknhpnmkicaadoor", sum := "7b0acae743c67e017e2895ac308d6f76288c344e7566e4974daa6af6d4f7c49c", func := "quarto/quartolaw03.DeltaJoins", spec := "deltaJoins", inPlace := ["internal/abi.NoEscape", "internal/bytealg.IndexByteString"], unfollowed := true, recurses := true, named := ["internal/strconv.uint64pow10", "math/bits.deBruijn32tab", "math/bits.deBruijn64tab"], apart := false, laid := [("math/bits.deBruijn32tab", laid_math_bits_deBruijn32tab), ("math/bits.deBruijn64tab", laid_math_bits_deBruijn64tab), ("internal/strconv.uint64pow10", laid_internal_strconv_uint64pow10)], narrowed := true }
def DeltaJoinsUptoSaid : Prop := deltaJoinsUptoRow.holds Tryd.pinned (OpenSpec.upto deltaJoinsSpec)

/-- 'quartolaw03.DeltaGroups', WHERE WHAT IT READS IS OF BULK AT MOST 1048576: true; the input reads as it did. -/
def deltaGroupsUptoRow : OpenClaim := { program := "ytkocknhpnmkicaadoor", sum := "7b0acae743c67e017e2895ac308d6f76288c344e7566e4974daa6af6d4f7c49c", func := "quarto/quartolaw03.DeltaGroups", spec := "deltaGroups", inPlace := ["internal/abi.NoEscape", "internal/bytealg.IndexByteString"], unfollowed := true, recurses := true, named := ["internal/strconv.uint64pow10", "math/bits.deBruijn32tab", "math/bits.deBruijn64tab"], apart := false, laid := [("math/bits.deBruijn32tab", laid_math_bits_deBruijn32tab), ("math/bits.deBruijn64tab", laid_math_bits_deBruijn64tab), ("internal/strconv.uint64pow10", laid_internal_strconv_uint64pow10)], narrowed := true }
def DeltaGroupsUptoSaid : Prop := deltaGroupsUptoRow.holds Tryd.pinned (OpenSpec.upto deltaGroupsSpec)

end Rows
end Go.Proofs.YtkocknhpnmkicaaDoor
