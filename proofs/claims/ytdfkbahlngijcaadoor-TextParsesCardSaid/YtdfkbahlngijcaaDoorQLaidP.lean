/- A world in which the two listed variables of Parses hold what its row lists. (printed by slim.py.) -/
import Derived.Test.YtdfkbahlngijcaaDoorCards
import Derived.Test.YtdfkbahlngijcaaDoorTie
import Derived.ProofKit
import Derived.OpenShut
import Derived.SizedLaws
import Derived.Handed
import Derived.LaidLaws
import Derived.LaidHandle
import Derived.SevenTiedAt
namespace Go.Proofs.YtdfkbahlngijcaaDoor
open Go.RowKit

def litV2 : DataW Unit → Value
  | .lit (.int k n) => .int k n
  | _ => undef
def litVs2 : DataW Unit → List Value
  | .agg m => m.map litV2
  | d => [litV2 d]
def tabV2 : DataW Unit → Array Value
  | .agg l => (l.flatMap litVs2).toArray
  | _ => #[]
/-- the listed variables, with what they hold -/
def laidL2 : List (String × DataW Unit) := [("unicode/utf8.acceptRanges", Rows.laid_unicode_utf8_acceptRanges), ("unicode/utf8.first", Rows.laid_unicode_utf8_first)]
noncomputable def laidWorld2 (os : Os) : World :=
  let w0 := World.holding Tryd.prog os ⟨#[], #[], []⟩
  { w0 with heap := (w0.heap.modify 2 fun
      | .cells _ t frozen => .cells (tabV2 Rows.laid_unicode_utf8_first) t frozen
      | o => o).modify 3 fun
      | .cells _ t frozen => .cells (tabV2 Rows.laid_unicode_utf8_acceptRanges) t frozen
      | o => o }
theorem laidWorld2_run (os : Os) (args : Array Value) : laidMet Tryd.prog laidL2 ((laidWorld2 os).forCall (fun _ _ => 0) ⟨#[], args, []⟩).memory :=
  laidMet_of_run' 8 (by kernel_rfl) (by kernel_rfl)
theorem laidWorld2_met (os : Os) (args : Array Value) : laidMetH Tryd.prog laidL2 ((laidWorld2 os).forCall (fun _ _ => 0) ⟨#[], args, []⟩).memory :=
  laidMetH_of_parts (laidWorld2_run os args) (by kernel_rfl)
end Go.Proofs.YtdfkbahlngijcaaDoor

