/- A world in which the two listed variables hold what the rows list: the witness of every row of this seat. -/
import Derived.Test.YtfbjbgknfdekfaaDoorCards
import Derived.Test.YtfbjbgknfdekfaaDoorTie
import Derived.ProofKit
import Derived.OpenShut
import Derived.SizedLaws
import Derived.Handed
import Derived.LaidLaws
import Derived.LaidHandle
import Derived.SevenTiedAt
namespace Go.Proofs.YtfbjbgknfdekfaaDoor
open Go.RowKit

def litV : DataW Unit → Value
  | .lit (.int k n) => .int k n
  | _ => undef
def litVs : DataW Unit → List Value
  | .agg m => m.map litV
  | d => [litV d]
def tabV : DataW Unit → Array Value
  | .agg l => (l.flatMap litVs).toArray
  | _ => #[]
/-- the listed variables, with what they hold -/
def laidL : List (String × DataW Unit) := [("unicode/utf8.acceptRanges", Rows.laid_unicode_utf8_acceptRanges), ("unicode/utf8.first", Rows.laid_unicode_utf8_first)]
noncomputable def laidWorld (os : Os) : World :=
  let w0 := World.holding Tryd.prog os ⟨#[], #[], []⟩
  { w0 with heap := (w0.heap.modify 1 fun
      | .cells _ t frozen => .cells (tabV Rows.laid_unicode_utf8_first) t frozen
      | o => o).modify 2 fun
      | .cells _ t frozen => .cells (tabV Rows.laid_unicode_utf8_acceptRanges) t frozen
      | o => o }
theorem laidWorld_run (os : Os) (args : Array Value) : laidMet Tryd.prog laidL ((laidWorld os).forCall (fun _ _ => 0) ⟨#[], args, []⟩).memory :=
  laidMet_of_run' 8 (by kernel_rfl) (by kernel_rfl)
theorem laidWorld_met (os : Os) (args : Array Value) : laidMetH Tryd.prog laidL ((laidWorld os).forCall (fun _ _ => 0) ⟨#[], args, []⟩).memory :=
  laidMetH_of_parts (laidWorld_run os args) (by kernel_rfl)
end Go.Proofs.YtfbjbgknfdekfaaDoor
