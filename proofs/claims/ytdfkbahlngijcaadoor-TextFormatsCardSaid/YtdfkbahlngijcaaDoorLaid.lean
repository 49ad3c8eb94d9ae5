/- A world in which the three listed variables hold what the rows list: the witness of every row of this seat. -/
import Derived.Test.YtdfkbahlngijcaaDoorCards
import Derived.Test.YtdfkbahlngijcaaDoorTie
import Derived.ProofKit
import Derived.OpenShut
import Derived.SizedLaws
import Derived.Handed
import Derived.LaidLaws
import Derived.LaidHandle
import Derived.SevenTiedAt
namespace Go.Proofs.YtdfkbahlngijcaaDoor
open Go.RowKit

def litV : DataW Unit → Value
  | .lit (.int k n) => .int k n
  | _ => undef
def tabV : DataW Unit → Array Value
  | .agg l => (l.map litV).toArray
  | _ => #[]
/-- the listed variables, with what they hold -/
def laidL : List (String × DataW Unit) := [("math/bits.deBruijn32tab", Rows.laid_math_bits_deBruijn32tab), ("math/bits.deBruijn64tab", Rows.laid_math_bits_deBruijn64tab), ("internal/strconv.uint64pow10", Rows.laid_internal_strconv_uint64pow10)]
noncomputable def laidWorld (os : Os) : World :=
  let w0 := World.holding Tryd.prog os ⟨#[], #[], []⟩
  { w0 with heap := ((w0.heap.modify 0 fun
      | .cells _ t frozen => .cells (tabV Rows.laid_internal_strconv_uint64pow10) t frozen
      | o => o).modify 4 fun
      | .cells _ t frozen => .cells (tabV Rows.laid_math_bits_deBruijn32tab) t frozen
      | o => o).modify 5 fun
      | .cells _ t frozen => .cells (tabV Rows.laid_math_bits_deBruijn64tab) t frozen
      | o => o }
theorem laidWorld_run (os : Os) (args : Array Value) : laidMet Tryd.prog laidL ((laidWorld os).forCall (fun _ _ => 0) ⟨#[], args, []⟩).memory :=
  laidMet_of_run' 8 (by kernel_rfl) (by kernel_rfl)
theorem laidWorld_met (os : Os) (args : Array Value) : laidMetH Tryd.prog laidL ((laidWorld os).forCall (fun _ _ => 0) ⟨#[], args, []⟩).memory :=
  laidMetH_of_parts (laidWorld_run os args) (by kernel_rfl)
end Go.Proofs.YtdfkbahlngijcaaDoor
