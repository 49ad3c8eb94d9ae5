/- A world in which the five listed variables hold what the rows list: the witness of every row of this seat. The listed table of powers of ten, out of what a row lists. -/
import Derived.Test.YtdfkbahlngijcaaDoorCards
import Derived.Test.YtdfkbahlngijcaaDoorTie
import Derived.ProofKit
import Derived.OpenShut
import Derived.SizedLaws
import Derived.Handed
import Derived.LaidLaws
import Derived.LaidHandle
import Derived.SevenTiedAt
import Derived.Test.YtdfkbahlngijcaaDoorKb
import Derived.Lib.LaidTab
namespace Go.Proofs.YtdfkbahlngijcaaDoor
open Go.RowKit

def litV5 : DataW Unit → Value
  | .lit (.int k n) => .int k n
  | _ => undef
def litVs5 : DataW Unit → List Value
  | .agg m => m.map litV5
  | d => [litV5 d]
def tabV5 : DataW Unit → Array Value
  | .agg l => (l.flatMap litVs5).toArray
  | _ => #[]
/-- the listed variables, with what they hold -/
def laidL5 : List (String × DataW Unit) := [("math/bits.deBruijn32tab", Rows.laid_math_bits_deBruijn32tab), ("math/bits.deBruijn64tab", Rows.laid_math_bits_deBruijn64tab), ("internal/strconv.uint64pow10", Rows.laid_internal_strconv_uint64pow10), ("unicode/utf8.acceptRanges", Rows.laid_unicode_utf8_acceptRanges), ("unicode/utf8.first", Rows.laid_unicode_utf8_first)]
noncomputable def laidWorld5 (os : Os) : World :=
  let w0 := World.holding Tryd.prog os ⟨#[], #[], []⟩
  { w0 with heap := ((((w0.heap.modify 0 fun
      | .cells _ t frozen => .cells (tabV5 Rows.laid_internal_strconv_uint64pow10) t frozen
      | o => o).modify 4 fun
      | .cells _ t frozen => .cells (tabV5 Rows.laid_math_bits_deBruijn32tab) t frozen
      | o => o).modify 5 fun
      | .cells _ t frozen => .cells (tabV5 Rows.laid_math_bits_deBruijn64tab) t frozen
      | o => o).modify 2 fun
      | .cells _ t frozen => .cells (tabV5 Rows.laid_unicode_utf8_first) t frozen
      | o => o).modify 3 fun
      | .cells _ t frozen => .cells (tabV5 Rows.laid_unicode_utf8_acceptRanges) t frozen
      | o => o }
theorem laidWorld5_run (os : Os) (args : Array Value) : laidMet Tryd.prog laidL5 ((laidWorld5 os).forCall (fun _ _ => 0) ⟨#[], args, []⟩).memory :=
  laidMet_of_run' 8 (by kernel_rfl) (by kernel_rfl)
theorem laidWorld5_met (os : Os) (args : Array Value) : laidMetH Tryd.prog laidL5 ((laidWorld5 os).forCall (fun _ _ => 0) ⟨#[], args, []⟩).memory :=
  laidMetH_of_parts (laidWorld5_run os args) (by kernel_rfl)
end Go.Proofs.YtdfkbahlngijcaaDoor

namespace Go.Proofs.YtdfkbahlngijcaaDoor
open Go.RowKit

theorem tab_of_laid5 {W : World} (h : laidMetH Tryd.prog laidL5 W) : Tab W := by
  have h' : laidMet Tryd.prog laidL5 W := h
  obtain ⟨ps, hl, hn, hc⟩ := h'
  obtain ⟨g1, t1, cs1, f1, p1, q1, -, -, -, -, hr1, -⟩ := hl
  obtain ⟨g2, t2, cs2, f2, p2, q2, -, -, -, -, hr2, -⟩ := hr1
  obtain ⟨g3, t3, cs3, f3, p3, q3, hg3, ht3, hvar, hd, -, -⟩ := hr2
  have hg : Tryd.prog.globalNamed "internal/strconv.uint64pow10" = some 0 := by kernel_rfl
  obtain rfl := Option.some.inj (hg.symm.trans hg3)
  have hty : (Tryd.prog.globals[0]?).map (·.type) = some 168 := by kernel_rfl
  obtain rfl := Option.some.inj (hty.symm.trans ht3)
  unfold Tab Lib.TabIs
  have hcs := Lib.cells_of_tab (n := 20) (e := 36) (k := .u64) (zs := Lib.pow10Tab) Tryd.underlying168 Tryd.underlying36 (by kernel_rfl) (by kernel_rfl) hd
  rw [hvar, ← hcs, Array.toArray_toList]
end Go.Proofs.YtdfkbahlngijcaaDoor

