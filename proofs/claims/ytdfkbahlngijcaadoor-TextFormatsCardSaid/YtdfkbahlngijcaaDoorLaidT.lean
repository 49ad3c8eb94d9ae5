/- The listed table of powers of ten, out of what a row lists. -/
import Derived.Test.YtdfkbahlngijcaaDoorLaid
import Derived.Test.YtdfkbahlngijcaaDoorKb
import Derived.Lib.LaidTab
namespace Go.Proofs.YtdfkbahlngijcaaDoor
open Go.RowKit

theorem tab_of_laid {W : World} (h : laidMetH Tryd.prog laidL W) : Tab W := by
  have h' : laidMet Tryd.prog laidL W := h
  obtain ⟨ps, hl, hn, hc⟩ := h'
  obtain ⟨g1, t1, cs1, f1, p1, q1, -, -, -, -, hr1, -⟩ := hl
  obtain ⟨g2, t2, cs2, f2, p2, q2, -, -, -, -, hr2, -⟩ := hr1
  obtain ⟨g3, t3, cs3, f3, p3, q3, hg3, ht3, hvar, hd, -, -⟩ := hr2
  have hg : Tryd.prog.globalNamed "internal/strconv.uint64pow10" = some 0 := by kernel_rfl
  obtain rfl := Option.some.inj (hg.symm.trans hg3)
  have hty : (Tryd.prog.globals[0]?).map (·.type) = some 168 := by kernel_rfl
  obtain rfl := Option.some.inj (hty.symm.trans ht3)
  unfold Tab Lib.TabIs
  have hcs := Lib.cells_of_tab (n := 20) (e := 36) (k := .u64) (zs := Lib.pow10Tab) Tryd.underlying168 Tryd.underlying36 (by kernel_rfl) (by kernel_rfl) hd
  rw [hvar, ← hcs, Array.toArray_toList]
end Go.Proofs.YtdfkbahlngijcaaDoor

