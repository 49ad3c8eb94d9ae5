/- Diff: the program's Lines: its walk where a text is too long. -/
import Derived.Test.YtfbjbgknfdekfaaDoorEs
import Derived.Test.YtfbjbgknfdekfaaDoorEn
import Derived.Test.YtfbjbgknfdekfaaDoorEh
namespace Go.Proofs.YtfbjbgknfdekfaaDoor
open Go.RowKit
set_option linter.unusedVariables false
set_option maxRecDepth 100000 in
set_option maxHeartbeats 2000000 in
theorem linesD_long (a b : ByteArray) (w : World) (h : 1048576 < a.size ∨ 1048576 < b.size) (ha : a.size ≤ 140737488355328) (hb : b.size ≤ 140737488355328) :
    Calls Tryd.prog 17 #[.string a, .string b] w (Rowed w [] 5) := by
  have HB := Lib.hid (Below.refl w.heap.size w)
  by_cases h1 : 1048576 < a.size
  · have h1' : (1048576 : Int) < (a.size : Int) := by omega
    clear h1 h
    go_enter Tryd.func17, Tryd.ntmps17
    go_wp2_with fail
    go_ret2
    exact ⟨_, rfl, own_nil _ _, HB.out⟩
  · have h1' : ¬ ((1048576 : Int) < (a.size : Int)) := by omega
    have h2' : (1048576 : Int) < (b.size : Int) := by omega
    clear h1 h
    go_enter Tryd.func17, Tryd.ntmps17
    go_wp2_with fail
    go_ret2
    exact ⟨_, rfl, own_nil _ _, HB.out⟩
set_option maxRecDepth 100000 in
set_option maxHeartbeats 4000000 in
theorem linesD_many (a b : ByteArray) (w : World) (ha : a.size ≤ 1048576) (hb : b.size ≤ 1048576) (h : 1024 < (rowsL a.data.toList).length ∨ 1024 < (rowsL b.data.toList).length) (hna : (rowsL a.data.toList).length ≤ 1048577) (hnb : (rowsL b.data.toList).length ≤ 1048577) :
    Calls Tryd.prog 17 #[.string a, .string b] w (Rowed w [] 5) := by
  have HA := Lib.hid (fun w => lines_any a w ha)
  have HB := Lib.hid (fun w => lines_any b w hb)
  generalize (rowsL a.data.toList).length = n at *
  generalize (rowsL b.data.toList).length = m at *
  have ha' : ¬ ((1048576 : Int) < (a.size : Int)) := by omega
  have hb' : ¬ ((1048576 : Int) < (b.size : Int)) := by omega
  have hda : decide (1048576 < a.size) = false := decide_eq_false (by omega)
  have hdb : decide (1048576 < b.size) = false := decide_eq_false (by omega)
  go_enter Tryd.func17, Tryd.ntmps17
  go_wp2_with fail
  refine (HA.out _).mono ?_; rintro e w1 ⟨⟨c1, rfl⟩, hx, hb1⟩
  have HB1 := Lib.hid hb1
  clear hx hb1
  go_wp2_with fail
  refine (HB.out _).mono ?_; rintro e w2 ⟨⟨c2, rfl⟩, hy, hb2⟩
  have HB2 := Lib.hid (HB1.out.trans (hb2.mono HB1.out.size))
  clear hy hb2
  by_cases h1 : 1024 < n
  · have h1' : (1024 : Int) < (n : Int) := by omega
    clear h1 h
    go_wp2_with fail
    go_ret2
    exact ⟨_, rfl, own_nil _ _, HB2.out⟩
  · have h1' : ¬ ((1024 : Int) < (n : Int)) := by omega
    have h2' : (1024 : Int) < (m : Int) := by omega
    clear h1 h
    go_wp2_with fail
    go_ret2
    exact ⟨_, rfl, own_nil _ _, HB2.out⟩
end Go.Proofs.YtfbjbgknfdekfaaDoor
