/- Deltas: reading: Parse of the program. -/
import Derived.Test.YtkocknhpnmkicaaDoorDt
import Derived.Defers
import Derived.Recover
import Derived.Laws.Pointers
namespace Go.Proofs.YtkocknhpnmkicaaDoor
open Go.RowKit
set_option linter.unusedVariables false

theorem assertErrno (v : Value) (w : World) : (Instr.typeAssert (.iface 24 v) 20 24 true).run Tryd.prog w = .ok (.tuple #[v, .bool true]) w := by kernel_rfl
set_option maxRecDepth 100000 in
set_option maxHeartbeats 4000000 in
theorem catch_idle (p q : Addr) (w : World) :
    CallsD Tryd.prog 51 #[.pointer (some p), .pointer (some q)] .returning w fun e u' w' => e = .returned (.tuple #[]) ∧ u' = .returning ∧ w' = w := by
  refine callsD_of_wpS Tryd.func51 rfl fun c₀ cs hu => ?_
  apply wpS_seq
  apply wpS_region
  simp [wpOpsS, go_sem, recoverD, hu, Tryd.ntmps51, Exit.thenS]
  refine wpS_of_wp ?_
  show Code.wp _ _ _ { tmps := #[.pointer (some p), .pointer (some q), .nilIface, undef, undef, .nilIface, undef, undef, undef, undef, undef, undef, undef, undef, undef, undef, undef], defers := [] } w
  go_wp2_with fail
  · cases c₀
    simp_all [bodyPostS, results, Tryd.results51]

set_option maxRecDepth 100000 in
set_option maxHeartbeats 4000000 in
theorem catch_panicking (bd be : Nat) (x y : Value) (s t : TypeId) (older : List PanicEntry) (w : World) (hp : w.heap[bd]? = some (.cells #[x] s (0, 0))) (hq : w.heap[be]? = some (.cells #[y] t (0, 0))) (hpq : bd ≠ be) :
    CallsD Tryd.prog 51 #[.pointer (some ⟨bd, 0, none⟩), .pointer (some ⟨be, 0, none⟩)] (.panicking ({ v := .iface 24 (.int .i64 4), recovered := false } :: older)) w fun e u' w' =>
      e = .returned (.tuple #[]) ∧ u' = .panicking ({ v := .iface 24 (.int .i64 4), recovered := true } :: older) ∧ w' = (w.setCell ⟨bd, 0, none⟩ (.slice none 0 0)).setCell ⟨be, 0, none⟩ (.int .i64 4) := by
  have h1 := block_cell hp 0
  have h2 := block_free hp 0
  have h5 := block_setCell_other hq (p := ⟨bd, 0, none⟩) hpq (.slice none 0 0)
  have h3 := block_cell h5 0
  have h4 := block_free h5 0
  simp at h1 h3
  clear hp hq h5
  refine callsD_of_wpS Tryd.func51 rfl fun c₀ cs hu => ?_
  apply wpS_seq
  apply wpS_region
  simp [wpOpsS, go_sem, recoverD, hu, Tryd.ntmps51, Exit.thenS]
  refine wpS_of_wp ?_
  show Code.wp _ _ _ { tmps := #[.pointer (some ⟨bd, 0, none⟩), .pointer (some ⟨be, 0, none⟩), .iface 24 (.int .i64 4), undef, undef, .iface 24 (.int .i64 4), undef, undef, undef, undef, undef, undef, undef, undef, undef, undef, undef], defers := [] } w
  have hta := fun u => assertErrno (.int .i64 4) u
  go_wp2_with fail
  · cases c₀
    simp_all [bodyPostS, results, Tryd.results51]
end Go.Proofs.YtkocknhpnmkicaaDoor
