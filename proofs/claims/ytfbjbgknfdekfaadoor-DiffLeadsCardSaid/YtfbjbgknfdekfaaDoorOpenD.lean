/- Arguments opened: pieces. -/
import Derived.Test.YtfbjbgknfdekfaaDoorOpen
import Derived.Test.YtfbjbgknfdekfaaDoorTb
namespace Go.Proofs.YtfbjbgknfdekfaaDoor
open Go.ChangeShapes Go.WideShapes Go.ChangeAt Go.RowKit Go.Deep

theorem cellsU8 : Tryd.prog.cellsOf 5 = 1 := by kernel_rfl
theorem cellsInt : Tryd.prog.cellsOf 3 = 1 := by kernel_rfl
theorem cellsStr : Tryd.prog.cellsOf 9 = 1 := by kernel_rfl
theorem cellsPc : Tryd.prog.cellsOf 45 = 3 := by kernel_rfl
theorem bytesPc : Tryd.prog.bytesOf 45 = 32 := by kernel_rfl
section
variable {H : Type} {enc : TypeId × Value → H} {w : World} {base : Nat} {spare : Nat → Bool} {held : Bool}

set_option maxRecDepth 100000 in
theorem trod_pc {fuel : Nat} {cs : List Value} {x : DataW H × List MemPlace} (h : DataW.trod enc Tryd.prog w base spare held fuel 45 cs = some x) :
    ∃ p : Pc, cs = fP p ∧ (Lit.int .i64 p.n).wf = true ∧ p.t.size ≤ maxLen := by
  obtain ⟨ys, n, _, _, hlen, hyl, hf⟩ := DataW.trod_struct Tryd.underlying45 h
  rw [cellsPc] at hlen
  match cs, hlen with
  | [c0, c1, c2], _ =>
    match ys, hyl with
    | [y0, y1, y2], _ =>
      have g0 := hf 0 _ rfl
      have g1 := hf 1 _ rfl
      have g2 := hf 2 _ rfl
      simp [cellsU8, cellsInt, cellsStr] at g0 g1 g2
      obtain ⟨a, e0, _, wa⟩ := DataW.trod_int Tryd.underlying5 g0
      obtain ⟨b, e1, _, wb⟩ := DataW.trod_int Tryd.underlying3 g1
      obtain ⟨t, e2, _, wt⟩ := DataW.trod_string Tryd.underlying9 g2
      simp at e0 e1 e2
      subst e0 e1 e2
      exact ⟨⟨a, b, t⟩, rfl, wb, wt⟩

set_option maxRecDepth 100000 in
theorem open_pieces {r : Reach} {b0 : Nat} {v : Value} {d : DataW H} {p : List MemPlace} (hv : Value.okWide Tryd.prog w r b0 26 v) (h : DataW.Trod enc Tryd.prog w base spare held 26 v d p) :
    ∃ (ao : Option Addr) (n c : Nat) (l : List Pc), v = .slice ao n c ∧ IsR fP w ao n l ∧ (ao = none → n = 0 ∧ c = 0) ∧ c ≤ maxLen ∧ (∀ q ∈ l, (Lit.int .i64 q.n).wf = true ∧ q.t.size ≤ maxLen) ∧ (Light Tryd.prog 26 d → n * 32 ≤ reachBytes) := by
  obtain ⟨ao, len, cap, rfl⟩ := okWide_slice Tryd.underlying26 hv
  obtain ⟨fuel, hf⟩ := h
  obtain ⟨ao', n, c, l, e, hr, h1, h2, h3, h4, h5⟩ := open_rows (f := fP) (φ := fun q _ => (Lit.int .i64 q.n).wf = true ∧ q.t.size ≤ maxLen) Tryd.underlying26 cellsPc (by decide) fP_len (fun _ _ _ h => trod_pc h) (by simpa [Value.cells] using hf)
  refine ⟨ao', n, c, l, e, hr, fun h => ?_, h2, fun q hq => ?_, by rw [bytesPc] at h5; exact h5⟩
  · have := h3 h
    omega
  · obtain ⟨y, hy, _⟩ := h4 q hq
    exact hy
end
end Go.Proofs.YtfbjbgknfdekfaaDoor
