/- Arguments opened: rows of rows of pieces. -/
import Derived.Test.YtkocknhpnmkicaaDoorOpenD
import Derived.Test.YtkocknhpnmkicaaDoorDyi
namespace Go.Proofs.YtkocknhpnmkicaaDoor
open Go.ChangeShapes Go.WideShapes Go.ChangeAt Go.RowKit Go.Deep

theorem cellsSl : Tryd.prog.cellsOf 22 = 1 := by kernel_rfl
section
variable {H : Type} {enc : TypeId × Value → H} {w : World} {base : Nat} {spare : Nat → Bool} {held : Bool}

set_option maxRecDepth 100000 in
theorem trod_sl {fuel : Nat} {cs : List Value} {x : DataW H × List MemPlace} (h : DataW.trod enc Tryd.prog w base spare held fuel 22 cs = some x) :
    ∃ s : Sl, cs = fS s ∧ IsR fP w s.a s.n s.l ∧ (s.a = none → s.n = 0 ∧ s.c = 0) ∧ (Light Tryd.prog 22 x.1 → s.n * 32 ≤ reachBytes) := by
  obtain ⟨v, rfl⟩ : ∃ v, cs = [v] := by
    rcases open_slice Tryd.underlying22 h with ⟨hcs, -⟩ | ⟨a, len, cap, m, n, D, Pl, hcs, -⟩ <;> exact ⟨_, hcs⟩
  obtain ⟨ao, n, c, l, e, hr, h1, h2, h3, h4, h5⟩ := open_rows (f := fP) (φ := fun _ _ => True) Tryd.underlying22 cellsPc (by decide) fP_len (fun _ _ _ h => by
    obtain ⟨p, hp, -⟩ := trod_pc h
    exact ⟨p, hp, trivial⟩) h
  exact ⟨⟨ao, n, c, l⟩, by rw [e]; rfl, hr, fun h => ⟨by have := h3 h; show n = 0; omega, h3 h⟩, fun hL => by
    have := h5 hL
    rw [bytesPc] at this
    exact this⟩
set_option maxRecDepth 100000 in
theorem open_lists {r : Reach} {b0 : Nat} {v : Value} {d : DataW H} {p : List MemPlace} (hv : Value.okWide Tryd.prog w r b0 52 v) (h : DataW.Trod enc Tryd.prog w base spare held 52 v d p) :
    ∃ (ao : Option Addr) (n c : Nat) (ss : List Sl), v = .slice ao n c ∧ IsLs w ao n ss ∧ n ≤ c ∧ c ≤ maxLen ∧ (Light Tryd.prog 52 d → ∀ s ∈ ss, s.n * 32 ≤ reachBytes) := by
  obtain ⟨ao, len, cap, rfl⟩ := okWide_slice Tryd.underlying52 hv
  obtain ⟨fuel, hf⟩ := h
  obtain ⟨ao', n, c, l, e, hr, h1, h2, h3, h4, h5⟩ := open_rows (f := fS) (φ := fun s y => IsR fP w s.a s.n s.l ∧ (s.a = none → s.n = 0 ∧ s.c = 0) ∧ (Light Tryd.prog 22 y → s.n * 32 ≤ reachBytes)) Tryd.underlying52 cellsSl (by decide) fS_len (fun _ _ _ h => trod_sl h) (by simpa [Value.cells] using hf)
  refine ⟨ao', n, c, l, e, ⟨hr, fun s hs => ?_⟩, h1, h2, fun hL s hs => ?_⟩
  · obtain ⟨y, hy, -⟩ := h4 s hs
    exact ⟨hy.1, hy.2.1⟩
  · obtain ⟨y, hy, h6⟩ := h4 s hs
    exact hy.2.2 (h6 hL)
end
end Go.Proofs.YtkocknhpnmkicaaDoor
