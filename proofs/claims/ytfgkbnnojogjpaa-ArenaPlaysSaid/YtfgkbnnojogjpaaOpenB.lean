/- Arguments opened: the arena's deeds, with how far their slices of children reach. -/
import Derived.Test.YtfgkbnnojogjpaaOpenA
namespace Go.Proofs.Ytfgkbnnojogjpaa
open Go.ChangeShapes Go.WideShapes Go.ChangeAt Go.RowKit Go.Deep
section
variable {H : Type} {enc : TypeId × Value → H} {w : World} {base : Nat} {spare : Nat → Bool} {held : Bool}
set_option maxRecDepth 100000 in
theorem trod_de2 {fuel : Nat} {cs : List Value} {x : DataW H × List MemPlace} (h : DataW.trod enc Try.prog w base spare held fuel 48 cs = some x) :
    ∃ d : De, cs = deF d ∧ DeOK w.heap.size w d ∧ (Light Try.prog 48 x.1 → d.x.kids.length * 32 ≤ reachBytes) := by
  obtain ⟨ys, n, _, rfl, hlen, hyl, hf⟩ := DataW.trod_struct Try.underlying48 h
  rw [cellsDe] at hlen
  match cs, hlen with
  | [c0, c1, c2, c3, c4, c5, c6], _ =>
    match ys, hyl with
    | [y0, y1, y2, y3, y4], _ =>
      have g0 := hf 0 _ rfl
      have g1 := hf 1 _ rfl
      have g2 := hf 2 _ rfl
      have g3 := hf 3 _ rfl
      have g4 := hf 4 _ rfl
      simp [cellsI, cellsH, cellsS, cellsIs, cellsN] at g0 g1 g2 g3 g4
      obtain ⟨a, e0, _, wa⟩ := DataW.trod_int Try.underlying3 g0
      obtain ⟨t, e1, e1', wt⟩ := DataW.trod_string Try.underlying9 g1
      obtain ⟨la, lc, l, e2, hl⟩ := open_is g2
      obtain ⟨hh, tx, xa, xn, xc, kl, e3, hk, h1, h2, hno, h4, h5, h6⟩ := trod_node g3
      obtain ⟨k, e4, _, wc⟩ := DataW.trod_int Try.underlying31 g4
      simp at e0 e1 e3 e4
      obtain ⟨e3, e5, e6⟩ := e3
      obtain ⟨hxn, hks⟩ := KsOK.of hk hno
      subst hxn
      subst e0 e1 e2 e3 e4 e5 e6
      refine ⟨⟨a, t, l, la, lc, ⟨hh, tx, kl⟩, xa, xc, k⟩, rfl, ⟨hl, hks, ?_⟩, fun hL => (h6 (light_field (j := 3) Try.underlying48 hL rfl rfl)).1⟩
      simpa [Lit.wf, IntKind.min, IntKind.max, IntKind.signed, IntKind.bits] using wc
set_option maxRecDepth 100000 in
/-- a slice of deeds -/
theorem open_des2 {r : Reach} {b0 : Nat} {v : Value} {d : DataW H} {p : List MemPlace} (hv : Value.okWide Try.prog w r b0 41 v) (h : DataW.Trod enc Try.prog w base spare held 41 v d p) :
    ∃ (ao : Option Addr) (n c : Nat) (l : List De), v = .slice ao n c ∧ Deeds w ao n l ∧ n ≤ c ∧ c ≤ maxLen ∧ (Light Try.prog 41 d → ∀ d ∈ l, d.x.kids.length * 32 ≤ 140737488351232) := by
  obtain ⟨ao, len, cap, rfl⟩ := okWide_slice Try.underlying41 hv
  obtain ⟨fuel, hf⟩ := h
  obtain ⟨ao', n, c, l, e, hr, h1, h2, h3, h4, h5⟩ := open_rows (f := deF) (φ := fun d y => DeOK w.heap.size w d ∧ (Light Try.prog 48 y → d.x.kids.length * 32 ≤ reachBytes)) Try.underlying41 cellsDe (by decide) deF_len (fun _ _ _ h => trod_de2 h) (v := .slice ao len cap) (by simpa [Value.cells] using hf)
  refine ⟨ao', n, c, l, e, ⟨hr, fun d hd => ?_⟩, h1, h2, fun hL d hd => ?_⟩
  · obtain ⟨y, hy, _⟩ := h4 d hd
    exact hy.1
  · obtain ⟨y, hy, h6⟩ := h4 d hd
    have := hy.2 (h6 hL)
    unfold reachBytes at this
    omega
end
end Go.Proofs.Ytfgkbnnojogjpaa
