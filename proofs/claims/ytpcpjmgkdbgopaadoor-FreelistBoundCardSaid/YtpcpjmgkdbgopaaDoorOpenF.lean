/- Arguments opened: deeds, integers. -/
import Derived.Test.YtpcpjmgkdbgopaaDoorOpen
import Derived.Test.YtpcpjmgkdbgopaaDoorGb
namespace Go.Proofs.YtpcpjmgkdbgopaaDoor
open Go.ChangeShapes Go.WideShapes Go.ChangeAt Go.RowKit Go.Deep

theorem cellsI : Tryd.prog.cellsOf 3 = 1 := by kernel_rfl
theorem cellsH : Tryd.prog.cellsOf 33 = 1 := by kernel_rfl
theorem cellsD : Tryd.prog.cellsOf 35 = 3 := by kernel_rfl

section
variable {H : Type} {enc : TypeId × Value → H} {w : World} {base : Nat} {spare : Nat → Bool} {held : Bool}

theorem trod_deed {fuel : Nat} {cs : List Value} {x : DataW H × List MemPlace} (h : DataW.trod enc Tryd.prog w base spare held fuel 35 cs = some x) :
    ∃ d : Dd, cs = ddF d ∧ (0 ≤ d.h ∧ d.h ≤ 18446744073709551615) := by
  obtain ⟨ys, n, _, _, hlen, hyl, hf⟩ := DataW.trod_struct Tryd.underlying35 h
  rw [cellsD] at hlen
  match cs, hlen with
  | [c0, c1, c2], _ =>
    match ys, hyl with
    | [y0, y1, y2], _ =>
      have g0 := hf 0 _ rfl
      have g1 := hf 1 _ rfl
      have g2 := hf 2 _ rfl
      simp [cellsI, cellsH] at g0 g1 g2
      obtain ⟨a, e0, _, wa⟩ := DataW.trod_int Tryd.underlying3 g0
      obtain ⟨b, e1, _, wb⟩ := DataW.trod_int Tryd.underlying3 g1
      obtain ⟨c, e2, _, wc⟩ := DataW.trod_int Tryd.underlying33 g2
      simp at e0 e1 e2
      subst e0 e1 e2
      refine ⟨⟨a, b, c⟩, rfl, ?_⟩
      simpa [Lit.wf, IntKind.min, IntKind.max, IntKind.signed, IntKind.bits] using wc

/-- a slice of deeds -/
theorem open_deeds {r : Reach} {b0 : Nat} {v : Value} {d : DataW H} {p : List MemPlace} (hv : Value.okWide Tryd.prog w r b0 22 v) (h : DataW.Trod enc Tryd.prog w base spare held 22 v d p) :
    ∃ (ao : Option Addr) (n c : Nat) (l : List Dd), v = .slice ao n c ∧ IsR ddF w ao n l ∧ n ≤ c ∧ c ≤ maxLen ∧ (∀ d ∈ l, 0 ≤ d.h ∧ d.h ≤ 18446744073709551615) := by
  obtain ⟨ao, len, cap, rfl⟩ := okWide_slice Tryd.underlying22 hv
  obtain ⟨fuel, hf⟩ := h
  obtain ⟨ao', n, c, l, e, hr, h1, h2, h3, h4, h5⟩ := open_rows (f := ddF) (φ := fun d _ => 0 ≤ d.h ∧ d.h ≤ 18446744073709551615) Tryd.underlying22 cellsD (by decide) ddF_len (fun _ _ _ h => trod_deed h) (v := .slice ao len cap) (by simpa [Value.cells] using hf)
  refine ⟨ao', n, c, l, e, hr, h1, h2, fun d hd => ?_⟩
  obtain ⟨y, hy, _⟩ := h4 d hd
  exact hy

/-- a slice of integers -/
theorem open_ints {r : Reach} {b0 : Nat} {v : Value} {d : DataW H} {p : List MemPlace} (hv : Value.okWide Tryd.prog w r b0 45 v) (h : DataW.Trod enc Tryd.prog w base spare held 45 v d p) :
    ∃ (ao : Option Addr) (n c : Nat) (l : List Int), v = .slice ao n c ∧ IsR (fun i => [.int .i64 i]) w ao n l ∧ n ≤ c ∧ c ≤ maxLen := by
  obtain ⟨ao, len, cap, rfl⟩ := okWide_slice Tryd.underlying45 hv
  obtain ⟨fuel, hf⟩ := h
  obtain ⟨ao', n, c, l, e, hr, h1, h2, -⟩ := open_rows (f := fun i => [.int .i64 i]) (φ := fun _ _ => True) Tryd.underlying45 cellsI (by decide) (fun _ => rfl) (fun _ cs x h => by
    obtain ⟨a, e0, _, wa⟩ := DataW.trod_int Tryd.underlying3 h
    exact ⟨a, e0, trivial⟩) (v := .slice ao len cap) (by simpa [Value.cells] using hf)
  exact ⟨ao', n, c, l, e, hr, h1, h2⟩
end
end Go.Proofs.YtpcpjmgkdbgopaaDoor
