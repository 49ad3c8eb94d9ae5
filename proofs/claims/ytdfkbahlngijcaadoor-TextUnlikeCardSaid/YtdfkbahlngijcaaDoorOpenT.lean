/- Arguments opened: results. -/
import Derived.Test.YtdfkbahlngijcaaDoorOpenD
import Derived.Test.YtdfkbahlngijcaaDoorTe
namespace Go.Proofs.YtdfkbahlngijcaaDoor
open Go.ChangeShapes Go.WideShapes Go.ChangeAt Go.RowKit Go.Deep

theorem cellsErr : Tryd.prog.cellsOf 22 = 1 := by kernel_rfl
theorem cellsMs : Tryd.prog.cellsOf 24 = 3 := by kernel_rfl
theorem cellsItem : Tryd.prog.cellsOf 27 = 4 := by kernel_rfl
theorem cellsPcs : Tryd.prog.cellsOf 25 = 1 := by kernel_rfl
theorem cellsRes : Tryd.prog.cellsOf 29 = 13 := by kernel_rfl
theorem wf8 {a : Int} (h : (Lit.int .u8 a).wf = true) : 0 ≤ a ∧ a < 256 := by
  simp [Lit.wf, IntKind.min, IntKind.max, IntKind.signed, IntKind.bits] at h
  omega
section
variable {H : Type} {enc : TypeId × Value → H} {w : World} {base : Nat} {spare : Nat → Bool} {held : Bool}

set_option maxRecDepth 100000 in
theorem trod_ms {fuel : Nat} {cs : List Value} {x : DataW H × List MemPlace} (h : DataW.trod enc Tryd.prog w base spare held fuel 24 cs = some x) :
    ∃ a b c : Int, cs = [.int .i64 a, .int .i64 b, .int .i64 c] := by
  obtain ⟨ys, n, _, _, hlen, hyl, hf⟩ := DataW.trod_struct Tryd.underlying24 h
  rw [cellsMs] at hlen
  match cs, hlen with
  | [c0, c1, c2], _ =>
    match ys, hyl with
    | [y0, y1, y2], _ =>
      have g0 := hf 0 _ rfl
      have g1 := hf 1 _ rfl
      have g2 := hf 2 _ rfl
      simp [cellsInt] at g0 g1 g2
      obtain ⟨a, e0, _, wa⟩ := DataW.trod_int Tryd.underlying3 g0
      obtain ⟨b, e1, _, wb⟩ := DataW.trod_int Tryd.underlying3 g1
      obtain ⟨c, e2, _, wc⟩ := DataW.trod_int Tryd.underlying3 g2
      simp at e0 e1 e2
      subst e0 e1 e2
      exact ⟨a, b, c, rfl⟩

set_option maxRecDepth 100000 in
theorem trod_item {fuel : Nat} {cs : List Value} {x : DataW H × List MemPlace} (h : DataW.trod enc Tryd.prog w base spare held fuel 27 cs = some x) :
    ∃ (k f t : Int) (ao : Option Addr) (n c : Nat) (l : List Pc), cs = [.int .u8 k, .int .i64 f, .int .i64 t, .slice ao n c] ∧ (0 ≤ k ∧ k < 256) ∧ IsR fP w ao n l ∧ n ≤ maxLen := by
  obtain ⟨ys, n, _, _, hlen, hyl, hf⟩ := DataW.trod_struct Tryd.underlying27 h
  rw [cellsItem] at hlen
  match cs, hlen with
  | [c0, c1, c2, c3], _ =>
    match ys, hyl with
    | [y0, y1, y2, y3], _ =>
      have g0 := hf 0 _ rfl
      have g1 := hf 1 _ rfl
      have g2 := hf 2 _ rfl
      have g3 := hf 3 _ rfl
      simp [cellsInt, cellsU8, cellsPcs] at g0 g1 g2 g3
      obtain ⟨a, e0, _, wa⟩ := DataW.trod_int Tryd.underlying5 g0
      obtain ⟨b, e1, _, wb⟩ := DataW.trod_int Tryd.underlying3 g1
      obtain ⟨c, e2, _, wc⟩ := DataW.trod_int Tryd.underlying3 g2
      obtain ⟨ao, m, cap, l, e3, hr, h1, h2, h3, h4, h5⟩ := open_rows (f := fP) (φ := fun q _ => (Lit.int .i64 q.n).wf = true ∧ q.t.size ≤ maxLen) Tryd.underlying25 cellsPc (by decide) fP_len (fun _ _ _ h => trod_pc h) g3
      simp at e0 e1 e2 e3
      subst e0 e1 e2 e3
      exact ⟨a, b, c, ao, m, cap, l, rfl, wf8 wa, hr, Nat.le_trans h1 h2⟩

set_option maxRecDepth 100000 in
theorem trod_result {fuel : Nat} {cs : List Value} {x : DataW H × List MemPlace} (h : DataW.trod enc Tryd.prog w base spare held fuel 29 cs = some x) :
    ∃ (r : Rs) (ao : Option Addr) (n c : Nat), cs = (rsV r ao n c).toList ∧ (0 ≤ r.gr ∧ r.gr < 256) ∧ (0 ≤ r.ik ∧ r.ik < 256) ∧ IsR fP w ao n r.d ∧ n ≤ maxLen := by
  obtain ⟨ys, n, _, _, hlen, hyl, hf⟩ := DataW.trod_struct Tryd.underlying29 h
  rw [cellsRes] at hlen
  match cs, hlen with
  | [c0, c1, c2, c3, c4, c5, c6, c7, c8, c9, c10, c11, c12], _ =>
    match ys, hyl with
    | [y0, y1, y2, y3, y4, y5, y6, y7], _ =>
      have g0 := hf 0 _ rfl
      have g1 := hf 1 _ rfl
      have g2 := hf 2 _ rfl
      have g3 := hf 3 _ rfl
      have g4 := hf 4 _ rfl
      have g5 := hf 5 _ rfl
      have g6 := hf 6 _ rfl
      have g7 := hf 7 _ rfl
      simp [cellsErr, cellsInt, cellsU8, cellsStr, cellsMs, cellsItem] at g0 g1 g2 g3 g4 g5 g6 g7
      obtain ⟨a0, e0, _, _⟩ := DataW.trod_int Tryd.underlying22 g0
      obtain ⟨a1, e1, _, _⟩ := DataW.trod_int Tryd.underlying3 g1
      obtain ⟨a2, e2, _, _⟩ := DataW.trod_int Tryd.underlying3 g2
      obtain ⟨a3, e3, _, _⟩ := DataW.trod_int Tryd.underlying3 g3
      obtain ⟨a4, e4, _, wg⟩ := DataW.trod_int Tryd.underlying5 g4
      obtain ⟨t, e5, _, _⟩ := DataW.trod_string Tryd.underlying9 g5
      obtain ⟨m1, m2, m3, e6⟩ := trod_ms g6
      obtain ⟨k, f, u, ao, m, c, l, e7, hk, hr, hm⟩ := trod_item g7
      simp at e0 e1 e2 e3 e4 e5 e6 e7
      obtain ⟨e6, e8, e9⟩ := e6
      obtain ⟨e7, e10, e11, e12⟩ := e7
      subst e0 e1 e2 e3 e4 e5 e6 e7 e8 e9 e10 e11 e12
      exact ⟨⟨a0, a1, a2, a3, a4, t, m1, m2, m3, k, f, u, l⟩, ao, m, c, rfl, wf8 wg, hk, hr, hm⟩

set_option maxRecDepth 100000 in
theorem open_result {r : Reach} {b0 : Nat} {v : Value} {d : DataW H} {p : List MemPlace} (hv : Value.okWide Tryd.prog w r b0 29 v) (h : DataW.Trod enc Tryd.prog w base spare held 29 v d p) :
    ∃ (x : Rs) (ao : Option Addr) (n c : Nat), v = .agg (rsV x ao n c) ∧ (0 ≤ x.gr ∧ x.gr < 256) ∧ (0 ≤ x.ik ∧ x.ik < 256) ∧ IsR fP w ao n x.d ∧ n ≤ maxLen := by
  obtain ⟨cs, rfl, hsz⟩ := okWide_struct Tryd.underlying29 hv
  obtain ⟨fuel, hf⟩ := h
  obtain ⟨x, ao, n, c, hc, h1, h2, h3, h4⟩ := trod_result hf
  refine ⟨x, ao, n, c, ?_, h1, h2, h3, h4⟩
  have : cs = rsV x ao n c := by
    apply Array.toList_inj.1
    simpa [Value.cells] using hc
  rw [this]
end
end Go.Proofs.YtdfkbahlngijcaaDoor
