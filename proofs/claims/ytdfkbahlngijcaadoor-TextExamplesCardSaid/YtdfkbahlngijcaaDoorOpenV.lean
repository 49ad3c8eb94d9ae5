/- Arguments opened: scripts. -/
import Derived.Test.YtdfkbahlngijcaaDoorKo
import Derived.Test.YtdfkbahlngijcaaDoorKc
namespace Go.Proofs.YtdfkbahlngijcaaDoor
open Go.ChangeShapes Go.WideShapes Go.ChangeAt Go.RowKit Go.Deep

theorem cellsCfg : Tryd.prog.cellsOf 38 = 8 := by kernel_rfl
theorem cellsScr : Tryd.prog.cellsOf 42 = 10 := by kernel_rfl
theorem cellsU64 : Tryd.prog.cellsOf 36 = 1 := by kernel_rfl
theorem cellsOpL : Tryd.prog.cellsOf 60 = 1 := by kernel_rfl
theorem cellsOpLL : Tryd.prog.cellsOf 39 = 1 := by kernel_rfl
theorem cellsIntL : Tryd.prog.cellsOf 40 = 1 := by kernel_rfl
section
variable {H : Type} {enc : TypeId × Value → H} {w : World} {base : Nat} {spare : Nat → Bool} {held : Bool}

set_option maxRecDepth 100000 in
theorem trod_cfg {fuel : Nat} {cs : List Value} {x : DataW H × List MemPlace} (h : DataW.trod enc Tryd.prog w base spare held fuel 38 cs = some x) :
    ∃ y : Cf, cs = fC y := by
  obtain ⟨ys, n, _, _, hlen, hyl, hf⟩ := DataW.trod_struct Tryd.underlying38 h
  rw [cellsCfg] at hlen
  match cs, hlen with
  | [c0, c1, c2, c3, c4, c5, c6, c7], _ =>
    match ys, hyl with
    | [y0, y1, y2, y3, y4, y5, y6, y7], _ =>
      have g0 := hf 0 _ rfl
      have g1 := hf 1 _ rfl
      have g2 := hf 2 _ rfl
      have g3 := hf 3 _ rfl
      have g4 := hf 4 _ rfl
      have g5 := hf 5 _ rfl
      have g6 := hf 6 _ rfl
      have g7 := hf 7 _ rfl
      simp [cellsInt, cellsU64, cellsStr] at g0 g1 g2 g3 g4 g5 g6 g7
      obtain ⟨a0, e0, _, _⟩ := DataW.trod_int Tryd.underlying3 g0
      obtain ⟨a1, e1, _, _⟩ := DataW.trod_int Tryd.underlying36 g1
      obtain ⟨a2, e2, _, _⟩ := DataW.trod_int Tryd.underlying3 g2
      obtain ⟨a3, e3, _, _⟩ := DataW.trod_int Tryd.underlying3 g3
      obtain ⟨a4, e4, _, _⟩ := DataW.trod_int Tryd.underlying3 g4
      obtain ⟨a5, e5, _, _⟩ := DataW.trod_int Tryd.underlying3 g5
      obtain ⟨a6, e6, _, _⟩ := DataW.trod_int Tryd.underlying3 g6
      obtain ⟨t, e7, _, _⟩ := DataW.trod_string Tryd.underlying9 g7
      simp at e0 e1 e2 e3 e4 e5 e6 e7
      subst e0 e1 e2 e3 e4 e5 e6 e7
      exact ⟨⟨a0, a1, a2, a3, a4, a5, a6, t⟩, rfl⟩
set_option maxRecDepth 100000 in
theorem trod_pg {fuel : Nat} {cs : List Value} {x : DataW H × List MemPlace} (h : DataW.trod enc Tryd.prog w base spare held fuel 60 cs = some x) :
    ∃ s : Pg, cs = fPg s ∧ IsR fO w s.a s.n s.l ∧ ∀ y ∈ s.l, OvOk y := by
  obtain ⟨v, rfl⟩ : ∃ v, cs = [v] := by
    rcases open_slice Tryd.underlying60 h with ⟨hcs, -⟩ | ⟨a, len, cap, m, n, D, Pl, hcs, -⟩ <;> exact ⟨_, hcs⟩
  obtain ⟨ao, n, c, l, e, hr, h1, h2, h3, h4, h5⟩ := open_rows (f := fO) (φ := fun y _ => OvOk y) Tryd.underlying60 cellsOp (by decide) fO_len (fun _ _ _ h => by
    obtain ⟨p, hp, ho⟩ := trod_op h
    exact ⟨p, hp, ho⟩) h
  exact ⟨⟨ao, n, c, l⟩, by rw [e]; rfl, hr, fun y hy => by
    obtain ⟨_, hy2, _⟩ := h4 y hy
    exact hy2⟩
set_option maxRecDepth 100000 in
theorem trod_script {fuel : Nat} {cs : List Value} {x : DataW H × List MemPlace} (h : DataW.trod enc Tryd.prog w base spare held fuel 42 cs = some x) :
    ∃ (c : Cf) (po : Option Addr) (pn pc : Nat) (qo : Option Addr) (qn qc : Nat) (ss : List Pg) (ps : List Int), cs = (scA c po pn pc qo qn qc).toList ∧ IsPg w po pn ss ∧ IsR fI w qo qn ps ∧ qn ≤ qc ∧ (∀ s ∈ ss, ∀ y ∈ s.l, OvOk y) := by
  obtain ⟨ys, n, _, _, hlen, hyl, hf⟩ := DataW.trod_struct Tryd.underlying42 h
  rw [cellsScr] at hlen
  match cs, hlen with
  | [c0, c1, c2, c3, c4, c5, c6, c7, c8, c9], _ =>
    match ys, hyl with
    | [y0, y1, y2], _ =>
      have g0 := hf 0 _ rfl
      have g1 := hf 1 _ rfl
      have g2 := hf 2 _ rfl
      simp [cellsCfg, cellsOpLL, cellsIntL] at g0 g1 g2
      obtain ⟨c, e0⟩ := trod_cfg g0
      obtain ⟨po, pn, pc, ss, e1, hr1, h11, h12, h13, h14, h15⟩ := open_rows (f := fPg) (φ := fun s _ => IsR fO w s.a s.n s.l ∧ ∀ y ∈ s.l, OvOk y) Tryd.underlying39 cellsOpL (by decide) fPg_len (fun _ _ _ h => by
        obtain ⟨s, hs, k1, k2⟩ := trod_pg h
        exact ⟨s, hs, k1, k2⟩) g1
      obtain ⟨qo, qn, qc, ps, e2, hr2, h21, h22, h23, h24, h25⟩ := open_rows (f := fI) (φ := fun _ _ => True) Tryd.underlying40 cellsInt (by decide) fI_len (fun _ _ _ h => by
        obtain ⟨a, e, _, _⟩ := DataW.trod_int Tryd.underlying3 h
        exact ⟨a, e, trivial⟩) g2
      unfold fC at e0
      simp at e0 e1 e2
      obtain ⟨e3, e4, e5, e6, e7, e8, e9, e10⟩ := e0
      subst e1 e2 e3 e4 e5 e6 e7 e8 e9 e10
      refine ⟨c, po, pn, pc, qo, qn, qc, ss, ps, rfl, ⟨hr1, fun s hs => ?_⟩, hr2, h21, fun s hs y hy => ?_⟩
      · obtain ⟨_, hy2, _⟩ := h14 s hs
        exact hy2.1
      · obtain ⟨_, hy2, _⟩ := h14 s hs
        exact hy2.2 y hy
set_option maxRecDepth 100000 in
theorem open_script {r : Reach} {b0 : Nat} {v : Value} {d : DataW H} {p : List MemPlace} (hv : Value.okWide Tryd.prog w r b0 42 v) (h : DataW.Trod enc Tryd.prog w base spare held 42 v d p) :
    ∃ (c : Cf) (po : Option Addr) (pn pc : Nat) (qo : Option Addr) (qn qc : Nat) (ss : List Pg) (ps : List Int), v = .agg (scA c po pn pc qo qn qc) ∧ IsPg w po pn ss ∧ IsR fI w qo qn ps ∧ qn ≤ qc ∧ (∀ s ∈ ss, ∀ y ∈ s.l, OvOk y) := by
  obtain ⟨cs, rfl, hsz⟩ := okWide_struct Tryd.underlying42 hv
  obtain ⟨fuel, hf⟩ := h
  obtain ⟨c, po, pn, pc, qo, qn, qc, ss, ps, hc, h1⟩ := trod_script hf
  refine ⟨c, po, pn, pc, qo, qn, qc, ss, ps, ?_, h1⟩
  have : cs = scA c po pn pc qo qn qc := by
    apply Array.toList_inj.1
    simpa [Value.cells] using hc
  rw [this]
end
end Go.Proofs.YtdfkbahlngijcaaDoor

