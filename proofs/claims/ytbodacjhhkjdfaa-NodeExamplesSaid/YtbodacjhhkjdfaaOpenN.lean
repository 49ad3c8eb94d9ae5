/- Arguments opened: children, nodes. -/
import Derived.Test.YtbodacjhhkjdfaaOpen
import Derived.Test.YtbodacjhhkjdfaaNn
namespace Go.Proofs.Ytbodacjhhkjdfaa
open Go.ChangeShapes Go.WideShapes Go.ChangeAt Go.RowKit Go.Deep

theorem cellsM : Try.prog.cellsOf 27 = 3 := by kernel_rfl
theorem cellsI : Try.prog.cellsOf 3 = 1 := by kernel_rfl
theorem cellsH : Try.prog.cellsOf 47 = 1 := by kernel_rfl
theorem cellsS : Try.prog.cellsOf 9 = 1 := by kernel_rfl
theorem cellsKs : Try.prog.cellsOf 22 = 1 := by kernel_rfl
theorem cellsK : Try.prog.cellsOf 49 = 4 := by kernel_rfl
theorem cellsN : Try.prog.cellsOf 24 = 3 := by kernel_rfl
theorem bytesK : Try.prog.bytesOf 49 = 32 := by kernel_rfl

section
variable {H : Type} {enc : TypeId × Value → H} {w : World} {base : Nat} {spare : Nat → Bool} {held : Bool}

theorem trod_meas {fuel : Nat} {cs : List Value} {x : DataW H × List MemPlace} (h : DataW.trod enc Try.prog w base spare held fuel 27 cs = some x) :
    ∃ t : Trip, cs = [.int .i64 t.1, .int .i64 t.2.1, .int .i64 t.2.2] := by
  obtain ⟨ys, n, _, _, hlen, hyl, hf⟩ := DataW.trod_struct Try.underlying27 h
  rw [cellsM] at hlen
  match cs, hlen with
  | [c0, c1, c2], _ =>
    match ys, hyl with
    | [y0, y1, y2], _ =>
      have g0 := hf 0 _ rfl
      have g1 := hf 1 _ rfl
      have g2 := hf 2 _ rfl
      simp [cellsI] at g0 g1 g2
      obtain ⟨a, e0, _, wa⟩ := DataW.trod_int Try.underlying3 g0
      obtain ⟨b, e1, _, wb⟩ := DataW.trod_int Try.underlying3 g1
      obtain ⟨c, e2, _, wc⟩ := DataW.trod_int Try.underlying3 g2
      simp at e0 e1 e2
      subst e0 e1 e2
      exact ⟨(a, b, c), rfl⟩

theorem trod_kid {fuel : Nat} {cs : List Value} {x : DataW H × List MemPlace} (h : DataW.trod enc Try.prog w base spare held fuel 49 cs = some x) :
    ∃ k : Kid, cs = fK k ∧ (0 ≤ k.1 ∧ k.1 ≤ 18446744073709551615) := by
  obtain ⟨ys, n, _, _, hlen, hyl, hf⟩ := DataW.trod_struct Try.underlying49 h
  rw [cellsK] at hlen
  match cs, hlen with
  | [c0, c1, c2, c3], _ =>
    match ys, hyl with
    | [y0, y1], _ =>
      have g0 := hf 0 _ rfl
      have g1 := hf 1 _ rfl
      simp [cellsH, cellsM] at g0 g1
      obtain ⟨a, e0, _, wa⟩ := DataW.trod_int Try.underlying47 g0
      obtain ⟨t, e1⟩ := trod_meas g1
      simp at e0 e1
      obtain ⟨e1, e2, e3⟩ := e1
      subst e0 e1 e2 e3
      refine ⟨(a, t), rfl, ?_⟩
      simpa [Lit.wf, IntKind.min, IntKind.max, IntKind.signed, IntKind.bits] using wa

/-- a slice of children -/
theorem open_ks {fuel : Nat} {v : Value} {x : DataW H × List MemPlace} (h : DataW.trod enc Try.prog w base spare held fuel 22 [v] = some x) :
    ∃ (ao : Option Addr) (n c : Nat) (l : List Kid), v = .slice ao n c ∧ IsKs w ao n l ∧ n ≤ c ∧ c ≤ maxLen ∧ (ao = none → c = 0) ∧ (Light Try.prog 22 x.1 → n * 32 ≤ reachBytes) := by
  obtain ⟨ao, n, c, l, rfl, hr, h1, h2, h3, h4, h5⟩ := open_rows (f := fK) (φ := fun k _ => 0 ≤ k.1 ∧ k.1 ≤ 18446744073709551615) Try.underlying22 cellsK (by decide) fK_len (fun _ _ _ h => trod_kid h) h
  refine ⟨ao, n, c, l, rfl, hr.ks (fun k hk => ?_), h1, h2, h3, by rw [bytesK] at h5; exact h5⟩
  obtain ⟨y, hy, _⟩ := h4 k hk
  exact hy

theorem trod_node {fuel : Nat} {cs : List Value} {x : DataW H × List MemPlace} (h : DataW.trod enc Try.prog w base spare held fuel 24 cs = some x) :
    ∃ (hh : Int) (t : ByteArray) (ao : Option Addr) (n c : Nat) (l : List Kid), cs = [.int .i64 hh, .string t, .slice ao n c] ∧ IsKs w ao n l ∧ n ≤ c ∧ c ≤ maxLen ∧ (ao = none → c = 0) ∧ (Lit.int .i64 hh).wf = true ∧ t.size ≤ maxLen ∧
      (Light Try.prog 24 x.1 → n * 32 ≤ reachBytes ∧ t.size ≤ reachBytes) := by
  obtain ⟨ys, n, _, rfl, hlen, hyl, hf⟩ := DataW.trod_struct Try.underlying24 h
  rw [cellsN] at hlen
  match cs, hlen with
  | [c0, c1, c2], _ =>
    match ys, hyl with
    | [y0, y1, y2], _ =>
      have g0 := hf 0 _ rfl
      have g1 := hf 1 _ rfl
      have g2 := hf 2 _ rfl
      simp [cellsI, cellsS, cellsKs] at g0 g1 g2
      obtain ⟨a, e0, _, wa⟩ := DataW.trod_int Try.underlying3 g0
      obtain ⟨t, e1, e1', wt⟩ := DataW.trod_string Try.underlying9 g1
      obtain ⟨ao, m, c, l, e2, hk, h1, h2, h3, h4⟩ := open_ks g2
      simp at e0 e1
      subst e0 e1 e2
      refine ⟨a, t, ao, m, c, l, rfl, hk, h1, h2, h3, wa, wt, fun hL => ⟨h4 (light_field (j := 2) Try.underlying24 hL rfl rfl), ?_⟩⟩
      have := light_field (j := 1) (d := y1.1) Try.underlying24 hL rfl rfl
      rw [e1'] at this
      have := light_string this
      simpa using this

theorem open_node {r : Reach} {b0 : Nat} {v : Value} {d : DataW H} {p : List MemPlace} (hv : Value.okWide Try.prog w r b0 24 v) (h : DataW.Trod enc Try.prog w base spare held 24 v d p) :
    ∃ (x : Nd) (ao : Option Addr) (n c : Nat), v = aggN x.h x.text ao n c ∧ IsKs w ao n x.kids ∧ n ≤ c ∧ c ≤ maxLen ∧ (ao = none → c = 0) ∧ (Lit.int .i64 x.h).wf = true ∧ x.text.size ≤ maxLen ∧
      (Light Try.prog 24 d → n * 32 ≤ reachBytes ∧ x.text.size ≤ reachBytes) := by
  obtain ⟨cs, rfl, hsz⟩ := okWide_struct Try.underlying24 hv
  obtain ⟨fuel, hf⟩ := h
  obtain ⟨hh, t, ao, n, c, l, hc, h1, h2, h3, h4, h5, h6, h7⟩ := trod_node hf
  refine ⟨⟨hh, t, l⟩, ao, n, c, ?_, h1, h2, h3, h4, h5, h6, h7⟩
  have : cs = #[.int .i64 hh, .string t, .slice ao n c] := by
    apply Array.toList_inj.1
    simpa [Value.cells] using hc
  rw [this]; rfl

theorem open_kids {r : Reach} {b0 : Nat} {v : Value} {d : DataW H} {p : List MemPlace} (hv : Value.okWide Try.prog w r b0 22 v) (h : DataW.Trod enc Try.prog w base spare held 22 v d p) :
    ∃ (ao : Option Addr) (n c : Nat) (l : List Kid), v = .slice ao n c ∧ IsKs w ao n l ∧ n ≤ c ∧ c ≤ maxLen ∧ (ao = none → c = 0) ∧ (Light Try.prog 22 d → n * 32 ≤ reachBytes) := by
  obtain ⟨ao, len, cap, rfl⟩ := okWide_slice Try.underlying22 hv
  obtain ⟨fuel, hf⟩ := h
  obtain ⟨ao', n, c, l, e, h1, h2, h3, h4, h5⟩ := open_ks (by simpa [Value.cells] using hf)
  exact ⟨ao', n, c, l, e, h1, h2, h3, h4, h5⟩
end
end Go.Proofs.Ytbodacjhhkjdfaa
