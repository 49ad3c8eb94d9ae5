/- Arguments opened: slices whose elements are rows of cells; structs; what the reach says of their parts. General. Arguments opened: pieces. Arguments opened: results. Arguments opened: operations. -/
import Derived.Test.YtdfkbahlngijcaaDoorKa
import Derived.ProofKit
import Derived.OpenShut
import Derived.SizedLaws
import Derived.Deep.Slices
import Derived.Test.YtdfkbahlngijcaaDoorKb
import Derived.Test.YtdfkbahlngijcaaDoorKc
namespace Go.Proofs.YtdfkbahlngijcaaDoor
open Go.ChangeShapes Go.WideShapes Go.ChangeAt Go.RowKit Go.Deep

theorem list_of {α : Type} : ∀ (n : Nat) (p : Nat → α → Prop), (∀ i, i < n → ∃ x, p i x) → ∃ l : List α, l.length = n ∧ ∀ i (h : i < l.length), p i l[i]
  | 0, _, _ => ⟨[], rfl, fun i h => by simp at h⟩
  | n + 1, p, h => by
    obtain ⟨l, h1, h2⟩ := list_of n p (fun i hi => h i (by omega))
    obtain ⟨x, hx⟩ := h n (by omega)
    refine ⟨l ++ [x], by simp [h1], fun i hi => ?_⟩
    by_cases e : i < l.length
    · rw [List.getElem_append_left e]; exact h2 i e
    · simp at hi
      have : i = l.length := by omega
      subst this
      simp
      rw [h1]; exact hx

section
variable {H : Type} {enc : TypeId × Value → H} {P : Program} {w : World} {base : Nat} {spare : Nat → Bool} {held : Bool}

/-- the weights of a datum are within the reach -/
def Light (P : Program) (t : TypeId) (d : DataW H) : Prop := ∀ n ∈ d.weights P t, n ≤ reachBytes

theorem light_of {ts : List TypeId} {ds : List (DataW H)} (h : (DataW.weightsEach P ts ds).all (· ≤ reachBytes) = true) {j : Nat} {t : TypeId} {d : DataW H} (ht : ts[j]? = some t) (hd : ds[j]? = some d) : Light P t d :=
  fun n hn => by simpa using List.all_eq_true.1 h n (DataW.weights_mem_each ht hd n hn)

theorem light_field {t : TypeId} {fs : Array Field} {parts : List (DataW H)} (hu : P.underlying t = some (.struct fs)) (h : Light P t (.agg parts)) {j : Nat} {f : Field} {d : DataW H} (hf : fs[j]? = some f) (hd : parts[j]? = some d) : Light P f.type d := by
  intro n hn
  refine h n ?_
  simp only [DataW.weights, hu]
  exact DataW.weights_mem_each (j := j) (by simp [hf]) hd n hn

theorem weightsAll_mem {e : TypeId} : ∀ {l : List (DataW H)} {d : DataW H}, d ∈ l → ∀ n ∈ d.weights P e, n ∈ DataW.weightsAll P e l
  | x :: l, d, h, n, hn => by
    rw [DataW.weightsAll]
    rcases List.mem_cons.1 h with e | e
    · subst e; exact List.mem_append_left _ hn
    · exact List.mem_append_right _ (weightsAll_mem e n hn)

theorem light_elem {t e : TypeId} {elems sp : List (DataW H)} (hu : P.underlying t = some (.slice e)) (h : Light P t (.slice elems sp)) {d : DataW H} (hd : d ∈ elems) : Light P e d := by
  intro n hn
  refine h n ?_
  simp only [DataW.weights, hu]
  exact List.mem_cons_of_mem _ (List.mem_append_left _ (weightsAll_mem hd n hn))

theorem light_len {t e : TypeId} {elems sp : List (DataW H)} (hu : P.underlying t = some (.slice e)) (h : Light P t (.slice elems sp)) : elems.length * P.bytesOf e ≤ reachBytes := by
  refine Nat.le_trans (Nat.mul_le_mul_right _ (Nat.le_add_right _ sp.length)) (h _ ?_)
  simp only [DataW.weights, hu]
  exact List.mem_cons_self

theorem light_string {t : TypeId} {bs : List UInt8} (h : Light P t (.lit (.string bs) : DataW H)) : bs.length ≤ reachBytes := by
  refine h _ ?_
  simp [DataW.weights]

/-- A slice whose elements are read by 'f': opened. -/
theorem open_rows {α : Type} {f : α → List Value} {φ : α → DataW H → Prop} {t e : TypeId} {s : Nat} (hu : P.underlying t = some (.slice e)) (hs : P.cellsOf e = s) (hpos : 0 < s) (hf : ∀ x, (f x).length = s)
    (hel : ∀ fuel cs x, DataW.trod enc P w base spare held fuel e cs = some x → ∃ a, cs = f a ∧ φ a x.1) {fuel : Nat} {v : Value} {x : DataW H × List MemPlace}
    (h : DataW.trod enc P w base spare held fuel t [v] = some x) :
    ∃ (ao : Option Addr) (len cap : Nat) (l : List α), v = .slice ao len cap ∧ IsR f w ao len l ∧ len ≤ cap ∧ cap ≤ maxLen ∧ (ao = none → cap = 0) ∧
      (∀ a ∈ l, ∃ y, φ a y ∧ (Light P t x.1 → Light P e y)) ∧ (Light P t x.1 → len * P.bytesOf e ≤ reachBytes) := by
  rcases open_slice hu h with ⟨hcs, rfl⟩ | ⟨a, len, cap, m, n, D, Pl, hcs, hb, hl, hm, hmm, rfl, hi⟩
  · simp at hcs
    subst hcs
    exact ⟨none, 0, 0, [], rfl, IsR.nil f w none, Nat.le_refl _, Nat.zero_le _, fun _ => rfl, by simp, fun _ => by simp⟩
  · simp at hcs
    subst hcs
    have hle : len ≤ m := by rw [hmm]; split <;> omega
    have key : ∀ i, i < len → ∃ q : α, (∀ j u, (f q)[j]? = some u → w.cell? (a.add (i * s + j)) = some u) ∧ φ q (D i) := by
      intro i hil
      obtain ⟨cs', hc, ht'⟩ := hi i (by omega)
      rw [hs] at hc
      obtain ⟨q, rfl, hφ⟩ := hel _ _ _ ht'
      obtain ⟨_, _, hat⟩ := World.cells?_some hc
      refine ⟨q, fun j u hj => ?_, hφ⟩
      have hj' : j < s := by
        have := (List.getElem?_eq_some_iff.1 hj).1
        rw [hf] at this; exact this
      have := hat j hj'
      rw [Go.Deep.add_add] at this
      rw [this, hj]
    obtain ⟨l, hll, hlc⟩ := list_of len _ key
    refine ⟨some a, len, cap, l, rfl, ⟨hll, fun hpos' => ?_⟩, hl, hm, (fun h => by cases h), fun q hq => ?_, fun hL => ?_⟩
    · obtain ⟨b, off, spot⟩ := a
      have hfirst : ∀ i (h : i < l.length), ∃ u, (f l[i])[0]? = some u := fun i h => ⟨_, List.getElem?_eq_getElem (by rw [hf]; exact hpos)⟩
      obtain ⟨u0, hu0⟩ := hfirst 0 (by omega)
      have hc0 := (hlc 0 (by omega)).1 0 u0 hu0
      have hspot : spot = none := by
        have := hc0
        simp [Addr.add] at this
        exact World.cell?_spot this
      subst hspot
      refine ⟨b, off, rfl, ?_, fun j u hj => ?_⟩
      · rcases Nat.lt_or_ge b w.heap.size with hb | hb
        · exact hb
        · simp [Addr.add, World.cell?, Array.getElem?_eq_none hb] at hc0
      · have hlen := (List.getElem?_eq_some_iff.1 hj).1
        rw [flatR_len hf] at hlen
        have hk : j / s < l.length := by rw [Nat.div_lt_iff_lt_mul hpos]; exact hlen
        have ej : j / s * s + j % s = j := by rw [Nat.mul_comm]; exact Nat.div_add_mod j s
        have hm' : j % s < s := Nat.mod_lt _ hpos
        have hj2 := flatR_at hf l (j / s) (j % s) hk hm'
        rw [ej, hj] at hj2
        have := (hlc (j / s) hk).1 (j % s) u hj2.symm
        rw [ej, add_to] at this
        exact this
    · obtain ⟨i, hi', rfl⟩ := List.getElem_of_mem hq
      refine ⟨D i, (hlc i hi').2, fun hL => light_elem hu hL ?_⟩
      exact List.mem_map.2 ⟨i, List.mem_range.2 (by omega), rfl⟩
    · have := light_len hu hL
      simpa using this
end

theorem IsR.mem {α : Type} {f : α → List Value} {w : World} {a : Option Addr} {n : Nat} {l : List α} (h : IsR f w a n l) : l.length = n := h.1
/-- element k of the row: its cells -/
theorem IsR.at {α : Type} {f : α → List Value} {s : Nat} (hf : ∀ x, (f x).length = s) {w : World} {l : List α} {b off : Nat} (h : ∀ j u, (flatR f l)[j]? = some u → w.cell? ⟨b, off + j, none⟩ = some u) (k : Nat) (hk : k < l.length) (i : Nat) (u : Value) (hi : (f l[k])[i]? = some u) : w.cell? ⟨b, off + k * s + i, none⟩ = some u := by
  have hi' : i < s := by
    have := (List.getElem?_eq_some_iff.1 hi).1
    rw [hf] at this; exact this
  have := h (k * s + i) u (by rw [flatR_at hf l k i hk hi']; exact hi)
  rw [← Nat.add_assoc] at this
  exact this
end Go.Proofs.YtdfkbahlngijcaaDoor

namespace Go.Proofs.YtdfkbahlngijcaaDoor
open Go.ChangeShapes Go.WideShapes Go.ChangeAt Go.RowKit Go.Deep

theorem cellsU8 : Tryd.prog.cellsOf 5 = 1 := by kernel_rfl
theorem cellsInt : Tryd.prog.cellsOf 3 = 1 := by kernel_rfl
theorem cellsStr : Tryd.prog.cellsOf 9 = 1 := by kernel_rfl
theorem cellsPc : Tryd.prog.cellsOf 31 = 3 := by kernel_rfl
theorem bytesPc : Tryd.prog.bytesOf 31 = 32 := by kernel_rfl
section
variable {H : Type} {enc : TypeId × Value → H} {w : World} {base : Nat} {spare : Nat → Bool} {held : Bool}

set_option maxRecDepth 100000 in
theorem trod_pc {fuel : Nat} {cs : List Value} {x : DataW H × List MemPlace} (h : DataW.trod enc Tryd.prog w base spare held fuel 31 cs = some x) :
    ∃ p : Pc, cs = fP p ∧ (Lit.int .i64 p.n).wf = true ∧ p.t.size ≤ maxLen := by
  obtain ⟨ys, n, _, _, hlen, hyl, hf⟩ := DataW.trod_struct Tryd.underlying31 h
  rw [cellsPc] at hlen
  match cs, hlen with
  | [c0, c1, c2], _ =>
    match ys, hyl with
    | [y0, y1, y2], _ =>
      have g0 := hf 0 _ rfl
      have g1 := hf 1 _ rfl
      have g2 := hf 2 _ rfl
      simp [cellsU8, cellsInt, cellsStr] at g0 g1 g2
      obtain ⟨a, e0, _, wa⟩ := DataW.trod_int Tryd.underlying5 g0
      obtain ⟨b, e1, _, wb⟩ := DataW.trod_int Tryd.underlying3 g1
      obtain ⟨t, e2, _, wt⟩ := DataW.trod_string Tryd.underlying9 g2
      simp at e0 e1 e2
      subst e0 e1 e2
      exact ⟨⟨a, b, t⟩, rfl, wb, wt⟩

set_option maxRecDepth 100000 in
theorem open_pieces {r : Reach} {b0 : Nat} {v : Value} {d : DataW H} {p : List MemPlace} (hv : Value.okWide Tryd.prog w r b0 25 v) (h : DataW.Trod enc Tryd.prog w base spare held 25 v d p) :
    ∃ (ao : Option Addr) (n c : Nat) (l : List Pc), v = .slice ao n c ∧ IsR fP w ao n l ∧ (ao = none → n = 0 ∧ c = 0) ∧ c ≤ maxLen ∧ (∀ q ∈ l, (Lit.int .i64 q.n).wf = true ∧ q.t.size ≤ maxLen) ∧ (Light Tryd.prog 25 d → n * 32 ≤ reachBytes) := by
  obtain ⟨ao, len, cap, rfl⟩ := okWide_slice Tryd.underlying25 hv
  obtain ⟨fuel, hf⟩ := h
  obtain ⟨ao', n, c, l, e, hr, h1, h2, h3, h4, h5⟩ := open_rows (f := fP) (φ := fun q _ => (Lit.int .i64 q.n).wf = true ∧ q.t.size ≤ maxLen) Tryd.underlying25 cellsPc (by decide) fP_len (fun _ _ _ h => trod_pc h) (by simpa [Value.cells] using hf)
  refine ⟨ao', n, c, l, e, hr, fun h => ?_, h2, fun q hq => ?_, by rw [bytesPc] at h5; exact h5⟩
  · have := h3 h
    omega
  · obtain ⟨y, hy, _⟩ := h4 q hq
    exact hy
end
end Go.Proofs.YtdfkbahlngijcaaDoor

namespace Go.Proofs.YtdfkbahlngijcaaDoor
open Go.ChangeShapes Go.WideShapes Go.ChangeAt Go.RowKit Go.Deep

theorem cellsErr : Tryd.prog.cellsOf 22 = 1 := by kernel_rfl
theorem cellsMs : Tryd.prog.cellsOf 24 = 3 := by kernel_rfl
theorem cellsItem : Tryd.prog.cellsOf 27 = 4 := by kernel_rfl
theorem cellsPcs : Tryd.prog.cellsOf 25 = 1 := by kernel_rfl
theorem cellsRes : Tryd.prog.cellsOf 29 = 13 := by kernel_rfl
theorem wf8 {a : Int} (h : (Lit.int .u8 a).wf = true) : 0 ≤ a ∧ a < 256 := by
  simp [Lit.wf, IntKind.min, IntKind.max, IntKind.signed, IntKind.bits] at h
  omega
section
variable {H : Type} {enc : TypeId × Value → H} {w : World} {base : Nat} {spare : Nat → Bool} {held : Bool}

set_option maxRecDepth 100000 in
theorem trod_ms {fuel : Nat} {cs : List Value} {x : DataW H × List MemPlace} (h : DataW.trod enc Tryd.prog w base spare held fuel 24 cs = some x) :
    ∃ a b c : Int, cs = [.int .i64 a, .int .i64 b, .int .i64 c] := by
  obtain ⟨ys, n, _, _, hlen, hyl, hf⟩ := DataW.trod_struct Tryd.underlying24 h
  rw [cellsMs] at hlen
  match cs, hlen with
  | [c0, c1, c2], _ =>
    match ys, hyl with
    | [y0, y1, y2], _ =>
      have g0 := hf 0 _ rfl
      have g1 := hf 1 _ rfl
      have g2 := hf 2 _ rfl
      simp [cellsInt] at g0 g1 g2
      obtain ⟨a, e0, _, wa⟩ := DataW.trod_int Tryd.underlying3 g0
      obtain ⟨b, e1, _, wb⟩ := DataW.trod_int Tryd.underlying3 g1
      obtain ⟨c, e2, _, wc⟩ := DataW.trod_int Tryd.underlying3 g2
      simp at e0 e1 e2
      subst e0 e1 e2
      exact ⟨a, b, c, rfl⟩

set_option maxRecDepth 100000 in
theorem trod_item {fuel : Nat} {cs : List Value} {x : DataW H × List MemPlace} (h : DataW.trod enc Tryd.prog w base spare held fuel 27 cs = some x) :
    ∃ (k f t : Int) (ao : Option Addr) (n c : Nat) (l : List Pc), cs = [.int .u8 k, .int .i64 f, .int .i64 t, .slice ao n c] ∧ (0 ≤ k ∧ k < 256) ∧ IsR fP w ao n l ∧ n ≤ maxLen := by
  obtain ⟨ys, n, _, _, hlen, hyl, hf⟩ := DataW.trod_struct Tryd.underlying27 h
  rw [cellsItem] at hlen
  match cs, hlen with
  | [c0, c1, c2, c3], _ =>
    match ys, hyl with
    | [y0, y1, y2, y3], _ =>
      have g0 := hf 0 _ rfl
      have g1 := hf 1 _ rfl
      have g2 := hf 2 _ rfl
      have g3 := hf 3 _ rfl
      simp [cellsInt, cellsU8, cellsPcs] at g0 g1 g2 g3
      obtain ⟨a, e0, _, wa⟩ := DataW.trod_int Tryd.underlying5 g0
      obtain ⟨b, e1, _, wb⟩ := DataW.trod_int Tryd.underlying3 g1
      obtain ⟨c, e2, _, wc⟩ := DataW.trod_int Tryd.underlying3 g2
      obtain ⟨ao, m, cap, l, e3, hr, h1, h2, h3, h4, h5⟩ := open_rows (f := fP) (φ := fun q _ => (Lit.int .i64 q.n).wf = true ∧ q.t.size ≤ maxLen) Tryd.underlying25 cellsPc (by decide) fP_len (fun _ _ _ h => trod_pc h) g3
      simp at e0 e1 e2 e3
      subst e0 e1 e2 e3
      exact ⟨a, b, c, ao, m, cap, l, rfl, wf8 wa, hr, Nat.le_trans h1 h2⟩

set_option maxRecDepth 100000 in
theorem trod_result {fuel : Nat} {cs : List Value} {x : DataW H × List MemPlace} (h : DataW.trod enc Tryd.prog w base spare held fuel 29 cs = some x) :
    ∃ (r : Rs) (ao : Option Addr) (n c : Nat), cs = (rsV r ao n c).toList ∧ (0 ≤ r.gr ∧ r.gr < 256) ∧ (0 ≤ r.ik ∧ r.ik < 256) ∧ IsR fP w ao n r.d ∧ n ≤ maxLen := by
  obtain ⟨ys, n, _, _, hlen, hyl, hf⟩ := DataW.trod_struct Tryd.underlying29 h
  rw [cellsRes] at hlen
  match cs, hlen with
  | [c0, c1, c2, c3, c4, c5, c6, c7, c8, c9, c10, c11, c12], _ =>
    match ys, hyl with
    | [y0, y1, y2, y3, y4, y5, y6, y7], _ =>
      have g0 := hf 0 _ rfl
      have g1 := hf 1 _ rfl
      have g2 := hf 2 _ rfl
      have g3 := hf 3 _ rfl
      have g4 := hf 4 _ rfl
      have g5 := hf 5 _ rfl
      have g6 := hf 6 _ rfl
      have g7 := hf 7 _ rfl
      simp [cellsErr, cellsInt, cellsU8, cellsStr, cellsMs, cellsItem] at g0 g1 g2 g3 g4 g5 g6 g7
      obtain ⟨a0, e0, _, _⟩ := DataW.trod_int Tryd.underlying22 g0
      obtain ⟨a1, e1, _, _⟩ := DataW.trod_int Tryd.underlying3 g1
      obtain ⟨a2, e2, _, _⟩ := DataW.trod_int Tryd.underlying3 g2
      obtain ⟨a3, e3, _, _⟩ := DataW.trod_int Tryd.underlying3 g3
      obtain ⟨a4, e4, _, wg⟩ := DataW.trod_int Tryd.underlying5 g4
      obtain ⟨t, e5, _, _⟩ := DataW.trod_string Tryd.underlying9 g5
      obtain ⟨m1, m2, m3, e6⟩ := trod_ms g6
      obtain ⟨k, f, u, ao, m, c, l, e7, hk, hr, hm⟩ := trod_item g7
      simp at e0 e1 e2 e3 e4 e5 e6 e7
      obtain ⟨e6, e8, e9⟩ := e6
      obtain ⟨e7, e10, e11, e12⟩ := e7
      subst e0 e1 e2 e3 e4 e5 e6 e7 e8 e9 e10 e11 e12
      exact ⟨⟨a0, a1, a2, a3, a4, t, m1, m2, m3, k, f, u, l⟩, ao, m, c, rfl, wf8 wg, hk, hr, hm⟩

set_option maxRecDepth 100000 in
theorem open_result {r : Reach} {b0 : Nat} {v : Value} {d : DataW H} {p : List MemPlace} (hv : Value.okWide Tryd.prog w r b0 29 v) (h : DataW.Trod enc Tryd.prog w base spare held 29 v d p) :
    ∃ (x : Rs) (ao : Option Addr) (n c : Nat), v = .agg (rsV x ao n c) ∧ (0 ≤ x.gr ∧ x.gr < 256) ∧ (0 ≤ x.ik ∧ x.ik < 256) ∧ IsR fP w ao n x.d ∧ n ≤ maxLen := by
  obtain ⟨cs, rfl, hsz⟩ := okWide_struct Tryd.underlying29 hv
  obtain ⟨fuel, hf⟩ := h
  obtain ⟨x, ao, n, c, hc, h1, h2, h3, h4⟩ := trod_result hf
  refine ⟨x, ao, n, c, ?_, h1, h2, h3, h4⟩
  have : cs = rsV x ao n c := by
    apply Array.toList_inj.1
    simpa [Value.cells] using hc
  rw [this]
end
end Go.Proofs.YtdfkbahlngijcaaDoor

namespace Go.Proofs.YtdfkbahlngijcaaDoor
open Go.ChangeShapes Go.WideShapes Go.ChangeAt Go.RowKit Go.Deep

theorem cellsOp : Tryd.prog.cellsOf 51 = 7 := by kernel_rfl
theorem cellsU32 : Tryd.prog.cellsOf 49 = 1 := by kernel_rfl
theorem wf32 {a : Int} (h : (Lit.int .u32 a).wf = true) : 0 ≤ a ∧ a < 4294967296 := by
  simp [Lit.wf, IntKind.min, IntKind.max, IntKind.signed, IntKind.bits] at h
  omega
section
variable {H : Type} {enc : TypeId × Value → H} {w : World} {base : Nat} {spare : Nat → Bool} {held : Bool}

set_option maxRecDepth 100000 in
theorem trod_op {fuel : Nat} {cs : List Value} {x : DataW H × List MemPlace} (h : DataW.trod enc Tryd.prog w base spare held fuel 51 cs = some x) :
    ∃ y : Ov, cs = fO y ∧ OvOk y := by
  obtain ⟨ys, n, _, _, hlen, hyl, hf⟩ := DataW.trod_struct Tryd.underlying51 h
  rw [cellsOp] at hlen
  match cs, hlen with
  | [c0, c1, c2, c3, c4, c5, c6], _ =>
    match ys, hyl with
    | [y0, y1, y2, y3, y4, y5, y6], _ =>
      have g0 := hf 0 _ rfl
      have g1 := hf 1 _ rfl
      have g2 := hf 2 _ rfl
      have g3 := hf 3 _ rfl
      have g4 := hf 4 _ rfl
      have g5 := hf 5 _ rfl
      have g6 := hf 6 _ rfl
      simp [cellsInt, cellsU8, cellsStr, cellsU32] at g0 g1 g2 g3 g4 g5 g6
      obtain ⟨a0, e0, _, w0⟩ := DataW.trod_int Tryd.underlying5 g0
      obtain ⟨a1, e1, _, _⟩ := DataW.trod_int Tryd.underlying3 g1
      obtain ⟨a2, e2, _, _⟩ := DataW.trod_int Tryd.underlying3 g2
      obtain ⟨a3, e3, _, _⟩ := DataW.trod_int Tryd.underlying3 g3
      obtain ⟨a4, e4, _, w4⟩ := DataW.trod_int Tryd.underlying49 g4
      obtain ⟨a5, e5, _, w5⟩ := DataW.trod_int Tryd.underlying5 g5
      obtain ⟨t, e6, _, _⟩ := DataW.trod_string Tryd.underlying9 g6
      simp at e0 e1 e2 e3 e4 e5 e6
      subst e0 e1 e2 e3 e4 e5 e6
      exact ⟨⟨a0, a1, a2, a3, a4, a5, t⟩, rfl, wf8 w0, wf32 w4, wf8 w5⟩

set_option maxRecDepth 100000 in
theorem open_op {r : Reach} {b0 : Nat} {v : Value} {d : DataW H} {p : List MemPlace} (hv : Value.okWide Tryd.prog w r b0 51 v) (h : DataW.Trod enc Tryd.prog w base spare held 51 v d p) :
    ∃ x : Ov, v = .agg (oC x) ∧ OvOk x := by
  obtain ⟨cs, rfl, hsz⟩ := okWide_struct Tryd.underlying51 hv
  obtain ⟨fuel, hf⟩ := h
  obtain ⟨x, hc, h1⟩ := trod_op hf
  refine ⟨x, ?_, h1⟩
  have h2 : cs.toList = fO x := by simpa [Value.cells] using hc
  have : cs = oC x := Array.toList_inj.1 (h2.trans (show fO x = (oC x).toList from rfl))
  rw [this]
end
end Go.Proofs.YtdfkbahlngijcaaDoor

