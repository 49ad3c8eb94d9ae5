/- Arguments opened: slices of rows, children, nodes, the arena's deeds. -/
import Derived.Test.YtfgkbnnojogjpaaQo
import Derived.ProofKit
import Derived.OpenShut
import Derived.SizedLaws
import Derived.Deep.Slices
namespace Go.Proofs.Ytfgkbnnojogjpaa
open Go.ChangeShapes Go.WideShapes Go.ChangeAt Go.RowKit Go.Deep

set_option maxRecDepth 100000 in
theorem list_of {α : Type} : ∀ (n : Nat) (p : Nat → α → Prop), (∀ i, i < n → ∃ x, p i x) → ∃ l : List α, l.length = n ∧ ∀ i (h : i < l.length), p i l[i]
  | 0, _, _ => ⟨[], rfl, fun i h => by simp at h⟩
  | n + 1, p, h => by
    obtain ⟨l, h1, h2⟩ := list_of n p (fun i hi => h i (by omega))
    obtain ⟨x, hx⟩ := h n (by omega)
    refine ⟨l ++ [x], by simp [h1], fun i hi => ?_⟩
    by_cases e : i < l.length
    · rw [List.getElem_append_left e]; exact h2 i e
    · simp at hi
      have : i = l.length := by omega
      subst this
      simp
      rw [h1]; exact hx

section
variable {H : Type} {enc : TypeId × Value → H} {P : Program} {w : World} {base : Nat} {spare : Nat → Bool} {held : Bool}

/-- the weights of a datum are within the reach -/
def Light (P : Program) (t : TypeId) (d : DataW H) : Prop := ∀ n ∈ d.weights P t, n ≤ reachBytes

set_option maxRecDepth 100000 in
theorem light_of {ts : List TypeId} {ds : List (DataW H)} (h : (DataW.weightsEach P ts ds).all (· ≤ reachBytes) = true) {j : Nat} {t : TypeId} {d : DataW H} (ht : ts[j]? = some t) (hd : ds[j]? = some d) : Light P t d :=
  fun n hn => by simpa using List.all_eq_true.1 h n (DataW.weights_mem_each ht hd n hn)

set_option maxRecDepth 100000 in
theorem light_field {t : TypeId} {fs : Array Field} {parts : List (DataW H)} (hu : P.underlying t = some (.struct fs)) (h : Light P t (.agg parts)) {j : Nat} {f : Field} {d : DataW H} (hf : fs[j]? = some f) (hd : parts[j]? = some d) : Light P f.type d := by
  intro n hn
  refine h n ?_
  simp only [DataW.weights, hu]
  exact DataW.weights_mem_each (j := j) (by simp [hf]) hd n hn

set_option maxRecDepth 100000 in
theorem weightsAll_mem {e : TypeId} : ∀ {l : List (DataW H)} {d : DataW H}, d ∈ l → ∀ n ∈ d.weights P e, n ∈ DataW.weightsAll P e l
  | x :: l, d, h, n, hn => by
    rw [DataW.weightsAll]
    rcases List.mem_cons.1 h with e | e
    · subst e; exact List.mem_append_left _ hn
    · exact List.mem_append_right _ (weightsAll_mem e n hn)

set_option maxRecDepth 100000 in
theorem light_elem {t e : TypeId} {elems sp : List (DataW H)} (hu : P.underlying t = some (.slice e)) (h : Light P t (.slice elems sp)) {d : DataW H} (hd : d ∈ elems) : Light P e d := by
  intro n hn
  refine h n ?_
  simp only [DataW.weights, hu]
  exact List.mem_cons_of_mem _ (List.mem_append_left _ (weightsAll_mem hd n hn))

set_option maxRecDepth 100000 in
theorem light_len {t e : TypeId} {elems sp : List (DataW H)} (hu : P.underlying t = some (.slice e)) (h : Light P t (.slice elems sp)) : elems.length * P.bytesOf e ≤ reachBytes := by
  refine Nat.le_trans (Nat.mul_le_mul_right _ (Nat.le_add_right _ sp.length)) (h _ ?_)
  simp only [DataW.weights, hu]
  exact List.mem_cons_self

set_option maxRecDepth 100000 in
theorem light_string {t : TypeId} {bs : List UInt8} (h : Light P t (.lit (.string bs) : DataW H)) : bs.length ≤ reachBytes := by
  refine h _ ?_
  simp [DataW.weights]

set_option maxRecDepth 100000 in
/-- A slice whose elements are read by 'f': opened. -/
theorem open_rows {α : Type} {f : α → List Value} {φ : α → DataW H → Prop} {t e : TypeId} {s : Nat} (hu : P.underlying t = some (.slice e)) (hs : P.cellsOf e = s) (hpos : 0 < s) (hf : ∀ x, (f x).length = s)
    (hel : ∀ fuel cs x, DataW.trod enc P w base spare held fuel e cs = some x → ∃ a, cs = f a ∧ φ a x.1) {fuel : Nat} {v : Value} {x : DataW H × List MemPlace}
    (h : DataW.trod enc P w base spare held fuel t [v] = some x) :
    ∃ (ao : Option Addr) (len cap : Nat) (l : List α), v = .slice ao len cap ∧ IsR f w ao len l ∧ len ≤ cap ∧ cap ≤ maxLen ∧ (ao = none → cap = 0) ∧
      (∀ a ∈ l, ∃ y, φ a y ∧ (Light P t x.1 → Light P e y)) ∧ (Light P t x.1 → len * P.bytesOf e ≤ reachBytes) := by
  rcases open_slice hu h with ⟨hcs, rfl⟩ | ⟨a, len, cap, m, n, D, Pl, hcs, hb, hl, hm, hmm, rfl, hi⟩
  · simp at hcs
    subst hcs
    exact ⟨none, 0, 0, [], rfl, IsR.nil f w none, Nat.le_refl _, Nat.zero_le _, fun _ => rfl, by simp, fun _ => by simp⟩
  · simp at hcs
    subst hcs
    have hle : len ≤ m := by rw [hmm]; split <;> omega
    have key : ∀ i, i < len → ∃ q : α, (∀ j u, (f q)[j]? = some u → w.cell? (a.add (i * s + j)) = some u) ∧ φ q (D i) := by
      intro i hil
      obtain ⟨cs', hc, ht'⟩ := hi i (by omega)
      rw [hs] at hc
      obtain ⟨q, rfl, hφ⟩ := hel _ _ _ ht'
      obtain ⟨_, _, hat⟩ := World.cells?_some hc
      refine ⟨q, fun j u hj => ?_, hφ⟩
      have hj' : j < s := by
        have := (List.getElem?_eq_some_iff.1 hj).1
        rw [hf] at this; exact this
      have := hat j hj'
      rw [Go.Deep.add_add] at this
      rw [this, hj]
    obtain ⟨l, hll, hlc⟩ := list_of len _ key
    refine ⟨some a, len, cap, l, rfl, ⟨hll, fun hpos' => ?_⟩, hl, hm, (fun h => by cases h), fun q hq => ?_, fun hL => ?_⟩
    · obtain ⟨b, off, spot⟩ := a
      have hfirst : ∀ i (h : i < l.length), ∃ u, (f l[i])[0]? = some u := fun i h => ⟨_, List.getElem?_eq_getElem (by rw [hf]; exact hpos)⟩
      obtain ⟨u0, hu0⟩ := hfirst 0 (by omega)
      have hc0 := (hlc 0 (by omega)).1 0 u0 hu0
      have hspot : spot = none := by
        have := hc0
        simp [Addr.add] at this
        exact World.cell?_spot this
      subst hspot
      refine ⟨b, off, rfl, ?_, fun j u hj => ?_⟩
      · rcases Nat.lt_or_ge b w.heap.size with hb | hb
        · exact hb
        · simp [Addr.add, World.cell?, Array.getElem?_eq_none hb] at hc0
      · have hlen := (List.getElem?_eq_some_iff.1 hj).1
        rw [flatR_len hf] at hlen
        have hk : j / s < l.length := by rw [Nat.div_lt_iff_lt_mul hpos]; exact hlen
        have ej : j / s * s + j % s = j := by rw [Nat.mul_comm]; exact Nat.div_add_mod j s
        have hm' : j % s < s := Nat.mod_lt _ hpos
        have hj2 := flatR_at hf l (j / s) (j % s) hk hm'
        rw [ej, hj] at hj2
        have := (hlc (j / s) hk).1 (j % s) u hj2.symm
        rw [ej, add_to] at this
        exact this
    · obtain ⟨i, hi', rfl⟩ := List.getElem_of_mem hq
      refine ⟨D i, (hlc i hi').2, fun hL => light_elem hu hL ?_⟩
      exact List.mem_map.2 ⟨i, List.mem_range.2 (by omega), rfl⟩
    · have := light_len hu hL
      simpa using this
end

set_option maxRecDepth 100000 in
theorem IsR.mem {α : Type} {f : α → List Value} {w : World} {a : Option Addr} {n : Nat} {l : List α} (h : IsR f w a n l) : l.length = n := h.1
set_option maxRecDepth 100000 in
/-- element k of the row: its cells -/
theorem IsR.at {α : Type} {f : α → List Value} {s : Nat} (hf : ∀ x, (f x).length = s) {w : World} {l : List α} {b off : Nat} (h : ∀ j u, (flatR f l)[j]? = some u → w.cell? ⟨b, off + j, none⟩ = some u) (k : Nat) (hk : k < l.length) (i : Nat) (u : Value) (hi : (f l[k])[i]? = some u) : w.cell? ⟨b, off + k * s + i, none⟩ = some u := by
  have hi' : i < s := by
    have := (List.getElem?_eq_some_iff.1 hi).1
    rw [hf] at this; exact this
  have := h (k * s + i) u (by rw [flatR_at hf l k i hk hi']; exact hi)
  rw [← Nat.add_assoc] at this
  exact this
end Go.Proofs.Ytfgkbnnojogjpaa

namespace Go.Proofs.Ytfgkbnnojogjpaa
open Go.ChangeShapes Go.WideShapes Go.ChangeAt Go.RowKit Go.Deep

set_option maxRecDepth 100000 in
theorem cellsM : Try.prog.cellsOf 62 = 3 := by kernel_rfl
set_option maxRecDepth 100000 in
theorem cellsI : Try.prog.cellsOf 3 = 1 := by kernel_rfl
set_option maxRecDepth 100000 in
theorem cellsH : Try.prog.cellsOf 31 = 1 := by kernel_rfl
set_option maxRecDepth 100000 in
theorem cellsS : Try.prog.cellsOf 9 = 1 := by kernel_rfl
set_option maxRecDepth 100000 in
theorem cellsKs : Try.prog.cellsOf 34 = 1 := by kernel_rfl
set_option maxRecDepth 100000 in
theorem cellsK : Try.prog.cellsOf 64 = 4 := by kernel_rfl
set_option maxRecDepth 100000 in
theorem cellsN : Try.prog.cellsOf 36 = 3 := by kernel_rfl
set_option maxRecDepth 100000 in
theorem bytesK : Try.prog.bytesOf 64 = 32 := by kernel_rfl

section
variable {H : Type} {enc : TypeId × Value → H} {w : World} {base : Nat} {spare : Nat → Bool} {held : Bool}

set_option maxRecDepth 100000 in
theorem trod_meas {fuel : Nat} {cs : List Value} {x : DataW H × List MemPlace} (h : DataW.trod enc Try.prog w base spare held fuel 62 cs = some x) :
    ∃ t : Trip, cs = [.int .i64 t.1, .int .i64 t.2.1, .int .i64 t.2.2] := by
  obtain ⟨ys, n, _, _, hlen, hyl, hf⟩ := DataW.trod_struct Try.underlying62 h
  rw [cellsM] at hlen
  match cs, hlen with
  | [c0, c1, c2], _ =>
    match ys, hyl with
    | [y0, y1, y2], _ =>
      have g0 := hf 0 _ rfl
      have g1 := hf 1 _ rfl
      have g2 := hf 2 _ rfl
      simp [cellsI] at g0 g1 g2
      obtain ⟨a, e0, _, wa⟩ := DataW.trod_int Try.underlying3 g0
      obtain ⟨b, e1, _, wb⟩ := DataW.trod_int Try.underlying3 g1
      obtain ⟨c, e2, _, wc⟩ := DataW.trod_int Try.underlying3 g2
      simp at e0 e1 e2
      subst e0 e1 e2
      exact ⟨(a, b, c), rfl⟩

set_option maxRecDepth 100000 in
theorem trod_kid {fuel : Nat} {cs : List Value} {x : DataW H × List MemPlace} (h : DataW.trod enc Try.prog w base spare held fuel 64 cs = some x) :
    ∃ k : Kid, cs = fK k ∧ (0 ≤ k.1 ∧ k.1 ≤ 18446744073709551615) := by
  obtain ⟨ys, n, _, _, hlen, hyl, hf⟩ := DataW.trod_struct Try.underlying64 h
  rw [cellsK] at hlen
  match cs, hlen with
  | [c0, c1, c2, c3], _ =>
    match ys, hyl with
    | [y0, y1], _ =>
      have g0 := hf 0 _ rfl
      have g1 := hf 1 _ rfl
      simp [cellsH, cellsM] at g0 g1
      obtain ⟨a, e0, _, wa⟩ := DataW.trod_int Try.underlying31 g0
      obtain ⟨t, e1⟩ := trod_meas g1
      simp at e0 e1
      obtain ⟨e1, e2, e3⟩ := e1
      subst e0 e1 e2 e3
      refine ⟨(a, t), rfl, ?_⟩
      simpa [Lit.wf, IntKind.min, IntKind.max, IntKind.signed, IntKind.bits] using wa

set_option maxRecDepth 100000 in
/-- a slice of children -/
theorem open_ks {fuel : Nat} {v : Value} {x : DataW H × List MemPlace} (h : DataW.trod enc Try.prog w base spare held fuel 34 [v] = some x) :
    ∃ (ao : Option Addr) (n c : Nat) (l : List Kid), v = .slice ao n c ∧ IsKs w ao n l ∧ n ≤ c ∧ c ≤ maxLen ∧ (ao = none → c = 0) ∧ (Light Try.prog 34 x.1 → n * 32 ≤ reachBytes) := by
  obtain ⟨ao, n, c, l, rfl, hr, h1, h2, h3, h4, h5⟩ := open_rows (f := fK) (φ := fun k _ => 0 ≤ k.1 ∧ k.1 ≤ 18446744073709551615) Try.underlying34 cellsK (by decide) fK_len (fun _ _ _ h => trod_kid h) h
  refine ⟨ao, n, c, l, rfl, hr.ks (fun k hk => ?_), h1, h2, h3, by rw [bytesK] at h5; exact h5⟩
  obtain ⟨y, hy, _⟩ := h4 k hk
  exact hy

set_option maxRecDepth 100000 in
theorem trod_node {fuel : Nat} {cs : List Value} {x : DataW H × List MemPlace} (h : DataW.trod enc Try.prog w base spare held fuel 36 cs = some x) :
    ∃ (hh : Int) (t : ByteArray) (ao : Option Addr) (n c : Nat) (l : List Kid), cs = [.int .i64 hh, .string t, .slice ao n c] ∧ IsKs w ao n l ∧ n ≤ c ∧ c ≤ maxLen ∧ (ao = none → c = 0) ∧ (Lit.int .i64 hh).wf = true ∧ t.size ≤ maxLen ∧
      (Light Try.prog 36 x.1 → n * 32 ≤ reachBytes ∧ t.size ≤ reachBytes) := by
  obtain ⟨ys, n, _, rfl, hlen, hyl, hf⟩ := DataW.trod_struct Try.underlying36 h
  rw [cellsN] at hlen
  match cs, hlen with
  | [c0, c1, c2], _ =>
    match ys, hyl with
    | [y0, y1, y2], _ =>
      have g0 := hf 0 _ rfl
      have g1 := hf 1 _ rfl
      have g2 := hf 2 _ rfl
      simp [cellsI, cellsS, cellsKs] at g0 g1 g2
      obtain ⟨a, e0, _, wa⟩ := DataW.trod_int Try.underlying3 g0
      obtain ⟨t, e1, e1', wt⟩ := DataW.trod_string Try.underlying9 g1
      obtain ⟨ao, m, c, l, e2, hk, h1, h2, h3, h4⟩ := open_ks g2
      simp at e0 e1
      subst e0 e1 e2
      refine ⟨a, t, ao, m, c, l, rfl, hk, h1, h2, h3, wa, wt, fun hL => ⟨h4 (light_field (j := 2) Try.underlying36 hL rfl rfl), ?_⟩⟩
      have := light_field (j := 1) (d := y1.1) Try.underlying36 hL rfl rfl
      rw [e1'] at this
      have := light_string this
      simpa using this

set_option maxRecDepth 100000 in
theorem open_node {r : Reach} {b0 : Nat} {v : Value} {d : DataW H} {p : List MemPlace} (hv : Value.okWide Try.prog w r b0 36 v) (h : DataW.Trod enc Try.prog w base spare held 36 v d p) :
    ∃ (x : Nd) (ao : Option Addr) (n c : Nat), v = aggN x.h x.text ao n c ∧ IsKs w ao n x.kids ∧ n ≤ c ∧ c ≤ maxLen ∧ (ao = none → c = 0) ∧ (Lit.int .i64 x.h).wf = true ∧ x.text.size ≤ maxLen ∧
      (Light Try.prog 36 d → n * 32 ≤ reachBytes ∧ x.text.size ≤ reachBytes) := by
  obtain ⟨cs, rfl, hsz⟩ := okWide_struct Try.underlying36 hv
  obtain ⟨fuel, hf⟩ := h
  obtain ⟨hh, t, ao, n, c, l, hc, h1, h2, h3, h4, h5, h6, h7⟩ := trod_node hf
  refine ⟨⟨hh, t, l⟩, ao, n, c, ?_, h1, h2, h3, h4, h5, h6, h7⟩
  have : cs = #[.int .i64 hh, .string t, .slice ao n c] := by
    apply Array.toList_inj.1
    simpa [Value.cells] using hc
  rw [this]; rfl

set_option maxRecDepth 100000 in
theorem open_kids {r : Reach} {b0 : Nat} {v : Value} {d : DataW H} {p : List MemPlace} (hv : Value.okWide Try.prog w r b0 34 v) (h : DataW.Trod enc Try.prog w base spare held 34 v d p) :
    ∃ (ao : Option Addr) (n c : Nat) (l : List Kid), v = .slice ao n c ∧ IsKs w ao n l ∧ n ≤ c ∧ c ≤ maxLen ∧ (ao = none → c = 0) ∧ (Light Try.prog 34 d → n * 32 ≤ reachBytes) := by
  obtain ⟨ao, len, cap, rfl⟩ := okWide_slice Try.underlying34 hv
  obtain ⟨fuel, hf⟩ := h
  obtain ⟨ao', n, c, l, e, h1, h2, h3, h4, h5⟩ := open_ks (by simpa [Value.cells] using hf)
  exact ⟨ao', n, c, l, e, h1, h2, h3, h4, h5⟩
end
end Go.Proofs.Ytfgkbnnojogjpaa

namespace Go.Proofs.Ytfgkbnnojogjpaa
open Go.ChangeShapes Go.WideShapes Go.ChangeAt Go.RowKit Go.Deep
set_option maxRecDepth 100000 in
theorem cellsIs : Try.prog.cellsOf 46 = 1 := by kernel_rfl
set_option maxRecDepth 100000 in
theorem cellsDe : Try.prog.cellsOf 48 = 7 := by kernel_rfl
set_option maxRecDepth 100000 in
theorem cellsLa : Try.prog.cellsOf 80 = 4 := by kernel_rfl
section
variable {H : Type} {enc : TypeId × Value → H} {w : World} {base : Nat} {spare : Nat → Bool} {held : Bool}
set_option maxRecDepth 100000 in
theorem KsOK.of {w : World} {ao : Option Addr} {n c : Nat} {l : List Kid} (h : IsKs w ao n l) (hn : ao = none → c = 0) : l.length = n ∧ KsOK w.heap.size w ao l.length c l := by
  have e : l.length = n := h.1
  subst e
  exact ⟨rfl, h, hn, fun b o e hp => by subst e; exact .inl (h.lt hp)⟩
set_option maxRecDepth 100000 in
theorem open_is {fuel : Nat} {v : Value} {x : DataW H × List MemPlace} (h : DataW.trod enc Try.prog w base spare held fuel 46 [v] = some x) :
    ∃ (ao : Option Addr) (c : Nat) (l : List Int), v = .slice ao l.length c ∧ IsR fI w ao l.length l := by
  obtain ⟨ao, n, c, l, e, hr, -⟩ := open_rows (f := fI) (φ := fun _ _ => True) Try.underlying46 cellsI (by decide) fI_len (fun _ cs x h => by
    obtain ⟨a, e0, _, wa⟩ := DataW.trod_int Try.underlying3 h
    exact ⟨a, e0, trivial⟩) h
  have e2 : l.length = n := hr.1
  subst e2
  exact ⟨ao, c, l, e, hr⟩
set_option maxRecDepth 100000 in
theorem trod_de {fuel : Nat} {cs : List Value} {x : DataW H × List MemPlace} (h : DataW.trod enc Try.prog w base spare held fuel 48 cs = some x) :
    ∃ d : De, cs = deF d ∧ DeOK w.heap.size w d := by
  obtain ⟨ys, n, _, _, hlen, hyl, hf⟩ := DataW.trod_struct Try.underlying48 h
  rw [cellsDe] at hlen
  match cs, hlen with
  | [c0, c1, c2, c3, c4, c5, c6], _ =>
    match ys, hyl with
    | [y0, y1, y2, y3, y4], _ =>
      have g0 := hf 0 _ rfl
      have g1 := hf 1 _ rfl
      have g2 := hf 2 _ rfl
      have g3 := hf 3 _ rfl
      have g4 := hf 4 _ rfl
      simp [cellsI, cellsH, cellsS, cellsIs, cellsN] at g0 g1 g2 g3 g4
      obtain ⟨a, e0, _, wa⟩ := DataW.trod_int Try.underlying3 g0
      obtain ⟨t, e1, e1', wt⟩ := DataW.trod_string Try.underlying9 g1
      obtain ⟨la, lc, l, e2, hl⟩ := open_is g2
      obtain ⟨hh, tx, xa, xn, xc, kl, e3, hk, h1, h2, hno, h4, h5, -⟩ := trod_node g3
      obtain ⟨k, e4, _, wc⟩ := DataW.trod_int Try.underlying31 g4
      simp at e0 e1 e3 e4
      obtain ⟨e3, e5, e6⟩ := e3
      obtain ⟨hxn, hks⟩ := KsOK.of hk hno
      subst hxn
      subst e0 e1 e2 e3 e4 e5 e6
      refine ⟨⟨a, t, l, la, lc, ⟨hh, tx, kl⟩, xa, xc, k⟩, rfl, hl, hks, ?_⟩
      simpa [Lit.wf, IntKind.min, IntKind.max, IntKind.signed, IntKind.bits] using wc
set_option maxRecDepth 100000 in
/-- a slice of deeds -/
theorem open_des {r : Reach} {b0 : Nat} {v : Value} {d : DataW H} {p : List MemPlace} (hv : Value.okWide Try.prog w r b0 41 v) (h : DataW.Trod enc Try.prog w base spare held 41 v d p) :
    ∃ (ao : Option Addr) (n c : Nat) (l : List De), v = .slice ao n c ∧ Deeds w ao n l ∧ n ≤ c ∧ c ≤ maxLen := by
  obtain ⟨ao, len, cap, rfl⟩ := okWide_slice Try.underlying41 hv
  obtain ⟨fuel, hf⟩ := h
  obtain ⟨ao', n, c, l, e, hr, h1, h2, h3, h4, h5⟩ := open_rows (f := deF) (φ := fun d _ => DeOK w.heap.size w d) Try.underlying41 cellsDe (by decide) deF_len (fun _ _ _ h => trod_de h) (v := .slice ao len cap) (by simpa [Value.cells] using hf)
  refine ⟨ao', n, c, l, e, ⟨hr, fun d hd => ?_⟩, h1, h2⟩
  obtain ⟨y, hy, _⟩ := h4 d hd
  exact hy
set_option maxRecDepth 100000 in
/-- a node and a number -/
theorem open_last {r : Reach} {b0 : Nat} {v : Value} {d : DataW H} {p : List MemPlace} (hv : Value.okWide Try.prog w r b0 80 v) (h : DataW.Trod enc Try.prog w base spare held 80 v d p) :
    ∃ (x : Nd) (xa : Option Addr) (xc : Nat) (k : Int), v = .agg #[.int .i64 x.h, .string x.text, .slice xa x.kids.length xc, .int .u64 k] ∧ KsOK w.heap.size w xa x.kids.length xc x.kids ∧ 0 ≤ k ∧ k ≤ 18446744073709551615 := by
  obtain ⟨cs, rfl, hsz⟩ := okWide_struct Try.underlying80 hv
  obtain ⟨fuel, hf⟩ := h
  obtain ⟨ys, n, _, _, hlen, hyl, hf⟩ := DataW.trod_struct Try.underlying80 hf
  rw [cellsLa] at hlen
  obtain ⟨cl, hcl⟩ : ∃ cl, cl = cs.toList := ⟨_, rfl⟩
  simp only [Value.cells, ← hcl] at hlen hf
  match cl, hlen, hcl with
  | [c0, c1, c2, c3], _, hcl =>
    match ys, hyl with
    | [y0, y1], _ =>
      have g0 := hf 0 _ rfl
      have g1 := hf 1 _ rfl
      simp [cellsH, cellsN] at g0 g1
      obtain ⟨hh, tx, xa, xn, xc, kl, e3, hk, h1, h2, hno, h4, h5, -⟩ := trod_node g0
      obtain ⟨k, e4, _, wc⟩ := DataW.trod_int Try.underlying31 g1
      simp at e3 e4
      obtain ⟨e3, e5, e6⟩ := e3
      obtain ⟨hxn, hks⟩ := KsOK.of hk hno
      subst hxn
      subst e3 e4 e5 e6
      refine ⟨⟨hh, tx, kl⟩, xa, xc, k, ?_, hks, ?_⟩
      · congr 1
        apply Array.toList_inj.1
        rw [← hcl]
      · simpa [Lit.wf, IntKind.min, IntKind.max, IntKind.signed, IntKind.bits] using wc
end
end Go.Proofs.Ytfgkbnnojogjpaa
