/- General lemmas for walks: equality of short arrays of integers; regions whose operations make at most new memory. (printed by slim.py.) -/
import Derived.Test.YtdfkbahlngijcaaDoorRows
import Derived.WalkKit
import Derived.WalkSpells
import Derived.WalkLawsBesides
import Derived.Lib.Hide
import Derived.Deep.QuietTactic
import Derived.BigQuiet
import Derived.Handy
import Derived.Laws.AppendOwn
import Derived.Laws.AppendOwnNone
import Derived.MapKept
namespace Go.Proofs.YtdfkbahlngijcaaDoor
open Go.RowKit

/-- Behind 'Below w.heap.size w v' a call that writes nothing that was there leaves 'Below w.heap.size w'. -/
theorem below_step {w v u : World} (h : Below w.heap.size w v) (k : Below v.heap.size v u) : Below w.heap.size w u :=
  h.trans (k.mono h.size)

end Go.Proofs.YtdfkbahlngijcaaDoor

namespace Go.Proofs.YtdfkbahlngijcaaDoor
open Go.RowKit

theorem block_new (w : World) (o : Obj) : (w.alloc o).heap[w.heap.size]? = some o := (MapKept.heap_alloc w o).1
theorem block_new' (w : World) (o : Obj) (b : Nat) (h : b = w.heap.size) : (w.alloc o).heap[b]? = some o := by rw [h]; exact block_new w o
theorem block_lt {w : World} {b : Nat} {o : Obj} (h : w.heap[b]? = some o) : b < w.heap.size := by
  rcases Nat.lt_or_ge b w.heap.size with hh | hh
  · exact hh
  · rw [Array.getElem?_eq_none hh] at h; cases h
theorem block_alloc {w : World} {b : Nat} {o : Obj} (h : w.heap[b]? = some o) (o' : Obj) : (w.alloc o').heap[b]? = some o := by
  rw [Below.heap_alloc w o' b (block_lt h)]; exact h
theorem block_setCell {w : World} {b : Nat} {c : Array Value} {e : TypeId} {fr : Nat × Nat} (h : w.heap[b]? = some (.cells c e fr)) (i : Nat) (v : Value) :
    (w.setCell ⟨b, i, none⟩ v).heap[b]? = some (.cells (c.setIfInBounds i v) e fr) := by
  simp [World.setCell, Array.getElem?_modify, h]
theorem block_setCell_other {w : World} {b : Nat} {o : Obj} (h : w.heap[b]? = some o) {p : Addr} (hp : p.block ≠ b) (v : Value) : (w.setCell p v).heap[b]? = some o := by
  rw [Below.heap_setCell w p v b (Ne.symm hp)]; exact h
theorem block_below {B : Nat} {w w' : World} (hb : Below B w w') {b : Nat} {o : Obj} (h : w.heap[b]? = some o) (hlt : b < B) : w'.heap[b]? = some o := by
  rw [hb.block b hlt]; exact h
theorem block_cell {w : World} {b : Nat} {c : Array Value} {e : TypeId} {fr : Nat × Nat} (h : w.heap[b]? = some (.cells c e fr)) (i : Nat) : w.cell? ⟨b, i, none⟩ = c[i]? := by
  simp [World.cell?, h]
theorem block_free {w : World} {b : Nat} {c : Array Value} {e : TypeId} (h : w.heap[b]? = some (.cells c e (0, 0))) (i : Nat) : w.frozen? ⟨b, i, none⟩ = false := by
  simp [World.frozen?, h]

end Go.Proofs.YtdfkbahlngijcaaDoor

namespace Go.Proofs.YtdfkbahlngijcaaDoor
open Go.RowKit

theorem add_to (b off k : Nat) : (⟨b, off, none⟩ : Addr).add k = ⟨b, off + k, none⟩ := by
  simp [Addr.add]

/-- the cells of a row of elements -/
def flatR {α : Type} (f : α → List Value) (l : List α) : List Value := l.flatMap f
theorem flatR_len {α : Type} {f : α → List Value} {s : Nat} (hf : ∀ x, (f x).length = s) : ∀ l : List α, (flatR f l).length = l.length * s
  | [] => by simp [flatR]
  | x :: l => by
    have := flatR_len hf l
    unfold flatR at this ⊢
    rw [List.flatMap_cons, List.length_append, this, hf, List.length_cons, Nat.add_mul]
    omega
theorem flatR_at {α : Type} {f : α → List Value} {s : Nat} (hf : ∀ x, (f x).length = s) : ∀ (l : List α) (k i : Nat) (h : k < l.length), i < s → (flatR f l)[k * s + i]? = (f l[k])[i]?
  | [], k, i, h, _ => absurd h (Nat.not_lt_zero _)
  | x :: l, 0, i, _, hi => by
    unfold flatR
    rw [List.flatMap_cons, Nat.zero_mul, Nat.zero_add, List.getElem?_append_left (by rw [hf]; exact hi)]
    rfl
  | x :: l, k + 1, i, h, hi => by
    have := flatR_at hf l k i (by simpa using h) hi
    unfold flatR at this ⊢
    rw [List.flatMap_cons, List.getElem?_append_right (by rw [hf, Nat.add_mul]; omega), hf]
    rw [show (k + 1) * s + i - s = k * s + i by rw [Nat.add_mul]; omega, this]
    rfl
theorem flatR_app {α : Type} (f : α → List Value) (l m : List α) : flatR f (l ++ m) = flatR f l ++ flatR f m := by unfold flatR; exact List.flatMap_append
theorem flatR_one {α : Type} (f : α → List Value) (x : α) : flatR f [x] = f x := by simp [flatR]
/-- the slice value (a, n) reads as the elements l -/
def IsR {α : Type} (f : α → List Value) (w : World) (a : Option Addr) (n : Nat) (l : List α) : Prop :=
  l.length = n ∧ (0 < n → ∃ b off, a = some ⟨b, off, none⟩ ∧ b < w.heap.size ∧ ∀ j u, (flatR f l)[j]? = some u → w.cell? ⟨b, off + j, none⟩ = some u)

theorem IsR.nil {α : Type} (f : α → List Value) (w : World) (a : Option Addr) : IsR f w a 0 [] := ⟨rfl, fun h => absurd h (Nat.lt_irrefl _)⟩
theorem IsR.later {α : Type} {f : α → List Value} {w w' : World} {a : Option Addr} {n : Nat} {l : List α} (h : IsR f w a n l) (hb : Below w.heap.size w w') : IsR f w' a n l := by
  obtain ⟨h1, h2⟩ := h
  refine ⟨h1, fun hn => ?_⟩
  obtain ⟨b, off, e, hlt, h3⟩ := h2 hn
  exact ⟨b, off, e, Nat.lt_of_lt_of_le hlt hb.size, fun j u hj => (hb.cell (p := ⟨b, off + j, none⟩) hlt).trans (h3 j u hj)⟩
theorem IsR.below {α : Type} {f : α → List Value} {B : Nat} {w w' : World} {a : Option Addr} {n : Nat} {l : List α} (h : IsR f w a n l) (hb : Below B w w') (hB : ∀ b o, a = some ⟨b, o, none⟩ → 0 < n → b < B) : IsR f w' a n l := by
  obtain ⟨h1, h2⟩ := h
  refine ⟨h1, fun hn => ?_⟩
  obtain ⟨b, off, e, hlt, h3⟩ := h2 hn
  exact ⟨b, off, e, Nat.lt_of_lt_of_le hlt hb.size, fun j u hj => (hb.cell (p := ⟨b, off + j, none⟩) (hB b off e hn)).trans (h3 j u hj)⟩
/-- an owned row reads as its elements -/
theorem IsR.owned {α : Type} {f : α → List Value} {s : Nat} (hf : ∀ x, (f x).length = s) {w : World} {base : Nat} {e : TypeId} {v : Value} {n : Nat} {l : List α} (hl : l.length = n) (h : w.ownsRow base e s v n (flatR f l)) :
    ∃ ao cap, v = .slice ao n cap ∧ IsR f w ao n l ∧ (ao = none → n = 0 ∧ cap = 0) ∧ (0 < n → ∃ g, ao = some ⟨g, 0, none⟩ ∧ base ≤ g ∧ g < w.heap.size) := by
  obtain ⟨_, h⟩ := h
  rcases h with ⟨rfl, rfl⟩ | ⟨g, cap, cur, rfl, hb, hg, hc, hm, hsz, htk⟩
  · exact ⟨none, 0, rfl, ⟨hl, fun h => absurd h (by omega)⟩, fun _ => ⟨rfl, rfl⟩, fun h => absurd h (by omega)⟩
  · refine ⟨some ⟨g, 0, none⟩, cap, rfl, ⟨hl, fun _ => ⟨g, 0, rfl, block_lt hg, fun j u hj => ?_⟩⟩, fun h => by simp at h, fun _ => ⟨g, rfl, hb, block_lt hg⟩⟩
    have hlen := flatR_len hf l
    have hj' : j < n * s := by
      have := (List.getElem?_eq_some_iff.1 hj).1
      rw [hlen, hl] at this
      exact this
    have get : cur[j]? = (flatR f l)[j]? := by
      rw [← htk, List.getElem?_take_of_lt hj', Array.getElem?_toList]
    rw [block_cell hg, Nat.zero_add, get, hj]

end Go.Proofs.YtdfkbahlngijcaaDoor

namespace Go.Proofs.YtdfkbahlngijcaaDoor
open Go.RowKit

/-- what is said of a value in a world is still so when new memory has been made -/
def Stab (R : Value → World → Prop) : Prop := ∀ v w w', R v w → Below w.heap.size w w' → R v w'

theorem Stab_eq (c : Value) : Stab (fun v _ => v = c) := fun _ _ _ h _ => h
theorem Stab_any : Stab (fun _ _ => True) := fun _ _ _ _ _ => trivial

/-- the operation 'o', carried out in 'w', has left its value, and at most new memory -/
def Goes (a : Act) (o : Oper) (w : World) (R : Value → World → Prop) : Exit → Act → World → Prop :=
  fun ex a' w' => ex = .normal ∧ ∃ v, a' = a.put o.dst v ∧ Below w.heap.size w w' ∧ R v w'

/-- the frame in which every operation of the list has left the value that 'vs' gives it -/
def fill (vs : Nat → Value) : List Oper → Nat → Act → Act
  | [], _, a => a
  | o :: l, k, a => fill vs l (k + 1) (a.put o.dst (vs k))

/-- what is asked of operation number i -/
def OpOK (P : Program) (ops : Array Oper) (F : (Nat → Value) → Act) (B : World) (o : Oper) (S : Nat → Value → World → Prop) (R : Value → World → Prop) : Prop :=
  ∀ (vs : Nat → Value) (w : World), Below B.heap.size B w → (∀ e ∈ o.after, Region.binds .any e = true → S e.on (vs e.on) w) →
    wpList P ops (Goes (F vs) o w R) [o] (F vs) w

def OpsOK (P : Program) (ops : Array Oper) (F : (Nat → Value) → Act) (B : World) (Fin : (Nat → Value → World → Prop) → Prop) : List Oper → Nat → (Nat → Value → World → Prop) → Prop
  | [], _, S => Fin S
  | o :: l, i, S => ∃ R, Stab R ∧ OpOK P ops F B o S R ∧ OpsOK P ops F B Fin l (i + 1) (fun k => if k = i then R else S k)

theorem OpsOK.step {P : Program} {ops : Array Oper} {F : (Nat → Value) → Act} {B : World} {Fin : (Nat → Value → World → Prop) → Prop} {l : List Oper} {i : Nat} {o : Oper} {S : Nat → Value → World → Prop}
    (R : Value → World → Prop) (hst : Stab R) (hop : OpOK P ops F B o S R) (h : OpsOK P ops F B Fin l (i + 1) (fun k => if k = i then R else S k)) : OpsOK P ops F B Fin (o :: l) i S :=
  ⟨R, hst, hop, h⟩

theorem OpsOK.done {P : Program} {ops : Array Oper} {F : (Nat → Value) → Act} {B : World} {Fin : (Nat → Value → World → Prop) → Prop} {i : Nat} {S : Nat → Value → World → Prop} (h : Fin S) : OpsOK P ops F B Fin [] i S := h

/-- the operation leaves one value, whatever has been made by then -/
theorem OpsOK.eq {P : Program} {ops : Array Oper} {F : (Nat → Value) → Act} {B : World} {Fin : (Nat → Value → World → Prop) → Prop} {l : List Oper} {i : Nat} {o : Oper} {S : Nat → Value → World → Prop} {c : Value}
    (hop : OpOK P ops F B o S (fun v _ => v = c)) (h : OpsOK P ops F B Fin l (i + 1) (fun k => if k = i then (fun v _ => v = c) else S k)) : OpsOK P ops F B Fin (o :: l) i S :=
  ⟨_, Stab_eq c, hop, h⟩

theorem OpOK.mono {P : Program} {ops : Array Oper} {F : (Nat → Value) → Act} {B : World} {o : Oper} {S S' : Nat → Value → World → Prop} {R : Value → World → Prop}
    (h : OpOK P ops F B o S R) (hs : ∀ k v w, S' k v w → S k v w) : OpOK P ops F B o S' R :=
  fun vs w hb hd => h vs w hb fun e he hbd => hs _ _ _ (hd e he hbd)

/-- the specifications of all operations -/
theorem OpsOK.all {P : Program} {ops : Array Oper} {F : (Nat → Value) → Act} {B : World} {Fin : (Nat → Value → World → Prop) → Prop} : ∀ (l : List Oper) (i : Nat) (S : Nat → Value → World → Prop),
    (∀ k, k < i → Stab (S k)) → (∀ k, i ≤ k → S k = fun _ _ => True) → OpsOK P ops F B Fin l i S →
    ∃ S' : Nat → Value → World → Prop, (∀ k, k < i → S' k = S k) ∧ (∀ k, Stab (S' k)) ∧ (∀ j o, l[j]? = some o → OpOK P ops F B o S' (S' (i + j))) ∧ Fin S'
  | [], i, S, hst, hz, h => ⟨S, fun _ _ => rfl, fun k => by
      rcases Nat.lt_or_ge k i with hk | hk
      · exact hst k hk
      · rw [hz k hk]; exact Stab_any, fun j o hj => by simp at hj, h⟩
  | o :: l, i, S, hst, hz, h => by
    obtain ⟨R, hR, hop, hrest⟩ := h
    obtain ⟨S', h1, h2, h3, h4⟩ := OpsOK.all l (i + 1) (fun k => if k = i then R else S k)
      (fun k hk => by by_cases e : k = i <;> simp only [e, if_true, if_false]; exact hR; exact hst k (by omega))
      (fun k hk => by rw [if_neg (by omega)]; exact hz k (by omega)) hrest
    have hi : S' i = R := by rw [h1 i (by omega), if_pos rfl]
    refine ⟨S', fun k hk => by rw [h1 k (by omega), if_neg (by omega)], h2, ?_, h4⟩
    intro j oj hj
    cases j with
    | zero =>
      simp at hj
      subst hj
      show OpOK P ops F B o S' (S' i)
      rw [hi]
      refine hop.mono fun k v w hk => ?_
      rcases Nat.lt_or_ge k i with hlt | hge
      · rw [h1 k (by omega), if_neg (by omega)] at hk; exact hk
      · rw [hz k hge]; trivial
    | succ j =>
      have := h3 j oj (by simpa using hj)
      rw [show i + (j + 1) = i + 1 + j from by omega]
      exact this

/-! ### The frames on the way -/
theorem fill_defers (vs : Nat → Value) : ∀ (l : List Oper) (k : Nat) (a : Act), (fill vs l k a).defers = a.defers
  | [], _, _ => rfl
  | o :: l, k, a => by
    show (fill vs l (k + 1) (a.put o.dst (vs k))).defers = a.defers
    rw [fill_defers vs l (k + 1)]
    cases o.dst <;> rfl
theorem put_size (a : Act) (d : Option Tmp) (v : Value) : (a.put d v).tmps.size = a.tmps.size := by
  cases d <;> simp [Act.put]
theorem fill_size (vs : Nat → Value) : ∀ (l : List Oper) (k : Nat) (a : Act), (fill vs l k a).tmps.size = a.tmps.size
  | [], _, _ => rfl
  | o :: l, k, a => by
    show (fill vs l (k + 1) (a.put o.dst (vs k))).tmps.size = a.tmps.size
    rw [fill_size vs l (k + 1), put_size]
theorem put_get_other (a : Act) (d : Option Tmp) (v : Value) (t : Nat) (h : d ≠ some t) : (a.put d v).tmps[t]? = a.tmps[t]? := by
  cases d with
  | none => rfl
  | some d =>
    simp only [Act.put, Array.getElem?_setIfInBounds]
    rw [if_neg (fun e => h (by rw [e]))]
theorem put_get_same (a : Act) (d : Nat) (v : Value) (h : d < a.tmps.size) : (a.put (some d) v).tmps[d]? = some v := by
  simp [Act.put, h]
/-- a slot that no operation writes -/
theorem fill_other (vs : Nat → Value) (t : Nat) : ∀ (l : List Oper) (k : Nat) (a : Act), (∀ o ∈ l, o.dst ≠ some t) → (fill vs l k a).tmps[t]? = a.tmps[t]?
  | [], _, _, _ => rfl
  | o :: l, k, a, h => by
    show (fill vs l (k + 1) (a.put o.dst (vs k))).tmps[t]? = a.tmps[t]?
    rw [fill_other vs t l (k + 1) _ (fun o' ho => h o' (List.mem_cons_of_mem _ ho)), put_get_other _ _ _ _ (h o (List.mem_cons_self))]
/-- a slot that one operation writes -/
theorem fill_at (vs : Nat → Value) (t : Nat) : ∀ (l : List Oper) (k j : Nat) (a : Act), (l.filterMap (·.dst)).Nodup → (∃ o, l[j]? = some o ∧ o.dst = some t) → t < a.tmps.size → (fill vs l k a).tmps[t]? = some (vs (k + j))
  | [], _, _, _, _, h, _ => by obtain ⟨o, h, _⟩ := h; simp at h
  | o :: l, k, j, a, hnd, h, hs => by
    show (fill vs l (k + 1) (a.put o.dst (vs k))).tmps[t]? = some (vs (k + j))
    obtain ⟨oj, hj, hd⟩ := h
    cases j with
    | zero =>
      simp at hj
      subst hj
      rw [fill_other vs t l (k + 1) _ ?_, hd, put_get_same _ _ _ hs]; rfl
      intro o' ho' e
      rw [List.filterMap_cons_some hd] at hnd
      exact (List.nodup_cons.1 hnd).1 (List.mem_filterMap.2 ⟨o', ho', e⟩)
    | succ j =>
      have hnd' : (l.filterMap (·.dst)).Nodup := by
        cases he : o.dst with
        | none => rwa [List.filterMap_cons_none he] at hnd
        | some d => rw [List.filterMap_cons_some he] at hnd; exact (List.nodup_cons.1 hnd).2
      rw [fill_at vs t l (k + 1) j _ hnd' ⟨oj, by simpa using hj, hd⟩ (by rw [put_size]; exact hs), show k + 1 + j = k + (j + 1) from by omega]

theorem act_ext {a b : Act} (h1 : a.defers = b.defers) (h2 : a.tmps.size = b.tmps.size) (h3 : ∀ t, t < a.tmps.size → a.tmps[t]? = b.tmps[t]?) : a = b := by
  have ht : a.tmps = b.tmps := by
    refine Array.ext_getElem? fun t => ?_
    by_cases h : t < a.tmps.size
    · exact h3 t h
    · rw [Array.getElem?_eq_none (by omega), Array.getElem?_eq_none (by omega)]
  cases a; cases b
  simp only at h1 ht
  rw [h1, ht]

theorem fill_put (vs : Nat → Value) (l : List Oper) (a : Act) (i : Nat) (o : Oper) (v : Value) (hnd : (l.filterMap (·.dst)).Nodup) (hi : l[i]? = some o) :
    (fill vs l 0 a).put o.dst v = fill (fun k => if k = i then v else vs k) l 0 a := by
  refine act_ext ?_ ?_ ?_
  · rw [fill_defers]
    cases o.dst <;> simp [Act.put, fill_defers]
  · rw [put_size, fill_size, fill_size]
  · intro t ht
    rw [put_size, fill_size] at ht
    by_cases hw : ∃ (j : Nat) (oj : Oper), l[j]? = some oj ∧ oj.dst = some t
    · obtain ⟨j, oj, hj, hd⟩ := hw
      rw [fill_at (fun k => if k = i then v else vs k) t l 0 j a hnd ⟨oj, hj, hd⟩ ht, Nat.zero_add]
      by_cases e : j = i
      · subst e
        rw [hi] at hj
        cases hj
        rw [hd, put_get_same _ _ _ (by rw [fill_size]; exact ht), if_pos rfl]
      · rw [put_get_other, fill_at vs t l 0 j a hnd ⟨oj, hj, hd⟩ ht, if_neg e, Nat.zero_add]
        intro h
        refine e ?_
        have h1 := fill_at (fun k => .int .i64 k) t l 0 j ⟨Array.replicate (t + 1) undef, []⟩ hnd ⟨oj, hj, hd⟩ (by simp)
        have h2 := fill_at (fun k => .int .i64 k) t l 0 i ⟨Array.replicate (t + 1) undef, []⟩ hnd ⟨o, hi, h⟩ (by simp)
        rw [h1] at h2
        simp at h2
        omega
    · have hn : ∀ o ∈ l, o.dst ≠ some t := fun o' ho' e => by
        obtain ⟨j, hj, rfl⟩ := List.getElem_of_mem ho'
        exact hw ⟨j, _, List.getElem?_eq_getElem hj, e⟩
      rw [put_get_other _ _ _ _ (hn o (List.mem_of_getElem? hi)), fill_other vs t l 0 a hn, fill_other _ t l 0 a hn]

theorem fill_same : ∀ (l : List Oper) (k : Nat) (vs : Nat → Value) (a : Act), (∀ j o t, l[j]? = some o → o.dst = some t → vs (k + j) = a.tmps.getD t undef) → fill vs l k a = a
  | [], _, _, _, _ => rfl
  | o :: l, k, vs, a, h => by
    show fill vs l (k + 1) (a.put o.dst (vs k)) = a
    have e : a.put o.dst (vs k) = a := by
      cases hd : o.dst with
      | none => rfl
      | some t =>
        have := h 0 o t (by simp) hd
        rw [Nat.add_zero] at this
        rw [this]
        refine act_ext rfl (by rw [put_size]) fun u hu => ?_
        rw [put_size] at hu
        by_cases e : t = u
        · subst e
          rw [put_get_same _ _ _ hu]
          simp [hu]
        · rw [put_get_other _ _ _ _ (by simpa using e)]
    rw [e]
    exact fill_same l (k + 1) vs a fun j o' t hj hd => by
      have := h (j + 1) o' t (by simpa using hj) hd
      rw [show k + (j + 1) = k + 1 + j from by omega] at this
      exact this

theorem upon_goes {P : Program} {o : Oper} {a : Act} {K K' : Act → World → Prop} {Q Q' : Exit → Act → World → Prop} {r : Result Next}
    (hK : ∀ a w, K a w → K' a w) (hQ : ∀ e a w, e ≠ .normal → ¬ Q e a w) (h : o.upon P a K Q r) : o.upon P a K' Q' r := by
  cases r with
  | ok n w =>
    cases n with
    | value v => exact hK _ _ h
    | skip => exact hK _ _ h
    | defer d => exact hK _ _ h
    | enter f args =>
      refine Calls.mono h fun e w' he => ?_
      cases e with
      | returned v => exact hK _ _ he
      | panicked c => exact absurd he (hQ _ _ _ (by simp))
      | outgrown => obtain ⟨a', w'', hh⟩ := he; exact absurd hh (hQ _ _ _ (by simp))
    | row r args => exact Rows.mono h fun v w' he => hK _ _ he
    | _ => exact (h : False).elim
  | halt x w =>
    cases x with
    | panic v => exact absurd h (hQ _ _ _ (by simp))
    | _ => exact (h : False).elim

/-- every edge leads back -/
def backB (md : Region.Mode) (l : List Oper) : Bool := (List.range l.length).all fun k => match l[k]? with | some o => o.after.toList.all fun e => !Region.binds md e || decide (e.on < k) | none => true

def left (n : Nat) (listed : Array Bool) : Nat := (List.range n).countP fun k => !(listed.getD k true)

theorem countP_lt {α : Type} {p q : α → Bool} : ∀ {l : List α} {x : α}, x ∈ l → (∀ y, p y = true → q y = true) → p x = false → q x = true → l.countP p < l.countP q
  | y :: l, x, hx, h, hp, hq => by
    have hle : l.countP p ≤ l.countP q := List.countP_mono_left fun z _ hz => h z hz
    simp only [List.countP_cons]
    rcases List.mem_cons.1 hx with e | e
    · subst e
      rw [hp, hq]; simp; omega
    · have := countP_lt e h hp hq
      by_cases hy : p y = true
      · rw [if_pos hy, if_pos (h y hy)]; omega
      · rw [if_neg hy]; omega

theorem left_lt {n : Nat} {listed : Array Bool} {i : Nat} (hn : listed.size = n) (hi : i < n) (hl : listed.getD i true = false) : left n (listed.setIfInBounds i true) < left n listed := by
  unfold left
  refine countP_lt (x := i) (List.mem_range.2 hi) ?_ ?_ ?_
  · intro k hk
    by_cases e : i = k
    · subst e; rw [hl]; rfl
    · rw [getD_set_ne true e] at hk; exact hk
  · simp [hn ▸ hi]
  · rw [hl]; rfl

theorem wpAny_of_specs {P : Program} {l : List Oper} {Q : Exit → Act → World → Prop} {a0 : Act} {B : World} {S : Nat → Value → World → Prop}
    (hnd : (l.filterMap (·.dst)).Nodup) (hback : backB .any l = true) (hst : ∀ k, Stab (S k))
    (hop : ∀ j o, l[j]? = some o → OpOK P l.toArray (fun vs => fill vs l 0 a0) B o S (S j))
    (hfin : ∀ vs w, Below B.heap.size B w → (∀ k, k < l.length → S k (vs k) w) → Q .normal (fill vs l 0 a0) w) :
    ∀ (fuel : Nat) (listed : Array Bool) (vs : Nat → Value) (w : World), listed.size = l.length → left l.length listed ≤ fuel → Below B.heap.size B w →
      (∀ k, k < l.length → listed.getD k true = true → S k (vs k) w) → wpAny P .any l.toArray Q fuel listed (fill vs l 0 a0) w := by
  have done : ∀ (listed : Array Bool) (vs : Nat → Value) (w : World), Below B.heap.size B w → (∀ k, k < l.length → listed.getD k true = true → S k (vs k) w) →
      (∀ k, k < l.length → listed.getD k true = true) → Q .normal (fill vs l 0 a0) w := fun listed vs w hb h hall => hfin vs w hb fun k hk => h k hk (hall k hk)
  have ready : ∀ (listed : Array Bool), Region.ready .any l.toArray listed = [] → ∀ k, k < l.length → listed.getD k true = true := by
    intro listed hr k
    induction k using Nat.strongRecOn with
    | ind k ih =>
      intro hk
      rcases hl : listed.getD k true with _ | _
      · exfalso
        have hm : k ∈ Region.ready .any l.toArray listed := by
          rw [mem_ready]
          refine ⟨hl, l[k], by simp [hk], fun e he hb => ?_⟩
          have hlt : e.on < k := by
            have := List.all_eq_true.1 hback k (List.mem_range.2 hk)
            rw [List.getElem?_eq_getElem hk] at this
            have := List.all_eq_true.1 this e (by simpa using he)
            rw [hb] at this
            simpa using this
          have h1 := ih e.on hlt (by omega)
          rcases Nat.lt_or_ge e.on listed.size with h | h
          · simp [h] at h1 ⊢; exact h1
          · exfalso
            have : listed.getD k true = true := by simp [show listed.size ≤ k by omega]
            rw [this] at hl; cases hl
        rw [hr] at hm; cases hm
      · rfl
  intro fuel
  induction fuel with
  | zero =>
    intro listed vs w hsz hlf hb h
    have hall : ∀ k, k < l.length → listed.getD k true = true := fun k hk => by
      have h0 : left l.length listed = 0 := by omega
      unfold left at h0
      rw [List.countP_eq_zero] at h0
      simpa using h0 k (List.mem_range.2 hk)
    refine ⟨?_, done listed vs w hb h hall⟩
    rw [List.eq_nil_iff_forall_not_mem]
    intro j hj
    obtain ⟨h1, o, ho, _⟩ := mem_ready.1 hj
    have hjl : j < l.length := by
      rcases Nat.lt_or_ge j l.length with h | h
      · exact h
      · simp [h] at ho
    rw [hall j hjl] at h1; cases h1
  | succ fuel ih =>
    intro listed vs w hsz hlf hb h
    refine ⟨fun hr => done listed vs w hb h (ready listed hr), fun i hi => ?_⟩
    obtain ⟨h1, o, ho, hdep⟩ := mem_ready.1 hi
    have hil : i < l.length := by
      rcases Nat.lt_or_ge i l.length with h | h
      · exact h
      · simp [h] at ho
    have ho' : l[i]? = some o := by simpa using ho
    have hK : ∀ a' w', Goes (fill vs l 0 a0) o w (S i) .normal a' w' → wpAny P .any l.toArray Q fuel (listed.setIfInBounds i true) a' w' := by
      rintro a' w' ⟨_, v, rfl, hbw, hs⟩
      rw [fill_put vs l a0 i o v hnd ho']
      refine ih _ _ _ (by simpa using hsz) (by have := left_lt hsz hil h1; omega) (below_step hb hbw) fun k hk hlk => ?_
      by_cases e : k = i
      · subst e; rw [if_pos rfl]; exact hs
      · rw [if_neg e]
        rw [getD_set_ne true (fun x => e x.symm)] at hlk
        exact hst k _ _ _ (h k hk hlk) hbw
    have hw := hop i o ho' vs w hb fun e he hbd => by
      have h2 := hdep e he hbd
      have h3 : e.on < l.length := by
        rcases Nat.lt_or_ge e.on listed.size with hh | hh
        · omega
        · simp [hh] at h2
      refine h e.on h3 ?_
      simp [hsz ▸ h3] at h2 ⊢; exact h2
    unfold wpOp
    rw [ho]
    simp only [wpList] at hw
    simp only
    by_cases hwt : Region.wanted o (yielded l.toArray (fill vs l 0 a0).tmps) = true
    · rw [if_pos hwt] at hw ⊢
      rcases hw with hw | ⟨_, a', w', hh⟩
      · exact Or.inl (upon_goes (fun a' w' hh => hK a' w' hh) (fun e a' w' he hh => he hh.1) hw)
      · exact absurd hh.1 (by simp)
    · rw [if_neg hwt] at hw ⊢
      exact hK _ _ hw

/-- **A REGION THAT DRAWS ITS ORDER**, each operation by a specification of its own that outlives new memory. -/
theorem wp_region_specs {P : Program} {id : Nat} {Q : Exit → Act → World → Prop} {a : Act} {w : World} {l : List Oper}
    (hm : P.follows .mixedOrders = true) (hnd : (l.filterMap (·.dst)).Nodup) (hback : backB .any l = true)
    (h : OpsOK P l.toArray (fun vs => fill vs l 0 a) w (fun S => ∀ vs u, Below w.heap.size w u → (∀ k, k < l.length → S k (vs k) u) → Q .normal (fill vs l 0 a) u) l 0 (fun _ _ _ => True)) :
    (Code.region id l.toArray true).wp P Q a w := by
  obtain ⟨S, _, h2, h3, h4⟩ := OpsOK.all l 0 (fun _ _ _ => True) (fun k hk => by omega) (fun k _ => rfl) h
  refine wp_region_any hm ?_
  have e : fill (fun k => match (l[k]?).bind (·.dst) with | some t => a.tmps.getD t undef | none => undef) l 0 a = a := by
    refine fill_same l 0 _ a fun j o t hj hd => ?_
    simp only [Nat.zero_add, hj, Option.bind_some, hd]
  have := wpAny_of_specs (P := P) (Q := Q) (a0 := a) (B := w) hnd hback h2 (fun j o hj => by have := h3 j o hj; rwa [Nat.zero_add] at this) h4 l.length (Array.replicate l.length false)
    (fun k => match (l[k]?).bind (·.dst) with | some t => a.tmps.getD t undef | none => undef) { w with drawn := w.drawn + 1 } (by simp)
    (by unfold left; exact Nat.le_trans List.countP_le_length (by simp)) (Below.drew (Below.refl _ _)) (fun k hk hl => by simp [hk] at hl)
  rw [e] at this
  simpa using this

end Go.Proofs.YtdfkbahlngijcaaDoor

namespace Go.Proofs.YtdfkbahlngijcaaDoor
open Go.RowKit

inductive Kind where
  | make
  | fresh
  | pure
  | write (p : Nat)
  deriving DecidableEq

/-- the new blocks are different blocks -/
def Distinct (ks : List Kind) (vs : Nat → Value) : Prop := ∀ i j, i ≠ j → ks[i]? = some .fresh → ks[j]? = some .fresh → vs i ≠ vs j

def upd (vs : Nat → Value) (i : Nat) (v : Value) : Nat → Value := fun k => if k = i then v else vs k

/-- an operation that only computes -/
def GoesP (a : Act) (o : Oper) (w : World) (R : Value → World → Prop) : Exit → Act → World → Prop :=
  fun ex a' w' => ex = .normal ∧ ∃ v, a' = a.put o.dst v ∧ w' = w ∧ ∀ u, R v u
def OpPure (P : Program) (ops : Array Oper) (F : (Nat → Value) → Act) (o : Oper) (S : Nat → Value → World → Prop) (R : Value → World → Prop) : Prop :=
  ∀ (vs : Nat → Value) (w : World), (∀ e ∈ o.after, Region.binds .any e = true → ∃ u, S e.on (vs e.on) u) → wpList P ops (GoesP (F vs) o w R) [o] (F vs) w
/-- an operation that makes a block and leaves its address -/
def GoesF (a : Act) (o : Oper) (w : World) (R : Value → World → Prop) : Exit → Act → World → Prop :=
  fun ex a' w' => ex = .normal ∧ ∃ b, w.heap.size ≤ b ∧ b < w'.heap.size ∧ a' = a.put o.dst (.pointer (some ⟨b, 0, none⟩)) ∧ Below w.heap.size w w' ∧ R (.pointer (some ⟨b, 0, none⟩)) w'
def OpFresh (P : Program) (ops : Array Oper) (F : (Nat → Value) → Act) (B : World) (o : Oper) (S : Nat → Value → World → Prop) (R : Value → World → Prop) : Prop :=
  ∀ (vs : Nat → Value) (w : World), Below B.heap.size B w → (∀ e ∈ o.after, Region.binds .any e = true → S e.on (vs e.on) w) → wpList P ops (GoesF (F vs) o w R) [o] (F vs) w
/-- a write: what it leaves -/
def GoesT (a : Act) (o : Oper) (i : Nat) (vs : Nat → Value) (E : (Nat → Value) → World → Prop) : Exit → Act → World → Prop :=
  fun ex a' w' => ex = .normal ∧ ∃ v, a' = a.put o.dst v ∧ E (upd vs i v) w'
def OpFirst (P : Program) (ops : Array Oper) (F : (Nat → Value) → Act) (B : World) (i : Nat) (o : Oper) (ks : List Kind) (K : List Nat) (S : Nat → Value → World → Prop) (E : (Nat → Value) → World → Prop) : Prop :=
  ∀ (vs : Nat → Value) (w : World), Below B.heap.size B w → Distinct ks vs → (∀ k ∈ K, S k (vs k) w) → wpList P ops (GoesT (F vs) o i vs E) [o] (F vs) w
def OpNext (P : Program) (ops : Array Oper) (F : (Nat → Value) → Act) (i : Nat) (o : Oper) (S : Nat → Value → World → Prop) (E E' : (Nat → Value) → World → Prop) : Prop :=
  ∀ (vs : Nat → Value) (w : World), E vs w → (∀ e ∈ o.after, Region.binds .any e = true → ∃ u, S e.on (vs e.on) u) → wpList P ops (GoesT (F vs) o i vs E') [o] (F vs) w

def OpIs (P : Program) (ops : Array Oper) (F : (Nat → Value) → Act) (B : World) (ks : List Kind) (K : List Nat) (E : Nat → (Nat → Value) → World → Prop) (i : Nat) (o : Oper) (k : Kind) (S : Nat → Value → World → Prop) (R : Value → World → Prop) : Prop :=
  match k with
  | .make => OpOK P ops F B o S R
  | .fresh => OpFresh P ops F B o S R
  | .pure => OpPure P ops F o S R
  | .write 0 => OpFirst P ops F B i o ks K S (E 1) ∧ R = fun _ _ => True
  | .write (p + 1) => OpNext P ops F i o S (E (p + 1)) (E (p + 2)) ∧ R = fun _ _ => True

def OpsIs (P : Program) (ops : Array Oper) (F : (Nat → Value) → Act) (B : World) (ks : List Kind) (K : List Nat) (E : Nat → (Nat → Value) → World → Prop) (Fin : (Nat → Value → World → Prop) → Prop) : List (Oper × Kind) → Nat → (Nat → Value → World → Prop) → Prop
  | [], _, S => Fin S
  | (o, k) :: l, i, S => ∃ R, Stab R ∧ OpIs P ops F B ks K E i o k S R ∧ OpsIs P ops F B ks K E Fin l (i + 1) (fun j => if j = i then R else S j)

theorem OpIs.mono {P : Program} {ops : Array Oper} {F : (Nat → Value) → Act} {B : World} {ks : List Kind} {K : List Nat} {E : Nat → (Nat → Value) → World → Prop} {i : Nat} {o : Oper} {k : Kind} {S S' : Nat → Value → World → Prop} {R : Value → World → Prop}
    (h : OpIs P ops F B ks K E i o k S R) (hs : ∀ k v w, S' k v w → S k v w) : OpIs P ops F B ks K E i o k S' R := by
  match k, h with
  | .make, h => exact OpOK.mono h hs
  | .fresh, h => exact fun vs w hb hd => h vs w hb fun e he hbd => hs _ _ _ (hd e he hbd)
  | .pure, h => exact fun vs w hd => h vs w fun e he hb => let ⟨u, hu⟩ := hd e he hb; ⟨u, hs _ _ _ hu⟩
  | .write 0, h => exact ⟨fun vs w hb hx hd => h.1 vs w hb hx fun k hk => hs _ _ _ (hd k hk), h.2⟩
  | .write (p + 1), h => exact ⟨fun vs w hE hd => h.1 vs w hE fun e he hb => let ⟨u, hu⟩ := hd e he hb; ⟨u, hs _ _ _ hu⟩, h.2⟩

theorem OpsIs.all {P : Program} {ops : Array Oper} {F : (Nat → Value) → Act} {B : World} {ks : List Kind} {K : List Nat} {E : Nat → (Nat → Value) → World → Prop} {Fin : (Nat → Value → World → Prop) → Prop} : ∀ (l : List (Oper × Kind)) (i : Nat) (S : Nat → Value → World → Prop),
    (∀ k, k < i → Stab (S k)) → (∀ k, i ≤ k → S k = fun _ _ => True) → OpsIs P ops F B ks K E Fin l i S →
    ∃ S' : Nat → Value → World → Prop, (∀ k, k < i → S' k = S k) ∧ (∀ k, Stab (S' k)) ∧ (∀ j o k, l[j]? = some (o, k) → OpIs P ops F B ks K E (i + j) o k S' (S' (i + j))) ∧ Fin S'
  | [], i, S, hst, hz, h => ⟨S, fun _ _ => rfl, fun k => by
      rcases Nat.lt_or_ge k i with hk | hk
      · exact hst k hk
      · rw [hz k hk]; exact Stab_any, fun j o k hj => by simp at hj, h⟩
  | (o, kd) :: l, i, S, hst, hz, h => by
    obtain ⟨R, hR, hop, hrest⟩ := h
    obtain ⟨S', h1, h2, h3, h4⟩ := OpsIs.all l (i + 1) (fun k => if k = i then R else S k)
      (fun k hk => by by_cases e : k = i <;> simp only [e, if_true, if_false]; exact hR; exact hst k (by omega))
      (fun k hk => by rw [if_neg (by omega)]; exact hz k (by omega)) hrest
    have hi : S' i = R := by rw [h1 i (by omega), if_pos rfl]
    refine ⟨S', fun k hk => by rw [h1 k (by omega), if_neg (by omega)], h2, ?_, h4⟩
    intro j oj kj hj
    cases j with
    | zero =>
      simp at hj
      obtain ⟨rfl, rfl⟩ := hj
      show OpIs P ops F B ks K E i o kd S' (S' i)
      rw [hi]
      refine hop.mono fun k v w hk => ?_
      rcases Nat.lt_or_ge k i with hlt | hge
      · rw [h1 k (by omega), if_neg (by omega)] at hk; exact hk
      · rw [hz k hge]; trivial
    | succ j =>
      have := h3 j oj kj (by simpa using hj)
      rw [show i + (j + 1) = i + 1 + j from by omega]
      exact this

/-! ### What the kernel looks at -/
def dirB (l : List Oper) (j k : Nat) : Bool := match l[j]? with | some o => o.after.toList.any fun e => Region.binds .any e && decide (e.on = k) | none => false
/-- each of K is waited for, directly or through others of K, by operation i -/
def closedB (l : List Oper) (i : Nat) (K : List Nat) : Bool := K.all fun k => (i :: K).any fun j => decide (k < j) && dirB l j k
def planB (l : List Oper) (ks : List Kind) (K : List Nat) (m : Nat) : Bool :=
  decide (ks.length = l.length) && decide (0 < m) &&
  ((List.range ks.length).all fun i => match ks[i]? with
    | some (.write 0) => closedB l i K && ((List.range ks.length).all fun j => match ks[j]? with | some .make => decide (j ∈ K) | some .fresh => decide (j ∈ K) | _ => true)
    | some (.write (p + 1)) => decide (p + 1 < m) && ((List.range ks.length).any fun j => decide (ks[j]? = some (.write p)) && dirB l i j)
    | _ => true)
def uniqB (ks : List Kind) : Bool := (List.range ks.length).all fun i => (List.range ks.length).all fun j => match ks[i]?, ks[j]? with
    | some (.write p), some (.write q) => decide (p = q → i = j) | _, _ => true
def allB (ks : List Kind) (m : Nat) : Bool := (List.range m).all fun p => (List.range ks.length).any fun j => decide (ks[j]? = some (.write p))

theorem dirB_spec {l : List Oper} {j k : Nat} (h : dirB l j k = true) : ∃ o e, l[j]? = some o ∧ e ∈ o.after ∧ Region.binds .any e = true ∧ e.on = k := by
  unfold dirB at h
  split at h
  · rename_i o ho
    rw [List.any_eq_true] at h
    obtain ⟨e, he, hh⟩ := h
    simp at hh
    exact ⟨o, e, ho, by simpa using he, hh.1, hh.2⟩
  · cases h

def DownC (l : List Oper) (listed : Array Bool) : Prop := ∀ j o, l[j]? = some o → listed.getD j true = true → ∀ e ∈ o.after, Region.binds .any e = true → listed.getD e.on true = true

theorem closed_listed {l : List Oper} {i : Nat} {K : List Nat} {listed : Array Bool} (hc : closedB l i K = true) (hd : DownC l listed)
    (hi : ∀ o, l[i]? = some o → ∀ e ∈ o.after, Region.binds .any e = true → listed.getD e.on true = true) : ∀ k ∈ K, listed.getD k true = true := by
  have hK : ∀ k ∈ K, ∃ j, (j = i ∨ j ∈ K) ∧ k < j ∧ dirB l j k = true := fun k hk => by
    have := List.all_eq_true.1 hc k hk
    rw [List.any_eq_true] at this
    obtain ⟨j, hj, hh⟩ := this
    simp at hh
    exact ⟨j, by simpa using hj, hh.1, hh.2⟩
  have hb : ∀ k ∈ K, k < l.length := fun k hk => by
    obtain ⟨j, _, hlt, hdir⟩ := hK k hk
    obtain ⟨o, _, ho, _⟩ := dirB_spec hdir
    have : j < l.length := by
      rcases Nat.lt_or_ge j l.length with h | h
      · exact h
      · rw [List.getElem?_eq_none h] at ho; cases ho
    omega
  have key : ∀ n k, k ∈ K → l.length - k ≤ n → listed.getD k true = true := by
    intro n
    induction n with
    | zero => intro k hk h; have := hb k hk; omega
    | succ n ih =>
      intro k hk h
      obtain ⟨j, hj, hlt, hdir⟩ := hK k hk
      obtain ⟨o, e, ho, he, hbd, rfl⟩ := dirB_spec hdir
      rcases hj with rfl | hj
      · exact hi o ho e he hbd
      · exact hd j o ho (ih j hj (by omega)) e he hbd
  exact fun k hk => key _ k hk (Nat.le_refl _)

structure Inv (l : List Oper) (ks : List Kind) (S : Nat → Value → World → Prop) (E : Nat → (Nat → Value) → World → Prop) (B : World) (j : Nat) (listed : Array Bool) (vs : Nat → Value) (w : World) : Prop where
  size : listed.size = l.length
  wr : ∀ i p, ks[i]? = some (.write p) → (listed.getD i true = true ↔ p < j)
  down : DownC l listed
  val : ∀ k, k < l.length → listed.getD k true = true → ∃ u, S k (vs k) u
  early : j = 0 → Below B.heap.size B w ∧ ∀ k, k < l.length → listed.getD k true = true → S k (vs k) w
  late : 0 < j → E j vs w ∧ ∀ k, ks[k]? = some .make ∨ ks[k]? = some .fresh → listed.getD k true = true
  dist : ∀ i j, i ≠ j → ks[i]? = some .fresh → ks[j]? = some .fresh → listed.getD i true = true → listed.getD j true = true → vs i ≠ vs j
  low : j = 0 → ∀ i, ks[i]? = some .fresh → listed.getD i true = true → ∃ b, vs i = .pointer (some ⟨b, 0, none⟩) ∧ b < w.heap.size

theorem getD_set_same {listed : Array Bool} {i : Nat} : (listed.setIfInBounds i true).getD i true = true := by
  by_cases h : i < listed.size
  · simp [h]
  · simp [Nat.not_lt.1 h]

theorem DownC.set {l : List Oper} {listed : Array Bool} {i : Nat} (h : DownC l listed) (hi : ∀ o, l[i]? = some o → ∀ e ∈ o.after, Region.binds .any e = true → listed.getD e.on true = true) : DownC l (listed.setIfInBounds i true) := by
  intro j o ho hj e he hb
  by_cases h1 : i = e.on
  · rw [← h1]; exact getD_set_same
  · rw [getD_set_ne true h1]
    by_cases h2 : i = j
    · subst h2; exact hi o ho e he hb
    · rw [getD_set_ne true h2] at hj; exact h j o ho hj e he hb

theorem wpOp_of {P : Program} {ops : Array Oper} {Q G : Exit → Act → World → Prop} {i : Nat} {o : Oper} {K : Act → World → Prop} {a : Act} {w : World} (ho : ops[i]? = some o)
    (h : wpList P ops G [o] a w) (hK : ∀ a w, G .normal a w → K a w) (hQ : ∀ e a w, e ≠ .normal → ¬ G e a w) : wpOp P ops Q i K a w := by
  unfold wpOp
  rw [ho]
  simp only [wpList] at h
  simp only
  by_cases hwt : Region.wanted o (yielded ops a.tmps) = true
  · rw [if_pos hwt] at h ⊢
    rcases h with h | ⟨_, a', w', hh⟩
    · exact Or.inl (upon_goes hK hQ h)
    · exact absurd hh (hQ _ _ _ (by simp))
  · rw [if_neg hwt] at h ⊢
    exact hK _ _ h

theorem wpAny_of_plan {P : Program} {l : List Oper} {ks : List Kind} {K : List Nat} {m : Nat} {Q : Exit → Act → World → Prop} {a0 : Act} {B : World} {S : Nat → Value → World → Prop} {E : Nat → (Nat → Value) → World → Prop}
    (hnd : (l.filterMap (·.dst)).Nodup) (hback : backB .any l = true) (hplan : planB l ks K m = true) (huniq : uniqB ks = true) (hall : allB ks m = true) (hst : ∀ k, Stab (S k))
    (hE : ∀ p vs vs' w, (∀ k, ks[k]? ≠ some .pure → vs' k = vs k) → E p vs w → E p vs' w)
    (hop : ∀ j o k, l[j]? = some o → ks[j]? = some k → OpIs P l.toArray (fun vs => fill vs l 0 a0) B ks K E j o k S (S j))
    (hfin : ∀ vs w, E m vs w → (∀ k, k < l.length → ∃ u, S k (vs k) u) → Q .normal (fill vs l 0 a0) w) :
    ∀ (fuel : Nat) (j : Nat) (listed : Array Bool) (vs : Nat → Value) (w : World), j ≤ m → left l.length listed ≤ fuel → Inv l ks S E B j listed vs w → wpAny P .any l.toArray Q fuel listed (fill vs l 0 a0) w := by
  simp only [planB, Bool.and_eq_true, decide_eq_true_eq] at hplan
  obtain ⟨⟨hlen, hm0⟩, hpl⟩ := hplan
  have done : ∀ (j : Nat) (listed : Array Bool) (vs : Nat → Value) (w : World), j ≤ m → Inv l ks S E B j listed vs w → (∀ k, k < l.length → listed.getD k true = true) → Q .normal (fill vs l 0 a0) w := by
    intro j listed vs w hjm hI hl
    have hjm : j = m := by
      rcases Nat.lt_or_ge j m with h | h
      · exfalso
        have := List.all_eq_true.1 hall j (List.mem_range.2 h)
        rw [List.any_eq_true] at this
        obtain ⟨i, hi, hk⟩ := this
        simp at hk
        have := (hI.wr i j hk).1 (hl i (by rw [List.mem_range] at hi; omega))
        omega
      · omega
    subst hjm
    exact hfin vs w (hI.late hm0).1 fun k hk => hI.val k hk (hl k hk)
  have ready : ∀ (listed : Array Bool), Region.ready .any l.toArray listed = [] → ∀ k, k < l.length → listed.getD k true = true := by
    intro listed hr k
    induction k using Nat.strongRecOn with
    | ind k ih =>
      intro hk
      rcases hl : listed.getD k true with _ | _
      · exfalso
        have hm : k ∈ Region.ready .any l.toArray listed := by
          rw [mem_ready]
          refine ⟨hl, l[k], by simp [hk], fun e he hb => ?_⟩
          have hlt : e.on < k := by
            have := List.all_eq_true.1 hback k (List.mem_range.2 hk)
            rw [List.getElem?_eq_getElem hk] at this
            have := List.all_eq_true.1 this e (by simpa using he)
            rw [hb] at this
            simpa using this
          have h1 := ih e.on hlt (by omega)
          rcases Nat.lt_or_ge e.on listed.size with h | h
          · simp [h] at h1 ⊢; exact h1
          · exfalso
            have : listed.getD k true = true := by simp [show listed.size ≤ k by omega]
            rw [this] at hl; cases hl
        rw [hr] at hm; cases hm
      · rfl
  intro fuel
  induction fuel with
  | zero =>
    intro j listed vs w hjm hlf hI
    have hall' : ∀ k, k < l.length → listed.getD k true = true := fun k hk => by
      have h0 : left l.length listed = 0 := by omega
      unfold left at h0
      rw [List.countP_eq_zero] at h0
      simpa using h0 k (List.mem_range.2 hk)
    refine ⟨?_, done j listed vs w hjm hI hall'⟩
    rw [List.eq_nil_iff_forall_not_mem]
    intro i hi
    obtain ⟨h1, o, ho, _⟩ := mem_ready.1 hi
    have hil : i < l.length := by
      rcases Nat.lt_or_ge i l.length with h | h
      · exact h
      · simp [h] at ho
    rw [hall' i hil] at h1; cases h1
  | succ fuel ih =>
    intro j listed vs w hjm hlf hI
    refine ⟨fun hr => done j listed vs w hjm hI (ready listed hr), fun i hi => ?_⟩
    obtain ⟨h1, o, ho, hdep0⟩ := mem_ready.1 hi
    have hil : i < l.length := by
      rcases Nat.lt_or_ge i l.length with h | h
      · exact h
      · simp [h] at ho
    have ho' : l[i]? = some o := by simpa using ho
    have hdep : ∀ e ∈ o.after, Region.binds .any e = true → e.on < l.length ∧ listed.getD e.on true = true := fun e he hbd => by
      have h2 := hdep0 e he hbd
      have h3 : e.on < l.length := by
        rcases Nat.lt_or_ge e.on listed.size with hh | hh
        · have := hI.size; omega
        · simp [hh] at h2
      refine ⟨h3, ?_⟩
      simp [hI.size ▸ h3] at h2 ⊢; exact h2
    have hdep' : ∀ o', l[i]? = some o' → ∀ e ∈ o'.after, Region.binds .any e = true → listed.getD e.on true = true := fun o' h e he hb => by
      rw [ho'] at h; cases h
      exact (hdep e he hb).2
    have hki : i < ks.length := by omega
    obtain ⟨kd, hkd⟩ : ∃ k, ks[i]? = some k := ⟨_, List.getElem?_eq_getElem hki⟩
    have hlt := left_lt hI.size hil h1
    have hdown := hI.down.set hdep'
    have hthis := hop i o kd ho' hkd
    have keepD : ∀ (q : Nat) {kq : Kind}, ks[q]? = some kq → kq ≠ .fresh → ∀ v, (∀ a b, a ≠ b → ks[a]? = some .fresh → ks[b]? = some .fresh → listed.getD a true = true → listed.getD b true = true → vs a ≠ vs b) →
        ∀ a b, a ≠ b → ks[a]? = some .fresh → ks[b]? = some .fresh → (listed.setIfInBounds q true).getD a true = true → (listed.setIfInBounds q true).getD b true = true → (fun k => if k = q then v else vs k) a ≠ (fun k => if k = q then v else vs k) b := by
      intro q kq hq hne v h a b hab ha hb hla hlb
      have e1 : a ≠ q := fun e => by subst e; rw [hq] at ha; injection ha with ha; exact hne ha
      have e2 : b ≠ q := fun e => by subst e; rw [hq] at hb; injection hb with hb; exact hne hb
      rw [getD_set_ne true (fun x => e1 x.symm)] at hla
      rw [getD_set_ne true (fun x => e2 x.symm)] at hlb
      show (if a = q then _ else _) ≠ (if b = q then _ else _)
      rw [if_neg e1, if_neg e2]
      exact h a b hab ha hb hla hlb
    have keepL : ∀ (q : Nat) {kq : Kind}, ks[q]? = some kq → kq ≠ .fresh → ∀ v {w' : World}, w.heap.size ≤ w'.heap.size → (∀ a, ks[a]? = some .fresh → listed.getD a true = true → ∃ b, vs a = .pointer (some ⟨b, 0, none⟩) ∧ b < w.heap.size) →
        j = 0 → ∀ a, ks[a]? = some .fresh → (listed.setIfInBounds q true).getD a true = true → ∃ b, (fun k => if k = q then v else vs k) a = .pointer (some ⟨b, 0, none⟩) ∧ b < w'.heap.size := by
      intro q kq hq hne v w' hsz h _ a ha hla
      have e1 : a ≠ q := fun e => by subst e; rw [hq] at ha; injection ha with ha; exact hne ha
      rw [getD_set_ne true (fun x => e1 x.symm)] at hla
      obtain ⟨b, hv, hb⟩ := h a ha hla
      refine ⟨b, ?_, Nat.lt_of_lt_of_le hb hsz⟩
      show (if a = q then _ else _) = _
      rw [if_neg e1]; exact hv
    match kd, hkd, hthis with
    | .make, hkd, hthis =>
      have hj0 : j = 0 := by
        rcases Nat.eq_zero_or_pos j with h | h
        · exact h
        · rw [(hI.late h).2 i (.inl hkd)] at h1; cases h1
      obtain ⟨hB, hS⟩ := hI.early hj0
      refine wpOp_of (by simpa using ho') (hthis vs w hB fun e he hb => hS _ (hdep e he hb).1 (hdep e he hb).2) ?_ (fun e a w he hh => he hh.1)
      rintro a' w' ⟨_, v, rfl, hbw, hs⟩
      rw [fill_put vs l a0 i o v hnd ho']
      refine ih j _ _ _ hjm (by omega) ⟨by simpa using hI.size, ?_, hdown, ?_, ?_, fun h => absurd h (by omega), keepD i hkd (by simp) v hI.dist, keepL i hkd (by simp) v hbw.size (hI.low hj0)⟩
      · intro k p hk
        have : i ≠ k := fun e => by subst e; rw [hkd] at hk; cases hk
        rw [getD_set_ne true this]; exact hI.wr k p hk
      · intro k hk hlk
        by_cases e : k = i
        · subst e; rw [if_pos rfl]; exact ⟨_, hs⟩
        · rw [if_neg e]; rw [getD_set_ne true (fun x => e x.symm)] at hlk; exact hI.val k hk hlk
      · intro _
        refine ⟨below_step hB hbw, fun k hk hlk => ?_⟩
        by_cases e : k = i
        · subst e; rw [if_pos rfl]; exact hs
        · rw [if_neg e]; rw [getD_set_ne true (fun x => e x.symm)] at hlk; exact hst k _ _ _ (hS k hk hlk) hbw
    | .fresh, hkd, hthis =>
      have hj0 : j = 0 := by
        rcases Nat.eq_zero_or_pos j with h | h
        · exact h
        · rw [(hI.late h).2 i (.inr hkd)] at h1; cases h1
      obtain ⟨hB, hS⟩ := hI.early hj0
      refine wpOp_of (by simpa using ho') (hthis vs w hB fun e he hb => hS _ (hdep e he hb).1 (hdep e he hb).2) ?_ (fun e a w he hh => he hh.1)
      rintro a' w' ⟨_, b, hbge, hblt, rfl, hbw, hs⟩
      rw [fill_put vs l a0 i o _ hnd ho']
      refine ih j _ _ _ hjm (by omega) ⟨by simpa using hI.size, ?_, hdown, ?_, ?_, fun h => absurd h (by omega), ?_, ?_⟩
      · intro k p hk
        have : i ≠ k := fun e => by subst e; rw [hkd] at hk; cases hk
        rw [getD_set_ne true this]; exact hI.wr k p hk
      · intro k hk hlk
        by_cases e : k = i
        · subst e; rw [if_pos rfl]; exact ⟨_, hs⟩
        · rw [if_neg e]; rw [getD_set_ne true (fun x => e x.symm)] at hlk; exact hI.val k hk hlk
      · intro _
        refine ⟨below_step hB hbw, fun k hk hlk => ?_⟩
        by_cases e : k = i
        · subst e; rw [if_pos rfl]; exact hs
        · rw [if_neg e]; rw [getD_set_ne true (fun x => e x.symm)] at hlk; exact hst k _ _ _ (hS k hk hlk) hbw
      · intro p q hpq hp hq hlp hlq
        by_cases e1 : p = i
        · have e2 : q ≠ i := fun e => hpq (e1.trans e.symm)
          rw [getD_set_ne true (fun x => e2 x.symm)] at hlq
          obtain ⟨b', hv', hb'⟩ := hI.low hj0 q hq hlq
          show (if p = i then _ else _) ≠ (if q = i then _ else _)
          rw [if_pos e1, if_neg e2, hv']
          intro h
          injection h with h
          injection h with h
          injection h with h
          omega
        · by_cases e2 : q = i
          · rw [getD_set_ne true (fun x => e1 x.symm)] at hlp
            obtain ⟨b', hv', hb'⟩ := hI.low hj0 p hp hlp
            show (if p = i then _ else _) ≠ (if q = i then _ else _)
            rw [if_neg e1, if_pos e2, hv']
            intro h
            injection h with h
            injection h with h
            injection h with h
            omega
          · rw [getD_set_ne true (fun x => e1 x.symm)] at hlp
            rw [getD_set_ne true (fun x => e2 x.symm)] at hlq
            show (if p = i then _ else _) ≠ (if q = i then _ else _)
            rw [if_neg e1, if_neg e2]
            exact hI.dist p q hpq hp hq hlp hlq
      · intro _ p hp hlp
        by_cases e1 : p = i
        · show ∃ b', (if p = i then _ else _) = _ ∧ _
          rw [if_pos e1]
          exact ⟨b, rfl, hblt⟩
        · rw [getD_set_ne true (fun x => e1 x.symm)] at hlp
          obtain ⟨b', hv', hb'⟩ := hI.low hj0 p hp hlp
          refine ⟨b', ?_, Nat.lt_of_lt_of_le hb' hbw.size⟩
          show (if p = i then _ else _) = _
          rw [if_neg e1]; exact hv'
    | .pure, hkd, hthis =>
      refine wpOp_of (by simpa using ho') (hthis vs w fun e he hb => hI.val _ (hdep e he hb).1 (hdep e he hb).2) ?_ (fun e a w he hh => he hh.1)
      rintro a' w' ⟨_, v, rfl, rfl, hs⟩
      rw [fill_put vs l a0 i o v hnd ho']
      refine ih j _ _ _ hjm (by omega) ⟨by simpa using hI.size, ?_, hdown, ?_, ?_, ?_, keepD i hkd (by simp) v hI.dist, fun h0 => keepL i hkd (by simp) v (Nat.le_refl _) (hI.low h0) h0⟩
      · intro k p hk
        have : i ≠ k := fun e => by subst e; rw [hkd] at hk; cases hk
        rw [getD_set_ne true this]; exact hI.wr k p hk
      · intro k hk hlk
        by_cases e : k = i
        · subst e; rw [if_pos rfl]; exact ⟨w', hs w'⟩
        · rw [if_neg e]; rw [getD_set_ne true (fun x => e x.symm)] at hlk; exact hI.val k hk hlk
      · intro hj0
        obtain ⟨hB, hS⟩ := hI.early hj0
        refine ⟨hB, fun k hk hlk => ?_⟩
        by_cases e : k = i
        · subst e; rw [if_pos rfl]; exact hs w'
        · rw [if_neg e]; rw [getD_set_ne true (fun x => e x.symm)] at hlk; exact hS k hk hlk
      · intro hj0
        obtain ⟨hEj, hmk⟩ := hI.late hj0
        refine ⟨hE j vs _ w' (fun k hk => ?_) hEj, fun k hk => ?_⟩
        · show (if k = i then v else vs k) = vs k
          rw [if_neg (fun e => by subst e; exact hk hkd)]
        · by_cases e : i = k
          · subst e; exact getD_set_same
          · rw [getD_set_ne true e]; exact hmk k hk
    | .write 0, hkd, hthis =>
      have hp := List.all_eq_true.1 hpl i (List.mem_range.2 hki)
      rw [hkd] at hp
      simp only [Bool.and_eq_true] at hp
      obtain ⟨hcl, hmk⟩ := hp
      have hj0 : j = 0 := by
        rcases Nat.eq_zero_or_pos j with h | h
        · exact h
        · rw [(hI.wr i 0 hkd).2 h] at h1; cases h1
      obtain ⟨hB, hS⟩ := hI.early hj0
      have hKl := closed_listed hcl hI.down hdep'
      have hKb : ∀ k ∈ K, k < l.length := fun k hk => by
        have := List.all_eq_true.1 hcl k hk
        rw [List.any_eq_true] at this
        obtain ⟨q, _, hh⟩ := this
        simp at hh
        obtain ⟨oq, _, hoq, _⟩ := dirB_spec hh.2
        have : q < l.length := by
          rcases Nat.lt_or_ge q l.length with h | h
          · exact h
          · rw [List.getElem?_eq_none h] at hoq; cases hoq
        omega
      have hfr : ∀ p, ks[p]? = some .fresh → listed.getD p true = true := fun p hp => by
        have hpl' : p < ks.length := by
          rcases Nat.lt_or_ge p ks.length with h | h
          · exact h
          · rw [List.getElem?_eq_none h] at hp; cases hp
        have := List.all_eq_true.1 hmk p (List.mem_range.2 hpl')
        rw [hp] at this
        exact hKl p (by simpa using this)
      refine wpOp_of (by simpa using ho') (hthis.1 vs w hB (fun p q hpq hp hq => hI.dist p q hpq hp hq (hfr p hp) (hfr q hq)) fun k hk => hS k (hKb k hk) (hKl k hk)) ?_ (fun e a w he hh => he hh.1)
      rintro a' w' ⟨_, v, rfl, hs⟩
      rw [fill_put vs l a0 i o v hnd ho']
      subst hj0
      refine ih 1 _ _ _ (by omega) (by omega) ⟨by simpa using hI.size, ?_, hdown, ?_, fun h => absurd h (by omega), fun _ => ⟨hs, ?_⟩, keepD i hkd (by simp) v hI.dist, fun h => absurd h (by omega)⟩
      · intro k p hk
        by_cases e : i = k
        · subst e
          rw [hkd] at hk
          cases hk
          exact ⟨fun _ => by omega, fun _ => getD_set_same⟩
        · rw [getD_set_ne true e]
          have h0 := hI.wr k p hk
          have hpne : p ≠ 0 := fun ep => by
            subst ep
            have hu := List.all_eq_true.1 huniq i (List.mem_range.2 hki)
            have hkl : k < ks.length := by
              rcases Nat.lt_or_ge k ks.length with h | h
              · exact h
              · rw [List.getElem?_eq_none h] at hk; cases hk
            have hu := List.all_eq_true.1 hu k (List.mem_range.2 hkl)
            rw [hkd, hk] at hu
            simp at hu
            exact e hu
          constructor
          · intro h; have := h0.1 h; omega
          · intro h; exfalso; omega
      · intro k hk hlk
        by_cases e : k = i
        · subst e; rw [hthis.2]; exact ⟨w', trivial⟩
        · rw [if_neg e]; rw [getD_set_ne true (fun x => e x.symm)] at hlk; exact hI.val k hk hlk
      · intro k hk
        by_cases e : i = k
        · subst e; exact getD_set_same
        · rw [getD_set_ne true e]
          have hkl : k < ks.length := by
            rcases Nat.lt_or_ge k ks.length with h | h
            · exact h
            · rw [List.getElem?_eq_none h] at hk; rcases hk with hk | hk <;> cases hk
          have := List.all_eq_true.1 hmk k (List.mem_range.2 hkl)
          rcases hk with hk | hk
          · rw [hk] at this
            exact hKl k (by simpa using this)
          · rw [hk] at this
            exact hKl k (by simpa using this)
    | .write (p + 1), hkd, hthis =>
      have hp := List.all_eq_true.1 hpl i (List.mem_range.2 hki)
      rw [hkd] at hp
      simp only [Bool.and_eq_true, decide_eq_true_eq] at hp
      obtain ⟨hpm, hprev⟩ := hp
      rw [List.any_eq_true] at hprev
      obtain ⟨q, _, hh⟩ := hprev
      simp at hh
      obtain ⟨hq, hdir⟩ := hh
      obtain ⟨oq, e, hoq, he, hbd, heq⟩ := dirB_spec hdir
      rw [ho'] at hoq
      cases hoq
      have hql := (hdep e he hbd).2
      rw [heq] at hql
      have hpj := (hI.wr q p hq).1 hql
      have hjp : j = p + 1 := by
        rcases Nat.lt_or_ge (p + 1) j with h | h
        · rw [(hI.wr i (p + 1) hkd).2 h] at h1; cases h1
        · omega
      subst hjp
      obtain ⟨hEj, hmk⟩ := hI.late (by omega)
      refine wpOp_of (by simpa using ho') (hthis.1 vs w hEj fun e he hb => hI.val _ (hdep e he hb).1 (hdep e he hb).2) ?_ (fun e a w he hh => he hh.1)
      rintro a' w' ⟨_, v, rfl, hs⟩
      rw [fill_put vs l a0 i o v hnd ho']
      refine ih (p + 2) _ _ _ (by omega) (by omega) ⟨by simpa using hI.size, ?_, hdown, ?_, fun h => absurd h (by omega), fun _ => ⟨hs, ?_⟩, keepD i hkd (by simp) v hI.dist, fun h => absurd h (by omega)⟩
      · intro k r hk
        by_cases e : i = k
        · subst e
          rw [hkd] at hk
          cases hk
          exact ⟨fun _ => by omega, fun _ => getD_set_same⟩
        · rw [getD_set_ne true e]
          have h0 := hI.wr k r hk
          have hrne : r ≠ p + 1 := fun ep => by
            subst ep
            have hu := List.all_eq_true.1 huniq i (List.mem_range.2 hki)
            have hkl : k < ks.length := by
              rcases Nat.lt_or_ge k ks.length with h | h
              · exact h
              · rw [List.getElem?_eq_none h] at hk; cases hk
            have hu := List.all_eq_true.1 hu k (List.mem_range.2 hkl)
            rw [hkd, hk] at hu
            simp at hu
            exact e hu
          constructor
          · intro h; have := h0.1 h; omega
          · intro h; exact h0.2 (by omega)
      · intro k hk hlk
        by_cases e : k = i
        · subst e; rw [hthis.2]; exact ⟨w', trivial⟩
        · rw [if_neg e]; rw [getD_set_ne true (fun x => e x.symm)] at hlk; exact hI.val k hk hlk
      · intro k hk
        by_cases e : i = k
        · subst e; exact getD_set_same
        · rw [getD_set_ne true e]; exact hmk k hk

/-- **A REGION THAT DRAWS ITS ORDER AND WRITES.** ks: what each operation is; K: what the first write waits for; E p: what stands behind the p-th write. -/
theorem wp_region_plan {P : Program} {id : Nat} {Q : Exit → Act → World → Prop} {a : Act} {w : World} {l : List Oper} (ks : List Kind) (K : List Nat) (m : Nat) (E : Nat → (Nat → Value) → World → Prop)
    (hm : P.follows .mixedOrders = true) (hnd : (l.filterMap (·.dst)).Nodup) (hback : backB .any l = true) (hplan : planB l ks K m = true) (huniq : uniqB ks = true) (hall : allB ks m = true)
    (hE : ∀ p vs vs' w, (∀ k, ks[k]? ≠ some .pure → vs' k = vs k) → E p vs w → E p vs' w)
    (h : OpsIs P l.toArray (fun vs => fill vs l 0 a) w ks K E (fun S => ∀ vs u, E m vs u → (∀ k, k < l.length → ∃ x, S k (vs k) x) → Q .normal (fill vs l 0 a) u) (l.zip ks) 0 (fun _ _ _ => True)) :
    (Code.region id l.toArray true).wp P Q a w := by
  obtain ⟨S, _, h2, h3, h4⟩ := OpsIs.all (l.zip ks) 0 (fun _ _ _ => True) (fun k hk => by omega) (fun k _ => rfl) h
  refine wp_region_any hm ?_
  have e : fill (fun k => match (l[k]?).bind (·.dst) with | some t => a.tmps.getD t undef | none => undef) l 0 a = a := by
    refine fill_same l 0 _ a fun j o t hj hd => ?_
    simp only [Nat.zero_add, hj, Option.bind_some, hd]
  have hun : ∀ k, k < l.length → (Array.replicate l.length false).getD k true = true → False := fun k hk hl => by simp [hk] at hl
  have hlen : ks.length = l.length := by
    simp only [planB, Bool.and_eq_true, decide_eq_true_eq] at hplan
    exact hplan.1.1
  have := wpAny_of_plan (P := P) (Q := Q) (a0 := a) (B := w) hnd hback hplan huniq hall h2 hE (fun j o k hj hk => by have := h3 j o k (by rw [List.getElem?_zip_eq_some]; exact ⟨hj, hk⟩); rwa [Nat.zero_add] at this) h4 l.length 0 (Array.replicate l.length false)
    (fun k => match (l[k]?).bind (·.dst) with | some t => a.tmps.getD t undef | none => undef) { w with drawn := w.drawn + 1 } (Nat.zero_le _)
    (by unfold left; exact Nat.le_trans List.countP_le_length (by simp))
    ⟨by simp, fun i p hi => ⟨fun hl => by
        have : i < l.length := by
          rcases Nat.lt_or_ge i ks.length with h | h
          · omega
          · rw [List.getElem?_eq_none h] at hi; cases hi
        exact (hun i this hl).elim, fun h => absurd h (by omega)⟩, fun j o ho hl => by
        have : j < l.length := by
          rcases Nat.lt_or_ge j l.length with h | h
          · exact h
          · rw [List.getElem?_eq_none h] at ho; cases ho
        exact (hun j this hl).elim, fun k hk hl => (hun k hk hl).elim, fun _ => ⟨Below.drew (Below.refl _ _), fun k hk hl => (hun k hk hl).elim⟩, fun h => absurd h (by omega),
      fun i j _ hi _ hl _ => by
        have : i < l.length := by
          rcases Nat.lt_or_ge i ks.length with h | h
          · omega
          · rw [List.getElem?_eq_none h] at hi; cases hi
        exact (hun i this hl).elim, fun _ i hi hl => by
        have : i < l.length := by
          rcases Nat.lt_or_ge i ks.length with h | h
          · omega
          · rw [List.getElem?_eq_none h] at hi; cases hi
        exact (hun i this hl).elim⟩
  rw [e] at this
  simpa using this

theorem OpsIs.eq {P : Program} {ops : Array Oper} {F : (Nat → Value) → Act} {B : World} {ks : List Kind} {K : List Nat} {E : Nat → (Nat → Value) → World → Prop} {Fin : (Nat → Value → World → Prop) → Prop} {l : List (Oper × Kind)} {i : Nat} {o : Oper} {S : Nat → Value → World → Prop} {c : Value}
    (hop : OpOK P ops F B o S (fun v _ => v = c)) (h : OpsIs P ops F B ks K E Fin l (i + 1) (fun k => if k = i then (fun v _ => v = c) else S k)) : OpsIs P ops F B ks K E Fin ((o, .make) :: l) i S :=
  ⟨_, Stab_eq c, hop, h⟩
theorem OpsIs.step {P : Program} {ops : Array Oper} {F : (Nat → Value) → Act} {B : World} {ks : List Kind} {K : List Nat} {E : Nat → (Nat → Value) → World → Prop} {Fin : (Nat → Value → World → Prop) → Prop} {l : List (Oper × Kind)} {i : Nat} {o : Oper} {S : Nat → Value → World → Prop}
    (R : Value → World → Prop) (hst : Stab R) (hop : OpOK P ops F B o S R) (h : OpsIs P ops F B ks K E Fin l (i + 1) (fun k => if k = i then R else S k)) : OpsIs P ops F B ks K E Fin ((o, .make) :: l) i S :=
  ⟨R, hst, hop, h⟩
theorem OpsIs.fresh {P : Program} {ops : Array Oper} {F : (Nat → Value) → Act} {B : World} {ks : List Kind} {K : List Nat} {E : Nat → (Nat → Value) → World → Prop} {Fin : (Nat → Value → World → Prop) → Prop} {l : List (Oper × Kind)} {i : Nat} {o : Oper} {S : Nat → Value → World → Prop}
    (R : Value → World → Prop) (hst : Stab R) (hop : OpFresh P ops F B o S R) (h : OpsIs P ops F B ks K E Fin l (i + 1) (fun k => if k = i then R else S k)) : OpsIs P ops F B ks K E Fin ((o, .fresh) :: l) i S :=
  ⟨R, hst, hop, h⟩
theorem OpsIs.pure {P : Program} {ops : Array Oper} {F : (Nat → Value) → Act} {B : World} {ks : List Kind} {K : List Nat} {E : Nat → (Nat → Value) → World → Prop} {Fin : (Nat → Value → World → Prop) → Prop} {l : List (Oper × Kind)} {i : Nat} {o : Oper} {S : Nat → Value → World → Prop} {c : Value}
    (hop : OpPure P ops F o S (fun v _ => v = c)) (h : OpsIs P ops F B ks K E Fin l (i + 1) (fun k => if k = i then (fun v _ => v = c) else S k)) : OpsIs P ops F B ks K E Fin ((o, .pure) :: l) i S :=
  ⟨_, Stab_eq c, hop, h⟩
theorem OpsIs.first {P : Program} {ops : Array Oper} {F : (Nat → Value) → Act} {B : World} {ks : List Kind} {K : List Nat} {E : Nat → (Nat → Value) → World → Prop} {Fin : (Nat → Value → World → Prop) → Prop} {l : List (Oper × Kind)} {i : Nat} {o : Oper} {S : Nat → Value → World → Prop}
    (hop : OpFirst P ops F B i o ks K S (E 1)) (h : OpsIs P ops F B ks K E Fin l (i + 1) (fun k => if k = i then (fun _ _ => True) else S k)) : OpsIs P ops F B ks K E Fin ((o, .write 0) :: l) i S :=
  ⟨_, Stab_any, ⟨hop, rfl⟩, h⟩
theorem OpsIs.next {P : Program} {ops : Array Oper} {F : (Nat → Value) → Act} {B : World} {ks : List Kind} {K : List Nat} {E : Nat → (Nat → Value) → World → Prop} {Fin : (Nat → Value → World → Prop) → Prop} {l : List (Oper × Kind)} {i p : Nat} {o : Oper} {S : Nat → Value → World → Prop}
    (hop : OpNext P ops F i o S (E (p + 1)) (E (p + 2))) (h : OpsIs P ops F B ks K E Fin l (i + 1) (fun k => if k = i then (fun _ _ => True) else S k)) : OpsIs P ops F B ks K E Fin ((o, .write (p + 1)) :: l) i S :=
  ⟨_, Stab_any, ⟨hop, rfl⟩, h⟩
theorem OpsIs.done {P : Program} {ops : Array Oper} {F : (Nat → Value) → Act} {B : World} {ks : List Kind} {K : List Nat} {E : Nat → (Nat → Value) → World → Prop} {Fin : (Nat → Value → World → Prop) → Prop} {i : Nat} {S : Nat → Value → World → Prop} (h : Fin S) : OpsIs P ops F B ks K E Fin [] i S := h

end Go.Proofs.YtdfkbahlngijcaaDoor

namespace Go.Proofs.YtdfkbahlngijcaaDoor
open Go.RowKit

/-- what waits for operation number i has not been done -/
def Undone (l : List Oper) (i : Nat) (init vs : Nat → Value) : Prop := ∀ k, dirB l k i = true → vs k = init k

def OpOKU (P : Program) (l : List Oper) (F : (Nat → Value) → Act) (B : World) (i : Nat) (o : Oper) (init : Nat → Value) (S : Nat → Value → World → Prop) (R : Value → World → Prop) : Prop :=
  ∀ (vs : Nat → Value) (w : World), Below B.heap.size B w → Undone l i init vs → (∀ e ∈ o.after, Region.binds .any e = true → S e.on (vs e.on) w) →
    wpList P l.toArray (Goes (F vs) o w R) [o] (F vs) w

def OpsOKU (P : Program) (ops : List Oper) (F : (Nat → Value) → Act) (B : World) (init : Nat → Value) (Fin : (Nat → Value → World → Prop) → Prop) : List Oper → Nat → (Nat → Value → World → Prop) → Prop
  | [], _, S => Fin S
  | o :: l, i, S => ∃ R, Stab R ∧ OpOKU P ops F B i o init S R ∧ OpsOKU P ops F B init Fin l (i + 1) (fun k => if k = i then R else S k)

section
variable {P : Program} {ops : List Oper} {F : (Nat → Value) → Act} {B : World} {init : Nat → Value} {Fin : (Nat → Value → World → Prop) → Prop} {l : List Oper} {i : Nat} {o : Oper} {S : Nat → Value → World → Prop}
theorem OpsOKU.step (R : Value → World → Prop) (hst : Stab R) (hop : OpOKU P ops F B i o init S R) (h : OpsOKU P ops F B init Fin l (i + 1) (fun k => if k = i then R else S k)) : OpsOKU P ops F B init Fin (o :: l) i S :=
  ⟨R, hst, hop, h⟩
theorem OpsOKU.done (h : Fin S) : OpsOKU P ops F B init Fin [] i S := h
theorem OpsOKU.eq {c : Value} (hop : OpOKU P ops F B i o init S (fun v _ => v = c)) (h : OpsOKU P ops F B init Fin l (i + 1) (fun k => if k = i then (fun v _ => v = c) else S k)) : OpsOKU P ops F B init Fin (o :: l) i S :=
  ⟨_, Stab_eq c, hop, h⟩
theorem OpOKU.mono {S' : Nat → Value → World → Prop} {R : Value → World → Prop} (h : OpOKU P ops F B i o init S R) (hs : ∀ k v w, S' k v w → S k v w) : OpOKU P ops F B i o init S' R :=
  fun vs w hb hu hd => h vs w hb hu fun e he hbd => hs _ _ _ (hd e he hbd)
end

theorem OpsOKU.all {P : Program} {F : (Nat → Value) → Act} {B : World} {init : Nat → Value} {Fin : (Nat → Value → World → Prop) → Prop} : ∀ (ops l : List Oper) (i : Nat) (S : Nat → Value → World → Prop),
    (∀ k, k < i → Stab (S k)) → (∀ k, i ≤ k → S k = fun _ _ => True) → OpsOKU P ops F B init Fin l i S →
    ∃ S' : Nat → Value → World → Prop, (∀ k, k < i → S' k = S k) ∧ (∀ k, Stab (S' k)) ∧ (∀ j o, l[j]? = some o → OpOKU P ops F B (i + j) o init S' (S' (i + j))) ∧ Fin S'
  | _, [], i, S, hst, hz, h => ⟨S, fun _ _ => rfl, fun k => by
      rcases Nat.lt_or_ge k i with hk | hk
      · exact hst k hk
      · rw [hz k hk]; exact Stab_any, fun j o hj => by simp at hj, h⟩
  | ops, o :: l, i, S, hst, hz, h => by
    obtain ⟨R, hR, hop, hrest⟩ := h
    obtain ⟨S', h1, h2, h3, h4⟩ := OpsOKU.all ops l (i + 1) (fun k => if k = i then R else S k)
      (fun k hk => by by_cases e : k = i <;> simp only [e, if_true, if_false]; exact hR; exact hst k (by omega))
      (fun k hk => by rw [if_neg (by omega)]; exact hz k (by omega)) hrest
    have hi : S' i = R := by rw [h1 i (by omega), if_pos rfl]
    refine ⟨S', fun k hk => by rw [h1 k (by omega), if_neg (by omega)], h2, ?_, h4⟩
    intro j oj hj
    cases j with
    | zero =>
      simp at hj
      subst hj
      show OpOKU P ops F B i o init S' (S' i)
      rw [hi]
      refine hop.mono fun k v w hk => ?_
      rcases Nat.lt_or_ge k i with hlt | hge
      · rw [h1 k (by omega), if_neg (by omega)] at hk; exact hk
      · rw [hz k hge]; trivial
    | succ j =>
      have := h3 j oj (by simpa using hj)
      rw [show i + (j + 1) = i + 1 + j from by omega]
      exact this

end Go.Proofs.YtdfkbahlngijcaaDoor

namespace Go.Proofs.YtdfkbahlngijcaaDoor
open Go.RowKit
set_option linter.unusedVariables false

/-- what is said of a value (beside the leading one) in a world is still so in a later world -/
def StabM (Rl : World → World → Prop) (R : Value → Value → World → Prop) : Prop := ∀ u v w w', R u v w → Rl w w' → R u v w'
def FreeM (R : Value → Value → World → Prop) : Prop := ∀ u u' v w, R u v w → R u' v w
theorem StabM_eq (Rl : World → World → Prop) (c : Value) : StabM Rl (fun _ v _ => v = c) := fun _ _ _ _ h _ => h
theorem FreeM_eq (c : Value) : FreeM (fun _ v _ => v = c) := fun _ _ _ _ h => h
def GoesM (Rl : World → World → Prop) (a : Act) (o : Oper) (w : World) (R : Value → World → Prop) : Exit → Act → World → Prop :=
  fun ex a' w' => ex = .normal ∧ ∃ v, a' = a.put o.dst v ∧ Rl w w' ∧ R v w'
def waitsM (o : Oper) (m : Nat) : Bool := o.after.toList.any fun e => Region.binds .any e && decide (e.on = m)
/-- what is asked of an operation -/
def OpOKM (P : Program) (ops : Array Oper) (F : (Nat → Value) → Act) (Rl : World → World → Prop) (B : World) (m : Nat) (o : Oper) (S : Nat → Value → Value → World → Prop) (R : Value → Value → World → Prop) : Prop :=
  ∀ (vs : Nat → Value) (w : World), Rl B w → (∀ e ∈ o.after, Region.binds .any e = true → S e.on (vs m) (vs e.on) w) →
    wpList P ops (GoesM Rl (F vs) o w (R (vs m))) [o] (F vs) w
def OpsOKM (P : Program) (ops : Array Oper) (F : (Nat → Value) → Act) (Rl : World → World → Prop) (B : World) (m : Nat) (Fin : (Nat → Value → Value → World → Prop) → Prop) : List Oper → Nat → (Nat → Value → Value → World → Prop) → Prop
  | [], _, S => Fin S
  | o :: l, i, S => ∃ R, StabM Rl R ∧ (FreeM R ∨ (waitsM o m = true ∧ i ≠ m)) ∧ OpOKM P ops F Rl B m o S R ∧ OpsOKM P ops F Rl B m Fin l (i + 1) (fun k => if k = i then R else S k)

section
variable {P : Program} {ops : Array Oper} {F : (Nat → Value) → Act} {Rl : World → World → Prop} {B : World} {m : Nat} {Fin : (Nat → Value → Value → World → Prop) → Prop} {l : List Oper} {i : Nat} {o : Oper} {S : Nat → Value → Value → World → Prop}
/-- a specification that does not name the leading value -/
theorem OpsOKM.step (R : Value → World → Prop) (hst : ∀ v w w', R v w → Rl w w' → R v w') (hop : OpOKM P ops F Rl B m o S (fun _ => R)) (h : OpsOKM P ops F Rl B m Fin l (i + 1) (fun k => if k = i then (fun _ => R) else S k)) : OpsOKM P ops F Rl B m Fin (o :: l) i S :=
  ⟨fun _ => R, fun _ => hst, .inl fun _ _ _ _ h => h, hop, h⟩
theorem OpsOKM.eq {c : Value} (hop : OpOKM P ops F Rl B m o S (fun _ v _ => v = c)) (h : OpsOKM P ops F Rl B m Fin l (i + 1) (fun k => if k = i then (fun _ v _ => v = c) else S k)) : OpsOKM P ops F Rl B m Fin (o :: l) i S :=
  ⟨_, StabM_eq Rl c, .inl (FreeM_eq c), hop, h⟩
theorem OpsOKM.done (h : Fin S) : OpsOKM P ops F Rl B m Fin [] i S := h
theorem OpOKM.mono {R : Value → Value → World → Prop} {S' : Nat → Value → Value → World → Prop} (h : OpOKM P ops F Rl B m o S R) (hs : ∀ k u v w, S' k u v w → S k u v w) : OpOKM P ops F Rl B m o S' R :=
  fun vs w hb hd => h vs w hb fun e he hbd => hs _ _ _ _ (hd e he hbd)
end

theorem OpsOKM.all {P : Program} {ops : Array Oper} {F : (Nat → Value) → Act} {Rl : World → World → Prop} {B : World} {m : Nat} {Fin : (Nat → Value → Value → World → Prop) → Prop} : ∀ (l : List Oper) (i : Nat) (S : Nat → Value → Value → World → Prop),
    (∀ k, k < i → StabM Rl (S k)) → (∀ k, i ≤ k → S k = fun _ _ _ => True) → OpsOKM P ops F Rl B m Fin l i S →
    ∃ S' : Nat → Value → Value → World → Prop, (∀ k, k < i → S' k = S k) ∧ (∀ k, StabM Rl (S' k)) ∧ (∀ j o, l[j]? = some o → (FreeM (S' (i + j)) ∨ (waitsM o m = true ∧ i + j ≠ m)) ∧ OpOKM P ops F Rl B m o S' (S' (i + j))) ∧ Fin S'
  | [], i, S, hst, hz, h => ⟨S, fun _ _ => rfl, fun k => by
      rcases Nat.lt_or_ge k i with hk | hk
      · exact hst k hk
      · rw [hz k hk]; exact fun _ _ _ _ _ _ => trivial, fun j o hj => by simp at hj, h⟩
  | o :: l, i, S, hst, hz, h => by
    obtain ⟨R, hR, hf, hop, hrest⟩ := h
    obtain ⟨S', h1, h2, h3, h4⟩ := OpsOKM.all l (i + 1) (fun k => if k = i then R else S k)
      (fun k hk => by by_cases e : k = i <;> simp only [e, if_true, if_false]; exact hR; exact hst k (by omega))
      (fun k hk => by rw [if_neg (by omega)]; exact hz k (by omega)) hrest
    have hi : S' i = R := by rw [h1 i (by omega), if_pos rfl]
    refine ⟨S', fun k hk => by rw [h1 k (by omega), if_neg (by omega)], h2, ?_, h4⟩
    intro j oj hj
    cases j with
    | zero =>
      simp at hj
      subst hj
      show (FreeM (S' i) ∨ (waitsM o m = true ∧ i ≠ m)) ∧ OpOKM P ops F Rl B m o S' (S' i)
      rw [hi]
      refine ⟨hf, hop.mono fun k u v w hk => ?_⟩
      rcases Nat.lt_or_ge k i with hlt | hge
      · rw [h1 k (by omega), if_neg (by omega)] at hk; exact hk
      · rw [hz k hge]; trivial
    | succ j =>
      have := h3 j oj (by simpa using hj)
      rw [show i + (j + 1) = i + 1 + j from by omega]
      exact this

/-- the operations from n on wait for all that stand before them -/
def tailB (l : List Oper) (n : Nat) : Bool := (List.range l.length).all fun i => decide (i < n) || closedB l i (List.range i)

theorem ready_some {l : List Oper} {listed : Array Bool} (hback : backB .any l = true) (hsz : listed.size = l.length) {n : Nat} (hn : n < l.length) (hl : listed.getD n true = false) : ∃ i, i ∈ Region.ready .any l.toArray listed ∧ i ≤ n := by
  induction n using Nat.strongRecOn with
  | ind n ih =>
    by_cases h : ∃ k, k < n ∧ listed.getD k true = false
    · obtain ⟨k, hk, hf⟩ := h
      obtain ⟨i, hi, hle⟩ := ih k hk (by omega) hf
      exact ⟨i, hi, by omega⟩
    · refine ⟨n, ?_, Nat.le_refl _⟩
      rw [mem_ready]
      refine ⟨hl, l[n], by simp [hn], fun e he hb => ?_⟩
      have hlt : e.on < n := by
        have := List.all_eq_true.1 hback n (List.mem_range.2 hn)
        rw [List.getElem?_eq_getElem hn] at this
        have := List.all_eq_true.1 this e (by simpa using he)
        rw [hb] at this
        simpa using this
      have h1 : listed.getD e.on true = true := by
        rcases hx : listed.getD e.on true with _ | _
        · exact absurd ⟨e.on, hlt, hx⟩ h
        · rfl
      have h2 : e.on < listed.size := by omega
      simp [h2] at h1 ⊢
      exact h1

theorem ready_lt {l : List Oper} {listed : Array Bool} {i : Nat} (hi : i ∈ Region.ready .any l.toArray listed) : i < l.length := by
  obtain ⟨_, o, ho, _⟩ := mem_ready.1 hi
  rcases Nat.lt_or_ge i l.length with h | h
  · exact h
  · simp [h] at ho

theorem ready_after {l : List Oper} {listed : Array Bool} {i : Nat} (hsz : listed.size = l.length) (hi : i ∈ Region.ready .any l.toArray listed) : ∀ o, l[i]? = some o → ∀ e ∈ o.after, Region.binds .any e = true → e.on < listed.size ∧ listed.getD e.on true = true := by
  obtain ⟨_, o, ho, hd⟩ := mem_ready.1 hi
  have ho' : l[i]? = some o := by simpa using ho
  intro o2 h2 e he hb
  rw [ho'] at h2
  cases h2
  have h2 := hd e he hb
  have h3 : e.on < listed.size := by
    rcases Nat.lt_or_ge e.on listed.size with hh | hh
    · exact hh
    · simp [hh] at h2
  refine ⟨h3, ?_⟩
  simp [h3] at h2 ⊢
  exact h2

theorem wpAny_tail {P : Program} {l : List Oper} {Q : Exit → Act → World → Prop} {n0 : Nat} (hback : backB .any l = true) (htail : tailB l n0 = true) :
    ∀ (rest : List Oper) (n fuel : Nat) (listed : Array Bool) (a : Act) (w : World), n0 ≤ n → l.drop n = rest → listed.size = l.length → rest.length ≤ fuel → (∀ k, k < l.length → listed.getD k true = decide (k < n)) → DownC l listed →
      wpList P l.toArray Q rest a w → wpAny P .any l.toArray Q fuel listed a w := by
  intro rest
  induction rest with
  | nil =>
    intro n fuel listed a w h0 hd hsz hf hl hdn h
    have hn : l.length ≤ n := by
      rcases Nat.lt_or_ge n l.length with hh | hh
      · have := congrArg List.length hd; simp at this; omega
      · exact hh
    have hr : Region.ready .any l.toArray listed = [] := by
      rw [List.eq_nil_iff_forall_not_mem]
      intro j hj
      have hjl := ready_lt hj
      have := (mem_ready.1 hj).1
      rw [hl j hjl, decide_eq_true (by omega)] at this
      cases this
    cases fuel with
    | zero => exact ⟨hr, h⟩
    | succ f => exact ⟨fun _ => h, fun i hi => (by rw [hr] at hi; cases hi)⟩
  | cons o rest ih =>
    intro n fuel listed a w h0 hd hsz hf hl hdn h
    cases fuel with
    | zero => simp at hf
    | succ f =>
    have hn : n < l.length := by
      rcases Nat.lt_or_ge n l.length with hh | hh
      · exact hh
      · rw [List.drop_of_length_le hh] at hd; cases hd
    have ho : l[n]? = some o := by
      have := congrArg (fun x => x[0]?) hd
      simpa using this
    have hd2 : l.drop (n + 1) = rest := by
      have := congrArg List.tail hd
      simpa using this
    have hln : listed.getD n true = false := by rw [hl n hn]; simp
    obtain ⟨i, hi, hle⟩ := ready_some hback hsz hn hln
    refine ⟨fun hr => (by rw [hr] at hi; cases hi), fun j hj => ?_⟩
    have hjl := ready_lt hj
    have hjn : j = n := by
      have h1 := (mem_ready.1 hj).1
      rw [hl j hjl] at h1
      have h2 : n ≤ j := by simpa using h1
      have h3 := List.all_eq_true.1 htail j (List.mem_range.2 hjl)
      rw [decide_eq_false (by omega), Bool.false_or] at h3
      have h4 := closed_listed (i := j) (listed := listed) h3 hdn fun o' ho' e he hb => (ready_after hsz hj o' ho' e he hb).2
      rcases Nat.lt_or_ge n j with h5 | h5
      · have := h4 n (List.mem_range.2 h5)
        rw [hln] at this; cases this
      · omega
    subst hjn
    have hset : ∀ k, k < l.length → (listed.setIfInBounds j true).getD k true = decide (k < j + 1) := by
      intro k hk
      by_cases e : j = k
      · subst e; rw [getD_set_same]; simp
      · rw [getD_set_ne true e, hl k hk]
        rcases Nat.lt_or_ge k j with hh | hh
        · rw [decide_eq_true hh, decide_eq_true (by omega)]
        · rw [decide_eq_false (by omega), decide_eq_false (by omega)]
    have hK : ∀ a w, wpList P l.toArray Q rest a w → wpAny P .any l.toArray Q f (listed.setIfInBounds j true) a w := fun a' w' hh =>
      ih (j + 1) f _ a' w' (by omega) hd2 (by simpa using hsz) (by simpa using hf) hset (hdn.set fun o' ho' e he hb => (ready_after hsz hj o' ho' e he hb).2) hh
    unfold wpOp
    rw [show l.toArray[j]? = some o by simpa using ho]
    simp only [wpList] at h
    simp only
    by_cases hwt : Region.wanted o (yielded l.toArray a.tmps) = true
    · rw [if_pos hwt] at h ⊢
      exact h.imp (Oper.wp_mono hK) id
    · rw [if_neg hwt] at h ⊢
      exact hK _ _ h

theorem wpAny_of_specsM {P : Program} {l l1 : List Oper} {n1 : Nat} {Q : Exit → Act → World → Prop} {a0 : Act} {Rl : World → World → Prop} {B : World} {m : Nat} {S : Nat → Value → Value → World → Prop}
    (htr : ∀ a b c, Rl a b → Rl b c → Rl a c) (hl1 : l.take n1 = l1) (hn1 : n1 ≤ l.length) (hnd : (l1.filterMap (·.dst)).Nodup) (hback : backB .any l = true) (htail : tailB l n1 = true) (hst : ∀ k, StabM Rl (S k))
    (hop : ∀ j o, l1[j]? = some o → (FreeM (S j) ∨ (waitsM o m = true ∧ j ≠ m)) ∧ OpOKM P l.toArray (fun vs => fill vs l1 0 a0) Rl B m o S (S j))
    (hfin : ∀ vs w, Rl B w → (∀ k, k < n1 → S k (vs m) (vs k) w) → wpList P l.toArray Q (l.drop n1) (fill vs l1 0 a0) w) :
    ∀ (fuel : Nat) (listed : Array Bool) (vs : Nat → Value) (w : World), listed.size = l.length → left l.length listed ≤ fuel → Rl B w → (∀ k, n1 ≤ k → k < l.length → listed.getD k true = false) → DownC l listed →
      (∀ k, k < n1 → listed.getD k true = true → S k (vs m) (vs k) w) → wpAny P .any l.toArray Q fuel listed (fill vs l1 0 a0) w := by
  intro fuel
  induction fuel with
  | zero =>
    intro listed vs w hsz hlf hb hlo hdn h
    have hall : ∀ k, k < l.length → listed.getD k true = true := fun k hk => by
      have h0 : left l.length listed = 0 := by omega
      unfold left at h0
      rw [List.countP_eq_zero] at h0
      simpa using h0 k (List.mem_range.2 hk)
    have hn : l.length ≤ n1 := by
      rcases Nat.lt_or_ge n1 l.length with hh | hh
      · have := hlo n1 (Nat.le_refl _) hh
        rw [hall n1 hh] at this; cases this
      · exact hh
    refine wpAny_tail hback htail (l.drop n1) n1 0 listed _ w (Nat.le_refl _) rfl hsz (by rw [List.drop_of_length_le hn]; exact Nat.zero_le _) (fun k hk => by rw [hall k hk, decide_eq_true (by omega)]) hdn (hfin vs w hb fun k hk => h k hk (hall k (by omega)))
  | succ fuel ih =>
    intro listed vs w hsz hlf hb hlo hdn h
    by_cases hall : ∀ k, k < n1 → listed.getD k true = true
    · refine wpAny_tail hback htail (l.drop n1) n1 (fuel + 1) listed _ w (Nat.le_refl _) rfl hsz ?_ (fun k hk => ?_) hdn (hfin vs w hb fun k hk => h k hk (hall k hk))
      · refine Nat.le_trans ?_ hlf
        rw [List.length_drop]
        unfold left
        have e : List.range l.length = List.range n1 ++ List.range' n1 (l.length - n1) := by
          rw [List.range_eq_range', List.range_eq_range']
          have := @List.range'_append_1 0 n1 (l.length - n1)
          rw [Nat.zero_add, show n1 + (l.length - n1) = l.length by omega] at this
          exact this.symm
        rw [e, List.countP_append]
        refine Nat.le_trans ?_ (Nat.le_add_left _ _)
        rw [List.countP_eq_length.2]
        · simp
        · intro k hk
          have := List.mem_range'_1.1 hk
          rw [hlo k (by omega) (by omega)]; rfl
      · rcases Nat.lt_or_ge k n1 with hh | hh
        · rw [hall k hh, decide_eq_true hh]
        · rw [hlo k hh hk, decide_eq_false (by omega)]
    · obtain ⟨k0, hk0, hf0⟩ : ∃ k, k < n1 ∧ listed.getD k true = false := by
        apply Classical.byContradiction
        intro hx
        refine hall fun k hk => ?_
        rcases hv : listed.getD k true with _ | _
        · exact absurd ⟨k, hk, hv⟩ hx
        · rfl
      obtain ⟨i0, hi0, _⟩ := ready_some hback hsz (show k0 < l.length by omega) hf0
      refine ⟨fun hr => (by rw [hr] at hi0; cases hi0), fun i hi => ?_⟩
      have hil := ready_lt hi
      have hil1 : i < n1 := by
        rcases Nat.lt_or_ge i n1 with hh | hh
        · exact hh
        · exfalso
          have h3 := List.all_eq_true.1 htail i (List.mem_range.2 hil)
          rw [decide_eq_false (by omega), Bool.false_or] at h3
          have h4 := closed_listed (i := i) (listed := listed) h3 hdn fun o' ho' e he hb => (ready_after hsz hi o' ho' e he hb).2
          have := h4 k0 (List.mem_range.2 (by omega))
          rw [hf0] at this; cases this
      have h1 := (mem_ready.1 hi).1
      have ho' : l[i]? = some (l[i]) := List.getElem?_eq_getElem hil
      generalize l[i] = o at ho'
      have ho1 : l1[i]? = some o := by rw [← hl1, List.getElem?_take_of_lt hil1]; exact ho'
      obtain ⟨hfree, hopi⟩ := hop i o ho1
      have haft := ready_after hsz hi o ho'
      have hK : ∀ a' w', GoesM Rl (fill vs l1 0 a0) o w (S i (vs m)) .normal a' w' → wpAny P .any l.toArray Q fuel (listed.setIfInBounds i true) a' w' := by
        rintro a' w' ⟨_, v, rfl, hbw, hs⟩
        rw [fill_put vs l1 a0 i o v hnd ho1]
        refine ih _ _ _ (by simpa using hsz) (by have := left_lt hsz hil h1; omega) (htr _ _ _ hb hbw) (fun k hk hkl => by rw [getD_set_ne true (by omega)]; exact hlo k hk hkl) (hdn.set fun o'' h'' e he hbd => (ready_after hsz hi o'' h'' e he hbd).2) fun k hk hlk => ?_
        by_cases e : k = i
        · subst e
          rw [if_pos rfl]
          by_cases em : m = k
          · subst em
            rw [if_pos rfl]
            rcases hfree with hfr | ⟨_, hne⟩
            · exact hfr _ _ _ _ hs
            · exact absurd rfl hne
          · rw [if_neg em]; exact hs
        · rw [if_neg e]
          rw [getD_set_ne true (fun x => e x.symm)] at hlk
          have hold := hst k _ _ _ _ (h k hk hlk) hbw
          by_cases em : m = i
          · rw [if_pos em]
            have hokl : l[k]? = some (l[k]'(by omega)) := List.getElem?_eq_getElem _
            have hok1 : l1[k]? = some (l[k]'(by omega)) := by rw [← hl1, List.getElem?_take_of_lt hk]; exact hokl
            rcases (hop k _ hok1).1 with hfr | ⟨hw, _⟩
            · exact hfr _ _ _ _ hold
            · exfalso
              unfold waitsM at hw
              rw [List.any_eq_true] at hw
              obtain ⟨e', he', hh⟩ := hw
              simp at hh
              have := hdn k _ hokl hlk e' (by simpa using he') hh.1
              rw [hh.2, em, h1] at this
              cases this
          · rw [if_neg em]; exact hold
      have hw := hopi vs w hb fun e he hbd => by
        obtain ⟨h3, h4⟩ := haft e he hbd
        have h5 : e.on < i := by
          have := List.all_eq_true.1 hback i (List.mem_range.2 hil)
          rw [ho'] at this
          have := List.all_eq_true.1 this e (by simpa using he)
          rw [hbd] at this
          simpa using this
        exact h e.on (by omega) h4
      unfold wpOp
      rw [show l.toArray[i]? = some o by simpa using ho']
      simp only [wpList] at hw
      simp only
      by_cases hwt : Region.wanted o (yielded l.toArray (fill vs l1 0 a0).tmps) = true
      · rw [if_pos hwt] at hw ⊢
        rcases hw with hw | ⟨_, a', w', hh⟩
        · exact Or.inl (upon_goes (fun a' w' hh => hK a' w' hh) (fun e a' w' he hh => he hh.1) hw)
        · exact absurd hh.1 (by simp)
      · rw [if_neg hwt] at hw ⊢
        exact hK _ _ hw

/-- **A REGION THAT DRAWS ITS ORDER**: n operations by specifications that outlive the relation Rl (operation m leads); the others, which wait for all before them, as they stand. -/
theorem wp_region_rel {P : Program} {id : Nat} {Q : Exit → Act → World → Prop} {a : Act} {w : World} {l : List Oper} (Rl : World → World → Prop) (n m : Nat)
    (hdr : Rl w w.drew) (htr : ∀ a b c, Rl a b → Rl b c → Rl a c) (hm : P.follows .mixedOrders = true) (hn : n ≤ l.length) (hnd : ((l.take n).filterMap (·.dst)).Nodup) (hback : backB .any l = true) (htail : tailB l n = true)
    (h : OpsOKM P l.toArray (fun vs => fill vs (l.take n) 0 a) Rl w m (fun S => ∀ vs u, Rl w u → (∀ k, k < n → S k (vs m) (vs k) u) → wpList P l.toArray Q (l.drop n) (fill vs (l.take n) 0 a) u) (l.take n) 0 (fun _ _ _ _ => True)) :
    (Code.region id l.toArray true).wp P Q a w := by
  obtain ⟨S, _, h2, h3, h4⟩ := OpsOKM.all (l.take n) 0 (fun _ _ _ _ => True) (fun k hk => by omega) (fun k _ => rfl) h
  refine wp_region_any hm ?_
  have e : fill (fun k => match ((l.take n)[k]?).bind (·.dst) with | some t => a.tmps.getD t undef | none => undef) (l.take n) 0 a = a := by
    refine fill_same (l.take n) 0 _ a fun j o t hj hd => ?_
    simp only [Nat.zero_add, hj, Option.bind_some, hd]
  have := wpAny_of_specsM (P := P) (Q := Q) (a0 := a) (B := w) (n1 := n) htr rfl hn hnd hback htail h2 (fun j o hj => by have := h3 j o hj; rwa [Nat.zero_add] at this) h4 l.length (Array.replicate l.length false)
    (fun k => match ((l.take n)[k]?).bind (·.dst) with | some t => a.tmps.getD t undef | none => undef) w.drew (by simp)
    (by unfold left; exact Nat.le_trans List.countP_le_length (by simp)) hdr (fun k _ hk => by simp [hk]) (fun j o hj hl => by
      have hjl : j < l.length := by
        rcases Nat.lt_or_ge j l.length with hh | hh
        · exact hh
        · rw [List.getElem?_eq_none hh] at hj; cases hj
      simp [hjl] at hl) (fun k hk hl => by simp [show k < l.length by omega] at hl)
  rw [e] at this
  simpa using this
end Go.Proofs.YtdfkbahlngijcaaDoor

namespace Go.Proofs.YtdfkbahlngijcaaDoor
open Go.RowKit
set_option linter.unusedVariables false

theorem wpList_seq {P : Program} {l : List Oper} {Q : Exit → Act → World → Prop} {a0 : Act} {B : World} {S : Nat → Value → World → Prop}
    (hnd : (l.filterMap (·.dst)).Nodup) (hback : backB .any l = true) (hst : ∀ k, Stab (S k))
    (hop : ∀ j o, l[j]? = some o → OpOK P l.toArray (fun vs => fill vs l 0 a0) B o S (S j))
    (hfin : ∀ vs w, Below B.heap.size B w → (∀ k, k < l.length → S k (vs k) w) → Q .normal (fill vs l 0 a0) w) :
    ∀ (rest : List Oper) (i : Nat) (vs : Nat → Value) (w : World), l.drop i = rest → Below B.heap.size B w → (∀ k, k < i → k < l.length → S k (vs k) w) → wpList P l.toArray Q rest (fill vs l 0 a0) w := by
  intro rest
  induction rest with
  | nil =>
    intro i vs w hd hb h
    have hn : l.length ≤ i := by
      rcases Nat.lt_or_ge i l.length with hh | hh
      · have := congrArg List.length hd; simp at this; omega
      · exact hh
    exact hfin vs w hb fun k hk => h k (by omega) hk
  | cons o rest ih =>
    intro i vs w hd hb h
    have hn : i < l.length := by
      rcases Nat.lt_or_ge i l.length with hh | hh
      · exact hh
      · rw [List.drop_of_length_le hh] at hd; cases hd
    have ho : l[i]? = some o := by
      have := congrArg (fun x => x[0]?) hd
      simpa using this
    have hd2 : l.drop (i + 1) = rest := by
      have := congrArg List.tail hd
      simpa using this
    have hK : ∀ a' w', Goes (fill vs l 0 a0) o w (S i) .normal a' w' → wpList P l.toArray Q rest a' w' := by
      rintro a' w' ⟨_, v, rfl, hbw, hs⟩
      rw [fill_put vs l a0 i o v hnd ho]
      refine ih (i + 1) _ w' hd2 (below_step hb hbw) fun k hk hkl => ?_
      by_cases e : k = i
      · subst e; rw [if_pos rfl]; exact hs
      · rw [if_neg e]
        exact hst k _ _ _ (h k (by omega) hkl) hbw
    have hw := hop i o ho vs w hb fun e he hbd => by
      have h5 : e.on < i := by
        have := List.all_eq_true.1 hback i (List.mem_range.2 hn)
        rw [ho] at this
        have := List.all_eq_true.1 this e (by simpa using he)
        rw [hbd] at this
        simpa using this
      exact h e.on h5 (by omega)
    simp only [wpList] at hw ⊢
    by_cases hwt : Region.wanted o (yielded l.toArray (fill vs l 0 a0).tmps) = true
    · rw [if_pos hwt] at hw ⊢
      rcases hw with hw | ⟨_, a', w', hh⟩
      · exact Or.inl (upon_goes (fun a' w' hh => hK a' w' hh) (fun e a' w' he hh => he hh.1) hw)
      · exact absurd hh.1 (by simp)
    · rw [if_neg hwt] at hw ⊢
      exact hK _ _ hw
theorem wp_region_seq {P : Program} {id : Nat} {Q : Exit → Act → World → Prop} {a : Act} {w : World} {l : List Oper}
    (hnd : (l.filterMap (·.dst)).Nodup) (hback : backB .any l = true)
    (h : OpsOK P l.toArray (fun vs => fill vs l 0 a) w (fun S => ∀ vs u, Below w.heap.size w u → (∀ k, k < l.length → S k (vs k) u) → Q .normal (fill vs l 0 a) u) l 0 (fun _ _ _ => True)) :
    (Code.region id l.toArray false).wp P Q a w := by
  obtain ⟨S, _, h2, h3, h4⟩ := OpsOK.all l 0 (fun _ _ _ => True) (fun k hk => by omega) (fun k _ => rfl) h
  refine wp_region_lit ?_
  have e : fill (fun k => match (l[k]?).bind (·.dst) with | some t => a.tmps.getD t undef | none => undef) l 0 a = a := by
    refine fill_same l 0 _ a fun j o t hj hd => ?_
    simp only [Nat.zero_add, hj, Option.bind_some, hd]
  have := wpList_seq (P := P) (Q := Q) (a0 := a) (B := w) hnd hback h2 (fun j o hj => by have := h3 j o hj; rwa [Nat.zero_add] at this) h4 l 0 (fun k => match (l[k]?).bind (·.dst) with | some t => a.tmps.getD t undef | none => undef) w rfl (Below.refl _ _) (fun k hk => by omega)
  rw [e] at this
  exact this
/-- a guarded operation: what it leaves if it is carried out -/
theorem OpsOK.geq {P : Program} {ops : Array Oper} {F : (Nat → Value) → Act} {B : World} {Fin : (Nat → Value → World → Prop) → Prop} {l : List Oper} {i : Nat} {o : Oper} {S : Nat → Value → World → Prop} {c : Value} (g : Prop)
    (hop : OpOK P ops F B o S (fun v _ => g → v = c)) (h : OpsOK P ops F B Fin l (i + 1) (fun k => if k = i then (fun v _ => g → v = c) else S k)) : OpsOK P ops F B Fin (o :: l) i S :=
  ⟨_, fun _ _ _ h _ => h, hop, h⟩
theorem OpsOK.ceq {P : Program} {ops : Array Oper} {F : (Nat → Value) → Act} {B : World} {Fin : (Nat → Value → World → Prop) → Prop} {l : List Oper} {i : Nat} {o : Oper} {S : Nat → Value → World → Prop} (c : Value)
    (hop : OpOK P ops F B o S (fun v _ => v = c)) (h : OpsOK P ops F B Fin l (i + 1) (fun k => if k = i then (fun v _ => v = c) else S k)) : OpsOK P ops F B Fin (o :: l) i S :=
  ⟨_, Stab_eq c, hop, h⟩
end Go.Proofs.YtdfkbahlngijcaaDoor

namespace Go.Proofs.YtdfkbahlngijcaaDoor
open Go.RowKit
set_option linter.unusedVariables false

def Goes0 (a : Act) (o : Oper) (w : World) (R : Value → Prop) : Exit → Act → World → Prop :=
  fun ex a' w' => ex = .normal ∧ ∃ v, a' = a.put o.dst v ∧ w' = w ∧ R v
def OpOK0 (P : Program) (ops : Array Oper) (F : (Nat → Value) → Act) (w : World) (o : Oper) (S : Nat → Value → Prop) (R : Value → Prop) : Prop :=
  ∀ (vs : Nat → Value), (∀ e ∈ o.after, Region.binds .any e = true → S e.on (vs e.on)) → wpList P ops (Goes0 (F vs) o w R) [o] (F vs) w
def OpsOK0 (P : Program) (ops : Array Oper) (F : (Nat → Value) → Act) (w : World) (Fin : (Nat → Value → Prop) → Prop) : List Oper → Nat → (Nat → Value → Prop) → Prop
  | [], _, S => Fin S
  | o :: l, i, S => ∃ R, OpOK0 P ops F w o S R ∧ OpsOK0 P ops F w Fin l (i + 1) (fun k => if k = i then R else S k)
section
variable {P : Program} {ops : Array Oper} {F : (Nat → Value) → Act} {w : World} {Fin : (Nat → Value → Prop) → Prop} {l : List Oper} {i : Nat} {o : Oper} {S : Nat → Value → Prop}
theorem OpsOK0.eq {c : Value} (hop : OpOK0 P ops F w o S (fun v => v = c)) (h : OpsOK0 P ops F w Fin l (i + 1) (fun k => if k = i then (fun v => v = c) else S k)) : OpsOK0 P ops F w Fin (o :: l) i S := ⟨_, hop, h⟩
theorem OpsOK0.ceq (c : Value) (hop : OpOK0 P ops F w o S (fun v => v = c)) (h : OpsOK0 P ops F w Fin l (i + 1) (fun k => if k = i then (fun v => v = c) else S k)) : OpsOK0 P ops F w Fin (o :: l) i S := ⟨_, hop, h⟩
theorem OpsOK0.geq {c : Value} (g : Prop) (hop : OpOK0 P ops F w o S (fun v => g → v = c)) (h : OpsOK0 P ops F w Fin l (i + 1) (fun k => if k = i then (fun v => g → v = c) else S k)) : OpsOK0 P ops F w Fin (o :: l) i S := ⟨_, hop, h⟩
theorem OpsOK0.done (h : Fin S) : OpsOK0 P ops F w Fin [] i S := h
end
theorem OpsOK0.all {P : Program} {ops : Array Oper} {F : (Nat → Value) → Act} {w : World} {Fin : (Nat → Value → Prop) → Prop} : ∀ (l : List Oper) (i : Nat) (S : Nat → Value → Prop),
    (∀ k, i ≤ k → S k = fun _ => True) → OpsOK0 P ops F w Fin l i S →
    ∃ S' : Nat → Value → Prop, (∀ k, k < i → S' k = S k) ∧ (∀ j o, l[j]? = some o → OpOK0 P ops F w o S' (S' (i + j))) ∧ Fin S'
  | [], i, S, hz, h => ⟨S, fun _ _ => rfl, fun j o hj => by simp at hj, h⟩
  | o :: l, i, S, hz, h => by
    obtain ⟨R, hop, hrest⟩ := h
    obtain ⟨S', h1, h3, h4⟩ := OpsOK0.all l (i + 1) (fun k => if k = i then R else S k) (fun k hk => by rw [if_neg (by omega)]; exact hz k (by omega)) hrest
    have hi : S' i = R := by rw [h1 i (by omega), if_pos rfl]
    refine ⟨S', fun k hk => by rw [h1 k (by omega), if_neg (by omega)], ?_, h4⟩
    intro j oj hj
    cases j with
    | zero =>
      simp at hj
      subst hj
      show OpOK0 P ops F w o S' (S' i)
      rw [hi]
      refine fun vs hd => hop vs fun e he hb => ?_
      have := hd e he hb
      rcases Nat.lt_or_ge e.on i with hlt | hge
      · rw [h1 e.on (by omega), if_neg (by omega)] at this; exact this
      · rw [hz e.on hge]; trivial
    | succ j =>
      have := h3 j oj (by simpa using hj)
      rw [show i + (j + 1) = i + 1 + j from by omega]
      exact this
theorem wpList_seq0 {P : Program} {l : List Oper} {Q : Exit → Act → World → Prop} {a0 : Act} {w : World} {S : Nat → Value → Prop}
    (hnd : (l.filterMap (·.dst)).Nodup) (hback : backB .any l = true) (hop : ∀ j o, l[j]? = some o → OpOK0 P l.toArray (fun vs => fill vs l 0 a0) w o S (S j))
    (hfin : ∀ vs, (∀ k, k < l.length → S k (vs k)) → Q .normal (fill vs l 0 a0) w) :
    ∀ (rest : List Oper) (i : Nat) (vs : Nat → Value), l.drop i = rest → (∀ k, k < i → k < l.length → S k (vs k)) → wpList P l.toArray Q rest (fill vs l 0 a0) w := by
  intro rest
  induction rest with
  | nil =>
    intro i vs hd h
    have hn : l.length ≤ i := by
      rcases Nat.lt_or_ge i l.length with hh | hh
      · have := congrArg List.length hd; simp at this; omega
      · exact hh
    exact hfin vs fun k hk => h k (by omega) hk
  | cons o rest ih =>
    intro i vs hd h
    have hn : i < l.length := by
      rcases Nat.lt_or_ge i l.length with hh | hh
      · exact hh
      · rw [List.drop_of_length_le hh] at hd; cases hd
    have ho : l[i]? = some o := by
      have := congrArg (fun x => x[0]?) hd
      simpa using this
    have hd2 : l.drop (i + 1) = rest := by
      have := congrArg List.tail hd
      simpa using this
    have hK : ∀ a' w', Goes0 (fill vs l 0 a0) o w (S i) .normal a' w' → wpList P l.toArray Q rest a' w' := by
      rintro a' w' ⟨_, v, rfl, rfl, hs⟩
      rw [fill_put vs l a0 i o v hnd ho]
      refine ih (i + 1) _ hd2 fun k hk hkl => ?_
      by_cases e : k = i
      · subst e; rw [if_pos rfl]; exact hs
      · rw [if_neg e]
        exact h k (by omega) hkl
    have hw := hop i o ho vs fun e he hbd => by
      have h5 : e.on < i := by
        have := List.all_eq_true.1 hback i (List.mem_range.2 hn)
        rw [ho] at this
        have := List.all_eq_true.1 this e (by simpa using he)
        rw [hbd] at this
        simpa using this
      exact h e.on h5 (by omega)
    simp only [wpList] at hw ⊢
    by_cases hwt : Region.wanted o (yielded l.toArray (fill vs l 0 a0).tmps) = true
    · rw [if_pos hwt] at hw ⊢
      rcases hw with hw | ⟨_, a', w', hh⟩
      · exact Or.inl (upon_goes (fun a' w' hh => hK a' w' hh) (fun e a' w' he hh => he hh.1) hw)
      · exact absurd hh.1 (by simp)
    · rw [if_neg hwt] at hw ⊢
      exact hK _ _ hw
theorem wp_region_seq0 {P : Program} {id : Nat} {Q : Exit → Act → World → Prop} {a : Act} {w : World} {l : List Oper}
    (hnd : (l.filterMap (·.dst)).Nodup) (hback : backB .any l = true)
    (h : OpsOK0 P l.toArray (fun vs => fill vs l 0 a) w (fun S => ∀ vs, (∀ k, k < l.length → S k (vs k)) → Q .normal (fill vs l 0 a) w) l 0 (fun _ _ => True)) :
    (Code.region id l.toArray false).wp P Q a w := by
  obtain ⟨S, _, h3, h4⟩ := OpsOK0.all l 0 (fun _ _ => True) (fun k _ => rfl) h
  refine wp_region_lit ?_
  have e : fill (fun k => match (l[k]?).bind (·.dst) with | some t => a.tmps.getD t undef | none => undef) l 0 a = a := by
    refine fill_same l 0 _ a fun j o t hj hd => ?_
    simp only [Nat.zero_add, hj, Option.bind_some, hd]
  have := wpList_seq0 (P := P) (Q := Q) (a0 := a) (w := w) hnd hback (fun j o hj => by have := h3 j o hj; rwa [Nat.zero_add] at this) h4 l 0 (fun k => match (l[k]?).bind (·.dst) with | some t => a.tmps.getD t undef | none => undef) rfl (fun k hk => by omega)
  rw [e] at this
  exact this
end Go.Proofs.YtdfkbahlngijcaaDoor

