/- The arena: deeds, the handles so far; node of a deed. -/
import Derived.Test.YtfgkbnnojogjpaaQj
namespace Go.Proofs.Ytfgkbnnojogjpaa
open Go.RowKit
set_option linter.unusedVariables false

/-- a deed, with the places of its slices -/
structure De where
  k : Int
  t : ByteArray
  l : List Int
  la : Option Addr
  lc : Nat
  x : Nd
  xa : Option Addr
  xc : Nat
  h : Int
def deV (d : De) : Value := .agg #[.int .i64 d.k, .string d.t, .slice d.la d.l.length d.lc, .int .i64 d.x.h, .string d.x.text, .slice d.xa d.x.kids.length d.xc, .int .u64 d.h]
def fI (i : Int) : List Value := [.int .i64 i]
theorem fI_len (i : Int) : (fI i).length = 1 := rfl
/-- children in memory that no call writes: an argument's (below b0), or in a block of children -/
def KsOK (b0 : Nat) (w : World) (ao : Option Addr) (n c : Nat) (l : List Kid) : Prop :=
  IsKs w ao n l ∧ (ao = none → c = 0) ∧ ∀ b o, ao = some ⟨b, o, none⟩ → 0 < n → b < b0 ∨ Kb w b
theorem KsOK.nil (b0 : Nat) (w : World) : KsOK b0 w none 0 0 [] := ⟨⟨rfl, by simp, fun h => absurd h (Nat.lt_irrefl _)⟩, fun _ => rfl, fun _ _ h => by cases h⟩
theorem KsOK.keep {b0 : Nat} {w w' : World} {ao : Option Addr} {n c : Nat} {l : List Kid} (h : KsOK b0 w ao n c l) (hk : ∀ q, q < w.heap.size → (q < b0 ∨ Kb w q) → w'.heap[q]? = w.heap[q]?) : KsOK b0 w' ao n c l := by
  obtain ⟨h1, h2, h3⟩ := h
  have hs : ∀ b o, ao = some ⟨b, o, none⟩ → 0 < n → w'.heap[b]? = w.heap[b]? := fun b o e hn => by
    refine hk b ?_ (h3 b o e hn)
    subst e
    exact h1.lt hn
  refine ⟨h1.same hs, h2, fun b o e hn => ?_⟩
  rcases h3 b o e hn with h | ⟨cur, hc⟩
  · exact .inl h
  · exact .inr ⟨cur, (hs b o e hn).trans hc⟩
theorem KsOK.later {b0 : Nat} {w w' : World} {ao : Option Addr} {n c : Nat} {l : List Kid} (h : KsOK b0 w ao n c l) (hb : Below w.heap.size w w') : KsOK b0 w' ao n c l := h.keep fun q hq _ => hb.block q hq
theorem KsOK.turn {b0 : Nat} {w w' : World} {ao : Option Addr} {n c : Nat} {l : List Kid} (h : KsOK b0 w ao n c l) {B : PB} {A : AS} (ha : IsA w B A) (hg : B.ge b0) (k : KeepA B w w') : KsOK b0 w' ao n c l := h.keep fun q hq hc => k.2 q hq fun ho => by
  rcases hc with hc | hc
  · have := hg q ho; omega
  · exact ha.ne.2.2 q hc ho
theorem KsOK.sep {b0 : Nat} {w : World} {ao : Option Addr} {n c : Nat} {l : List Kid} (h : KsOK b0 w ao n c l) {B : PB} {A : AS} (ha : IsA w B A) (hg : B.ge b0) : ∀ b o, ao = some ⟨b, o, none⟩ → 0 < n → ¬ B.own b := fun b o e hn ho => by
  rcases h.2.2 b o e hn with hc | hc
  · have := hg b ho; omega
  · exact ha.ne.2.2 b hc ho
theorem OwnKs.ok {base b0 : Nat} {w : World} {v : Value} {n : Nat} {l : List Kid} (h : OwnKs base w v n l) : ∃ ao c, v = .slice ao n c ∧ KsOK b0 w ao n c l := by
  obtain ⟨h1, h2, h3⟩ := h
  obtain ⟨ao, cap, e, hr, h4, h5⟩ := IsR.owned fK_len h1 h3
  refine ⟨ao, cap, e, hr.ks h2, fun h => (h4 h).2, fun b o e2 hn => .inr ?_⟩
  obtain ⟨-, ⟨h, -⟩ | ⟨g, cap', cur, k1, hg, k2, -⟩⟩ := h3
  · rw [h] at e; injection e with e; rw [e2] at e; cases e
  · rw [k1] at e; injection e with e; rw [e2] at e; injection e with e; injection e with e
    exact ⟨cur, by rw [← e]; exact k2⟩
def DeOK (b0 : Nat) (w : World) (d : De) : Prop :=
  IsR fI w d.la d.l.length d.l ∧ KsOK b0 w d.xa d.x.kids.length d.xc d.x.kids ∧ 0 ≤ d.h ∧ d.h ≤ 18446744073709551615
theorem DeOK.later {b0 : Nat} {w w' : World} {d : De} (h : DeOK b0 w d) (hb : Below w.heap.size w w') : DeOK b0 w' d := ⟨h.1.later hb, h.2.1.later hb, h.2.2⟩

/-- a handle that Alloc returned, and its node, with the place of its children -/
structure Kn where
  h : Int
  x : Nd
  a : Option Addr
  c : Nat
def fKn (k : Kn) : List Value := [.int .u64 k.h, .int .i64 k.x.h, .string k.x.text, .slice k.a k.x.kids.length k.c]
theorem fKn_len (k : Kn) : (fKn k).length = 4 := rfl
def KnOK (b0 : Nat) (w : World) (k : Kn) : Prop := KsOK b0 w k.a k.x.kids.length k.c k.x.kids ∧ checkN k.x = 0 ∧ 0 ≤ k.h ∧ k.h ≤ 18446744073709551615
def AllK (b0 : Nat) (w : World) (v : Value) (L : List Kn) : Prop := w.ownsRow b0 50 4 v L.length (flatR fKn L) ∧ ∀ k ∈ L, KnOK b0 w k
theorem own_keep4 {w w' : World} {B s : Nat} {t : TypeId} {v : Value} {n : Nat} {l : List Value} (h : w.ownsRow B t s v n l) (hk : ∀ q, v.ownBlock = some q → w'.heap[q]? = w.heap[q]?) : w'.ownsRow B t s v n l := by
  obtain ⟨h0, h | ⟨g, cap', cur, h1, hg, h2, h3⟩⟩ := h
  · exact ⟨h0, .inl h⟩
  · exact ⟨h0, .inr ⟨g, cap', cur, h1, hg, by rw [hk g (by rw [h1]; rfl)]; exact h2, h3⟩⟩
theorem own_typ4 {w : World} {B s : Nat} {t : TypeId} {v : Value} {n : Nat} {l : List Value} (h : w.ownsRow B t s v n l) {q : Nat} (hq : v.ownBlock = some q) : B ≤ q ∧ ∃ cur, w.heap[q]? = some (.cells cur t (0, 0)) := by
  obtain ⟨-, ⟨h, -⟩ | ⟨g, cap', cur, h1, hg, h2, -⟩⟩ := h
  · subst h; cases hq
  · subst h1; cases hq; exact ⟨hg, cur, h2⟩
theorem AllK.nil (b0 : Nat) (w : World) : AllK b0 w (.slice none 0 0) [] := ⟨World.ownsRow_nil _ _ _ _, fun _ h => nomatch h⟩
theorem AllK.below {b0 : Nat} {w w' : World} {v : Value} {L : List Kn} (h : AllK b0 w v L) (k : Below w.heap.size w w') : AllK b0 w' v L :=
  ⟨own_keep4 h.1 fun q hq => by obtain ⟨-, cur, hc⟩ := own_typ4 h.1 hq; exact k.block q (block_lt hc), fun x hx => ⟨(h.2 x hx).1.later k, (h.2 x hx).2⟩⟩
theorem AllK.turn {b0 : Nat} {w w' : World} {v : Value} {L : List Kn} (h : AllK b0 w v L) {B : PB} {A : AS} (ha : IsA w B A) (hg : B.ge b0) (k : KeepA B w w') : AllK b0 w' v L := by
  refine ⟨own_keep4 h.1 fun q hq => ?_, fun x hx => ⟨(h.2 x hx).1.turn ha hg k, (h.2 x hx).2⟩⟩
  obtain ⟨-, cur, hc⟩ := own_typ4 h.1 hq
  refine k.2 q (block_lt hc) fun ho => ?_
  obtain ⟨h0, ⟨l0, ⟨c1, l1, _⟩, ⟨c2, l2, _⟩, ⟨c3, l3, _⟩⟩, es, clock, h2, h3⟩ := ha
  rcases ho with rfl | rfl | rfl | rfl | rfl | rfl
  · rw [h0] at hc; injection hc with hc; injection hc with _ hc; revert hc; decide
  · rw [h2] at hc; cases hc
  · rw [l0] at hc; injection hc with hc; injection hc with _ hc; revert hc; decide
  · rw [l1] at hc; injection hc with hc; injection hc with _ hc; revert hc; decide
  · rw [l2] at hc; injection hc with hc; injection hc with _ hc; revert hc; decide
  · rw [l3] at hc; injection hc with hc; injection hc with _ hc; revert hc; decide
theorem AllK.form {b0 : Nat} {w : World} {v : Value} {L : List Kn} (h : AllK b0 w v L) : ∃ ao c, v = .slice ao L.length c ∧ (∀ i (hi : i < L.length), ∃ b, ao = some ⟨b, 0, none⟩ ∧ b < w.heap.size ∧ (w.cell? ⟨b, i * 4, none⟩ = some (.int .u64 L[i].h) ∧ w.cell? ⟨b, i * 4 + 1, none⟩ = some (.int .i64 L[i].x.h) ∧ w.cell? ⟨b, i * 4 + 2, none⟩ = some (.string L[i].x.text) ∧ w.cell? ⟨b, i * 4 + 3, none⟩ = some (.slice L[i].a L[i].x.kids.length L[i].c)) ∧ ∀ o, w.frozen? ⟨b, o, none⟩ = false) := by
  obtain ⟨ao, cap, e, hr, h4, h5⟩ := IsR.owned fKn_len rfl h.1
  refine ⟨ao, cap, e, fun i hi => ?_⟩
  obtain ⟨b, off, e2, hlt, hc⟩ := hr.2 (by omega)
  obtain ⟨g, e3, -, -⟩ := h5 (by omega)
  rw [e2] at e3; injection e3 with e3; injection e3 with e3 e4
  subst e3 e4
  refine ⟨b, e2, hlt, ?_, fun o => ?_⟩
  · have g := fun j (u : Value) (hj : (fKn L[i])[j]? = some u) => row_at fKn_len (off := 0) hc i hi j u hj
    simp only [Nat.zero_add] at g
    exact ⟨g 0 _ rfl, g 1 _ rfl, g 2 _ rfl, g 3 _ rfl⟩
  · obtain ⟨-, ⟨h, -⟩ | ⟨g, cap', cur, k1, hg, k2, -⟩⟩ := h.1
    · rw [h] at e; injection e with e; rw [e2] at e; cases e
    · rw [k1] at e; injection e with e; rw [e2] at e; injection e with e; injection e with e
      rw [← e]
      exact block_free k2 o

/-! ### the node of a deed -/
def pickK (L : List Kn) (i : Int) : Kn := L.getD (i % (L.length : Int)).toNat ⟨0, noN, none, 0⟩
def kidOf (k : Kn) : Kid := (k.h, measN k.x)
def innerKids (L : List Kn) (l : List Int) (m : Nat) : List Kid := (l.take m).map fun i => kidOf (pickK L i)
def innerH (L : List Kn) (l : List Int) (m : Nat) : Int := if m = 0 then 0 else (pickK L (l.getD 0 0)).x.h + 1
def inN (L : List Kn) (l : List Int) : Nat := if L.length = 0 then 0 else min l.length 5
def tE : ByteArray := ⟨#[97, 98, 99, 100, 101, 102, 103, 104]⟩
def nodeD (L : List Kn) (d : De) : Option Nd :=
  if d.k % 8 = 0 ∨ d.k % 8 = 1 then some ⟨0, if d.t.size = 0 then tE else d.t, []⟩
  else if d.k % 8 = 2 ∨ d.k % 8 = 3 then some ⟨innerH L d.l (inN L d.l), ⟨#[]⟩, innerKids L d.l (inN L d.l)⟩
  else if d.k % 8 = 4 then some d.x else none
/-- what node returns -/
def NodeR (b0 : Nat) (w : World) (o : Option Nd) (e : Ending) (w' : World) : Prop :=
  ∃ ao c, e = .returned (.tuple #[aggN (o.getD noN).h (o.getD noN).text ao (o.getD noN).kids.length c, .bool o.isSome]) ∧ KsOK b0 w' ao (o.getD noN).kids.length c (o.getD noN).kids ∧ Below w.heap.size w w'
theorem pick_in {L : List Kn} (hL : 0 < L.length) (i : Int) : ∃ j : Nat, j < L.length ∧ i % (L.length : Int) = j ∧ ∀ h : j < L.length, pickK L i = L[j] := by
  obtain ⟨a, h1, h2⟩ := mod_nat i L.length hL
  refine ⟨a, h1, h2, fun h => ?_⟩
  unfold pickK
  rw [h2, List.getD_eq_getElem?_getD, show ((a : Int)).toNat = a from rfl, List.getElem?_eq_getElem h]
  rfl
theorem innerKids_succ (L : List Kn) (l : List Int) (k : Nat) (h : k < l.length) : innerKids L l (k + 1) = innerKids L l k ++ [kidOf (pickK L l[k])] := by
  unfold innerKids
  rw [List.take_succ_eq_append_getElem h, List.map_append]
  rfl
theorem innerKids_len (L : List Kn) (l : List Int) (k : Nat) (h : k ≤ l.length) : (innerKids L l k).length = k := by
  unfold innerKids
  rw [List.length_map, List.length_take]
  omega
theorem mod8 {n a : Int} (h : n % 8 = a) (w : World) : Calls Try.prog 15 #[.int .i64 n, .int .i64 8] w fun e w' => e = .returned (.int .i64 a) ∧ w = w' := by
  have := mod13_any n 8 w (by decide) (by decide)
  rwa [h] at this
theorem text_empty {t : ByteArray} (h : t.size = 0) : t = ⟨#[]⟩ := by
  obtain ⟨a⟩ := t
  have : a = #[] := Array.eq_empty_of_size_eq_zero h
  rw [this]
theorem text_some {t : ByteArray} (h : t.size ≠ 0) : t.toList.isEmpty = false := by
  rw [ByteArray.toList_eq]
  rcases hh : t.data.toList with _ | _
  · exact absurd (by show t.data.size = 0; rw [← Array.length_toList, hh]; rfl) h
  · rfl

set_option maxRecDepth 100000 in
set_option maxHeartbeats 400000 in
theorem node_leaf0e (b0 : Nat) (L : List Kn) (vA : Value) (d : De) (w : World) (hd : DeOK b0 w d) (hA : AllK b0 w vA L) (ha : d.k % 8 = 0) (ht : d.t.size = 0) :
    Calls Try.prog 24 #[deV d, vA] w fun e w' => NodeR b0 w (nodeD L d) e w' := by
  have HR := Lib.hid (show nodeD L d = some ⟨0, tE, []⟩ by unfold nodeD; rw [if_pos (.inl ha), if_pos ht])
  have HM := Lib.hid (mod8 ha)
  have HT := Lib.hid (text_empty ht)
  clear hd hA ha ht
  unfold deV
  rw [HT.out]
  go_enter Try.func24, Try.ntmps24
  go_wp2_with fail
  refine (HM.out _).mono ?_; rintro e w1 ⟨rfl, rfl⟩
  go_wp2_with fail
  have hb0 := block_new' (w.alloc (.cells #[.int .i64 d.k, .string ⟨#[]⟩, .slice d.la d.l.length d.lc, .int .i64 d.x.h, .string d.x.text, .slice d.xa d.x.kids.length d.xc, .int .u64 d.h] 48)) (.cells #[.int .i64 0, .string ⟨#[97, 98, 99, 100, 101, 102, 103, 104]⟩, .slice none 0 0] 36) (w.heap.size + 1) (by simp)
  have hbl := ((Below.refl w.heap.size w).alloc (Nat.le_refl _) (.cells #[.int .i64 d.k, .string ⟨#[]⟩, .slice d.la d.l.length d.lc, .int .i64 d.x.h, .string d.x.text, .slice d.xa d.x.kids.length d.xc, .int .u64 d.h] 48)).alloc (by simp) (.cells #[.int .i64 0, .string ⟨#[97, 98, 99, 100, 101, 102, 103, 104]⟩, .slice none 0 0] 36)
  exact bodyPost_ret (res3_tmp Try.results24 (Try.isAgg36 _) (Try.sizeOf36 _) rfl hb0) rfl (by rw [HR.out]; exact ⟨none, 0, rfl, KsOK.nil _ _, hbl⟩)

set_option maxRecDepth 100000 in
set_option maxHeartbeats 400000 in
theorem node_leaf0s (b0 : Nat) (L : List Kn) (vA : Value) (d : De) (w : World) (hd : DeOK b0 w d) (hA : AllK b0 w vA L) (ha : d.k % 8 = 0) (ht : d.t.size ≠ 0) :
    Calls Try.prog 24 #[deV d, vA] w fun e w' => NodeR b0 w (nodeD L d) e w' := by
  have HR := Lib.hid (show nodeD L d = some ⟨0, d.t, []⟩ by unfold nodeD; rw [if_pos (.inl ha), if_neg ht])
  have HM := Lib.hid (mod8 ha)
  have ht2 := text_some ht
  clear hd hA ha ht
  unfold deV
  go_enter Try.func24, Try.ntmps24
  go_wp2_with fail
  refine (HM.out _).mono ?_; rintro e w1 ⟨rfl, rfl⟩
  go_wp2_with fail
  have hb0 := block_new' (w.alloc (.cells #[.int .i64 d.k, .string d.t, .slice d.la d.l.length d.lc, .int .i64 d.x.h, .string d.x.text, .slice d.xa d.x.kids.length d.xc, .int .u64 d.h] 48)) (.cells #[.int .i64 0, .string d.t, .slice none 0 0] 36) (w.heap.size + 1) (by simp)
  have hbl := ((Below.refl w.heap.size w).alloc (Nat.le_refl _) (.cells #[.int .i64 d.k, .string d.t, .slice d.la d.l.length d.lc, .int .i64 d.x.h, .string d.x.text, .slice d.xa d.x.kids.length d.xc, .int .u64 d.h] 48)).alloc (by simp) (.cells #[.int .i64 0, .string d.t, .slice none 0 0] 36)
  exact bodyPost_ret (res3_tmp Try.results24 (Try.isAgg36 _) (Try.sizeOf36 _) rfl hb0) rfl (by rw [HR.out]; exact ⟨none, 0, rfl, KsOK.nil _ _, hbl⟩)

set_option maxRecDepth 100000 in
set_option maxHeartbeats 400000 in
theorem node_leaf1e (b0 : Nat) (L : List Kn) (vA : Value) (d : De) (w : World) (hd : DeOK b0 w d) (hA : AllK b0 w vA L) (ha : d.k % 8 = 1) (ht : d.t.size = 0) :
    Calls Try.prog 24 #[deV d, vA] w fun e w' => NodeR b0 w (nodeD L d) e w' := by
  have HR := Lib.hid (show nodeD L d = some ⟨0, tE, []⟩ by unfold nodeD; rw [if_pos (.inr ha), if_pos ht])
  have HM := Lib.hid (mod8 ha)
  have HT := Lib.hid (text_empty ht)
  clear hd hA ha ht
  unfold deV
  rw [HT.out]
  go_enter Try.func24, Try.ntmps24
  go_wp2_with fail
  refine (HM.out _).mono ?_; rintro e w1 ⟨rfl, rfl⟩
  go_wp2_with fail
  have hb0 := block_new' (w.alloc (.cells #[.int .i64 d.k, .string ⟨#[]⟩, .slice d.la d.l.length d.lc, .int .i64 d.x.h, .string d.x.text, .slice d.xa d.x.kids.length d.xc, .int .u64 d.h] 48)) (.cells #[.int .i64 0, .string ⟨#[97, 98, 99, 100, 101, 102, 103, 104]⟩, .slice none 0 0] 36) (w.heap.size + 1) (by simp)
  have hbl := ((Below.refl w.heap.size w).alloc (Nat.le_refl _) (.cells #[.int .i64 d.k, .string ⟨#[]⟩, .slice d.la d.l.length d.lc, .int .i64 d.x.h, .string d.x.text, .slice d.xa d.x.kids.length d.xc, .int .u64 d.h] 48)).alloc (by simp) (.cells #[.int .i64 0, .string ⟨#[97, 98, 99, 100, 101, 102, 103, 104]⟩, .slice none 0 0] 36)
  exact bodyPost_ret (res3_tmp Try.results24 (Try.isAgg36 _) (Try.sizeOf36 _) rfl hb0) rfl (by rw [HR.out]; exact ⟨none, 0, rfl, KsOK.nil _ _, hbl⟩)

set_option maxRecDepth 100000 in
set_option maxHeartbeats 400000 in
theorem node_leaf1s (b0 : Nat) (L : List Kn) (vA : Value) (d : De) (w : World) (hd : DeOK b0 w d) (hA : AllK b0 w vA L) (ha : d.k % 8 = 1) (ht : d.t.size ≠ 0) :
    Calls Try.prog 24 #[deV d, vA] w fun e w' => NodeR b0 w (nodeD L d) e w' := by
  have HR := Lib.hid (show nodeD L d = some ⟨0, d.t, []⟩ by unfold nodeD; rw [if_pos (.inr ha), if_neg ht])
  have HM := Lib.hid (mod8 ha)
  have ht2 := text_some ht
  clear hd hA ha ht
  unfold deV
  go_enter Try.func24, Try.ntmps24
  go_wp2_with fail
  refine (HM.out _).mono ?_; rintro e w1 ⟨rfl, rfl⟩
  go_wp2_with fail
  have hb0 := block_new' (w.alloc (.cells #[.int .i64 d.k, .string d.t, .slice d.la d.l.length d.lc, .int .i64 d.x.h, .string d.x.text, .slice d.xa d.x.kids.length d.xc, .int .u64 d.h] 48)) (.cells #[.int .i64 0, .string d.t, .slice none 0 0] 36) (w.heap.size + 1) (by simp)
  have hbl := ((Below.refl w.heap.size w).alloc (Nat.le_refl _) (.cells #[.int .i64 d.k, .string d.t, .slice d.la d.l.length d.lc, .int .i64 d.x.h, .string d.x.text, .slice d.xa d.x.kids.length d.xc, .int .u64 d.h] 48)).alloc (by simp) (.cells #[.int .i64 0, .string d.t, .slice none 0 0] 36)
  exact bodyPost_ret (res3_tmp Try.results24 (Try.isAgg36 _) (Try.sizeOf36 _) rfl hb0) rfl (by rw [HR.out]; exact ⟨none, 0, rfl, KsOK.nil _ _, hbl⟩)

set_option maxRecDepth 100000 in
set_option maxHeartbeats 400000 in
theorem node_raw (b0 : Nat) (L : List Kn) (vA : Value) (d : De) (w : World) (hd : DeOK b0 w d) (hA : AllK b0 w vA L) (ha : d.k % 8 = 4) :
    Calls Try.prog 24 #[deV d, vA] w fun e w' => NodeR b0 w (nodeD L d) e w' := by
  have HR := Lib.hid (show nodeD L d = some d.x by unfold nodeD; rw [if_neg (by omega), if_neg (by omega), if_pos ha])
  have HM := Lib.hid (mod8 ha)
  have HD := Lib.hid hd
  clear hd hA ha
  unfold deV
  go_enter Try.func24, Try.ntmps24
  go_wp2_with fail
  refine (HM.out _).mono ?_; rintro e w1 ⟨rfl, rfl⟩
  go_wp2_with fail
  have hb0 := block_new' (w.alloc (.cells #[.int .i64 d.k, .string d.t, .slice d.la d.l.length d.lc, .int .i64 d.x.h, .string d.x.text, .slice d.xa d.x.kids.length d.xc, .int .u64 d.h] 48)) (.cells #[.int .i64 d.x.h, .string d.x.text, .slice d.xa d.x.kids.length d.xc] 36) (w.heap.size + 1) (by simp)
  have hbl := ((Below.refl w.heap.size w).alloc (Nat.le_refl _) (.cells #[.int .i64 d.k, .string d.t, .slice d.la d.l.length d.lc, .int .i64 d.x.h, .string d.x.text, .slice d.xa d.x.kids.length d.xc, .int .u64 d.h] 48)).alloc (by simp) (.cells #[.int .i64 d.x.h, .string d.x.text, .slice d.xa d.x.kids.length d.xc] 36)
  exact bodyPost_ret (res3_tmp Try.results24 (Try.isAgg36 _) (Try.sizeOf36 _) rfl hb0) rfl (by rw [HR.out]; exact ⟨_, _, rfl, HD.out.2.1.later hbl, hbl⟩)

set_option maxRecDepth 100000 in
set_option maxHeartbeats 400000 in
theorem node_no5 (b0 : Nat) (L : List Kn) (vA : Value) (d : De) (w : World) (hd : DeOK b0 w d) (hA : AllK b0 w vA L) (ha : d.k % 8 = 5) :
    Calls Try.prog 24 #[deV d, vA] w fun e w' => NodeR b0 w (nodeD L d) e w' := by
  have HR := Lib.hid (show nodeD L d = none by unfold nodeD; rw [if_neg (by omega), if_neg (by omega), if_neg (by omega)])
  have HM := Lib.hid (mod8 ha)
  clear hd hA ha
  unfold deV
  go_enter Try.func24, Try.ntmps24
  go_wp2_with fail
  refine (HM.out _).mono ?_; rintro e w1 ⟨rfl, rfl⟩
  go_wp2_with fail
  have hb0 := block_new' (w.alloc (.cells #[.int .i64 d.k, .string d.t, .slice d.la d.l.length d.lc, .int .i64 d.x.h, .string d.x.text, .slice d.xa d.x.kids.length d.xc, .int .u64 d.h] 48)) (.cells #[.int .i64 0, .string ⟨#[]⟩, .slice none 0 0] 36) (w.heap.size + 1) (by simp)
  have hbl := ((Below.refl w.heap.size w).alloc (Nat.le_refl _) (.cells #[.int .i64 d.k, .string d.t, .slice d.la d.l.length d.lc, .int .i64 d.x.h, .string d.x.text, .slice d.xa d.x.kids.length d.xc, .int .u64 d.h] 48)).alloc (by simp) (.cells #[.int .i64 0, .string ⟨#[]⟩, .slice none 0 0] 36)
  exact bodyPost_ret (res3_tmp Try.results24 (Try.isAgg36 _) (Try.sizeOf36 _) rfl hb0) rfl (by rw [HR.out]; exact ⟨none, 0, rfl, KsOK.nil _ _, hbl⟩)

set_option maxRecDepth 100000 in
set_option maxHeartbeats 400000 in
theorem node_no6 (b0 : Nat) (L : List Kn) (vA : Value) (d : De) (w : World) (hd : DeOK b0 w d) (hA : AllK b0 w vA L) (ha : d.k % 8 = 6) :
    Calls Try.prog 24 #[deV d, vA] w fun e w' => NodeR b0 w (nodeD L d) e w' := by
  have HR := Lib.hid (show nodeD L d = none by unfold nodeD; rw [if_neg (by omega), if_neg (by omega), if_neg (by omega)])
  have HM := Lib.hid (mod8 ha)
  clear hd hA ha
  unfold deV
  go_enter Try.func24, Try.ntmps24
  go_wp2_with fail
  refine (HM.out _).mono ?_; rintro e w1 ⟨rfl, rfl⟩
  go_wp2_with fail
  have hb0 := block_new' (w.alloc (.cells #[.int .i64 d.k, .string d.t, .slice d.la d.l.length d.lc, .int .i64 d.x.h, .string d.x.text, .slice d.xa d.x.kids.length d.xc, .int .u64 d.h] 48)) (.cells #[.int .i64 0, .string ⟨#[]⟩, .slice none 0 0] 36) (w.heap.size + 1) (by simp)
  have hbl := ((Below.refl w.heap.size w).alloc (Nat.le_refl _) (.cells #[.int .i64 d.k, .string d.t, .slice d.la d.l.length d.lc, .int .i64 d.x.h, .string d.x.text, .slice d.xa d.x.kids.length d.xc, .int .u64 d.h] 48)).alloc (by simp) (.cells #[.int .i64 0, .string ⟨#[]⟩, .slice none 0 0] 36)
  exact bodyPost_ret (res3_tmp Try.results24 (Try.isAgg36 _) (Try.sizeOf36 _) rfl hb0) rfl (by rw [HR.out]; exact ⟨none, 0, rfl, KsOK.nil _ _, hbl⟩)

set_option maxRecDepth 100000 in
set_option maxHeartbeats 400000 in
theorem node_no7 (b0 : Nat) (L : List Kn) (vA : Value) (d : De) (w : World) (hd : DeOK b0 w d) (hA : AllK b0 w vA L) (ha : d.k % 8 = 7) :
    Calls Try.prog 24 #[deV d, vA] w fun e w' => NodeR b0 w (nodeD L d) e w' := by
  have HR := Lib.hid (show nodeD L d = none by unfold nodeD; rw [if_neg (by omega), if_neg (by omega), if_neg (by omega)])
  have HM := Lib.hid (mod8 ha)
  clear hd hA ha
  unfold deV
  go_enter Try.func24, Try.ntmps24
  go_wp2_with fail
  refine (HM.out _).mono ?_; rintro e w1 ⟨rfl, rfl⟩
  go_wp2_with fail
  have hb0 := block_new' (w.alloc (.cells #[.int .i64 d.k, .string d.t, .slice d.la d.l.length d.lc, .int .i64 d.x.h, .string d.x.text, .slice d.xa d.x.kids.length d.xc, .int .u64 d.h] 48)) (.cells #[.int .i64 0, .string ⟨#[]⟩, .slice none 0 0] 36) (w.heap.size + 1) (by simp)
  have hbl := ((Below.refl w.heap.size w).alloc (Nat.le_refl _) (.cells #[.int .i64 d.k, .string d.t, .slice d.la d.l.length d.lc, .int .i64 d.x.h, .string d.x.text, .slice d.xa d.x.kids.length d.xc, .int .u64 d.h] 48)).alloc (by simp) (.cells #[.int .i64 0, .string ⟨#[]⟩, .slice none 0 0] 36)
  exact bodyPost_ret (res3_tmp Try.results24 (Try.isAgg36 _) (Try.sizeOf36 _) rfl hb0) rfl (by rw [HR.out]; exact ⟨none, 0, rfl, KsOK.nil _ _, hbl⟩)

end Go.Proofs.Ytfgkbnnojogjpaa
