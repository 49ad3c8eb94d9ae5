/- The arena: what the laws on calls share: growth and stores in blocks of no arena's; slices of marks; every handle's node. -/
import Derived.Test.YtfgkbnnojogjpaaQp
namespace Go.Proofs.Ytfgkbnnojogjpaa
open Go.RowKit
set_option linter.unusedVariables false

/-- a type that no block of an arena's, of children or of known nodes has -/
structure Plain (T : TypeId) : Prop where
  n1 : T ≠ 88
  n2 : T ≠ 109
  n3 : T ≠ 3
  n4 : T ≠ 112
  n5 : T ≠ 22
  n6 : T ≠ 64
  n7 : T ≠ 50
theorem plainB : Plain 4 := ⟨by decide, by decide, by decide, by decide, by decide, by decide, by decide⟩
theorem plainN : Plain 36 := ⟨by decide, by decide, by decide, by decide, by decide, by decide, by decide⟩
theorem plainS : Plain 38 := ⟨by decide, by decide, by decide, by decide, by decide, by decide, by decide⟩
theorem IsA.nownP {w : World} {B : PB} {A : AS} (h : IsA w B A) {S : Nat} {cs : Array Value} {T : TypeId} {fr : Nat × Nat} (hc : w.heap[S]? = some (.cells cs T fr)) (hT : Plain T) : ¬ B.own S := h.nownT hc hT.n1 hT.n2 hT.n3 hT.n4 hT.n5
theorem St.setP {w0 w : World} {B : PB} {A : AS} {v : Value} {L : List Kn} (h : St w0 w B A v L) {S i : Nat} {cs : Array Value} {T : TypeId} (hS : w0.heap.size ≤ S) (hc : w.heap[S]? = some (.cells cs T (0, 0))) (hT : Plain T) (x : Value) : St w0 (w.setCell ⟨S, i, none⟩ x) B A v L :=
  ⟨h.s.set hS (h.s.is.nownP hc hT) (notKb hc hT.n6) x, h.a.set hS hc hT.n6 hT.n7 x⟩
theorem St.grownP {w0 w w' : World} {B : PB} {A : AS} {v : Value} {L : List Kn} (h : St w0 w B A v L) {row : Option Nat} (hg : w.grownBy w' row) {T : TypeId} (hT : Plain T) (hr : ∀ q, row = some q → w0.heap.size ≤ q ∧ ∃ cs, w.heap[q]? = some (.cells cs T (0, 0))) : St w0 w' B A v L := by
  refine ⟨⟨h.s.is.keep fun q hq => hg.block q (h.s.is.lt hq) (fun e => ?_), h.s.inv, h.s.cnt, h.s.ge, h.s.low.grown hg h.s.low.size fun q hq => (hr q hq).1⟩, own_keep4 h.a.1 fun q hq => hg.block q ?_ (fun e => ?_), fun k hk => ⟨(h.a.2 k hk).1.keep fun q hq hc => hg.block q hq (fun e => ?_), (h.a.2 k hk).2⟩⟩
  · obtain ⟨-, cs, hc⟩ := hr q e.symm
    rcases hq with hq | hq
    · exact h.s.is.nownP hc hT hq
    · exact notKb hc hT.n6 hq
  · obtain ⟨-, cur, hc⟩ := own_typ4 h.a.1 hq
    exact block_lt hc
  · obtain ⟨-, cs, hc⟩ := hr q e.symm
    obtain ⟨-, cur, hq⟩ := own_typ4 h.a.1 hq
    rw [hc] at hq; injection hq with hq; injection hq with _ hq; exact hT.n7 hq
  · obtain ⟨hb, cs, hcs⟩ := hr q e.symm
    rcases hc with hc | hc
    · omega
    · exact notKb hcs hT.n6 hc
theorem St.drewN {w0 w : World} {B : PB} {A : AS} {v : Value} {L : List Kn} (h : St w0 w B A v L) (n : Nat) : St w0 (w.drewN n) B A v L := ⟨h.s.drewN n, h.a.1, h.a.2⟩
theorem AllK.at {b0 : Nat} {w : World} {ao : Option Addr} {n c : Nat} {L : List Kn} (h : AllK b0 w (.slice ao n c) L) {i : Nat} (hi : i < L.length) : ∃ b, ao = some ⟨b, 0, none⟩ ∧ b < w.heap.size ∧ (w.cell? ⟨b, i * 4, none⟩ = some (.int .u64 L[i].h) ∧ w.cell? ⟨b, i * 4 + 1, none⟩ = some (.int .i64 L[i].x.h) ∧ w.cell? ⟨b, i * 4 + 2, none⟩ = some (.string L[i].x.text) ∧ w.cell? ⟨b, i * 4 + 3, none⟩ = some (.slice L[i].a L[i].x.kids.length L[i].c)) ∧ KnOK b0 w L[i] := by
  obtain ⟨ao', c', e, hat⟩ := h.form
  injection e with e1 e2 e3
  subst e1
  obtain ⟨b, h1, h2, h3, -⟩ := hat i hi
  exact ⟨b, h1, h2, h3, h.2 _ (List.getElem_mem hi)⟩

/-! ### a slice of marks -/
def DB (w : World) (B : Nat) (v : Value) (n : Nat) (f : Nat → Bool) : Prop := w.ownsRow B 4 1 v n ((List.range n).map fun i => .bool (f i))
theorem DB.nil (w : World) (B : Nat) (f : Nat → Bool) : DB w B (.slice none 0 0) 0 f := World.ownsRow_nil _ _ _ _
theorem DB.congr {w : World} {B : Nat} {v : Value} {n : Nat} {f g : Nat → Bool} (h : DB w B v n f) (e : ∀ i, i < n → f i = g i) : DB w B v n g := by
  have : (List.range n).map (fun i => Value.bool (f i)) = (List.range n).map (fun i => Value.bool (g i)) := List.map_congr_left fun i hi => by rw [e i (List.mem_range.1 hi)]
  unfold DB at h ⊢
  rwa [this] at h
theorem DB.slice {w : World} {B : Nat} {v : Value} {n : Nat} {f : Nat → Bool} (h : DB w B v n f) : ∃ ao c, v = .slice ao n c := by
  obtain ⟨-, ⟨rfl, rfl⟩ | ⟨g, cap, cur, rfl, -⟩⟩ := h
  · exact ⟨none, 0, rfl⟩
  · exact ⟨_, _, rfl⟩
theorem DB.at {w : World} {B : Nat} {ao : Option Addr} {n c : Nat} {f : Nat → Bool} (h : DB w B (.slice ao n c) n f) {i : Nat} (hi : i < n) :
    ∃ b cs, ao = some ⟨b, 0, none⟩ ∧ B ≤ b ∧ w.heap[b]? = some (.cells cs 4 (0, 0)) ∧ w.cell? ⟨b, i, none⟩ = some (.bool (f i)) ∧ w.frozen? ⟨b, i, none⟩ = false ∧ ∀ x, DB (w.setCell ⟨b, i, none⟩ (.bool x)) B (.slice ao n c) n (fun k => if k = i then x else f k) := by
  obtain ⟨hl, ⟨h1, h2⟩ | ⟨g, cap, cur, h1, hg, hb, hn, hm, hs, ht⟩⟩ := h
  · omega
  · injection h1 with h1 _ h3
    subst h1 h3
    refine ⟨g, cur, rfl, hg, hb, ?_, block_free hb i, fun x => ⟨by simp, .inr ⟨g, c, cur.setIfInBounds i (.bool x), rfl, hg, block_setCell hb i _, hn, hm, by simp [hs], ?_⟩⟩⟩
    · have := congrArg (fun l => l[i]?) ht
      simp only [Nat.mul_one, List.getElem?_take, Array.getElem?_toList] at this
      rw [if_pos hi] at this
      rw [block_cell hb i, this]
      simp [hi]
    · rw [Array.toList_setIfInBounds, List.take_set, ht]
      apply List.ext_getElem?
      intro k
      rw [List.getElem?_set]
      by_cases e : i = k
      · subst e
        simp [hi]
      · rw [if_neg e]
        by_cases hk : k < n
        · simp [hk, Ne.symm e]
        · simp [hk]
theorem DB.keep {w w' : World} {B : Nat} {v : Value} {n : Nat} {f : Nat → Bool} (h : DB w B v n f) (k : ∀ q cs, B ≤ q → w.heap[q]? = some (.cells cs 4 (0, 0)) → w'.heap[q]? = w.heap[q]?) : DB w' B v n f :=
  own_keep h fun q hq => by
    obtain ⟨cs, hc⟩ := own_typ h hq
    exact k q cs (own_lt h q hq).1 hc
theorem DB.below {w w' : World} {B : Nat} {v : Value} {n : Nat} {f : Nat → Bool} (h : DB w B v n f) (k : Below w.heap.size w w') : DB w' B v n f := h.keep fun q cs _ hc => k.block q (block_lt hc)
theorem DB.alloc {w : World} {B : Nat} {v : Value} {n : Nat} {f : Nat → Bool} (h : DB w B v n f) (o : Obj) : DB (w.alloc o) B v n f := h.below ((Below.refl _ _).alloc (Nat.le_refl _) o)
theorem DB.turn {w w' : World} {b0 : Nat} {v : Value} {n : Nat} {f : Nat → Bool} (h : DB w b0 v n f) {B : PB} {A : AS} (ha : IsA w B A) (k : KeepA B w w') : DB w' b0 v n f := h.keep fun q cs _ hc => k.2 q (block_lt hc) (ha.nownP hc plainB)
theorem DB.far {w w' : World} {b0 : Nat} {v u : Value} {n : Nat} {f : Nat → Bool} {L : List Kn} (h : DB w b0 v n f) (ha : AllK b0 w u L) (hg : w.grownBy w' u.ownBlock) : DB w' b0 v n f := h.keep fun q cs _ hc => hg.block q (block_lt hc) (fun e => by
  obtain ⟨-, cur, hq⟩ := own_typ4 ha.1 e.symm
  rw [hc] at hq; injection hq with hq; injection hq with _ hq; exact plainB.n7 hq)
theorem DB.row {w : World} {B : Nat} {v : Value} {n : Nat} {f : Nat → Bool} (h : DB w B v n f) : ∀ q, v.ownBlock = some q → B ≤ q ∧ ∃ cs, w.heap[q]? = some (.cells cs 4 (0, 0)) := fun q hq => ⟨(own_lt h q hq).1, own_typ h hq⟩
theorem DB.push {w : World} {B : Nat} {v : Value} {n : Nat} {f : Nat → Bool} (h : w.ownsRow B 4 1 v (n + 1) (((List.range n).map fun i => .bool (f i)) ++ [.bool (f n)])) : DB w B v (n + 1) f := by
  unfold DB
  rw [List.range_succ, List.map_append]
  exact h
theorem infoBo : (Try.prog.info? 4).map (fun i => (i.zero, i.size, i.bytes)) = some (some (.bool false), 1, 1) := by kernel_rfl
theorem newsBo {x : Bool} {w : World} {b : Nat} (h : w.heap[b]? = some (.cells #[.bool x] 4 (0, 0))) : ∀ j u, ([.bool x] : List Value)[j]? = some u → w.cell? ((⟨b, 0, none⟩ : Addr).add j) = some u := by
  intro j u hj
  rw [add_to, block_cell h, Nat.zero_add, ← hj]
  exact (Array.getElem?_toList).symm
theorem oneBo (x : Bool) : ∀ u ∈ ([.bool x] : List Value), u.oneCell' = true := by
  intro u hu
  rw [List.mem_singleton.1 hu]
  rfl

/-! ### every handle and its node -/
def hsL (L : List Kn) : List Int := L.map (·.h)
structure KI (A : AS) (L : List Kn) : Prop where
  hi : HInv A.x (hsL L)
  lk : ∀ k ∈ L, liveL A.x k.h → lookI A.it k.h = some k.x
theorem KI.nil (n g : Nat) : KI (newA n g) [] := ⟨HInv.nil n g, fun _ h => nomatch h⟩
theorem KI.same {A A' : AS} {L : List Kn} (h : KI A L) (hx : A'.x = A.x) (hi : A'.it = A.it) : KI A' L := ⟨by rw [hx]; exact h.hi, fun k hk hl => by rw [hi]; exact h.lk k hk (by rw [← hx]; exact hl)⟩
set_option maxRecDepth 100000 in
theorem KI.alloc {A : AS} {L : List Kn} (hi : AInv A) (h : KI A L) {x : Nd} {k : Int} (he : allocR A x = (k, 0)) (a : Option Addr) (c : Nat) :
    KI (allocS A x) (L ++ [⟨k, x, a, c⟩]) ∧ k ∉ hsL L ∧ (∀ t ∈ hsL L, liveL (allocS A x).x t ↔ liveL A.x t) ∧ liveL (allocS A x).x k := by
  obtain ⟨-, -, hm, e, hS⟩ := takeR_two hi (x := x) (by rw [he])
  rw [he] at e
  have e : k = hMk (A.x.sk (A.x.m - 1)) (A.x.gn (A.x.sk (A.x.m - 1))) := e
  have hfr := take_fresh hi.f h.hi hm
  rw [← e] at hfr
  have hlv : ∀ t, liveL (takeL A.x) t ↔ liveL A.x t ∨ t = k := fun t => by rw [live_take hi.f hm, ← e]
  have hkey : k ∉ A.it.map (·.1) := by rw [e]; exact fresh_key hi hm
  rw [hS, he]
  refine ⟨⟨?_, fun q hq hl => ?_⟩, hfr, fun t ht => ?_, (hlv k).2 (.inr rfl)⟩
  · have := h.hi.take hi.f hm
    rw [← e] at this
    show HInv (takeL A.x) (hsL (L ++ [⟨k, x, a, c⟩]))
    unfold hsL
    rw [List.map_append]
    exact this
  · show lookI (A.it ++ [(k, x)]) q.h = some q.x
    rw [lookI_snoc hkey]
    rcases List.mem_append.1 hq with hq | hq
    · have hne : q.h ≠ k := fun e2 => hfr (by rw [← e2]; exact List.mem_map.2 ⟨q, hq, rfl⟩)
      rw [if_neg hne]
      exact h.lk q hq (((hlv q.h).1 hl).resolve_right hne)
    · rw [List.mem_singleton.1 hq, if_pos rfl]
  · show liveL (takeL A.x) t ↔ _
    rw [hlv]
    exact ⟨fun h => h.resolve_right fun e2 => hfr (by rw [← e2]; exact ht), .inl⟩
theorem KI.free {A : AS} {L : List Kn} (hi : AInv A) (h : KI A L) {k : Int} (hl : liveL A.x k) : KI (freeS A k) L ∧ ∀ t, liveL (freeS A k).x t ↔ liveL A.x t ∧ t ≠ k := by
  have hS := freeS_yes hl
  have hlv : ∀ t, liveL (giveS A.x k) t ↔ liveL A.x t ∧ t ≠ k := fun t => live_give hi.f hl t
  rw [hS]
  refine ⟨⟨h.hi.giveS k, fun q hq hq2 => ?_⟩, hlv⟩
  obtain ⟨h1, h2⟩ := (hlv q.h).1 hq2
  show lookI (delI A.it k) q.h = some q.x
  rw [lookI_del _ _ _ h2]
  exact h.lk q hq h1
theorem hsL_mem {L : List Kn} {i : Nat} (hi : i < L.length) : L[i].h ∈ hsL L := List.mem_map.2 ⟨_, List.getElem_mem hi, rfl⟩
def HL (L : List Kn) (i : Nat) : Int := (L.getD i ⟨0, noN, none, 0⟩).h
theorem HL_at {L : List Kn} {i : Nat} (hi : i < L.length) : HL L i = L[i].h := by
  unfold HL
  rw [List.getD_eq_getElem?_getD, List.getElem?_eq_getElem hi]
  rfl
theorem HL_app {L : List Kn} {k : Kn} {i : Nat} (hi : i < L.length) : HL (L ++ [k]) i = HL L i := by
  unfold HL
  rw [List.getD_eq_getElem?_getD, List.getD_eq_getElem?_getD, List.getElem?_append_left hi]
theorem HL_last {L : List Kn} {k : Kn} : HL (L ++ [k]) L.length = k.h := by
  unfold HL
  rw [List.getD_eq_getElem?_getD, List.getElem?_append_right (Nat.le_refl _), Nat.sub_self]
  rfl
def deadB (x : FL) (h : Int) : Bool := decide (¬ liveL x h)
theorem dead_yes {x : FL} {h : Int} (e : ¬ liveL x h) : deadB x h = true := decide_eq_true e
theorem dead_no {x : FL} {h : Int} (e : liveL x h) : deadB x h = false := decide_eq_false fun f => f e
/-- the marks while they are turned: below j by the new list, from j on by the old one -/
def mixD (x1 x0 : FL) (L : List Kn) (j i : Nat) : Bool := if i < j then deadB x1 (HL L i) else deadB x0 (HL L i)
theorem mixD_here (x1 x0 : FL) (L : List Kn) (j : Nat) : mixD x1 x0 L j j = deadB x0 (HL L j) := if_neg (Nat.lt_irrefl _)
theorem mixD_zero (x1 x0 : FL) (L : List Kn) : mixD x1 x0 L 0 = fun i => deadB x0 (HL L i) := funext fun i => if_neg (Nat.not_lt_zero _)
theorem mixD_next {x1 x0 : FL} {L : List Kn} {j : Nat} (e : deadB x1 (HL L j) = deadB x0 (HL L j)) (i : Nat) : mixD x1 x0 L j i = mixD x1 x0 L (j + 1) i := by
  unfold mixD
  by_cases h1 : i < j
  · rw [if_pos h1, if_pos (by omega)]
  · by_cases h2 : i = j
    · subst h2
      rw [if_neg h1, if_pos (by omega), e]
    · rw [if_neg h1, if_neg (by omega)]
theorem mixD_set {x1 x0 : FL} {L : List Kn} {j : Nat} (e : deadB x1 (HL L j) = true) (i : Nat) : (if i = j then true else mixD x1 x0 L j i) = mixD x1 x0 L (j + 1) i := by
  unfold mixD
  by_cases h2 : i = j
  · subst h2
    rw [if_pos rfl, if_pos (by omega), e]
  · rw [if_neg h2]
    by_cases h1 : i < j
    · rw [if_pos h1, if_pos (by omega)]
    · rw [if_neg h1, if_neg (by omega)]
theorem mixD_end {x1 x0 : FL} {L : List Kn} {j : Nat} (i : Nat) (hi : i < j) : mixD x1 x0 L j i = deadB x1 (HL L i) := if_pos hi

/-! ### Get, Live with their answers laid open -/
theorem soloGet_yes (w0 : World) (B : PB) (A : AS) (h : Int) (x : Nd) (w : World) (hs : SoloA w0 w B A) (hb : A.st ≤ 1000000000) (hl : liveL A.x h) (hx : lookI A.it h = some x) :
    Calls Try.prog 21 #[.pointer (some ⟨B.p, 0, none⟩), .int .u64 h] w fun e w' => ∃ ao c, e = .returned (.tuple #[.agg #[.int .i64 x.h, .string x.text, .slice ao x.kids.length c], .int .i64 0]) ∧ KsOK w0.heap.size w' ao x.kids.length c x.kids ∧ SoloA w0 w' B A ∧ KeepA B w w' := by
  refine (soloGet w0 B A h w hs hb).mono ?_
  rintro e w1 ⟨v, rfl, ⟨s, rfl, h1⟩, h2, h3⟩
  have e1 : getE A h = 0 := if_pos hl
  have e2 : getS A h = A := if_pos hl
  have e3 : nodeOf A h = x := by unfold nodeOf; rw [hx]; rfl
  rw [e1]
  rw [e2] at h2
  rw [e3] at h1 ⊢
  obtain ⟨ao, c, rfl, hok⟩ := h1.ok (b0 := w0.heap.size)
  exact ⟨ao, c, rfl, hok, h2, h3⟩
theorem soloGet_no (w0 : World) (B : PB) (A : AS) (h : Int) (w : World) (hs : SoloA w0 w B A) (hb : A.st ≤ 1000000000) (hl : ¬ liveL A.x h) :
    Calls Try.prog 21 #[.pointer (some ⟨B.p, 0, none⟩), .int .u64 h] w fun e w' => ∃ ao c, e = .returned (.tuple #[.agg #[.int .i64 0, .string ⟨#[]⟩, .slice ao 0 c], .int .i64 10]) ∧ SoloA w0 w' B { A with st := A.st + 1 } ∧ KeepA B w w' := by
  refine (soloGet w0 B A h w hs hb).mono ?_
  rintro e w1 ⟨v, rfl, ⟨s, rfl, h1⟩, h2, h3⟩
  have e1 : getE A h = 10 := if_neg hl
  have e2 : getS A h = { A with st := A.st + 1 } := if_neg hl
  have e3 : nodeOf A h = noN := (nodeOf_dead hs.inv hl).1
  rw [e1]
  rw [e2] at h2
  rw [e3] at h1 ⊢
  obtain ⟨ao, c, rfl, -⟩ := h1.ok (b0 := w0.heap.size)
  exact ⟨ao, c, rfl, h2, h3⟩
theorem liveA_yes (B : PB) (A : AS) (h : Int) (w : World) (h0 : 0 ≤ h ∧ h ≤ 18446744073709551615) (ha : IsA w B A) (hl : liveL A.x h) :
    Calls Try.prog 33 #[.pointer (some ⟨B.p, 0, none⟩), .int .u64 h] w fun e w' => e = .returned (.bool true) ∧ ∃ n, w' = w.drewN n := by
  have := liveA_any B A h w h0.1 h0.2 ha
  rwa [decide_eq_true hl] at this
theorem liveA_no (B : PB) (A : AS) (h : Int) (w : World) (h0 : 0 ≤ h ∧ h ≤ 18446744073709551615) (ha : IsA w B A) (hl : ¬ liveL A.x h) :
    Calls Try.prog 33 #[.pointer (some ⟨B.p, 0, none⟩), .int .u64 h] w fun e w' => e = .returned (.bool false) ∧ ∃ n, w' = w.drewN n := by
  have := liveA_any B A h w h0.1 h0.2 ha
  rwa [decide_eq_false hl] at this
theorem equalN_yes (x : Nd) (a a' : Option Addr) (n c c' : Nat) (w : World) (h : IsKs w a x.kids.length x.kids) (h' : IsKs w a' x.kids.length x.kids) (hn : x.kids.length ≤ 9223372036854775807) :
    Calls Try.prog 27 #[.agg #[.int .i64 x.h, .string x.text, .slice a x.kids.length c], .agg #[.int .i64 x.h, .string x.text, .slice a' x.kids.length c']] w fun e w' => e = .returned (.bool true) ∧ Below w.heap.size w w' := by
  have h := equalNode_any x x a a' x.kids.length x.kids.length c c' w h h' hn
  rwa [decide_eq_true rfl] at h
end Go.Proofs.Ytfgkbnnojogjpaa
