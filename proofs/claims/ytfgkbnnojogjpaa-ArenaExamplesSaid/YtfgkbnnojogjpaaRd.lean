/- The arena beside its reference: both in memory; what a call of either, and a write to a block of neither, leaves. -/
import Derived.Test.YtfgkbnnojogjpaaRa
import Derived.Test.YtfgkbnnojogjpaaRb
import Derived.Test.YtfgkbnnojogjpaaRc
namespace Go.Proofs.Ytfgkbnnojogjpaa
open Go.RowKit
set_option linter.unusedVariables false

theorem IsB.fixT {w : World} {b0 : Nat} {C : CB} {A : AS} {v : Value} {M : List Kn} (h : IsB w b0 C A v M) {q : Nat} (hf : C.fix q) {cs : Array Value} {T : TypeId} {fr : Nat × Nat} (hc : w.heap[q]? = some (.cells cs T fr))
    (h1 : T ≠ 94) (h2 : T ≠ 111) (h3 : T ≠ 3) (h4 : T ≠ 22) : False := by
  obtain ⟨h0, ⟨l0, ⟨c1, l1, _⟩, ⟨c2, l2, _⟩, ⟨c3, l3, _⟩, _⟩, -, -⟩ := h
  rcases hf with rfl | rfl | rfl | rfl | rfl
  · rw [h0] at hc; injection hc with hc; injection hc with _ hc; exact h1 hc.symm
  · rw [l0] at hc; injection hc with hc; injection hc with _ hc; exact h2 hc.symm
  · rw [l1] at hc; injection hc with hc; injection hc with _ hc; first | exact h3 hc.symm | exact h4 hc.symm
  · rw [l2] at hc; injection hc with hc; injection hc with _ hc; first | exact h3 hc.symm | exact h4 hc.symm
  · rw [l3] at hc; injection hc with hc; injection hc with _ hc; first | exact h3 hc.symm | exact h4 hc.symm
theorem IsB.turn {w w' : World} {b0 : Nat} {C : CB} {A A1 : AS} {v : Value} {M : List Kn} {B : PB} (h : IsB w b0 C A v M) (ha : IsA w B A1) (hg : B.ge b0) (hap : ∀ q, C.fix q → ¬ B.own q) (k : KeepA B w w') : IsB w' b0 C A v M :=
  h.keep fun q hq hc => k.2 q hq (fun ho => by
    rcases hc with hc | ⟨cur, hc⟩ | hc | hc
    · exact hap q hc ho
    · exact ha.nownT hc (by decide) (by decide) (by decide) (by decide) (by decide) ho
    · have := hg q ho; omega
    · exact ha.ne.2.2 q hc ho)
theorem SoloA.turnB {w0 w w' : World} {C : CB} {A A1 : AS} {v : Value} {M : List Kn} {B : PB} (h : SoloA w0 w B A1) (hb : IsB w w0.heap.size C A v M) (hap : ∀ q, C.fix q → ¬ B.own q) (k : KeepB w0.heap.size C w w') : SoloA w0 w' B A1 :=
  ⟨h.is.keep fun q hq => k.2 q (h.is.lt hq) (fun hf => by
      rcases hq with hq | ⟨cur, hc⟩
      · exact hap q hf hq
      · exact hb.fixT hf hc (by decide) (by decide) (by decide) (by decide)) (fun ⟨cur, hc⟩ => by
      rcases hq with hq | hq
      · exact h.is.nownT hc (by decide) (by decide) (by decide) (by decide) (by decide) hq
      · exact notKb hc (by decide) hq), h.inv, h.cnt, h.ge, h.low.trans k.1⟩
theorem AllK.turnB {w w' : World} {b0 : Nat} {C : CB} {A : AS} {v vA : Value} {M L : List Kn} (h : AllK b0 w vA L) (hb : IsB w b0 C A v M) (k : KeepB b0 C w w') : AllK b0 w' vA L := by
  refine ⟨own_keep4 h.1 fun q hq => ?_, fun x hx => ⟨(h.2 x hx).1.turnB hb k, (h.2 x hx).2⟩⟩
  obtain ⟨-, cur, hc⟩ := own_typ4 h.1 hq
  refine k.2 q (block_lt hc) (fun hf => hb.fixT hf hc (by decide) (by decide) (by decide) (by decide)) (fun ⟨cur2, hc2⟩ => ?_)
  rw [hc] at hc2; injection hc2 with hc2; injection hc2 with _ hc2; revert hc2; decide

structure PairA (w0 w : World) (B : PB) (C : CB) (A A2 : AS) (v : Value) (M : List Kn) (vA : Value) (L : List Kn) : Prop where
  s : SoloA w0 w B A
  b : IsB w w0.heap.size C A2 v M
  k : AllK w0.heap.size w vA L
  f : ∀ q, C.fix q → w0.heap.size ≤ q
  ap : ∀ q, C.fix q → ¬ B.own q
  cs : C.lb.cs ≤ maxLen
section
variable {w0 w w' : World} {B : PB} {C : CB} {A A2 : AS} {v : Value} {M : List Kn} {vA : Value} {L : List Kn}
theorem PairA.below (h : PairA w0 w B C A A2 v M vA L) (k : Below w.heap.size w w') : PairA w0 w' B C A A2 v M vA L := ⟨h.s.below k, h.b.below k, h.k.below k, h.f, h.ap, h.cs⟩
theorem PairA.drewN (h : PairA w0 w B C A A2 v M vA L) (n : Nat) : PairA w0 (w.drewN n) B C A A2 v M vA L := h.below (below_drewN (Below.refl _ _) n)
theorem PairA.alloc (h : PairA w0 w B C A A2 v M vA L) (o : Obj) : PairA w0 (w.alloc o) B C A A2 v M vA L := h.below ((Below.refl _ _).alloc (Nat.le_refl _) o)
theorem PairA.turnA (h : PairA w0 w B C A A2 v M vA L) {A' : AS} (hs : SoloA w0 w' B A') (k : KeepA B w w') : PairA w0 w' B C A' A2 v M vA L :=
  ⟨hs, h.b.turn h.s.is h.s.ge h.ap k, h.k.turn h.s.is h.s.ge k, h.f, h.ap, h.cs⟩
theorem PairA.turnB (h : PairA w0 w B C A A2 v M vA L) {A' : AS} {v' : Value} {M' : List Kn} (hb : IsB w' w0.heap.size C A' v' M') (k : KeepB w0.heap.size C w w') : PairA w0 w' B C A A' v' M' vA L :=
  ⟨h.s.turnB h.b h.ap k, hb, h.k.turnB h.b k, h.f, h.ap, h.cs⟩
theorem PairA.grow (h : PairA w0 w B C A A2 v M vA L) {k : Kn} {v' : Value} (hg : w.grownBy w' vA.ownBlock) (hown : w'.ownsRow w0.heap.size 50 4 v' (L.length + 1) (flatR fKn L ++ flatR fKn [k])) (hk : KnOK w0.heap.size w k) : PairA w0 w' B C A A2 v M v' (L ++ [k]) :=
  ⟨h.s.grown h.k hg, h.b.keep fun q hq hc => hg.block q hq (fun e => by
    obtain ⟨hb, cur, hcur⟩ := own_typ4 h.k.1 e.symm
    rcases hc with hc | ⟨cur2, hc2⟩ | hc | hc
    · exact h.b.fixT hc hcur (by decide) (by decide) (by decide) (by decide)
    · rw [hcur] at hc2; injection hc2 with hc2; injection hc2 with _ hc2; revert hc2; decide
    · omega
    · exact notKb hcur (by decide) hc), h.k.grow hg hown hk, h.f, h.ap, h.cs⟩
end

/-! ### a slice of children of the call's own is overwritten -/
def InK (w : World) (b1 : Nat) (ao : Option Addr) (n : Nat) : Prop := 0 < n → ∃ S, ao = some ⟨S, 0, none⟩ ∧ b1 ≤ S ∧ ∃ cur, w.heap[S]? = some (.cells cur 64 (0, 0)) ∧ n * 4 ≤ cur.size
theorem OwnKs.inK {base : Nat} {w : World} {ao : Option Addr} {n c : Nat} {l : List Kid} (h : OwnKs base w (.slice ao n c) n l) : InK w base ao n := fun hn => by
  obtain ⟨-, -, -, ⟨e, e2⟩ | ⟨g, cap, cur, e, hg, hh, hnc, hm, hsz, htk⟩⟩ := h
  · omega
  · injection e with e
    exact ⟨g, e, hg, cur, hh, by rw [hsz]; exact Nat.mul_le_mul_right 4 hnc⟩
theorem InK.keep {w w' : World} {b1 n : Nat} {ao : Option Addr} (h : InK w b1 ao n) (hk : ∀ q, Kb w q → w'.heap[q]? = w.heap[q]?) : InK w' b1 ao n := fun hn => by
  obtain ⟨S, e, hb, cur, hc, hs⟩ := h hn
  exact ⟨S, e, hb, cur, (hk S ⟨cur, hc⟩).trans hc, hs⟩
theorem InK.below {w w' : World} {b1 n : Nat} {ao : Option Addr} (h : InK w b1 ao n) (k : Below w.heap.size w w') : InK w' b1 ao n := h.keep fun q ⟨cur, hc⟩ => k.block q (block_lt hc)
theorem InK.turnA {w w' : World} {b1 n : Nat} {ao : Option Addr} (h : InK w b1 ao n) {B : PB} {A : AS} (ha : IsA w B A) (k : KeepA B w w') : InK w' b1 ao n := h.keep fun q hq => k.2 q (by obtain ⟨cur, hc⟩ := hq; exact block_lt hc) (ha.ne.2.2 q hq)
theorem InK.turnB {w w' : World} {b0 b1 n : Nat} {ao : Option Addr} (h : InK w b1 ao n) {C : CB} {A : AS} {v : Value} {M : List Kn} (hb : IsB w b0 C A v M) (k : KeepB b0 C w w') : InK w' b1 ao n := h.keep fun q hq => by
  obtain ⟨cur, hc⟩ := hq
  refine k.2 q (block_lt hc) (fun hf => hb.fixT hf hc (by decide) (by decide) (by decide) (by decide)) (fun ⟨cur2, hc2⟩ => ?_)
  rw [hc] at hc2; injection hc2 with hc2; injection hc2 with _ hc2; revert hc2; decide
/-- the world is W, but for the children -/
def ZO (W wr : World) (ao : Option Addr) (n : Nat) : Prop := (n = 0 → wr = W) ∧ ∀ S, ao = some ⟨S, 0, none⟩ → 0 < n → (∀ q, q ≠ S → wr.heap[q]? = W.heap[q]?) ∧ Below S W wr ∧ ∃ cur, wr.heap[S]? = some (.cells cur 64 (0, 0)) ∧ n * 4 ≤ cur.size
theorem ZO.start {W : World} {b1 n : Nat} {ao : Option Addr} (h : InK W b1 ao n) : ZO W W ao n := ⟨fun _ => rfl, fun S e hn => by
  obtain ⟨S', e', hb, cur, hc, hs⟩ := h hn
  rw [e] at e'
  injection e' with e'
  injection e' with e'
  subst e'
  exact ⟨fun _ _ => rfl, Below.refl _ _, cur, hc, hs⟩⟩
theorem ZO.set {W wr : World} {n S i : Nat} (h : ZO W wr (some ⟨S, 0, none⟩) n) (hn : 0 < n) (z : Value) : ZO W (wr.setCell ⟨S, i, none⟩ z) (some ⟨S, 0, none⟩) n := ⟨fun e => by omega, fun S' e _ => by
  injection e with e
  injection e with e
  subst e
  obtain ⟨h1, h2, cur, hc, hs⟩ := h.2 S rfl hn
  exact ⟨fun q hq => (Below.heap_setCell _ _ _ _ hq).trans (h1 q hq), h2.setCell (Nat.le_refl _) z, _, block_setCell hc i z, by simpa using hs⟩⟩
/-- what is older than the children stays, and what holds no children -/
theorem ZO.old {W wr : World} {b1 n : Nat} {ao : Option Addr} (h : ZO W wr ao n) (hi : InK W b1 ao n) {q : Nat} (hq : q < b1 ∨ ¬ Kb W q) : wr.heap[q]? = W.heap[q]? := by
  rcases Nat.eq_zero_or_pos n with hn | hn
  · rw [h.1 hn]
  · obtain ⟨S, e, hb, cur, hc, hs⟩ := hi hn
    refine (h.2 S e hn).1 q (fun e2 => ?_)
    subst e2
    rcases hq with hq | hq
    · omega
    · exact hq ⟨cur, hc⟩
theorem ZO.block {W wr : World} {b1 n : Nat} {ao : Option Addr} (h : ZO W wr ao n) (hi : InK W b1 ao n) {q : Nat} {cs : Array Value} {T : TypeId} {fr : Nat × Nat} (hq : W.heap[q]? = some (.cells cs T fr)) (hT : T ≠ 64) : wr.heap[q]? = some (.cells cs T fr) := (h.old hi (.inr (fun ⟨cur, hc⟩ => by
  rw [hq] at hc; injection hc with hc; injection hc with _ hc; exact hT hc))).trans hq
theorem KsOK.same {b0 : Nat} {w w' : World} {ao : Option Addr} {n c : Nat} {l : List Kid} (h : KsOK b0 w ao n c l) (hs : ∀ b o, ao = some ⟨b, o, none⟩ → 0 < n → w'.heap[b]? = w.heap[b]?) : KsOK b0 w' ao n c l := by
  obtain ⟨h1, h2, h3⟩ := h
  refine ⟨h1.same hs, h2, fun b o e hn => ?_⟩
  rcases h3 b o e hn with h | ⟨cur, hc⟩
  · exact .inl h
  · exact .inr ⟨cur, (hs b o e hn).trans hc⟩
theorem KsOK.lt {b0 : Nat} {w : World} {ao : Option Addr} {n c : Nat} {l : List Kid} (h : KsOK b0 w ao n c l) : ∀ b o, ao = some ⟨b, o, none⟩ → 0 < n → b < w.heap.size := fun b o e hn => by
  subst e
  exact h.1.lt hn
theorem KsOK.zero {W wr : World} {b0 b1 n m c : Nat} {ao xa : Option Addr} {l : List Kid} (h : KsOK b0 W xa m c l) (hlt : ∀ b o, xa = some ⟨b, o, none⟩ → 0 < m → b < b1) (hz : ZO W wr ao n) (hi : InK W b1 ao n) : KsOK b0 wr xa m c l :=
  h.same fun b o e hm => hz.old hi (.inl (hlt b o e hm))
/-- the entries, items and known nodes are older than a block made now -/
theorem PairA.old {w0 w : World} {B : PB} {C : CB} {A A2 : AS} {v : Value} {M : List Kn} {vA : Value} {L : List Kn} (h : PairA w0 w B C A A2 v M vA L) {S : Nat} (hS : w.heap.size ≤ S) : NoS w B S ∧ NoM S M ∧ NoM S L := by
  refine ⟨h.s.is.noS hS, fun k hk q o e hn e2 => ?_, fun k hk q o e hn e2 => ?_⟩
  · have := (h.b.a.2 k hk).1.lt q o e hn
    omega
  · have := (h.k.2 k hk).1.lt q o e hn
    omega
theorem AllK.keepS {w w' : World} {b0 S : Nat} {vA : Value} {L : List Kn} (h : AllK b0 w vA L) (hn : NoM S L) (hK : Kb w S) (k : ∀ q, q ≠ S → w'.heap[q]? = w.heap[q]?) : AllK b0 w' vA L := by
  refine ⟨own_keep4 h.1 fun q hq => k q (fun e => ?_), fun x hx => ⟨(h.2 x hx).1.same fun b o e hm => k b (hn x hx b o e hm), (h.2 x hx).2⟩⟩
  obtain ⟨-, cur, hc⟩ := own_typ4 h.1 hq
  rw [e] at hc
  exact notKb hc (by decide) hK
theorem IsB.keepS {w w' : World} {b0 : Nat} {C : CB} {A : AS} {v : Value} {M : List Kn} {S : Nat} (h : IsB w b0 C A v M) (hn : NoM S M) (hK : Kb w S) (k : ∀ q, q ≠ S → w'.heap[q]? = w.heap[q]?) : IsB w' b0 C A v M := by
  have hf : ∀ q, C.fix q → w'.heap[q]? = w.heap[q]? := fun q hq => k q (fun e => by
    obtain ⟨cur, hc⟩ := hK
    rw [e] at hq
    exact h.fixT hq hc (by decide) (by decide) (by decide) (by decide))
  obtain ⟨h0, ⟨l0, l1, l2, l3, l4⟩, ⟨a1, a2⟩, e⟩ := h
  refine ⟨(hf _ (.inl rfl)).trans h0, ⟨(hf _ (.inr (.inl rfl))).trans l0, l1.keep (hf _ (.inr (.inr (.inl rfl)))), l2.keep (hf _ (.inr (.inr (.inr (.inl rfl))))), l3.keep (hf _ (.inr (.inr (.inr (.inr rfl))))), l4⟩, ⟨own_keep4 a1 fun q hq => k q (fun e => ?_), fun x hx => ⟨(a2 x hx).1.same fun b o e hm => k b (hn x hx b o e hm), (a2 x hx).2⟩⟩, e⟩
  obtain ⟨-, cur, hc⟩ := own_typ4 a1 hq
  rw [e] at hc
  exact notKb hc (by decide) hK
/-- the children are overwritten: the pair stays -/
theorem PairA.zero {w0 W wr : World} {B : PB} {C : CB} {A A2 : AS} {v : Value} {M : List Kn} {vA : Value} {L : List Kn} {b1 n : Nat} {ao : Option Addr} (h : PairA w0 W B C A A2 v M vA L) (hi : InK W b1 ao n) (h0 : w0.heap.size ≤ b1) (hS : ∀ S, ao = some ⟨S, 0, none⟩ → 0 < n → NoS W B S ∧ NoM S M ∧ NoM S L) (hz : ZO W wr ao n) : PairA w0 wr B C A A2 v M vA L := by
  rcases Nat.eq_zero_or_pos n with hn | hn
  · rw [hz.1 hn]; exact h
  · obtain ⟨S, e, hb, cur, hc, hs⟩ := hi hn
    obtain ⟨k1, k2, -⟩ := hz.2 S e hn
    obtain ⟨s1, s2, s3⟩ := hS S e hn
    have hK : Kb W S := ⟨cur, hc⟩
    exact ⟨⟨h.s.is.keepS s1 (h.s.is.ne.2.2 S hK) k1, h.s.inv, h.s.cnt, h.s.ge, h.s.low.trans (k2.mono (Nat.le_trans h0 hb))⟩, h.b.keepS s2 hK k1, h.k.keepS s3 hK k1, h.f, h.ap, h.cs⟩
end Go.Proofs.Ytfgkbnnojogjpaa
