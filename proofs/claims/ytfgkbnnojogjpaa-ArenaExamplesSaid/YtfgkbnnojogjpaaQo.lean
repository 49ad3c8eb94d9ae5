/- The arena: what play does, by cases; deeds in a row; the known nodes grow. -/
import Derived.Test.YtfgkbnnojogjpaaQn
namespace Go.Proofs.Ytfgkbnnojogjpaa
open Go.RowKit
set_option linter.unusedVariables false

def deF (d : De) : List Value := [.int .i64 d.k, .string d.t, .slice d.la d.l.length d.lc, .int .i64 d.x.h, .string d.x.text, .slice d.xa d.x.kids.length d.xc, .int .u64 d.h]
theorem deF_len (d : De) : (deF d).length = 7 := rfl
/-- the deeds of an argument -/
def Deeds (w : World) (ao : Option Addr) (len : Nat) (l : List De) : Prop := IsR deF w ao len l ∧ ∀ d ∈ l, DeOK w.heap.size w d
theorem DeOK.from {w w' : World} {d : De} (h : DeOK w.heap.size w d) (hb : Below w.heap.size w w') : DeOK w.heap.size w' d := h.later hb
theorem Deeds.cell {w w' : World} {ao : Option Addr} {len : Nat} {l : List De} (h : Deeds w ao len l) (hb : Below w.heap.size w w') {k : Nat} (hk : k < len) :
    ∃ bb off d, ao = some ⟨bb, off, none⟩ ∧ DeOK w.heap.size w' d ∧ w'.cell? ⟨bb, off + k * 7, none⟩ = some (.int .i64 d.k) ∧ w'.cell? ⟨bb, off + k * 7 + 1, none⟩ = some (.string d.t) ∧ w'.cell? ⟨bb, off + k * 7 + 2, none⟩ = some (.slice d.la d.l.length d.lc) ∧
      w'.cell? ⟨bb, off + k * 7 + 3, none⟩ = some (.int .i64 d.x.h) ∧ w'.cell? ⟨bb, off + k * 7 + 4, none⟩ = some (.string d.x.text) ∧ w'.cell? ⟨bb, off + k * 7 + 5, none⟩ = some (.slice d.xa d.x.kids.length d.xc) ∧ w'.cell? ⟨bb, off + k * 7 + 6, none⟩ = some (.int .u64 d.h) ∧ bb < w.heap.size ∧ l[k]? = some d := by
  obtain ⟨bb, off, e, hbb, hc⟩ := h.1.2 (by omega)
  have hkl : k < l.length := by rw [h.1.1]; exact hk
  have hat := row_at deF_len (f := deF) (l := l) hc k hkl
  have g := fun j (u : Value) (hj : (deF l[k])[j]? = some u) => (hb.cell (p := ⟨bb, off + k * 7 + j, none⟩) hbb).trans (hat j u hj)
  exact ⟨bb, off, l[k], e, (h.2 _ (List.getElem_mem hkl)).later hb, g 0 _ rfl, g 1 _ rfl, g 2 _ rfl, g 3 _ rfl, g 4 _ rfl, g 5 _ rfl, g 6 _ rfl, hbb, List.getElem?_eq_getElem hkl⟩
theorem infoKn : (Try.prog.info? 50).map (fun i => (i.zero, i.size, i.bytes)) = some (some (.agg #[.int .u64 0, .int .i64 0, .string ⟨#[]⟩, .slice none 0 0]), 4, 56) := by kernel_rfl
theorem fKn_one (k : Kn) : ∀ u ∈ flatR fKn [k], u.oneCell' = true := by
  rw [flatR_one]
  intro u hu
  rcases List.mem_cons.1 hu with rfl | hu
  · rfl
  rcases List.mem_cons.1 hu with rfl | hu
  · rfl
  rcases List.mem_cons.1 hu with rfl | hu
  · rfl
  rw [List.mem_singleton.1 hu]
  rfl
theorem newsKn {k : Kn} {w : World} {b : Nat} (h : w.heap[b]? = some (.cells #[.int .u64 k.h, .int .i64 k.x.h, .string k.x.text, .slice k.a k.x.kids.length k.c] 50 (0, 0))) : ∀ j u, (flatR fKn [k])[j]? = some u → w.cell? ((⟨b, 0, none⟩ : Addr).add j) = some u := by
  intro j u hj
  rw [add_to, block_cell h, Nat.zero_add, ← hj, flatR_one]
  exact (Array.getElem?_toList).symm

/-- a block of another type is none of the arena's -/
theorem IsA.nownT {w : World} {B : PB} {A : AS} (h : IsA w B A) {S : Nat} {cs : Array Value} {T : TypeId} {fr : Nat × Nat} (hc : w.heap[S]? = some (.cells cs T fr)) (h1 : T ≠ 88) (h2 : T ≠ 109) (h3 : T ≠ 3) (h4 : T ≠ 112) (h5 : T ≠ 22) : ¬ B.own S := by
  obtain ⟨h0, ⟨l0, ⟨c1, l1, _⟩, ⟨c2, l2, _⟩, ⟨c3, l3, _⟩⟩, es, clock, k2, k3⟩ := h
  rintro (rfl | rfl | rfl | rfl | rfl | rfl)
  · rw [h0] at hc; injection hc with hc; injection hc with _ hc; exact h1 hc.symm
  · rw [k2] at hc; cases hc
  · rw [l0] at hc; injection hc with hc; injection hc with _ hc; exact h2 hc.symm
  · rw [l1] at hc; injection hc with hc; injection hc with _ hc; first | exact h3 hc.symm | exact h4 hc.symm | exact h5 hc.symm
  · rw [l2] at hc; injection hc with hc; injection hc with _ hc; first | exact h3 hc.symm | exact h4 hc.symm | exact h5 hc.symm
  · rw [l3] at hc; injection hc with hc; injection hc with _ hc; first | exact h3 hc.symm | exact h4 hc.symm | exact h5 hc.symm
theorem SoloA.grown {w0 w w' : World} {B : PB} {A : AS} {v : Value} {L : List Kn} (h : SoloA w0 w B A) (ha : AllK w0.heap.size w v L) (hg : w.grownBy w' v.ownBlock) : SoloA w0 w' B A :=
  ⟨h.is.keep fun q hq => hg.block q (h.is.lt hq) (fun e => by
    obtain ⟨-, cur, hc⟩ := own_typ4 ha.1 e.symm
    rcases hq with hq | hq
    · exact h.is.nownT hc (by decide) (by decide) (by decide) (by decide) (by decide) hq
    · exact notKb hc (by decide) hq), h.inv, h.cnt, h.ge, h.low.grown hg h.low.size fun q hq => (own_typ4 ha.1 hq).1⟩
theorem KsOK.grown {b0 : Nat} {w w' : World} {v : Value} {L : List Kn} {ao : Option Addr} {n c : Nat} {l : List Kid} (h : KsOK b0 w ao n c l) (ha : AllK b0 w v L) (hg : w.grownBy w' v.ownBlock) : KsOK b0 w' ao n c l :=
  h.keep fun q hq hc => hg.block q hq (fun e => by
    obtain ⟨hb, cur, hcur⟩ := own_typ4 ha.1 e.symm
    rcases hc with hc | hc
    · omega
    · exact notKb hcur (by decide) hc)
theorem AllK.grow {b0 : Nat} {w w' : World} {v v' : Value} {L : List Kn} {k : Kn} (h : AllK b0 w v L) (hg : w.grownBy w' v.ownBlock) (hown : w'.ownsRow b0 50 4 v' (L.length + 1) (flatR fKn L ++ flatR fKn [k])) (hk : KnOK b0 w k) : AllK b0 w' v' (L ++ [k]) := by
  refine ⟨by rw [List.length_append, flatR_app]; exact hown, fun x hx => ?_⟩
  rcases List.mem_append.1 hx with hx | hx
  · exact ⟨(h.2 x hx).1.grown h hg, (h.2 x hx).2⟩
  · rw [List.mem_singleton.1 hx]
    exact ⟨hk.1.grown h hg, hk.2⟩
theorem KnOK.mk {b0 : Nat} {w : World} {h : Int} {x : Nd} {a : Option Addr} {c : Nat} (k : KsOK b0 w a x.kids.length c x.kids) (hc : checkN x = 0) (h0 : 0 ≤ h ∧ h ≤ 18446744073709551615) : KnOK b0 w ⟨h, x, a, c⟩ := ⟨k, hc, h0⟩

/-! ### what play does -/
structure PF (A A' : AS) (da df ds : Nat) : Prop where
  n : A'.x.n = A.x.n
  m : A'.x.most = A.x.most
  al : A'.al = A.al + da
  fr : A'.fr = A.fr + df
  st : A'.st = A.st + ds
theorem PF.refl (A : AS) : PF A A 0 0 0 := ⟨rfl, rfl, rfl, rfl, rfl⟩
theorem freeS_yes {A : AS} {h : Int} (hl : liveL A.x h) : freeS A h = { A with x := giveS A.x h, it := delI A.it h, fr := A.fr + 1 } := if_pos hl
theorem freeS_no {A : AS} {h : Int} (hl : ¬ liveL A.x h) : freeS A h = { A with st := A.st + 1 } := if_neg hl
def P1 (A : AS) (L : List Kn) (d : De) : Prop := ∃ h x, playR A L d = (h, x, 0, 0) ∧ playS A L d = allocS A x ∧ PF A (playS A L d) 1 0 0 ∧ nodeD L d = some x ∧ checkN x = 0 ∧ allocR A x = (h, 0) ∧ 0 ≤ h ∧ h ≤ 18446744073709551615
def P2 (A : AS) (L : List Kn) (d : De) : Prop := ∃ x e, playR A L d = (0, x, 0, e) ∧ e ≠ 0 ∧ playS A L d = A ∧ nodeD L d = some x ∧ allocR A x = (0, e)
def P3 (A : AS) (L : List Kn) (d : De) : Prop := ∃ h, h = hD L d ∧ liveL A.x h ∧ playR A L d = (h, noN, 2, 0) ∧ playS A L d = freeS A h ∧ PF A (playS A L d) 0 1 0 ∧ nodeD L d = none
def P4 (A : AS) (L : List Kn) (d : De) : Prop := ∃ h, h = hD L d ∧ ¬ liveL A.x h ∧ playR A L d = (h, noN, 2, 10) ∧ playS A L d = { A with st := A.st + 1 } ∧ nodeD L d = none
def P5 (A : AS) (L : List Kn) (d : De) : Prop := ∃ h, h = hD L d ∧ liveL A.x h ∧ playR A L d = (h, nodeOf A h, 1, 0) ∧ playS A L d = A ∧ nodeD L d = none
def P6 (A : AS) (L : List Kn) (d : De) : Prop := ∃ h, h = hD L d ∧ ¬ liveL A.x h ∧ playR A L d = (h, noN, 1, 10) ∧ playS A L d = { A with st := A.st + 1 } ∧ nodeD L d = none
set_option maxRecDepth 100000 in
theorem play6 {A : AS} (hi : AInv A) (L : List Kn) (d : De) : P1 A L d ∨ P2 A L d ∨ P3 A L d ∨ P4 A L d ∨ P5 A L d ∨ P6 A L d := by
  cases hx : nodeD L d with
  | some x =>
    have hR : playR A L d = ((allocR A x).1, x, 0, (allocR A x).2) := by unfold playR; rw [hx]
    have hS : playS A L d = allocS A x := by unfold playS; rw [hx]
    by_cases he : (allocR A x).2 = 0
    · left
      obtain ⟨c1, c2, hm, e, hA⟩ := takeR_two hi he
      have hrg : 0 ≤ (allocR A x).1 ∧ (allocR A x).1 ≤ 18446744073709551615 := by
        rw [e]
        exact hMk_le (mkOK_of hi.f (hi.f.lo (A.x.m - 1) (by omega)).1)
      refine ⟨(allocR A x).1, x, by rw [hR, he], hS, ?_, hx, c1, Prod.ext rfl he, hrg⟩
      rw [hS, hA]
      exact ⟨rfl, rfl, rfl, rfl, rfl⟩
    · right; left
      have h1 := allocR_no hi he
      exact ⟨x, (allocR A x).2, by rw [hR, h1], he, by rw [hS, allocS_no he], hx, Prod.ext h1 rfl⟩
  | none =>
    by_cases ha : d.k % 8 = 6
    · have hR : playR A L d = (hD L d, noN, 2, getE A (hD L d)) := by unfold playR; rw [hx]; simp only; rw [if_pos ha]
      have hS : playS A L d = freeS A (hD L d) := by unfold playS; rw [hx]; simp only; rw [if_pos ha]
      by_cases hl : liveL A.x (hD L d)
      · right; right; left
        have e : getE A (hD L d) = 0 := if_pos hl
        refine ⟨_, rfl, hl, by rw [hR, e], hS, ?_, hx⟩
        rw [hS, freeS_yes hl]
        exact ⟨(giveS_n A.x _).1, (giveS_n A.x _).2, rfl, rfl, rfl⟩
      · right; right; right; left
        have e : getE A (hD L d) = 10 := if_neg hl
        exact ⟨_, rfl, hl, by rw [hR, e], by rw [hS, freeS_no hl], hx⟩
    · have hR : playR A L d = (hD L d, nodeOf A (hD L d), 1, getE A (hD L d)) := by unfold playR; rw [hx]; simp only; rw [if_neg ha]
      have hS : playS A L d = getS A (hD L d) := by unfold playS; rw [hx]; simp only; rw [if_neg ha]
      by_cases hl : liveL A.x (hD L d)
      · right; right; right; right; left
        have e : getE A (hD L d) = 0 := if_pos hl
        exact ⟨_, rfl, hl, by rw [hR, e], by rw [hS]; exact if_pos hl, hx⟩
      · right; right; right; right; right
        have e : getE A (hD L d) = 10 := if_neg hl
        exact ⟨_, rfl, hl, by rw [hR, e, (nodeOf_dead hi hl).1], by rw [hS]; exact if_neg hl, hx⟩
theorem newA_at (a c : Nat) (ha : a < 12) (hc : c < 3) (w : World) :
    Calls Try.prog 10 #[.int .i64 (1 + (a : Int)), .int .u64 (1 + (c : Int))] w fun e w' => ∃ B : PB, e = .returned (.tuple #[.pointer (some ⟨B.p, 0, none⟩), .int .i64 0]) ∧ SoloA w w' B (newA (a + 1) (c + 1)) := by
  have := newA_ok (a + 1) (c + 1) w (by omega) (by omega) (by omega) (by omega)
  rw [show ((a + 1 : Nat) : Int) = 1 + (a : Int) by omega, show ((c + 1 : Nat) : Int) = 1 + (c : Int) by omega] at this
  exact this.mono fun e w' h => h.solo (by omega) (by omega) (by omega) (by omega)
end Go.Proofs.Ytfgkbnnojogjpaa
