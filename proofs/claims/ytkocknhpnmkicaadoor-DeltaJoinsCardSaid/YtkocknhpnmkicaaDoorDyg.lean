/- Deltas: the law Groups: its walk. -/
import Derived.Test.YtkocknhpnmkicaaDoorDyf
namespace Go.Proofs.YtkocknhpnmkicaaDoor
open Go.RowKit
set_option linter.unusedVariables false

def badP : List (List Pc) → Int
  | [] => 0
  | s :: r => if checkP s = 0 then badP r else checkP s
def joinP (ls : List (List Pc)) : List Pc × Int := if badP ls = 0 then (if checkP (formP ls.flatten) = 0 then (formP ls.flatten, 0) else ([], 5)) else ([], badP ls)
theorem badS_eq : ∀ ss : List Sl, badS ss = badP (ss.map Sl.l)
  | [] => rfl
  | s :: r => by
    show (if checkP s.l = 0 then badS r else checkP s.l) = (if checkP s.l = 0 then badP (r.map Sl.l) else checkP s.l)
    rw [badS_eq r]
theorem catL_eq : ∀ ss : List Sl, catL ss = (ss.map Sl.l).flatten
  | [] => rfl
  | s :: r => by
    show s.l ++ catL r = s.l ++ (r.map Sl.l).flatten
    rw [catL_eq r]
theorem joinS_eq (ss : List Sl) : joinS ss = joinP (ss.map Sl.l) := by
  unfold joinS joinP
  rw [badS_eq, catL_eq]
theorem badP_zero : ∀ {ls : List (List Pc)}, badP ls = 0 → ∀ l ∈ ls, checkP l = 0
  | [], _, l, h => nomatch h
  | s :: r, h, l, hl => by
    have h1 : checkP s = 0 := by
      by_cases h1 : checkP s = 0
      · exact h1
      · rw [show badP (s :: r) = checkP s from if_neg h1] at h
        exact h
    rw [show badP (s :: r) = badP r from if_pos h1] at h
    rcases List.mem_cons.1 hl with rfl | hl
    · exact h1
    · exact badP_zero h l hl
theorem badP_ok : ∀ {ls : List (List Pc)}, (∀ l ∈ ls, checkP l = 0) → badP ls = 0
  | [], _ => rfl
  | s :: r, h => by
    rw [show badP (s :: r) = badP r from if_pos (h s (List.mem_cons_self ..))]
    exact badP_ok fun l hl => h l (List.mem_cons_of_mem _ hl)
theorem joinP_zero {ls : List (List Pc)} {r : List Pc} (h : joinP ls = (r, 0)) : (∀ l ∈ ls, checkP l = 0) ∧ r = formP ls.flatten ∧ checkP r = 0 := by
  unfold joinP at h
  split at h
  · rename_i hb
    split at h
    · rename_i hc
      simp only [Prod.mk.injEq, and_true] at h
      exact ⟨badP_zero hb, h.symm, h ▸ hc⟩
    · simp at h
  · rename_i hb
    simp only [Prod.mk.injEq] at h
    exact absurd h.2 hb
theorem joinP_ok {ls : List (List Pc)} {r : List Pc} (h : ∀ l ∈ ls, checkP l = 0) (e : formP ls.flatten = r) (h2 : checkP r = 0) : joinP ls = (r, 0) := by
  unfold joinP
  rw [if_pos (badP_ok h), e, if_pos h2]
theorem forall2 {α : Type} {p : α → Prop} {x y : α} (hx : p x) (hy : p y) : ∀ z ∈ [x, y], p z := by
  intro z hz
  simp only [List.mem_cons, List.not_mem_nil, or_false] at hz
  rcases hz with rfl | rfl <;> assumption
theorem forall3 {α : Type} {p : α → Prop} {x y u : α} (hx : p x) (hy : p y) (hu : p u) : ∀ z ∈ [x, y, u], p z := by
  intro z hz
  simp only [List.mem_cons, List.not_mem_nil, or_false] at hz
  rcases hz with rfl | rfl | rfl <;> assumption
theorem forall4 {α : Type} {p : α → Prop} {x y u v : α} (hx : p x) (hy : p y) (hu : p u) (hv : p v) : ∀ z ∈ [x, y, u, v], p z := by
  intro z hz
  simp only [List.mem_cons, List.not_mem_nil, or_false] at hz
  rcases hz with rfl | rfl | rfl | rfl <;> assumption
def Part (w : World) (s : Sl) : Prop := IsR fP w s.a s.n s.l ∧ (s.a = none → s.n = 0 ∧ s.c = 0) ∧ s.n ≤ 9223372036854775807
theorem isLs_new (w : World) (ss : List Sl) (cs : Array Value) (m : Nat) (hm : m = ss.length) (hc : cs.toList = flatR fS ss) (hs : ∀ s ∈ ss, Part w s) :
    IsLs (w.alloc (.cells cs 22)) (some ⟨w.heap.size, 0, none⟩) m ss :=
  ⟨⟨hm.symm, fun _ => ⟨w.heap.size, 0, rfl, by simp, fun j u hj => by
    rw [block_cell (block_new w _), Nat.zero_add, ← Array.getElem?_toList, hc]
    exact hj⟩⟩, fun s h => ⟨(hs s h).1.later ((Below.refl w.heap.size w).alloc (Nat.le_refl _) _), (hs s h).2.1⟩⟩
theorem joinN (w : World) (ss : List Sl) (cs : Array Value) (m : Nat) (r : List Pc) (x : Int) (hm : m = ss.length) (hc : cs.toList = flatR fS ss) (h40 : m ≤ 40) (hs : ∀ s ∈ ss, Part w s) (hj : joinP (ss.map Sl.l) = (r, x)) :
    Calls Tryd.prog 36 #[.slice (some ⟨w.heap.size, 0, none⟩) m m] (w.alloc (.cells cs 22)) (Rowed w r x) := by
  refine (join_any (some ⟨w.heap.size, 0, none⟩) m m ss _ (isLs_new w ss cs m hm hc hs) h40 (fun s h => (hs s h).2.2)).mono fun e w' h => ?_
  rw [joinS_eq, hj] at h
  obtain ⟨v, he, ho, hb⟩ := h
  have hsz : w.heap.size ≤ (w.alloc (.cells cs 22)).heap.size := by simp
  exact ⟨v, he, own_mono ho hsz, ((Below.refl w.heap.size w).alloc (Nat.le_refl _) _).trans (hb.mono hsz)⟩
structure GP (a b c rab rbc rall : List Pc) : Prop where
  ca : checkP a = 0
  cb : checkP b = 0
  cc : checkP c = 0
  cab : checkP rab = 0
  cbc : checkP rbc = 0
  call : checkP rall = 0
  x : joinP [rab, c] = (rall, 0)
  y : joinP [a, rbc] = (rall, 0)
  n : normL b = formP b
  cn : checkP (formP b) = 0
  z : joinP [a, [], formP b, c] = (rall, 0)
  nf : normalB rall = true
  len : lengthsP rall = ((sIP (a ++ (b ++ (c ++ []))) : Int), (sOP (a ++ (b ++ (c ++ []))) : Int), 0)
theorem gp_of {a b c rab rbc rall : List Pc} (h1 : joinP [a, b] = (rab, 0)) (h2 : joinP [b, c] = (rbc, 0)) (h3 : joinP [a, b, c] = (rall, 0)) : GP a b c rab rbc rall := by
  obtain ⟨k1, e1, c1⟩ := joinP_zero h1
  obtain ⟨k2, e2, c2⟩ := joinP_zero h2
  obtain ⟨k3, e3, c3⟩ := joinP_zero h3
  have ca := k3 a (by simp)
  have cb := k3 b (by simp)
  have cc := k3 c (by simp)
  have cn := check_formP cb
  have f1 : rab = formP (a ++ b) := by rw [e1]; simp
  have f2 : rbc = formP (b ++ c) := by rw [e2]; simp
  have f3 : rall = formP (a ++ (b ++ c)) := by rw [e3]; simp
  refine ⟨ca, cb, cc, c1, c2, c3, joinP_ok (forall2 c1 cc) ?_ c3, joinP_ok (forall2 ca c2) ?_ c3, normL_ok cb, cn, joinP_ok (forall4 ca (by decide) cn cc) ?_ c3, ?_, ?_⟩
  · rw [f1, f3]
    show formP (formP (a ++ b) ++ (c ++ [])) = _
    rw [List.append_nil, formP_append, List.append_assoc]
  · rw [f2, f3]
    show formP (a ++ (formP (b ++ c) ++ [])) = _
    rw [formP_append3, List.append_nil]
  · rw [f3]
    show formP (a ++ ([] ++ (formP b ++ (c ++ [])))) = _
    rw [List.append_nil, List.nil_append, formP_append3]
  · unfold normalB
    rw [if_pos c3, f3, formP_form]
    exact decide_eq_true rfl
  · rw [lengths_of_check c3, f3, sIP_form, sOP_form, List.append_nil]

theorem sums_le {ss : List Sl} (h : ∀ s ∈ ss, checkP s.l = 0 ∧ s.n ≤ 4096) (hl : ss.length = 3) (j : Nat) : sIP (catL (ss.take j)) ≤ 3145728 ∧ sOP (catL (ss.take j)) ≤ 3145728 := by
  have hb : badS (ss.take j) = 0 := by
    rw [badS_eq]
    refine badP_ok fun l hm => ?_
    obtain ⟨s, hs, rfl⟩ := List.mem_map.1 hm
    exact (h s (List.mem_of_mem_take hs)).1
  obtain ⟨-, -, h3, h4⟩ := catL_ok hb
  have h5 : (ss.take j).length ≤ 3 := by rw [List.length_take]; omega
  omega

set_option maxRecDepth 100000 in
set_option maxHeartbeats 8000000 in
theorem groups_e (ao bo co : Option Addr) (n nc m md q qd : Nat) (a b c : List Pc) (w : World) (ht : Tab w) (h : IsR fP w ao n a) (k : IsR fP w bo m b) (g : IsR fP w co q c) (hnc : ao = none → n = 0 ∧ nc = 0) (hmc : bo = none → m = 0 ∧ md = 0) (hqc : co = none → q = 0 ∧ qd = 0) (hn : n * 32 ≤ 140737488355328) (hm : m * 32 ≤ 140737488355328) (hq : q * 32 ≤ 140737488355328) {x : Int} {y : Int} {z : Int} (rab rbc rall : List Pc) (h1 : joinP [a, b] = (rab, x)) (h2 : joinP [b, c] = (rbc, y)) (h3 : joinP [a, b, c] = (rall, z)) (hx : x ≠ 0) : Calls Tryd.prog 13 #[.slice ao n nc, .slice bo m md, .slice co q qd] w fun e w' => e = .returned (.bool true) ∧ Below w.heap.size w w' := by
  have HT := Lib.hid ht
  have Hd0 := Lib.hid h
  have Hf0 := Lib.hid k
  have Hg0 := Lib.hid g
  have hla := h.1
  have hlb := k.1
  have hlc := g.1
  have HNd := Lib.hid hnc
  have HNf := Lib.hid hmc
  have HNg := Lib.hid hqc
  subst hla
  subst hlb
  subst hlc
  have HJ1 := Lib.hid h1
  have HJ2 := Lib.hid h2
  have HJ3 := Lib.hid h3
  have he : (x == 0) = false := by rw [beq_eq_false_iff_ne]; exact hx
  clear ht h k g hnc hmc hqc h1 h2 h3 hx
  go_enter Tryd.func13, Tryd.ntmps13
  have HC1 := Lib.hid (own_any ao a.length nc a w Hd0.out HNd.out hn)
  go_wp2_with fail
  refine (HC1.out).mono ?_; rintro e w1 ⟨v1, rfl, hown1, hb1⟩
  have HB1 := Lib.hid (below_two (Below.refl w.heap.size w) hb1)
  have Hd1 := Lib.hid (Hd0.out.later hb1)
  have Hf1 := Lib.hid (Hf0.out.later hb1)
  have Hg1 := Lib.hid (Hg0.out.later hb1)
  obtain ⟨aoi, capi, rfl, hr1, hnci, hg1⟩ := IsR.owned (f := fP) (s := 3) fP_len (l := a) (n := (a).length) rfl hown1
  have Hi1 := Lib.hid hr1
  have HNi := Lib.hid hnci
  clear hb1 HC1 hown1 hr1 hg1 hnci
  have HC2 := Lib.hid (own_any bo b.length md b w1 Hf1.out HNf.out hm)
  go_wp2_with fail
  refine (HC2.out).mono ?_; rintro e w2 ⟨v2, rfl, hown2, hb2⟩
  have HB2 := Lib.hid (below_two HB1.out hb2)
  have Hd2 := Lib.hid (Hd1.out.later hb2)
  have Hf2 := Lib.hid (Hf1.out.later hb2)
  have Hg2 := Lib.hid (Hg1.out.later hb2)
  have Hi2 := Lib.hid (Hi1.out.later hb2)
  obtain ⟨aoj, capj, rfl, hr2, hncj, hg2⟩ := IsR.owned (f := fP) (s := 3) fP_len (l := b) (n := (b).length) rfl hown2
  have Hj2 := Lib.hid hr2
  have HNj := Lib.hid hncj
  clear hb2 HC2 hown2 hr2 hg2 hncj
  have HC3 := Lib.hid (joinN w2 [⟨aoi, a.length, capi, a⟩, ⟨aoj, b.length, capj, b⟩] #[.slice aoi a.length capi, .slice aoj b.length capj] 2 rab x rfl rfl (by decide) (forall2 ⟨Hi2.out, HNi.out, by dsimp only; omega⟩ ⟨Hj2.out, HNj.out, by dsimp only; omega⟩) HJ1.out)
  go_wp2_with fail
  refine (HC3.out).mono ?_; rintro e w3 ⟨v3, rfl, hown3, hb3⟩
  have HB3 := Lib.hid (below_two HB2.out hb3)
  have Hd3 := Lib.hid (Hd2.out.later hb3)
  have Hf3 := Lib.hid (Hf2.out.later hb3)
  have Hg3 := Lib.hid (Hg2.out.later hb3)
  have Hi3 := Lib.hid (Hi2.out.later hb3)
  have Hj3 := Lib.hid (Hj2.out.later hb3)
  obtain ⟨aor, capr, rfl, hr3, hncr, hg3⟩ := IsR.owned (f := fP) (s := 3) fP_len (l := rab) (n := (rab).length) rfl hown3
  have Hr3 := Lib.hid hr3
  have HNr := Lib.hid hncr
  clear hb3 HC3 hown3 hr3 hg3 hncr
  have HC4 := Lib.hid (own_any bo b.length md b w3 Hf3.out HNf.out hm)
  go_wp2_with fail
  refine (HC4.out).mono ?_; rintro e w4 ⟨v4, rfl, hown4, hb4⟩
  have HB4 := Lib.hid (below_two HB3.out hb4)
  have Hd4 := Lib.hid (Hd3.out.later hb4)
  have Hf4 := Lib.hid (Hf3.out.later hb4)
  have Hg4 := Lib.hid (Hg3.out.later hb4)
  have Hr4 := Lib.hid (Hr3.out.later hb4)
  obtain ⟨aok, capk, rfl, hr4, hnck, hg4⟩ := IsR.owned (f := fP) (s := 3) fP_len (l := b) (n := (b).length) rfl hown4
  have Hk4 := Lib.hid hr4
  have HNk := Lib.hid hnck
  clear hb4 HC4 hown4 hr4 hg4 hnck
  have HC5 := Lib.hid (own_any co c.length qd c w4 Hg4.out HNg.out hq)
  go_wp2_with fail
  refine (HC5.out).mono ?_; rintro e w5 ⟨v5, rfl, hown5, hb5⟩
  have HB5 := Lib.hid (below_two HB4.out hb5)
  have Hd5 := Lib.hid (Hd4.out.later hb5)
  have Hf5 := Lib.hid (Hf4.out.later hb5)
  have Hg5 := Lib.hid (Hg4.out.later hb5)
  have Hr5 := Lib.hid (Hr4.out.later hb5)
  have Hk5 := Lib.hid (Hk4.out.later hb5)
  obtain ⟨aol, capl, rfl, hr5, hncl, hg5⟩ := IsR.owned (f := fP) (s := 3) fP_len (l := c) (n := (c).length) rfl hown5
  have Hl5 := Lib.hid hr5
  have HNl := Lib.hid hncl
  clear hb5 HC5 hown5 hr5 hg5 hncl
  have HC6 := Lib.hid (joinN w5 [⟨aok, b.length, capk, b⟩, ⟨aol, c.length, capl, c⟩] #[.slice aok b.length capk, .slice aol c.length capl] 2 rbc y rfl rfl (by decide) (forall2 ⟨Hk5.out, HNk.out, by dsimp only; omega⟩ ⟨Hl5.out, HNl.out, by dsimp only; omega⟩) HJ2.out)
  go_wp2_with fail
  refine (HC6.out).mono ?_; rintro e w6 ⟨v6, rfl, hown6, hb6⟩
  have HB6 := Lib.hid (below_two HB5.out hb6)
  have Hd6 := Lib.hid (Hd5.out.later hb6)
  have Hf6 := Lib.hid (Hf5.out.later hb6)
  have Hg6 := Lib.hid (Hg5.out.later hb6)
  have Hr6 := Lib.hid (Hr5.out.later hb6)
  have Hk6 := Lib.hid (Hk5.out.later hb6)
  have Hl6 := Lib.hid (Hl5.out.later hb6)
  obtain ⟨aos, caps, rfl, hr6, hncs, hg6⟩ := IsR.owned (f := fP) (s := 3) fP_len (l := rbc) (n := (rbc).length) rfl hown6
  have Hs6 := Lib.hid hr6
  have HNs := Lib.hid hncs
  clear hb6 HC6 hown6 hr6 hg6 hncs
  have HC7 := Lib.hid (own_any ao a.length nc a w6 Hd6.out HNd.out hn)
  go_wp2_with fail
  refine (HC7.out).mono ?_; rintro e w7 ⟨v7, rfl, hown7, hb7⟩
  have HB7 := Lib.hid (below_two HB6.out hb7)
  have Hd7 := Lib.hid (Hd6.out.later hb7)
  have Hf7 := Lib.hid (Hf6.out.later hb7)
  have Hg7 := Lib.hid (Hg6.out.later hb7)
  have Hr7 := Lib.hid (Hr6.out.later hb7)
  have Hs7 := Lib.hid (Hs6.out.later hb7)
  obtain ⟨aom, capm, rfl, hr7, hncm, hg7⟩ := IsR.owned (f := fP) (s := 3) fP_len (l := a) (n := (a).length) rfl hown7
  have Hm7 := Lib.hid hr7
  have HNm := Lib.hid hncm
  clear hb7 HC7 hown7 hr7 hg7 hncm
  have HC8 := Lib.hid (own_any bo b.length md b w7 Hf7.out HNf.out hm)
  go_wp2_with fail
  refine (HC8.out).mono ?_; rintro e w8 ⟨v8, rfl, hown8, hb8⟩
  have HB8 := Lib.hid (below_two HB7.out hb8)
  have Hd8 := Lib.hid (Hd7.out.later hb8)
  have Hf8 := Lib.hid (Hf7.out.later hb8)
  have Hg8 := Lib.hid (Hg7.out.later hb8)
  have Hr8 := Lib.hid (Hr7.out.later hb8)
  have Hs8 := Lib.hid (Hs7.out.later hb8)
  have Hm8 := Lib.hid (Hm7.out.later hb8)
  obtain ⟨aon, capn, rfl, hr8, hncn, hg8⟩ := IsR.owned (f := fP) (s := 3) fP_len (l := b) (n := (b).length) rfl hown8
  have Hn8 := Lib.hid hr8
  have HNn := Lib.hid hncn
  clear hb8 HC8 hown8 hr8 hg8 hncn
  have HC9 := Lib.hid (own_any co c.length qd c w8 Hg8.out HNg.out hq)
  go_wp2_with fail
  refine (HC9.out).mono ?_; rintro e w9 ⟨v9, rfl, hown9, hb9⟩
  have HB9 := Lib.hid (below_two HB8.out hb9)
  have Hd9 := Lib.hid (Hd8.out.later hb9)
  have Hf9 := Lib.hid (Hf8.out.later hb9)
  have Hg9 := Lib.hid (Hg8.out.later hb9)
  have Hr9 := Lib.hid (Hr8.out.later hb9)
  have Hs9 := Lib.hid (Hs8.out.later hb9)
  have Hm9 := Lib.hid (Hm8.out.later hb9)
  have Hn9 := Lib.hid (Hn8.out.later hb9)
  obtain ⟨aoo, capo, rfl, hr9, hnco, hg9⟩ := IsR.owned (f := fP) (s := 3) fP_len (l := c) (n := (c).length) rfl hown9
  have Ho9 := Lib.hid hr9
  have HNo := Lib.hid hnco
  clear hb9 HC9 hown9 hr9 hg9 hnco
  have HC10 := Lib.hid (joinN w9 [⟨aom, a.length, capm, a⟩, ⟨aon, b.length, capn, b⟩, ⟨aoo, c.length, capo, c⟩] #[.slice aom a.length capm, .slice aon b.length capn, .slice aoo c.length capo] 3 rall z rfl rfl (by decide) (forall3 ⟨Hm9.out, HNm.out, by dsimp only; omega⟩ ⟨Hn9.out, HNn.out, by dsimp only; omega⟩ ⟨Ho9.out, HNo.out, by dsimp only; omega⟩) HJ3.out)
  go_wp2_with fail
  refine (HC10.out).mono ?_; rintro e w10 ⟨v10, rfl, hown10, hb10⟩
  have HB10 := Lib.hid (below_two HB9.out hb10)
  have Hd10 := Lib.hid (Hd9.out.later hb10)
  have Hf10 := Lib.hid (Hf9.out.later hb10)
  have Hg10 := Lib.hid (Hg9.out.later hb10)
  have Hr10 := Lib.hid (Hr9.out.later hb10)
  have Hs10 := Lib.hid (Hs9.out.later hb10)
  have Hm10 := Lib.hid (Hm9.out.later hb10)
  have Hn10 := Lib.hid (Hn9.out.later hb10)
  have Ho10 := Lib.hid (Ho9.out.later hb10)
  obtain ⟨aot, capt, rfl, hr10, hnct, hg10⟩ := IsR.owned (f := fP) (s := 3) fP_len (l := rall) (n := (rall).length) rfl hown10
  have Ht10 := Lib.hid hr10
  have HNt := Lib.hid hnct
  clear hb10 HC10 hown10 hr10 hg10 hnct
  have HC11 := Lib.hid (known_any w10 (HT.out.below HB10.out))
  go_wp2_with fail
  refine (HC11.out).mono ?_; rintro e w11 ⟨rfl, hb11⟩
  have HB11 := Lib.hid (below_two HB10.out hb11)
  clear hb11 HC11
  go_wp2_with fail
  go_ret
  exact ⟨rfl, HB11.out⟩
  refine (HC11.out).mono ?_; rintro e w11 ⟨rfl, hb11⟩
  have HB11 := Lib.hid (below_two HB10.out hb11)
  clear hb11 HC11
  go_wp2_with fail
  go_ret
  exact ⟨rfl, HB11.out⟩

set_option maxRecDepth 100000 in
set_option maxHeartbeats 8000000 in
theorem groups_f (ao bo co : Option Addr) (n nc m md q qd : Nat) (a b c : List Pc) (w : World) (ht : Tab w) (h : IsR fP w ao n a) (k : IsR fP w bo m b) (g : IsR fP w co q c) (hnc : ao = none → n = 0 ∧ nc = 0) (hmc : bo = none → m = 0 ∧ md = 0) (hqc : co = none → q = 0 ∧ qd = 0) (hn : n * 32 ≤ 140737488355328) (hm : m * 32 ≤ 140737488355328) (hq : q * 32 ≤ 140737488355328) {y : Int} {z : Int} (rab rbc rall : List Pc) (h1 : joinP [a, b] = (rab, 0)) (h2 : joinP [b, c] = (rbc, y)) (h3 : joinP [a, b, c] = (rall, z)) (hx : y ≠ 0) : Calls Tryd.prog 13 #[.slice ao n nc, .slice bo m md, .slice co q qd] w fun e w' => e = .returned (.bool true) ∧ Below w.heap.size w w' := by
  have HT := Lib.hid ht
  have Hd0 := Lib.hid h
  have Hf0 := Lib.hid k
  have Hg0 := Lib.hid g
  have hla := h.1
  have hlb := k.1
  have hlc := g.1
  have HNd := Lib.hid hnc
  have HNf := Lib.hid hmc
  have HNg := Lib.hid hqc
  subst hla
  subst hlb
  subst hlc
  have HJ1 := Lib.hid h1
  have HJ2 := Lib.hid h2
  have HJ3 := Lib.hid h3
  have he : (y == 0) = false := by rw [beq_eq_false_iff_ne]; exact hx
  clear ht h k g hnc hmc hqc h1 h2 h3 hx
  go_enter Tryd.func13, Tryd.ntmps13
  have HC1 := Lib.hid (own_any ao a.length nc a w Hd0.out HNd.out hn)
  go_wp2_with fail
  refine (HC1.out).mono ?_; rintro e w1 ⟨v1, rfl, hown1, hb1⟩
  have HB1 := Lib.hid (below_two (Below.refl w.heap.size w) hb1)
  have Hd1 := Lib.hid (Hd0.out.later hb1)
  have Hf1 := Lib.hid (Hf0.out.later hb1)
  have Hg1 := Lib.hid (Hg0.out.later hb1)
  obtain ⟨aoi, capi, rfl, hr1, hnci, hg1⟩ := IsR.owned (f := fP) (s := 3) fP_len (l := a) (n := (a).length) rfl hown1
  have Hi1 := Lib.hid hr1
  have HNi := Lib.hid hnci
  clear hb1 HC1 hown1 hr1 hg1 hnci
  have HC2 := Lib.hid (own_any bo b.length md b w1 Hf1.out HNf.out hm)
  go_wp2_with fail
  refine (HC2.out).mono ?_; rintro e w2 ⟨v2, rfl, hown2, hb2⟩
  have HB2 := Lib.hid (below_two HB1.out hb2)
  have Hd2 := Lib.hid (Hd1.out.later hb2)
  have Hf2 := Lib.hid (Hf1.out.later hb2)
  have Hg2 := Lib.hid (Hg1.out.later hb2)
  have Hi2 := Lib.hid (Hi1.out.later hb2)
  obtain ⟨aoj, capj, rfl, hr2, hncj, hg2⟩ := IsR.owned (f := fP) (s := 3) fP_len (l := b) (n := (b).length) rfl hown2
  have Hj2 := Lib.hid hr2
  have HNj := Lib.hid hncj
  clear hb2 HC2 hown2 hr2 hg2 hncj
  have HC3 := Lib.hid (joinN w2 [⟨aoi, a.length, capi, a⟩, ⟨aoj, b.length, capj, b⟩] #[.slice aoi a.length capi, .slice aoj b.length capj] 2 rab 0 rfl rfl (by decide) (forall2 ⟨Hi2.out, HNi.out, by dsimp only; omega⟩ ⟨Hj2.out, HNj.out, by dsimp only; omega⟩) HJ1.out)
  go_wp2_with fail
  refine (HC3.out).mono ?_; rintro e w3 ⟨v3, rfl, hown3, hb3⟩
  have HB3 := Lib.hid (below_two HB2.out hb3)
  have Hd3 := Lib.hid (Hd2.out.later hb3)
  have Hf3 := Lib.hid (Hf2.out.later hb3)
  have Hg3 := Lib.hid (Hg2.out.later hb3)
  have Hi3 := Lib.hid (Hi2.out.later hb3)
  have Hj3 := Lib.hid (Hj2.out.later hb3)
  obtain ⟨aor, capr, rfl, hr3, hncr, hg3⟩ := IsR.owned (f := fP) (s := 3) fP_len (l := rab) (n := (rab).length) rfl hown3
  have Hr3 := Lib.hid hr3
  have HNr := Lib.hid hncr
  clear hb3 HC3 hown3 hr3 hg3 hncr
  have HC4 := Lib.hid (own_any bo b.length md b w3 Hf3.out HNf.out hm)
  go_wp2_with fail
  refine (HC4.out).mono ?_; rintro e w4 ⟨v4, rfl, hown4, hb4⟩
  have HB4 := Lib.hid (below_two HB3.out hb4)
  have Hd4 := Lib.hid (Hd3.out.later hb4)
  have Hf4 := Lib.hid (Hf3.out.later hb4)
  have Hg4 := Lib.hid (Hg3.out.later hb4)
  have Hr4 := Lib.hid (Hr3.out.later hb4)
  obtain ⟨aok, capk, rfl, hr4, hnck, hg4⟩ := IsR.owned (f := fP) (s := 3) fP_len (l := b) (n := (b).length) rfl hown4
  have Hk4 := Lib.hid hr4
  have HNk := Lib.hid hnck
  clear hb4 HC4 hown4 hr4 hg4 hnck
  have HC5 := Lib.hid (own_any co c.length qd c w4 Hg4.out HNg.out hq)
  go_wp2_with fail
  refine (HC5.out).mono ?_; rintro e w5 ⟨v5, rfl, hown5, hb5⟩
  have HB5 := Lib.hid (below_two HB4.out hb5)
  have Hd5 := Lib.hid (Hd4.out.later hb5)
  have Hf5 := Lib.hid (Hf4.out.later hb5)
  have Hg5 := Lib.hid (Hg4.out.later hb5)
  have Hr5 := Lib.hid (Hr4.out.later hb5)
  have Hk5 := Lib.hid (Hk4.out.later hb5)
  obtain ⟨aol, capl, rfl, hr5, hncl, hg5⟩ := IsR.owned (f := fP) (s := 3) fP_len (l := c) (n := (c).length) rfl hown5
  have Hl5 := Lib.hid hr5
  have HNl := Lib.hid hncl
  clear hb5 HC5 hown5 hr5 hg5 hncl
  have HC6 := Lib.hid (joinN w5 [⟨aok, b.length, capk, b⟩, ⟨aol, c.length, capl, c⟩] #[.slice aok b.length capk, .slice aol c.length capl] 2 rbc y rfl rfl (by decide) (forall2 ⟨Hk5.out, HNk.out, by dsimp only; omega⟩ ⟨Hl5.out, HNl.out, by dsimp only; omega⟩) HJ2.out)
  go_wp2_with fail
  refine (HC6.out).mono ?_; rintro e w6 ⟨v6, rfl, hown6, hb6⟩
  have HB6 := Lib.hid (below_two HB5.out hb6)
  have Hd6 := Lib.hid (Hd5.out.later hb6)
  have Hf6 := Lib.hid (Hf5.out.later hb6)
  have Hg6 := Lib.hid (Hg5.out.later hb6)
  have Hr6 := Lib.hid (Hr5.out.later hb6)
  have Hk6 := Lib.hid (Hk5.out.later hb6)
  have Hl6 := Lib.hid (Hl5.out.later hb6)
  obtain ⟨aos, caps, rfl, hr6, hncs, hg6⟩ := IsR.owned (f := fP) (s := 3) fP_len (l := rbc) (n := (rbc).length) rfl hown6
  have Hs6 := Lib.hid hr6
  have HNs := Lib.hid hncs
  clear hb6 HC6 hown6 hr6 hg6 hncs
  have HC7 := Lib.hid (own_any ao a.length nc a w6 Hd6.out HNd.out hn)
  go_wp2_with fail
  refine (HC7.out).mono ?_; rintro e w7 ⟨v7, rfl, hown7, hb7⟩
  have HB7 := Lib.hid (below_two HB6.out hb7)
  have Hd7 := Lib.hid (Hd6.out.later hb7)
  have Hf7 := Lib.hid (Hf6.out.later hb7)
  have Hg7 := Lib.hid (Hg6.out.later hb7)
  have Hr7 := Lib.hid (Hr6.out.later hb7)
  have Hs7 := Lib.hid (Hs6.out.later hb7)
  obtain ⟨aom, capm, rfl, hr7, hncm, hg7⟩ := IsR.owned (f := fP) (s := 3) fP_len (l := a) (n := (a).length) rfl hown7
  have Hm7 := Lib.hid hr7
  have HNm := Lib.hid hncm
  clear hb7 HC7 hown7 hr7 hg7 hncm
  have HC8 := Lib.hid (own_any bo b.length md b w7 Hf7.out HNf.out hm)
  go_wp2_with fail
  refine (HC8.out).mono ?_; rintro e w8 ⟨v8, rfl, hown8, hb8⟩
  have HB8 := Lib.hid (below_two HB7.out hb8)
  have Hd8 := Lib.hid (Hd7.out.later hb8)
  have Hf8 := Lib.hid (Hf7.out.later hb8)
  have Hg8 := Lib.hid (Hg7.out.later hb8)
  have Hr8 := Lib.hid (Hr7.out.later hb8)
  have Hs8 := Lib.hid (Hs7.out.later hb8)
  have Hm8 := Lib.hid (Hm7.out.later hb8)
  obtain ⟨aon, capn, rfl, hr8, hncn, hg8⟩ := IsR.owned (f := fP) (s := 3) fP_len (l := b) (n := (b).length) rfl hown8
  have Hn8 := Lib.hid hr8
  have HNn := Lib.hid hncn
  clear hb8 HC8 hown8 hr8 hg8 hncn
  have HC9 := Lib.hid (own_any co c.length qd c w8 Hg8.out HNg.out hq)
  go_wp2_with fail
  refine (HC9.out).mono ?_; rintro e w9 ⟨v9, rfl, hown9, hb9⟩
  have HB9 := Lib.hid (below_two HB8.out hb9)
  have Hd9 := Lib.hid (Hd8.out.later hb9)
  have Hf9 := Lib.hid (Hf8.out.later hb9)
  have Hg9 := Lib.hid (Hg8.out.later hb9)
  have Hr9 := Lib.hid (Hr8.out.later hb9)
  have Hs9 := Lib.hid (Hs8.out.later hb9)
  have Hm9 := Lib.hid (Hm8.out.later hb9)
  have Hn9 := Lib.hid (Hn8.out.later hb9)
  obtain ⟨aoo, capo, rfl, hr9, hnco, hg9⟩ := IsR.owned (f := fP) (s := 3) fP_len (l := c) (n := (c).length) rfl hown9
  have Ho9 := Lib.hid hr9
  have HNo := Lib.hid hnco
  clear hb9 HC9 hown9 hr9 hg9 hnco
  have HC10 := Lib.hid (joinN w9 [⟨aom, a.length, capm, a⟩, ⟨aon, b.length, capn, b⟩, ⟨aoo, c.length, capo, c⟩] #[.slice aom a.length capm, .slice aon b.length capn, .slice aoo c.length capo] 3 rall z rfl rfl (by decide) (forall3 ⟨Hm9.out, HNm.out, by dsimp only; omega⟩ ⟨Hn9.out, HNn.out, by dsimp only; omega⟩ ⟨Ho9.out, HNo.out, by dsimp only; omega⟩) HJ3.out)
  go_wp2_with fail
  refine (HC10.out).mono ?_; rintro e w10 ⟨v10, rfl, hown10, hb10⟩
  have HB10 := Lib.hid (below_two HB9.out hb10)
  have Hd10 := Lib.hid (Hd9.out.later hb10)
  have Hf10 := Lib.hid (Hf9.out.later hb10)
  have Hg10 := Lib.hid (Hg9.out.later hb10)
  have Hr10 := Lib.hid (Hr9.out.later hb10)
  have Hs10 := Lib.hid (Hs9.out.later hb10)
  have Hm10 := Lib.hid (Hm9.out.later hb10)
  have Hn10 := Lib.hid (Hn9.out.later hb10)
  have Ho10 := Lib.hid (Ho9.out.later hb10)
  obtain ⟨aot, capt, rfl, hr10, hnct, hg10⟩ := IsR.owned (f := fP) (s := 3) fP_len (l := rall) (n := (rall).length) rfl hown10
  have Ht10 := Lib.hid hr10
  have HNt := Lib.hid hnct
  clear hb10 HC10 hown10 hr10 hg10 hnct
  have HC11 := Lib.hid (known_any w10 (HT.out.below HB10.out))
  go_wp2_with fail
  refine (HC11.out).mono ?_; rintro e w11 ⟨rfl, hb11⟩
  have HB11 := Lib.hid (below_two HB10.out hb11)
  clear hb11 HC11
  go_wp2_with fail
  go_ret
  exact ⟨rfl, HB11.out⟩

set_option maxRecDepth 100000 in
set_option maxHeartbeats 8000000 in
theorem groups_g (ao bo co : Option Addr) (n nc m md q qd : Nat) (a b c : List Pc) (w : World) (ht : Tab w) (h : IsR fP w ao n a) (k : IsR fP w bo m b) (g : IsR fP w co q c) (hnc : ao = none → n = 0 ∧ nc = 0) (hmc : bo = none → m = 0 ∧ md = 0) (hqc : co = none → q = 0 ∧ qd = 0) (hn : n * 32 ≤ 140737488355328) (hm : m * 32 ≤ 140737488355328) (hq : q * 32 ≤ 140737488355328) {z : Int} (rab rbc rall : List Pc) (h1 : joinP [a, b] = (rab, 0)) (h2 : joinP [b, c] = (rbc, 0)) (h3 : joinP [a, b, c] = (rall, z)) (hx : z ≠ 0) : Calls Tryd.prog 13 #[.slice ao n nc, .slice bo m md, .slice co q qd] w fun e w' => e = .returned (.bool true) ∧ Below w.heap.size w w' := by
  have HT := Lib.hid ht
  have Hd0 := Lib.hid h
  have Hf0 := Lib.hid k
  have Hg0 := Lib.hid g
  have hla := h.1
  have hlb := k.1
  have hlc := g.1
  have HNd := Lib.hid hnc
  have HNf := Lib.hid hmc
  have HNg := Lib.hid hqc
  subst hla
  subst hlb
  subst hlc
  have HJ1 := Lib.hid h1
  have HJ2 := Lib.hid h2
  have HJ3 := Lib.hid h3
  have he : (z == 0) = false := by rw [beq_eq_false_iff_ne]; exact hx
  clear ht h k g hnc hmc hqc h1 h2 h3 hx
  go_enter Tryd.func13, Tryd.ntmps13
  have HC1 := Lib.hid (own_any ao a.length nc a w Hd0.out HNd.out hn)
  go_wp2_with fail
  refine (HC1.out).mono ?_; rintro e w1 ⟨v1, rfl, hown1, hb1⟩
  have HB1 := Lib.hid (below_two (Below.refl w.heap.size w) hb1)
  have Hd1 := Lib.hid (Hd0.out.later hb1)
  have Hf1 := Lib.hid (Hf0.out.later hb1)
  have Hg1 := Lib.hid (Hg0.out.later hb1)
  obtain ⟨aoi, capi, rfl, hr1, hnci, hg1⟩ := IsR.owned (f := fP) (s := 3) fP_len (l := a) (n := (a).length) rfl hown1
  have Hi1 := Lib.hid hr1
  have HNi := Lib.hid hnci
  clear hb1 HC1 hown1 hr1 hg1 hnci
  have HC2 := Lib.hid (own_any bo b.length md b w1 Hf1.out HNf.out hm)
  go_wp2_with fail
  refine (HC2.out).mono ?_; rintro e w2 ⟨v2, rfl, hown2, hb2⟩
  have HB2 := Lib.hid (below_two HB1.out hb2)
  have Hd2 := Lib.hid (Hd1.out.later hb2)
  have Hf2 := Lib.hid (Hf1.out.later hb2)
  have Hg2 := Lib.hid (Hg1.out.later hb2)
  have Hi2 := Lib.hid (Hi1.out.later hb2)
  obtain ⟨aoj, capj, rfl, hr2, hncj, hg2⟩ := IsR.owned (f := fP) (s := 3) fP_len (l := b) (n := (b).length) rfl hown2
  have Hj2 := Lib.hid hr2
  have HNj := Lib.hid hncj
  clear hb2 HC2 hown2 hr2 hg2 hncj
  have HC3 := Lib.hid (joinN w2 [⟨aoi, a.length, capi, a⟩, ⟨aoj, b.length, capj, b⟩] #[.slice aoi a.length capi, .slice aoj b.length capj] 2 rab 0 rfl rfl (by decide) (forall2 ⟨Hi2.out, HNi.out, by dsimp only; omega⟩ ⟨Hj2.out, HNj.out, by dsimp only; omega⟩) HJ1.out)
  go_wp2_with fail
  refine (HC3.out).mono ?_; rintro e w3 ⟨v3, rfl, hown3, hb3⟩
  have HB3 := Lib.hid (below_two HB2.out hb3)
  have Hd3 := Lib.hid (Hd2.out.later hb3)
  have Hf3 := Lib.hid (Hf2.out.later hb3)
  have Hg3 := Lib.hid (Hg2.out.later hb3)
  have Hi3 := Lib.hid (Hi2.out.later hb3)
  have Hj3 := Lib.hid (Hj2.out.later hb3)
  obtain ⟨aor, capr, rfl, hr3, hncr, hg3⟩ := IsR.owned (f := fP) (s := 3) fP_len (l := rab) (n := (rab).length) rfl hown3
  have Hr3 := Lib.hid hr3
  have HNr := Lib.hid hncr
  clear hb3 HC3 hown3 hr3 hg3 hncr
  have HC4 := Lib.hid (own_any bo b.length md b w3 Hf3.out HNf.out hm)
  go_wp2_with fail
  refine (HC4.out).mono ?_; rintro e w4 ⟨v4, rfl, hown4, hb4⟩
  have HB4 := Lib.hid (below_two HB3.out hb4)
  have Hd4 := Lib.hid (Hd3.out.later hb4)
  have Hf4 := Lib.hid (Hf3.out.later hb4)
  have Hg4 := Lib.hid (Hg3.out.later hb4)
  have Hr4 := Lib.hid (Hr3.out.later hb4)
  obtain ⟨aok, capk, rfl, hr4, hnck, hg4⟩ := IsR.owned (f := fP) (s := 3) fP_len (l := b) (n := (b).length) rfl hown4
  have Hk4 := Lib.hid hr4
  have HNk := Lib.hid hnck
  clear hb4 HC4 hown4 hr4 hg4 hnck
  have HC5 := Lib.hid (own_any co c.length qd c w4 Hg4.out HNg.out hq)
  go_wp2_with fail
  refine (HC5.out).mono ?_; rintro e w5 ⟨v5, rfl, hown5, hb5⟩
  have HB5 := Lib.hid (below_two HB4.out hb5)
  have Hd5 := Lib.hid (Hd4.out.later hb5)
  have Hf5 := Lib.hid (Hf4.out.later hb5)
  have Hg5 := Lib.hid (Hg4.out.later hb5)
  have Hr5 := Lib.hid (Hr4.out.later hb5)
  have Hk5 := Lib.hid (Hk4.out.later hb5)
  obtain ⟨aol, capl, rfl, hr5, hncl, hg5⟩ := IsR.owned (f := fP) (s := 3) fP_len (l := c) (n := (c).length) rfl hown5
  have Hl5 := Lib.hid hr5
  have HNl := Lib.hid hncl
  clear hb5 HC5 hown5 hr5 hg5 hncl
  have HC6 := Lib.hid (joinN w5 [⟨aok, b.length, capk, b⟩, ⟨aol, c.length, capl, c⟩] #[.slice aok b.length capk, .slice aol c.length capl] 2 rbc 0 rfl rfl (by decide) (forall2 ⟨Hk5.out, HNk.out, by dsimp only; omega⟩ ⟨Hl5.out, HNl.out, by dsimp only; omega⟩) HJ2.out)
  go_wp2_with fail
  refine (HC6.out).mono ?_; rintro e w6 ⟨v6, rfl, hown6, hb6⟩
  have HB6 := Lib.hid (below_two HB5.out hb6)
  have Hd6 := Lib.hid (Hd5.out.later hb6)
  have Hf6 := Lib.hid (Hf5.out.later hb6)
  have Hg6 := Lib.hid (Hg5.out.later hb6)
  have Hr6 := Lib.hid (Hr5.out.later hb6)
  have Hk6 := Lib.hid (Hk5.out.later hb6)
  have Hl6 := Lib.hid (Hl5.out.later hb6)
  obtain ⟨aos, caps, rfl, hr6, hncs, hg6⟩ := IsR.owned (f := fP) (s := 3) fP_len (l := rbc) (n := (rbc).length) rfl hown6
  have Hs6 := Lib.hid hr6
  have HNs := Lib.hid hncs
  clear hb6 HC6 hown6 hr6 hg6 hncs
  have HC7 := Lib.hid (own_any ao a.length nc a w6 Hd6.out HNd.out hn)
  go_wp2_with fail
  refine (HC7.out).mono ?_; rintro e w7 ⟨v7, rfl, hown7, hb7⟩
  have HB7 := Lib.hid (below_two HB6.out hb7)
  have Hd7 := Lib.hid (Hd6.out.later hb7)
  have Hf7 := Lib.hid (Hf6.out.later hb7)
  have Hg7 := Lib.hid (Hg6.out.later hb7)
  have Hr7 := Lib.hid (Hr6.out.later hb7)
  have Hs7 := Lib.hid (Hs6.out.later hb7)
  obtain ⟨aom, capm, rfl, hr7, hncm, hg7⟩ := IsR.owned (f := fP) (s := 3) fP_len (l := a) (n := (a).length) rfl hown7
  have Hm7 := Lib.hid hr7
  have HNm := Lib.hid hncm
  clear hb7 HC7 hown7 hr7 hg7 hncm
  have HC8 := Lib.hid (own_any bo b.length md b w7 Hf7.out HNf.out hm)
  go_wp2_with fail
  refine (HC8.out).mono ?_; rintro e w8 ⟨v8, rfl, hown8, hb8⟩
  have HB8 := Lib.hid (below_two HB7.out hb8)
  have Hd8 := Lib.hid (Hd7.out.later hb8)
  have Hf8 := Lib.hid (Hf7.out.later hb8)
  have Hg8 := Lib.hid (Hg7.out.later hb8)
  have Hr8 := Lib.hid (Hr7.out.later hb8)
  have Hs8 := Lib.hid (Hs7.out.later hb8)
  have Hm8 := Lib.hid (Hm7.out.later hb8)
  obtain ⟨aon, capn, rfl, hr8, hncn, hg8⟩ := IsR.owned (f := fP) (s := 3) fP_len (l := b) (n := (b).length) rfl hown8
  have Hn8 := Lib.hid hr8
  have HNn := Lib.hid hncn
  clear hb8 HC8 hown8 hr8 hg8 hncn
  have HC9 := Lib.hid (own_any co c.length qd c w8 Hg8.out HNg.out hq)
  go_wp2_with fail
  refine (HC9.out).mono ?_; rintro e w9 ⟨v9, rfl, hown9, hb9⟩
  have HB9 := Lib.hid (below_two HB8.out hb9)
  have Hd9 := Lib.hid (Hd8.out.later hb9)
  have Hf9 := Lib.hid (Hf8.out.later hb9)
  have Hg9 := Lib.hid (Hg8.out.later hb9)
  have Hr9 := Lib.hid (Hr8.out.later hb9)
  have Hs9 := Lib.hid (Hs8.out.later hb9)
  have Hm9 := Lib.hid (Hm8.out.later hb9)
  have Hn9 := Lib.hid (Hn8.out.later hb9)
  obtain ⟨aoo, capo, rfl, hr9, hnco, hg9⟩ := IsR.owned (f := fP) (s := 3) fP_len (l := c) (n := (c).length) rfl hown9
  have Ho9 := Lib.hid hr9
  have HNo := Lib.hid hnco
  clear hb9 HC9 hown9 hr9 hg9 hnco
  have HC10 := Lib.hid (joinN w9 [⟨aom, a.length, capm, a⟩, ⟨aon, b.length, capn, b⟩, ⟨aoo, c.length, capo, c⟩] #[.slice aom a.length capm, .slice aon b.length capn, .slice aoo c.length capo] 3 rall z rfl rfl (by decide) (forall3 ⟨Hm9.out, HNm.out, by dsimp only; omega⟩ ⟨Hn9.out, HNn.out, by dsimp only; omega⟩ ⟨Ho9.out, HNo.out, by dsimp only; omega⟩) HJ3.out)
  go_wp2_with fail
  refine (HC10.out).mono ?_; rintro e w10 ⟨v10, rfl, hown10, hb10⟩
  have HB10 := Lib.hid (below_two HB9.out hb10)
  have Hd10 := Lib.hid (Hd9.out.later hb10)
  have Hf10 := Lib.hid (Hf9.out.later hb10)
  have Hg10 := Lib.hid (Hg9.out.later hb10)
  have Hr10 := Lib.hid (Hr9.out.later hb10)
  have Hs10 := Lib.hid (Hs9.out.later hb10)
  have Hm10 := Lib.hid (Hm9.out.later hb10)
  have Hn10 := Lib.hid (Hn9.out.later hb10)
  have Ho10 := Lib.hid (Ho9.out.later hb10)
  obtain ⟨aot, capt, rfl, hr10, hnct, hg10⟩ := IsR.owned (f := fP) (s := 3) fP_len (l := rall) (n := (rall).length) rfl hown10
  have Ht10 := Lib.hid hr10
  have HNt := Lib.hid hnct
  clear hb10 HC10 hown10 hr10 hg10 hnct
  have HC11 := Lib.hid (known_any w10 (HT.out.below HB10.out))
  go_wp2_with fail
  refine (HC11.out).mono ?_; rintro e w11 ⟨rfl, hb11⟩
  have HB11 := Lib.hid (below_two HB10.out hb11)
  clear hb11 HC11
  go_wp2_with fail
  go_ret
  exact ⟨rfl, HB11.out⟩

set_option maxRecDepth 100000 in
set_option maxHeartbeats 8000000 in
theorem groups_ok (ao bo co : Option Addr) (n nc m md q qd : Nat) (a b c : List Pc) (w : World) (ht : Tab w) (h : IsR fP w ao n a) (k : IsR fP w bo m b) (g : IsR fP w co q c) (hnc : ao = none → n = 0 ∧ nc = 0) (hmc : bo = none → m = 0 ∧ md = 0) (hqc : co = none → q = 0 ∧ qd = 0) (hn : n * 32 ≤ 140737488355328) (hm : m * 32 ≤ 140737488355328) (hq : q * 32 ≤ 140737488355328) (rab rbc rall : List Pc) (h1 : joinP [a, b] = (rab, 0)) (h2 : joinP [b, c] = (rbc, 0)) (h3 : joinP [a, b, c] = (rall, 0)) : Calls Tryd.prog 13 #[.slice ao n nc, .slice bo m md, .slice co q qd] w fun e w' => e = .returned (.bool true) ∧ Below w.heap.size w w' := by
  have HT := Lib.hid ht
  have Hd0 := Lib.hid h
  have Hf0 := Lib.hid k
  have Hg0 := Lib.hid g
  have hla := h.1
  have hlb := k.1
  have hlc := g.1
  have HNd := Lib.hid hnc
  have HNf := Lib.hid hmc
  have HNg := Lib.hid hqc
  subst hla
  subst hlb
  subst hlc
  have HJ1 := Lib.hid h1
  have HJ2 := Lib.hid h2
  have HJ3 := Lib.hid h3
  have GPf := gp_of h1 h2 h3
  have HGP := Lib.hid GPf
  have l1 := (check_inv GPf.cab).1
  have l2 := (check_inv GPf.cbc).1
  have l3 := (check_inv GPf.call).1
  have l4 := (check_inv GPf.cn).1
  have l5 := (check_inv GPf.ca).1
  have l6 := (check_inv GPf.cb).1
  have l7 := (check_inv GPf.cc).1
  clear GPf
  have HSS := Lib.hid (show sameL rall rall = true from decide_eq_true rfl)
  clear ht h k g hnc hmc hqc h1 h2 h3
  go_enter Tryd.func13, Tryd.ntmps13
  have HC1 := Lib.hid (own_any ao a.length nc a w Hd0.out HNd.out hn)
  go_wp2_with fail
  refine (HC1.out).mono ?_; rintro e w1 ⟨v1, rfl, hown1, hb1⟩
  have HB1 := Lib.hid (below_two (Below.refl w.heap.size w) hb1)
  have Hd1 := Lib.hid (Hd0.out.later hb1)
  have Hf1 := Lib.hid (Hf0.out.later hb1)
  have Hg1 := Lib.hid (Hg0.out.later hb1)
  obtain ⟨aoi, capi, rfl, hr1, hnci, hg1⟩ := IsR.owned (f := fP) (s := 3) fP_len (l := a) (n := (a).length) rfl hown1
  have Hi1 := Lib.hid hr1
  have HNi := Lib.hid hnci
  clear hb1 HC1 hown1 hr1 hg1 hnci
  have HC2 := Lib.hid (own_any bo b.length md b w1 Hf1.out HNf.out hm)
  go_wp2_with fail
  refine (HC2.out).mono ?_; rintro e w2 ⟨v2, rfl, hown2, hb2⟩
  have HB2 := Lib.hid (below_two HB1.out hb2)
  have Hd2 := Lib.hid (Hd1.out.later hb2)
  have Hf2 := Lib.hid (Hf1.out.later hb2)
  have Hg2 := Lib.hid (Hg1.out.later hb2)
  have Hi2 := Lib.hid (Hi1.out.later hb2)
  obtain ⟨aoj, capj, rfl, hr2, hncj, hg2⟩ := IsR.owned (f := fP) (s := 3) fP_len (l := b) (n := (b).length) rfl hown2
  have Hj2 := Lib.hid hr2
  have HNj := Lib.hid hncj
  clear hb2 HC2 hown2 hr2 hg2 hncj
  have HC3 := Lib.hid (joinN w2 [⟨aoi, a.length, capi, a⟩, ⟨aoj, b.length, capj, b⟩] #[.slice aoi a.length capi, .slice aoj b.length capj] 2 rab 0 rfl rfl (by decide) (forall2 ⟨Hi2.out, HNi.out, by dsimp only; omega⟩ ⟨Hj2.out, HNj.out, by dsimp only; omega⟩) HJ1.out)
  go_wp2_with fail
  refine (HC3.out).mono ?_; rintro e w3 ⟨v3, rfl, hown3, hb3⟩
  have HB3 := Lib.hid (below_two HB2.out hb3)
  have Hd3 := Lib.hid (Hd2.out.later hb3)
  have Hf3 := Lib.hid (Hf2.out.later hb3)
  have Hg3 := Lib.hid (Hg2.out.later hb3)
  have Hi3 := Lib.hid (Hi2.out.later hb3)
  have Hj3 := Lib.hid (Hj2.out.later hb3)
  obtain ⟨aor, capr, rfl, hr3, hncr, hg3⟩ := IsR.owned (f := fP) (s := 3) fP_len (l := rab) (n := (rab).length) rfl hown3
  have Hr3 := Lib.hid hr3
  have HNr := Lib.hid hncr
  clear hb3 HC3 hown3 hr3 hg3 hncr
  have HC4 := Lib.hid (own_any bo b.length md b w3 Hf3.out HNf.out hm)
  go_wp2_with fail
  refine (HC4.out).mono ?_; rintro e w4 ⟨v4, rfl, hown4, hb4⟩
  have HB4 := Lib.hid (below_two HB3.out hb4)
  have Hd4 := Lib.hid (Hd3.out.later hb4)
  have Hf4 := Lib.hid (Hf3.out.later hb4)
  have Hg4 := Lib.hid (Hg3.out.later hb4)
  have Hr4 := Lib.hid (Hr3.out.later hb4)
  obtain ⟨aok, capk, rfl, hr4, hnck, hg4⟩ := IsR.owned (f := fP) (s := 3) fP_len (l := b) (n := (b).length) rfl hown4
  have Hk4 := Lib.hid hr4
  have HNk := Lib.hid hnck
  clear hb4 HC4 hown4 hr4 hg4 hnck
  have HC5 := Lib.hid (own_any co c.length qd c w4 Hg4.out HNg.out hq)
  go_wp2_with fail
  refine (HC5.out).mono ?_; rintro e w5 ⟨v5, rfl, hown5, hb5⟩
  have HB5 := Lib.hid (below_two HB4.out hb5)
  have Hd5 := Lib.hid (Hd4.out.later hb5)
  have Hf5 := Lib.hid (Hf4.out.later hb5)
  have Hg5 := Lib.hid (Hg4.out.later hb5)
  have Hr5 := Lib.hid (Hr4.out.later hb5)
  have Hk5 := Lib.hid (Hk4.out.later hb5)
  obtain ⟨aol, capl, rfl, hr5, hncl, hg5⟩ := IsR.owned (f := fP) (s := 3) fP_len (l := c) (n := (c).length) rfl hown5
  have Hl5 := Lib.hid hr5
  have HNl := Lib.hid hncl
  clear hb5 HC5 hown5 hr5 hg5 hncl
  have HC6 := Lib.hid (joinN w5 [⟨aok, b.length, capk, b⟩, ⟨aol, c.length, capl, c⟩] #[.slice aok b.length capk, .slice aol c.length capl] 2 rbc 0 rfl rfl (by decide) (forall2 ⟨Hk5.out, HNk.out, by dsimp only; omega⟩ ⟨Hl5.out, HNl.out, by dsimp only; omega⟩) HJ2.out)
  go_wp2_with fail
  refine (HC6.out).mono ?_; rintro e w6 ⟨v6, rfl, hown6, hb6⟩
  have HB6 := Lib.hid (below_two HB5.out hb6)
  have Hd6 := Lib.hid (Hd5.out.later hb6)
  have Hf6 := Lib.hid (Hf5.out.later hb6)
  have Hg6 := Lib.hid (Hg5.out.later hb6)
  have Hr6 := Lib.hid (Hr5.out.later hb6)
  have Hk6 := Lib.hid (Hk5.out.later hb6)
  have Hl6 := Lib.hid (Hl5.out.later hb6)
  obtain ⟨aos, caps, rfl, hr6, hncs, hg6⟩ := IsR.owned (f := fP) (s := 3) fP_len (l := rbc) (n := (rbc).length) rfl hown6
  have Hs6 := Lib.hid hr6
  have HNs := Lib.hid hncs
  clear hb6 HC6 hown6 hr6 hg6 hncs
  have HC7 := Lib.hid (own_any ao a.length nc a w6 Hd6.out HNd.out hn)
  go_wp2_with fail
  refine (HC7.out).mono ?_; rintro e w7 ⟨v7, rfl, hown7, hb7⟩
  have HB7 := Lib.hid (below_two HB6.out hb7)
  have Hd7 := Lib.hid (Hd6.out.later hb7)
  have Hf7 := Lib.hid (Hf6.out.later hb7)
  have Hg7 := Lib.hid (Hg6.out.later hb7)
  have Hr7 := Lib.hid (Hr6.out.later hb7)
  have Hs7 := Lib.hid (Hs6.out.later hb7)
  obtain ⟨aom, capm, rfl, hr7, hncm, hg7⟩ := IsR.owned (f := fP) (s := 3) fP_len (l := a) (n := (a).length) rfl hown7
  have Hm7 := Lib.hid hr7
  have HNm := Lib.hid hncm
  clear hb7 HC7 hown7 hr7 hg7 hncm
  have HC8 := Lib.hid (own_any bo b.length md b w7 Hf7.out HNf.out hm)
  go_wp2_with fail
  refine (HC8.out).mono ?_; rintro e w8 ⟨v8, rfl, hown8, hb8⟩
  have HB8 := Lib.hid (below_two HB7.out hb8)
  have Hd8 := Lib.hid (Hd7.out.later hb8)
  have Hf8 := Lib.hid (Hf7.out.later hb8)
  have Hg8 := Lib.hid (Hg7.out.later hb8)
  have Hr8 := Lib.hid (Hr7.out.later hb8)
  have Hs8 := Lib.hid (Hs7.out.later hb8)
  have Hm8 := Lib.hid (Hm7.out.later hb8)
  obtain ⟨aon, capn, rfl, hr8, hncn, hg8⟩ := IsR.owned (f := fP) (s := 3) fP_len (l := b) (n := (b).length) rfl hown8
  have Hn8 := Lib.hid hr8
  have HNn := Lib.hid hncn
  clear hb8 HC8 hown8 hr8 hg8 hncn
  have HC9 := Lib.hid (own_any co c.length qd c w8 Hg8.out HNg.out hq)
  go_wp2_with fail
  refine (HC9.out).mono ?_; rintro e w9 ⟨v9, rfl, hown9, hb9⟩
  have HB9 := Lib.hid (below_two HB8.out hb9)
  have Hd9 := Lib.hid (Hd8.out.later hb9)
  have Hf9 := Lib.hid (Hf8.out.later hb9)
  have Hg9 := Lib.hid (Hg8.out.later hb9)
  have Hr9 := Lib.hid (Hr8.out.later hb9)
  have Hs9 := Lib.hid (Hs8.out.later hb9)
  have Hm9 := Lib.hid (Hm8.out.later hb9)
  have Hn9 := Lib.hid (Hn8.out.later hb9)
  obtain ⟨aoo, capo, rfl, hr9, hnco, hg9⟩ := IsR.owned (f := fP) (s := 3) fP_len (l := c) (n := (c).length) rfl hown9
  have Ho9 := Lib.hid hr9
  have HNo := Lib.hid hnco
  clear hb9 HC9 hown9 hr9 hg9 hnco
  have HC10 := Lib.hid (joinN w9 [⟨aom, a.length, capm, a⟩, ⟨aon, b.length, capn, b⟩, ⟨aoo, c.length, capo, c⟩] #[.slice aom a.length capm, .slice aon b.length capn, .slice aoo c.length capo] 3 rall 0 rfl rfl (by decide) (forall3 ⟨Hm9.out, HNm.out, by dsimp only; omega⟩ ⟨Hn9.out, HNn.out, by dsimp only; omega⟩ ⟨Ho9.out, HNo.out, by dsimp only; omega⟩) HJ3.out)
  go_wp2_with fail
  refine (HC10.out).mono ?_; rintro e w10 ⟨v10, rfl, hown10, hb10⟩
  have HB10 := Lib.hid (below_two HB9.out hb10)
  have Hd10 := Lib.hid (Hd9.out.later hb10)
  have Hf10 := Lib.hid (Hf9.out.later hb10)
  have Hg10 := Lib.hid (Hg9.out.later hb10)
  have Hr10 := Lib.hid (Hr9.out.later hb10)
  have Hs10 := Lib.hid (Hs9.out.later hb10)
  have Hm10 := Lib.hid (Hm9.out.later hb10)
  have Hn10 := Lib.hid (Hn9.out.later hb10)
  have Ho10 := Lib.hid (Ho9.out.later hb10)
  obtain ⟨aot, capt, rfl, hr10, hnct, hg10⟩ := IsR.owned (f := fP) (s := 3) fP_len (l := rall) (n := (rall).length) rfl hown10
  have Ht10 := Lib.hid hr10
  have HNt := Lib.hid hnct
  clear hb10 HC10 hown10 hr10 hg10 hnct
  have HC11 := Lib.hid (own_any co c.length qd c w10 Hg10.out HNg.out hq)
  go_wp2_with fail
  refine (HC11.out).mono ?_; rintro e w11 ⟨v11, rfl, hown11, hb11⟩
  have HB11 := Lib.hid (below_two HB10.out hb11)
  have Hd11 := Lib.hid (Hd10.out.later hb11)
  have Hf11 := Lib.hid (Hf10.out.later hb11)
  have Hg11 := Lib.hid (Hg10.out.later hb11)
  have Hr11 := Lib.hid (Hr10.out.later hb11)
  have Hs11 := Lib.hid (Hs10.out.later hb11)
  have Ht11 := Lib.hid (Ht10.out.later hb11)
  obtain ⟨aop, capp, rfl, hr11, hncp, hg11⟩ := IsR.owned (f := fP) (s := 3) fP_len (l := c) (n := (c).length) rfl hown11
  have Hp11 := Lib.hid hr11
  have HNp := Lib.hid hncp
  clear hb11 HC11 hown11 hr11 hg11 hncp
  have HC12 := Lib.hid (joinN w11 [⟨aor, rab.length, capr, rab⟩, ⟨aop, c.length, capp, c⟩] #[.slice aor rab.length capr, .slice aop c.length capp] 2 rall 0 rfl rfl (by decide) (forall2 ⟨Hr11.out, HNr.out, by dsimp only; omega⟩ ⟨Hp11.out, HNp.out, by dsimp only; omega⟩) HGP.out.x)
  go_wp2_with fail
  refine (HC12.out).mono ?_; rintro e w12 ⟨v12, rfl, hown12, hb12⟩
  have HB12 := Lib.hid (below_two HB11.out hb12)
  have Hd12 := Lib.hid (Hd11.out.later hb12)
  have Hf12 := Lib.hid (Hf11.out.later hb12)
  have Hg12 := Lib.hid (Hg11.out.later hb12)
  have Hr12 := Lib.hid (Hr11.out.later hb12)
  have Hs12 := Lib.hid (Hs11.out.later hb12)
  have Ht12 := Lib.hid (Ht11.out.later hb12)
  have Hp12 := Lib.hid (Hp11.out.later hb12)
  obtain ⟨aou, capu, rfl, hr12, hncu, hg12⟩ := IsR.owned (f := fP) (s := 3) fP_len (l := rall) (n := (rall).length) rfl hown12
  have Hu12 := Lib.hid hr12
  have HNu := Lib.hid hncu
  clear hb12 HC12 hown12 hr12 hg12 hncu
  have HC13 := Lib.hid (own_any ao a.length nc a w12 Hd12.out HNd.out hn)
  go_wp2_with fail
  refine (HC13.out).mono ?_; rintro e w13 ⟨v13, rfl, hown13, hb13⟩
  have HB13 := Lib.hid (below_two HB12.out hb13)
  have Hd13 := Lib.hid (Hd12.out.later hb13)
  have Hf13 := Lib.hid (Hf12.out.later hb13)
  have Hg13 := Lib.hid (Hg12.out.later hb13)
  have Hs13 := Lib.hid (Hs12.out.later hb13)
  have Ht13 := Lib.hid (Ht12.out.later hb13)
  have Hu13 := Lib.hid (Hu12.out.later hb13)
  obtain ⟨aoq, capq, rfl, hr13, hncq, hg13⟩ := IsR.owned (f := fP) (s := 3) fP_len (l := a) (n := (a).length) rfl hown13
  have Hq13 := Lib.hid hr13
  have HNq := Lib.hid hncq
  clear hb13 HC13 hown13 hr13 hg13 hncq
  have HC14 := Lib.hid (joinN w13 [⟨aoq, a.length, capq, a⟩, ⟨aos, rbc.length, caps, rbc⟩] #[.slice aoq a.length capq, .slice aos rbc.length caps] 2 rall 0 rfl rfl (by decide) (forall2 ⟨Hq13.out, HNq.out, by dsimp only; omega⟩ ⟨Hs13.out, HNs.out, by dsimp only; omega⟩) HGP.out.y)
  go_wp2_with fail
  refine (HC14.out).mono ?_; rintro e w14 ⟨v14, rfl, hown14, hb14⟩
  have HB14 := Lib.hid (below_two HB13.out hb14)
  have Hd14 := Lib.hid (Hd13.out.later hb14)
  have Hf14 := Lib.hid (Hf13.out.later hb14)
  have Hg14 := Lib.hid (Hg13.out.later hb14)
  have Hs14 := Lib.hid (Hs13.out.later hb14)
  have Ht14 := Lib.hid (Ht13.out.later hb14)
  have Hu14 := Lib.hid (Hu13.out.later hb14)
  have Hq14 := Lib.hid (Hq13.out.later hb14)
  obtain ⟨aov, capv, rfl, hr14, hncv, hg14⟩ := IsR.owned (f := fP) (s := 3) fP_len (l := rall) (n := (rall).length) rfl hown14
  have Hv14 := Lib.hid hr14
  have HNv := Lib.hid hncv
  clear hb14 HC14 hown14 hr14 hg14 hncv
  have HC15 := Lib.hid (own_any bo b.length md b w14 Hf14.out HNf.out hm)
  go_wp2_with fail
  refine (HC15.out).mono ?_; rintro e w15 ⟨v15, rfl, hown15, hb15⟩
  have HB15 := Lib.hid (below_two HB14.out hb15)
  have Hd15 := Lib.hid (Hd14.out.later hb15)
  have Hf15 := Lib.hid (Hf14.out.later hb15)
  have Hg15 := Lib.hid (Hg14.out.later hb15)
  have Ht15 := Lib.hid (Ht14.out.later hb15)
  have Hu15 := Lib.hid (Hu14.out.later hb15)
  have Hv15 := Lib.hid (Hv14.out.later hb15)
  obtain ⟨aow, capw, rfl, hr15, hncw, hg15⟩ := IsR.owned (f := fP) (s := 3) fP_len (l := b) (n := (b).length) rfl hown15
  have Hw15 := Lib.hid hr15
  have HNw := Lib.hid hncw
  clear hb15 HC15 hown15 hr15 hg15 hncw
  have HC16 := Lib.hid (normalize_to aow b.length capw b w15 Hw15.out (by omega) HGP.out.n HGP.out.cb)
  go_wp2_with fail
  refine (HC16.out).mono ?_; rintro e w16 ⟨v16, rfl, hown16, hb16⟩
  have HB16 := Lib.hid (below_two HB15.out hb16)
  have Hd16 := Lib.hid (Hd15.out.later hb16)
  have Hf16 := Lib.hid (Hf15.out.later hb16)
  have Hg16 := Lib.hid (Hg15.out.later hb16)
  have Ht16 := Lib.hid (Ht15.out.later hb16)
  have Hu16 := Lib.hid (Hu15.out.later hb16)
  have Hv16 := Lib.hid (Hv15.out.later hb16)
  have Hw16 := Lib.hid (Hw15.out.later hb16)
  obtain ⟨aox, capx, rfl, hr16, hncx, hg16⟩ := IsR.owned (f := fP) (s := 3) fP_len (l := formP b) (n := (formP b).length) rfl hown16
  have Hx16 := Lib.hid hr16
  have HNx := Lib.hid hncx
  clear hb16 HC16 hown16 hr16 hg16 hncx
  have HC17 := Lib.hid (own_any ao a.length nc a w16 Hd16.out HNd.out hn)
  go_wp2_with fail
  refine (HC17.out).mono ?_; rintro e w17 ⟨v17, rfl, hown17, hb17⟩
  have HB17 := Lib.hid (below_two HB16.out hb17)
  have Hd17 := Lib.hid (Hd16.out.later hb17)
  have Hf17 := Lib.hid (Hf16.out.later hb17)
  have Hg17 := Lib.hid (Hg16.out.later hb17)
  have Ht17 := Lib.hid (Ht16.out.later hb17)
  have Hu17 := Lib.hid (Hu16.out.later hb17)
  have Hv17 := Lib.hid (Hv16.out.later hb17)
  have Hx17 := Lib.hid (Hx16.out.later hb17)
  obtain ⟨aoy, capy, rfl, hr17, hncy, hg17⟩ := IsR.owned (f := fP) (s := 3) fP_len (l := a) (n := (a).length) rfl hown17
  have Hy17 := Lib.hid hr17
  have HNy := Lib.hid hncy
  clear hb17 HC17 hown17 hr17 hg17 hncy
  have HC18 := Lib.hid (own_any co c.length qd c w17 Hg17.out HNg.out hq)
  go_wp2_with fail
  refine (HC18.out).mono ?_; rintro e w18 ⟨v18, rfl, hown18, hb18⟩
  have HB18 := Lib.hid (below_two HB17.out hb18)
  have Hd18 := Lib.hid (Hd17.out.later hb18)
  have Hf18 := Lib.hid (Hf17.out.later hb18)
  have Hg18 := Lib.hid (Hg17.out.later hb18)
  have Ht18 := Lib.hid (Ht17.out.later hb18)
  have Hu18 := Lib.hid (Hu17.out.later hb18)
  have Hv18 := Lib.hid (Hv17.out.later hb18)
  have Hx18 := Lib.hid (Hx17.out.later hb18)
  have Hy18 := Lib.hid (Hy17.out.later hb18)
  obtain ⟨aoz, capz, rfl, hr18, hncz, hg18⟩ := IsR.owned (f := fP) (s := 3) fP_len (l := c) (n := (c).length) rfl hown18
  have Hz18 := Lib.hid hr18
  have HNz := Lib.hid hncz
  clear hb18 HC18 hown18 hr18 hg18 hncz
  have HC19 := Lib.hid (joinN w18 [⟨aoy, a.length, capy, a⟩, ⟨none, 0, 0, []⟩, ⟨aox, (formP b).length, capx, formP b⟩, ⟨aoz, c.length, capz, c⟩] #[.slice aoy a.length capy, .slice none 0 0, .slice aox (formP b).length capx, .slice aoz c.length capz] 4 rall 0 rfl rfl (by decide) (forall4 ⟨Hy18.out, HNy.out, by dsimp only; omega⟩ ⟨⟨rfl, fun h => absurd h (Nat.lt_irrefl _)⟩, fun _ => ⟨rfl, rfl⟩, by decide⟩ ⟨Hx18.out, HNx.out, by dsimp only; omega⟩ ⟨Hz18.out, HNz.out, by dsimp only; omega⟩) HGP.out.z)
  go_wp2_with fail
  refine (HC19.out).mono ?_; rintro e w19 ⟨v19, rfl, hown19, hb19⟩
  have HB19 := Lib.hid (below_two HB18.out hb19)
  have Hd19 := Lib.hid (Hd18.out.later hb19)
  have Hf19 := Lib.hid (Hf18.out.later hb19)
  have Hg19 := Lib.hid (Hg18.out.later hb19)
  have Ht19 := Lib.hid (Ht18.out.later hb19)
  have Hu19 := Lib.hid (Hu18.out.later hb19)
  have Hv19 := Lib.hid (Hv18.out.later hb19)
  have Hx19 := Lib.hid (Hx18.out.later hb19)
  have Hy19 := Lib.hid (Hy18.out.later hb19)
  have Hz19 := Lib.hid (Hz18.out.later hb19)
  obtain ⟨aozz, capzz, rfl, hr19, hnczz, hg19⟩ := IsR.owned (f := fP) (s := 3) fP_len (l := rall) (n := (rall).length) rfl hown19
  have Hzz19 := Lib.hid hr19
  have HNzz := Lib.hid hnczz
  clear hb19 HC19 hown19 hr19 hg19 hnczz
  obtain ⟨I, hI⟩ : ∃ I : Int, I = (sIP (a ++ (b ++ (c ++ []))) : Int) := ⟨_, rfl⟩
  obtain ⟨O, hO⟩ : ∃ O : Int, O = (sOP (a ++ (b ++ (c ++ []))) : Int) := ⟨_, rfl⟩
  have HI := Lib.hid hI
  have HO := Lib.hid hO
  have HLEN := Lib.hid (show lengthsP rall = (I, O, 0) by rw [hI, hO]; exact HGP.out.len)
  clear hI hO
  have HC20 := Lib.hid (lengths_to aot rall.length capt rall w19 Ht19.out (by omega) HLEN.out)
  go_wp2_with fail
  refine (HC20.out).mono ?_; rintro e w20 ⟨rfl, hb20⟩
  have HB20 := Lib.hid (below_two HB19.out hb20)
  have Hd20 := Lib.hid (Hd19.out.later hb20)
  have Hf20 := Lib.hid (Hf19.out.later hb20)
  have Hg20 := Lib.hid (Hg19.out.later hb20)
  have Ht20 := Lib.hid (Ht19.out.later hb20)
  have Hu20 := Lib.hid (Hu19.out.later hb20)
  have Hv20 := Lib.hid (Hv19.out.later hb20)
  have Hzz20 := Lib.hid (Hzz19.out.later hb20)
  clear hb20 HC20
  obtain ⟨ss, hss⟩ : ∃ ss : List Sl, ss = [⟨ao, a.length, nc, a⟩, ⟨bo, b.length, md, b⟩, ⟨co, c.length, qd, c⟩] := ⟨_, rfl⟩
  have HLS := Lib.hid (show IsLs (w20.alloc (.cells #[.slice ao a.length nc, .slice bo b.length md, .slice co c.length qd] 22)) (some ⟨w20.heap.size, 0, none⟩) 3 ss by rw [hss]; exact isLs_new w20 [⟨ao, a.length, nc, a⟩, ⟨bo, b.length, md, b⟩, ⟨co, c.length, qd, c⟩] _ 3 rfl rfl (forall3 ⟨Hd20.out, HNd.out, by dsimp only; omega⟩ ⟨Hf20.out, HNf.out, by dsimp only; omega⟩ ⟨Hg20.out, HNg.out, by dsimp only; omega⟩))
  have HCK := Lib.hid (show ∀ s ∈ ss, checkP s.l = 0 ∧ s.n ≤ 4096 by rw [hss]; exact forall3 ⟨HGP.out.ca, l5⟩ ⟨HGP.out.cb, l6⟩ ⟨HGP.out.cc, l7⟩)
  have hsl : ss.length = 3 := by rw [hss]; rfl
  have HIS := Lib.hid (show I = (sIP (catL ss) : Int) by rw [HI.out, hss]; rfl)
  have HOS := Lib.hid (show O = (sOP (catL ss) : Int) by rw [HO.out, hss]; rfl)
  have hib : ∀ j, sIP (catL (ss.take j)) ≤ 3145728 ∧ sOP (catL (ss.take j)) ≤ 3145728 := fun j => sums_le HCK.out hsl j
  have HIB := Lib.hid hib
  have HBL := Lib.hid ((HB20.out).alloc (HB20.out).size (.cells #[.slice ao a.length nc, .slice bo b.length md, .slice co c.length qd] 22))
  have HtL := Lib.hid (Ht20.out.later ((Below.refl w20.heap.size w20).alloc (Nat.le_refl _) (.cells #[.slice ao a.length nc, .slice bo b.length md, .slice co c.length qd] 22)))
  have HuL := Lib.hid (Hu20.out.later ((Below.refl w20.heap.size w20).alloc (Nat.le_refl _) (.cells #[.slice ao a.length nc, .slice bo b.length md, .slice co c.length qd] 22)))
  have HvL := Lib.hid (Hv20.out.later ((Below.refl w20.heap.size w20).alloc (Nat.le_refl _) (.cells #[.slice ao a.length nc, .slice bo b.length md, .slice co c.length qd] 22)))
  have HzzL := Lib.hid (Hzz20.out.later ((Below.refl w20.heap.size w20).alloc (Nat.le_refl _) (.cells #[.slice ao a.length nc, .slice bo b.length md, .slice co c.length qd] 22)))
  clear hss hib
  go_wp2_with fail
  obtain ⟨wl, hwl⟩ : ∃ wl, wl = w20.alloc (.cells #[.slice ao a.length nc, .slice bo b.length md, .slice co c.length qd] 22) := ⟨_, rfl⟩
  rw [← hwl] at HLS HBL HtL HuL HvL HzzL ⊢
  clear hwl
  go_loopw [24, 25, 27, 28, 29, 30, 114] (fun s24 s25 _ _ _ _ s wr => ∃ (j x y : Nat), j ≤ 3 ∧ s = .int .i64 j ∧ s24 = .int .i64 x ∧ s25 = .int .i64 y ∧ x = sIP (catL (ss.take j)) ∧ y = sOP (catL (ss.take j)) ∧ Below wl.heap.size wl wr) (fun _ _ _ _ _ _ s _ => 3 - (intOf s).toNat)
  case atStart => exact ⟨0, 0, 0, Nat.zero_le _, rfl, rfl, rfl, rfl, rfl, Below.refl _ _⟩
  case round =>
    obtain ⟨j, x, y, hj, rfl, rfl, rfl, hx, hy, hbr⟩ := hrel
    generalize wr = wn at *
    have HBR := Lib.hid hbr
    have HX := Lib.hid hx
    have HY := Lib.hid hy
    have hxb : x ≤ 3145728 := by rw [hx]; exact (HIB.out j).1
    have hyb : y ≤ 3145728 := by rw [hy]; exact (HIB.out j).2
    clear hx hy
    by_cases hlt : j < 3
    · have hjs : j < ss.length := by omega
      have hj1 : (j : Int) < 3 := by omega
      have hj0 : (0 : Int) ≤ (j : Int) := by omega
      obtain ⟨bb, off, hadr, hat⟩ := HLS.out.at hbr hlt
      cases hadr
      obtain ⟨c0, hr, hnn⟩ := hat hjs
      rw [Nat.zero_add] at c0
      obtain ⟨hck, hnb⟩ := HCK.out _ (List.getElem_mem hjs)
      have hct := catL_take hjs
      have HXS := Lib.hid (show sIP (catL (ss.take (j + 1))) = x + sIP ss[j].l by rw [hct, sIP_append, HX.out])
      have HYS := Lib.hid (show sOP (catL (ss.take (j + 1))) = y + sOP ss[j].l by rw [hct, sOP_append, HY.out])
      have hib1 := (check_inv hck).2.2
      have hln := hr.1
      clear hat hct hbr
      generalize ss[j] = s at *
      obtain ⟨sa, sn, sc, sl⟩ := s
      simp only at c0 hr hnn hck hnb hib1 hln
      have HXT := Lib.hid (show sIP (catL (ss.take (j + 1))) = x + sIP sl from HXS.out)
      have HYT := Lib.hid (show sOP (catL (ss.take (j + 1))) = y + sOP sl from HYS.out)
      have HLT := Lib.hid (lengths_of_check hck)
      obtain ⟨p, hp⟩ : ∃ p, p = sIP sl := ⟨_, rfl⟩
      obtain ⟨t, htt⟩ : ∃ t, t = sOP sl := ⟨_, rfl⟩
      rw [← hp] at HXT HLT hib1
      rw [← htt] at HYT HLT hib1
      obtain ⟨hpb, htb⟩ := hib1
      have HNN := Lib.hid hnn
      subst hln
      have HO1 := Lib.hid (own_any sa sl.length sc sl wn hr HNN.out (by omega))
      clear hr hnn hck HXS HYS hp htt
      go_wp2_with fail
      refine (HO1.out).mono ?_; rintro e wo ⟨vo, rfl, howno, hbo⟩
      have HBO := Lib.hid (below_two HBR.out hbo)
      obtain ⟨aoo, capo, rfl, hro, -, -⟩ := IsR.owned (f := fP) (s := 3) fP_len (l := sl) (n := sl.length) rfl howno
      have HL2 := Lib.hid (lengths_to aoo sl.length capo sl wo hro (by omega) HLT.out)
      clear howno hbo hro HO1
      go_wp2_with fail
      refine (HL2.out).mono ?_; rintro e wp ⟨rfl, hbp⟩
      have HBP := Lib.hid (below_two HBO.out hbp)
      clear hbp HL2
      go_wp2_with fail
      go_roundw
      case rel => exact ⟨j + 1, x + p, y + t, by omega, by go_num, by go_num, by go_num, by rw [HXT.out], by rw [HYT.out], HBP.out⟩
      case measure => simp [intOf]; omega
    · have hj3 : ¬ ((j : Int) < 3) := by omega
      have hxi : (x : Int) = I := by rw [HX.out, HIS.out, List.take_of_length_le (by omega)]
      have hyo : (y : Int) = O := by rw [HY.out, HOS.out, List.take_of_length_le (by omega)]
      rw [hxi, hyo]
      have HB21 := Lib.hid (below_two HBL.out hbr)
      have Ht21 := Lib.hid (HtL.out.later hbr)
      have Hu21 := Lib.hid (HuL.out.later hbr)
      have Hv21 := Lib.hid (HvL.out.later hbr)
      have Hzz21 := Lib.hid (HzzL.out.later hbr)
      clear hbr hxi hyo HX HY hxb hyb
      have HC22 := Lib.hid (refSame_to aou aot rall.length capu rall.length capt rall rall wn Hu21.out Ht21.out (by omega) HSS.out)
      go_wp2_with fail
      refine (HC22.out).mono ?_; rintro e w22 ⟨rfl, hb22⟩
      have HB22 := Lib.hid (below_two HB21.out hb22)
      have Ht22 := Lib.hid (Ht21.out.later hb22)
      have Hu22 := Lib.hid (Hu21.out.later hb22)
      have Hv22 := Lib.hid (Hv21.out.later hb22)
      have Hzz22 := Lib.hid (Hzz21.out.later hb22)
      clear hb22 HC22
      have HC23 := Lib.hid (refSame_to aov aot rall.length capv rall.length capt rall rall w22 Hv22.out Ht22.out (by omega) HSS.out)
      go_wp2_with fail
      refine (HC23.out).mono ?_; rintro e w23 ⟨rfl, hb23⟩
      have HB23 := Lib.hid (below_two HB22.out hb23)
      have Ht23 := Lib.hid (Ht22.out.later hb23)
      have Hv23 := Lib.hid (Hv22.out.later hb23)
      have Hzz23 := Lib.hid (Hzz22.out.later hb23)
      clear hb23 HC23
      have HC24 := Lib.hid (refSame_to aozz aot rall.length capzz rall.length capt rall rall w23 Hzz23.out Ht23.out (by omega) HSS.out)
      go_wp2_with fail
      refine (HC24.out).mono ?_; rintro e w24 ⟨rfl, hb24⟩
      have HB24 := Lib.hid (below_two HB23.out hb24)
      have Ht24 := Lib.hid (Ht23.out.later hb24)
      have Hzz24 := Lib.hid (Hzz23.out.later hb24)
      clear hb24 HC24
      have HC25 := Lib.hid (normal_to aot rall.length capt rall w24 Ht24.out (by omega) HGP.out.nf)
      go_wp2_with fail
      refine (HC25.out).mono ?_; rintro e w25 ⟨rfl, hb25⟩
      have HB25 := Lib.hid (below_two HB24.out hb25)
      have Ht25 := Lib.hid (Ht24.out.later hb25)
      clear hb25 HC25
      have HC26 := Lib.hid (known_any w25 (HT.out.below HB25.out))
      go_wp2_with fail
      refine (HC26.out).mono ?_; rintro e w26 ⟨rfl, hb26⟩
      have HB26 := Lib.hid (below_two HB25.out hb26)
      clear hb26 HC26
      go_wp2_with fail
      go_ret
      exact ⟨rfl, HB26.out⟩

theorem groups_law (ao bo co : Option Addr) (n nc m md q qd : Nat) (a b c : List Pc) (w : World) (ht : Tab w) (h : IsR fP w ao n a) (k : IsR fP w bo m b) (g : IsR fP w co q c) (hnc : ao = none → n = 0 ∧ nc = 0) (hmc : bo = none → m = 0 ∧ md = 0) (hqc : co = none → q = 0 ∧ qd = 0) (hn : n * 32 ≤ 140737488355328) (hm : m * 32 ≤ 140737488355328) (hq : q * 32 ≤ 140737488355328) : Calls Tryd.prog 13 #[.slice ao n nc, .slice bo m md, .slice co q qd] w fun e w' => e = .returned (.bool true) ∧ Below w.heap.size w w' := by
  obtain ⟨rab, x, h1⟩ : ∃ r x, joinP [a, b] = (r, x) := ⟨_, _, rfl⟩
  obtain ⟨rbc, y, h2⟩ : ∃ r x, joinP [b, c] = (r, x) := ⟨_, _, rfl⟩
  obtain ⟨rall, z, h3⟩ : ∃ r x, joinP [a, b, c] = (r, x) := ⟨_, _, rfl⟩
  by_cases hx : x = 0
  · subst hx
    by_cases hy : y = 0
    · subst hy
      by_cases hz : z = 0
      · subst hz
        exact groups_ok ao bo co n nc m md q qd a b c w ht h k g hnc hmc hqc hn hm hq rab rbc rall h1 h2 h3
      · exact groups_g ao bo co n nc m md q qd a b c w ht h k g hnc hmc hqc hn hm hq rab rbc rall h1 h2 h3 hz
    · exact groups_f ao bo co n nc m md q qd a b c w ht h k g hnc hmc hqc hn hm hq rab rbc rall h1 h2 h3 hy
  · exact groups_e ao bo co n nc m md q qd a b c w ht h k g hnc hmc hqc hn hm hq rab rbc rall h1 h2 h3 hx

end Go.Proofs.YtkocknhpnmkicaaDoor
