/- Deltas: the law Reads: its walk. -/
import Derived.Test.YtkocknhpnmkicaaDoorDy
namespace Go.Proofs.YtkocknhpnmkicaaDoor
open Go.RowKit
set_option linter.unusedVariables false

theorem text_to {s : ByteArray} {x : Int} (ao : Option Addr) (n c : Nat) (l : List Pc) (w : World) (h : IsR fP w ao n l) (hn63 : n ≤ 9223372036854775807) (ht : Tab w) (h1 : (⟨(txtP l).toArray⟩ : ByteArray) = s) (h2 : checkP l = x) :
    Calls Tryd.prog 27 #[.slice ao n c] w fun e w' => e = .returned (.tuple #[.string s, .int .i64 x]) ∧ Below w.heap.size w w' := by
  have h := text_any ao n c l w h hn63 ht
  rw [h1, h2] at h
  exact h
theorem parse_to {r : List Pc} {x : Int} (s : ByteArray) (w : World) (hs : s.size ≤ 1000000000) (h1 : parseR s = (r, x)) :
    Calls Tryd.prog 29 #[.string s] w (Rowed w r x) := by
  have h := parse_any s w hs
  rw [h1] at h
  exact h
theorem txt_size {l : List Pc} (hc : checkP l = 0) : (⟨(txtP l).toArray⟩ : ByteArray).size ≤ 1000000000 := by
  have h := text_short hc l.length
  rw [List.take_length] at h
  have e : txtP l = textL l := if_pos hc
  rw [e]
  show (textL l).toArray.size ≤ _
  rw [List.size_toArray]
  omega
theorem parseR_txt {l : List Pc} (hc : checkP l = 0) : parseR ⟨(txtP l).toArray⟩ = (l, 0) := by
  have e : txtP l = textL l := if_pos hc
  obtain ⟨h1, h2, h3, h4⟩ := check_inv hc
  have h := parse_text (l := l) (fun p hp => ⟨h2 p hp, by have := inn_le h2 hp; omega⟩)
  unfold parseR
  show (match parseL (txtP l).toArray.toList with
    | none => ([], 4)
    | some l => if checkP l = 0 then (l, 0) else ([], checkP l)) = _
  rw [e, List.toList_toArray, h]
  exact if_pos hc
theorem parseR_zero {s : ByteArray} {r : List Pc} (h : parseR s = (r, 0)) : checkP r = 0 ∧ (⟨(txtP r).toArray⟩ : ByteArray) = s := by
  unfold parseR at h
  split at h
  · cases h
  · rename_i q hq
    split at h
    · rename_i hc
      cases h
      refine ⟨hc, ?_⟩
      have e : txtP r = textL r := if_pos hc
      rw [e, (text_parse hq).1]
    · rename_i hc
      simp only [Prod.mk.injEq] at h
      exact absurd h.2 hc

set_option maxRecDepth 100000 in
set_option maxHeartbeats 4000000 in
theorem reads_00 (ao : Option Addr) (n c : Nat) (l : List Pc) (s : ByteArray) (w : World) (ht : Tab w) (h : IsR fP w ao n l) (hnc : ao = none → n = 0 ∧ c = 0) (hn : n * 32 ≤ 140737488355328) (hs : s.size ≤ 1000000000) (hc : checkP l ≠ 0) (r : List Pc) (x : Int) (hp : parseR s = (r, x)) (hx : x ≠ 0) : Calls Tryd.prog 9 #[.slice ao n c, .string s] w fun e w' => e = .returned (.bool true) ∧ Below w.heap.size w w' := by
  have HT := Lib.hid ht
  have Hd0 := Lib.hid h
  have hl := h.1
  have HNC := Lib.hid hnc
  have HS := Lib.hid hs
  subst hl
  have hc2 : (checkP l == 0) = false := by rw [beq_eq_false_iff_ne]; exact hc
  have HP := Lib.hid hp
  have hx2 : (x == 0) = false := by rw [beq_eq_false_iff_ne]; exact hx
  clear hp hx
  clear ht h hnc hc hs
  go_enter Tryd.func9, Tryd.ntmps9
  have HC1 := Lib.hid (own_any ao l.length c l w Hd0.out HNC.out hn)
  go_wp2_with fail
  refine (HC1.out).mono ?_; rintro e w1 ⟨v1, rfl, hown1, hb1⟩
  have HB1 := Lib.hid (below_two (Below.refl w.heap.size w) hb1)
  have Hd1 := Lib.hid (Hd0.out.later hb1)
  obtain ⟨aox, capx, rfl, hr1, hncx, hg1⟩ := IsR.owned (f := fP) (s := 3) fP_len (l := l) (n := (l).length) rfl hown1
  have Hx1 := Lib.hid hr1
  have HNx := Lib.hid hncx
  clear hb1 HC1 hown1 hr1 hg1 hncx
  have HC2 := Lib.hid (text_to aox l.length capx l w1 Hx1.out (by omega) (HT.out.below HB1.out) rfl rfl)
  go_wp2_with fail
  refine (HC2.out).mono ?_; rintro e w2 ⟨rfl, hb2⟩
  have HB2 := Lib.hid (below_two HB1.out hb2)
  have Hd2 := Lib.hid (Hd1.out.later hb2)
  have Hx2 := Lib.hid (Hx1.out.later hb2)
  clear hb2 HC2
  have HC3 := Lib.hid (parse_to s w2 HS.out HP.out)
  go_wp2_with fail
  refine (HC3.out).mono ?_; rintro e w3 ⟨v3, rfl, hown3, hb3⟩
  have HB3 := Lib.hid (below_two HB2.out hb3)
  have Hd3 := Lib.hid (Hd2.out.later hb3)
  obtain ⟨aoq, capq, rfl, hr3, hncq, hg3⟩ := IsR.owned (f := fP) (s := 3) fP_len (l := r) (n := (r).length) rfl hown3
  have Hq3 := Lib.hid hr3
  have HNq := Lib.hid hncq
  clear hb3 HC3 hown3 hr3 hg3 hncq
  have HC4 := Lib.hid (known_any w3 (HT.out.below HB3.out))
  go_wp2_with fail
  refine (HC4.out).mono ?_; rintro e w4 ⟨rfl, hb4⟩
  have HB4 := Lib.hid (below_two HB3.out hb4)
  have Hd4 := Lib.hid (Hd3.out.later hb4)
  have Hq4 := Lib.hid (Hq3.out.later hb4)
  clear hb4 HC4
  go_wp2_with fail
  go_ret
  exact ⟨rfl, HB4.out⟩

set_option maxRecDepth 100000 in
set_option maxHeartbeats 4000000 in
theorem reads_01 (ao : Option Addr) (n c : Nat) (l : List Pc) (s : ByteArray) (w : World) (ht : Tab w) (h : IsR fP w ao n l) (hnc : ao = none → n = 0 ∧ c = 0) (hn : n * 32 ≤ 140737488355328) (hs : s.size ≤ 1000000000) (hc : checkP l ≠ 0) (r : List Pc) (hp : parseR s = (r, 0)) : Calls Tryd.prog 9 #[.slice ao n c, .string s] w fun e w' => e = .returned (.bool true) ∧ Below w.heap.size w w' := by
  have HT := Lib.hid ht
  have Hd0 := Lib.hid h
  have hl := h.1
  have HNC := Lib.hid hnc
  have HS := Lib.hid hs
  subst hl
  have hc2 : (checkP l == 0) = false := by rw [beq_eq_false_iff_ne]; exact hc
  obtain ⟨p1, p2⟩ := parseR_zero hp
  have hrl := (check_inv p1).1
  have HRC := Lib.hid p1
  have HRT := Lib.hid p2
  have HP := Lib.hid hp
  clear p1 p2 hp
  clear ht h hnc hc hs
  go_enter Tryd.func9, Tryd.ntmps9
  have HC1 := Lib.hid (own_any ao l.length c l w Hd0.out HNC.out hn)
  go_wp2_with fail
  refine (HC1.out).mono ?_; rintro e w1 ⟨v1, rfl, hown1, hb1⟩
  have HB1 := Lib.hid (below_two (Below.refl w.heap.size w) hb1)
  have Hd1 := Lib.hid (Hd0.out.later hb1)
  obtain ⟨aox, capx, rfl, hr1, hncx, hg1⟩ := IsR.owned (f := fP) (s := 3) fP_len (l := l) (n := (l).length) rfl hown1
  have Hx1 := Lib.hid hr1
  have HNx := Lib.hid hncx
  clear hb1 HC1 hown1 hr1 hg1 hncx
  have HC2 := Lib.hid (text_to aox l.length capx l w1 Hx1.out (by omega) (HT.out.below HB1.out) rfl rfl)
  go_wp2_with fail
  refine (HC2.out).mono ?_; rintro e w2 ⟨rfl, hb2⟩
  have HB2 := Lib.hid (below_two HB1.out hb2)
  have Hd2 := Lib.hid (Hd1.out.later hb2)
  have Hx2 := Lib.hid (Hx1.out.later hb2)
  clear hb2 HC2
  have HC3 := Lib.hid (parse_to s w2 HS.out HP.out)
  go_wp2_with fail
  refine (HC3.out).mono ?_; rintro e w3 ⟨v3, rfl, hown3, hb3⟩
  have HB3 := Lib.hid (below_two HB2.out hb3)
  have Hd3 := Lib.hid (Hd2.out.later hb3)
  obtain ⟨aoq, capq, rfl, hr3, hncq, hg3⟩ := IsR.owned (f := fP) (s := 3) fP_len (l := r) (n := (r).length) rfl hown3
  have Hq3 := Lib.hid hr3
  have HNq := Lib.hid hncq
  clear hb3 HC3 hown3 hr3 hg3 hncq
  have HC4 := Lib.hid (text_to aoq r.length capq r w3 Hq3.out (by omega) (HT.out.below HB3.out) HRT.out HRC.out)
  go_wp2_with fail
  refine (HC4.out).mono ?_; rintro e w4 ⟨rfl, hb4⟩
  have HB4 := Lib.hid (below_two HB3.out hb4)
  have Hd4 := Lib.hid (Hd3.out.later hb4)
  have Hq4 := Lib.hid (Hq3.out.later hb4)
  clear hb4 HC4
  have HC5 := Lib.hid (known_any w4 (HT.out.below HB4.out))
  go_wp2_with fail
  refine (HC5.out).mono ?_; rintro e w5 ⟨rfl, hb5⟩
  have HB5 := Lib.hid (below_two HB4.out hb5)
  have Hd5 := Lib.hid (Hd4.out.later hb5)
  have Hq5 := Lib.hid (Hq4.out.later hb5)
  clear hb5 HC5
  go_wp2_with fail
  go_ret
  exact ⟨rfl, HB5.out⟩

set_option maxRecDepth 100000 in
set_option maxHeartbeats 4000000 in
theorem reads_10 (ao : Option Addr) (n c : Nat) (l : List Pc) (s : ByteArray) (w : World) (ht : Tab w) (h : IsR fP w ao n l) (hnc : ao = none → n = 0 ∧ c = 0) (hn : n * 32 ≤ 140737488355328) (hs : s.size ≤ 1000000000) (hc : checkP l = 0) (r : List Pc) (x : Int) (hp : parseR s = (r, x)) (hx : x ≠ 0) : Calls Tryd.prog 9 #[.slice ao n c, .string s] w fun e w' => e = .returned (.bool true) ∧ Below w.heap.size w w' := by
  have HT := Lib.hid ht
  have Hd0 := Lib.hid h
  have hl := h.1
  have HNC := Lib.hid hnc
  have HS := Lib.hid hs
  subst hl
  have HCK := Lib.hid hc
  have HSZ := Lib.hid (txt_size hc)
  have HPR := Lib.hid (parseR_txt hc)
  have HSS := Lib.hid (show sameL l l = true from decide_eq_true rfl)
  generalize htt : (⟨(txtP l).toArray⟩ : ByteArray) = tt at *
  have HTX := Lib.hid htt
  clear htt
  have HP := Lib.hid hp
  have hx2 : (x == 0) = false := by rw [beq_eq_false_iff_ne]; exact hx
  clear hp hx
  clear ht h hnc hc hs
  go_enter Tryd.func9, Tryd.ntmps9
  have HC1 := Lib.hid (own_any ao l.length c l w Hd0.out HNC.out hn)
  go_wp2_with fail
  refine (HC1.out).mono ?_; rintro e w1 ⟨v1, rfl, hown1, hb1⟩
  have HB1 := Lib.hid (below_two (Below.refl w.heap.size w) hb1)
  have Hd1 := Lib.hid (Hd0.out.later hb1)
  obtain ⟨aox, capx, rfl, hr1, hncx, hg1⟩ := IsR.owned (f := fP) (s := 3) fP_len (l := l) (n := (l).length) rfl hown1
  have Hx1 := Lib.hid hr1
  have HNx := Lib.hid hncx
  clear hb1 HC1 hown1 hr1 hg1 hncx
  have HC2 := Lib.hid (text_to aox l.length capx l w1 Hx1.out (by omega) (HT.out.below HB1.out) HTX.out HCK.out)
  go_wp2_with fail
  refine (HC2.out).mono ?_; rintro e w2 ⟨rfl, hb2⟩
  have HB2 := Lib.hid (below_two HB1.out hb2)
  have Hd2 := Lib.hid (Hd1.out.later hb2)
  have Hx2 := Lib.hid (Hx1.out.later hb2)
  clear hb2 HC2
  have HC3 := Lib.hid (parse_to tt w2 HSZ.out HPR.out)
  go_wp2_with fail
  refine (HC3.out).mono ?_; rintro e w3 ⟨v3, rfl, hown3, hb3⟩
  have HB3 := Lib.hid (below_two HB2.out hb3)
  have Hd3 := Lib.hid (Hd2.out.later hb3)
  obtain ⟨aop, capp, rfl, hr3, hncp, hg3⟩ := IsR.owned (f := fP) (s := 3) fP_len (l := l) (n := (l).length) rfl hown3
  have Hp3 := Lib.hid hr3
  have HNp := Lib.hid hncp
  clear hb3 HC3 hown3 hr3 hg3 hncp
  have HC4 := Lib.hid (refSame_to aop ao l.length capp l.length c l l w3 Hp3.out Hd3.out (by omega) HSS.out)
  go_wp2_with fail
  refine (HC4.out).mono ?_; rintro e w4 ⟨rfl, hb4⟩
  have HB4 := Lib.hid (below_two HB3.out hb4)
  have Hd4 := Lib.hid (Hd3.out.later hb4)
  have Hp4 := Lib.hid (Hp3.out.later hb4)
  clear hb4 HC4
  have HC5 := Lib.hid (parse_to s w4 HS.out HP.out)
  go_wp2_with fail
  refine (HC5.out).mono ?_; rintro e w5 ⟨v5, rfl, hown5, hb5⟩
  have HB5 := Lib.hid (below_two HB4.out hb5)
  have Hd5 := Lib.hid (Hd4.out.later hb5)
  obtain ⟨aoq, capq, rfl, hr5, hncq, hg5⟩ := IsR.owned (f := fP) (s := 3) fP_len (l := r) (n := (r).length) rfl hown5
  have Hq5 := Lib.hid hr5
  have HNq := Lib.hid hncq
  clear hb5 HC5 hown5 hr5 hg5 hncq
  have HC6 := Lib.hid (known_any w5 (HT.out.below HB5.out))
  go_wp2_with fail
  refine (HC6.out).mono ?_; rintro e w6 ⟨rfl, hb6⟩
  have HB6 := Lib.hid (below_two HB5.out hb6)
  have Hd6 := Lib.hid (Hd5.out.later hb6)
  have Hq6 := Lib.hid (Hq5.out.later hb6)
  clear hb6 HC6
  go_wp2_with fail
  go_ret
  exact ⟨rfl, HB6.out⟩

set_option maxRecDepth 100000 in
set_option maxHeartbeats 4000000 in
theorem reads_11 (ao : Option Addr) (n c : Nat) (l : List Pc) (s : ByteArray) (w : World) (ht : Tab w) (h : IsR fP w ao n l) (hnc : ao = none → n = 0 ∧ c = 0) (hn : n * 32 ≤ 140737488355328) (hs : s.size ≤ 1000000000) (hc : checkP l = 0) (r : List Pc) (hp : parseR s = (r, 0)) : Calls Tryd.prog 9 #[.slice ao n c, .string s] w fun e w' => e = .returned (.bool true) ∧ Below w.heap.size w w' := by
  have HT := Lib.hid ht
  have Hd0 := Lib.hid h
  have hl := h.1
  have HNC := Lib.hid hnc
  have HS := Lib.hid hs
  subst hl
  have HCK := Lib.hid hc
  have HSZ := Lib.hid (txt_size hc)
  have HPR := Lib.hid (parseR_txt hc)
  have HSS := Lib.hid (show sameL l l = true from decide_eq_true rfl)
  generalize htt : (⟨(txtP l).toArray⟩ : ByteArray) = tt at *
  have HTX := Lib.hid htt
  clear htt
  obtain ⟨p1, p2⟩ := parseR_zero hp
  have hrl := (check_inv p1).1
  have HRC := Lib.hid p1
  have HRT := Lib.hid p2
  have HP := Lib.hid hp
  clear p1 p2 hp
  clear ht h hnc hc hs
  go_enter Tryd.func9, Tryd.ntmps9
  have HC1 := Lib.hid (own_any ao l.length c l w Hd0.out HNC.out hn)
  go_wp2_with fail
  refine (HC1.out).mono ?_; rintro e w1 ⟨v1, rfl, hown1, hb1⟩
  have HB1 := Lib.hid (below_two (Below.refl w.heap.size w) hb1)
  have Hd1 := Lib.hid (Hd0.out.later hb1)
  obtain ⟨aox, capx, rfl, hr1, hncx, hg1⟩ := IsR.owned (f := fP) (s := 3) fP_len (l := l) (n := (l).length) rfl hown1
  have Hx1 := Lib.hid hr1
  have HNx := Lib.hid hncx
  clear hb1 HC1 hown1 hr1 hg1 hncx
  have HC2 := Lib.hid (text_to aox l.length capx l w1 Hx1.out (by omega) (HT.out.below HB1.out) HTX.out HCK.out)
  go_wp2_with fail
  refine (HC2.out).mono ?_; rintro e w2 ⟨rfl, hb2⟩
  have HB2 := Lib.hid (below_two HB1.out hb2)
  have Hd2 := Lib.hid (Hd1.out.later hb2)
  have Hx2 := Lib.hid (Hx1.out.later hb2)
  clear hb2 HC2
  have HC3 := Lib.hid (parse_to tt w2 HSZ.out HPR.out)
  go_wp2_with fail
  refine (HC3.out).mono ?_; rintro e w3 ⟨v3, rfl, hown3, hb3⟩
  have HB3 := Lib.hid (below_two HB2.out hb3)
  have Hd3 := Lib.hid (Hd2.out.later hb3)
  obtain ⟨aop, capp, rfl, hr3, hncp, hg3⟩ := IsR.owned (f := fP) (s := 3) fP_len (l := l) (n := (l).length) rfl hown3
  have Hp3 := Lib.hid hr3
  have HNp := Lib.hid hncp
  clear hb3 HC3 hown3 hr3 hg3 hncp
  have HC4 := Lib.hid (refSame_to aop ao l.length capp l.length c l l w3 Hp3.out Hd3.out (by omega) HSS.out)
  go_wp2_with fail
  refine (HC4.out).mono ?_; rintro e w4 ⟨rfl, hb4⟩
  have HB4 := Lib.hid (below_two HB3.out hb4)
  have Hd4 := Lib.hid (Hd3.out.later hb4)
  have Hp4 := Lib.hid (Hp3.out.later hb4)
  clear hb4 HC4
  have HC5 := Lib.hid (parse_to s w4 HS.out HP.out)
  go_wp2_with fail
  refine (HC5.out).mono ?_; rintro e w5 ⟨v5, rfl, hown5, hb5⟩
  have HB5 := Lib.hid (below_two HB4.out hb5)
  have Hd5 := Lib.hid (Hd4.out.later hb5)
  obtain ⟨aoq, capq, rfl, hr5, hncq, hg5⟩ := IsR.owned (f := fP) (s := 3) fP_len (l := r) (n := (r).length) rfl hown5
  have Hq5 := Lib.hid hr5
  have HNq := Lib.hid hncq
  clear hb5 HC5 hown5 hr5 hg5 hncq
  have HC6 := Lib.hid (text_to aoq r.length capq r w5 Hq5.out (by omega) (HT.out.below HB5.out) HRT.out HRC.out)
  go_wp2_with fail
  refine (HC6.out).mono ?_; rintro e w6 ⟨rfl, hb6⟩
  have HB6 := Lib.hid (below_two HB5.out hb6)
  have Hd6 := Lib.hid (Hd5.out.later hb6)
  have Hq6 := Lib.hid (Hq5.out.later hb6)
  clear hb6 HC6
  have HC7 := Lib.hid (known_any w6 (HT.out.below HB6.out))
  go_wp2_with fail
  refine (HC7.out).mono ?_; rintro e w7 ⟨rfl, hb7⟩
  have HB7 := Lib.hid (below_two HB6.out hb7)
  have Hd7 := Lib.hid (Hd6.out.later hb7)
  have Hq7 := Lib.hid (Hq6.out.later hb7)
  clear hb7 HC7
  go_wp2_with fail
  go_ret
  exact ⟨rfl, HB7.out⟩

theorem reads_law (ao : Option Addr) (n c : Nat) (l : List Pc) (s : ByteArray) (w : World) (ht : Tab w) (h : IsR fP w ao n l) (hnc : ao = none → n = 0 ∧ c = 0) (hn : n * 32 ≤ 140737488355328) (hs : s.size ≤ 1000000000) : Calls Tryd.prog 9 #[.slice ao n c, .string s] w fun e w' => e = .returned (.bool true) ∧ Below w.heap.size w w' := by
  obtain ⟨r, x, hp⟩ : ∃ r x, parseR s = (r, x) := ⟨_, _, rfl⟩
  by_cases hc : checkP l = 0
  · by_cases hx : x = 0
    · subst hx
      exact reads_11 ao n c l s w ht h hnc hn hs hc r hp
    · exact reads_10 ao n c l s w ht h hnc hn hs hc r x hp hx
  · by_cases hx : x = 0
    · subst hx
      exact reads_01 ao n c l s w ht h hnc hn hs hc r hp
    · exact reads_00 ao n c l s w ht h hnc hn hs hc r x hp hx

end Go.Proofs.YtkocknhpnmkicaaDoor
