/- Deltas: the law Forms: its walk. -/
import Derived.Test.YtkocknhpnmkicaaDoorDx
namespace Go.Proofs.YtkocknhpnmkicaaDoor
open Go.RowKit
set_option linter.unusedVariables false

theorem normalize_to {r : List Pc} {x : Int} (ao : Option Addr) (n c : Nat) (l : List Pc) (w : World) (h : IsR fP w ao n l) (hn63 : n ≤ 9223372036854775807) (h1 : normL l = r) (h2 : checkP l = x) :
    Calls Tryd.prog 24 #[.slice ao n c] w (Rowed w r x) := by
  have h := normalize_any ao n c l w h hn63
  rw [h1, h2] at h
  exact h
theorem lengths_to {i o x : Int} (ao : Option Addr) (n c : Nat) (l : List Pc) (w : World) (h : IsR fP w ao n l) (hn63 : n ≤ 9223372036854775807) (h1 : lengthsP l = (i, o, x)) :
    Calls Tryd.prog 15 #[.slice ao n c] w fun e w' => e = .returned (.tuple #[.int .i64 i, .int .i64 o, .int .i64 x]) ∧ Below w.heap.size w w' := by
  have h := lengths_any ao n c l w h hn63
  rw [h1] at h
  exact h
theorem normal_to {b : Bool} (ao : Option Addr) (n c : Nat) (l : List Pc) (w : World) (h : IsR fP w ao n l) (hn63 : n ≤ 9223372036854775807) (h1 : normalB l = b) :
    Calls Tryd.prog 19 #[.slice ao n c] w fun e w' => e = .returned (.bool b) ∧ Below w.heap.size w w' := by
  have h := normal_any ao n c l w h hn63
  rw [h1] at h
  exact h
theorem refSame_to {x : Bool} (ao bo : Option Addr) (n c m d : Nat) (a b : List Pc) (w : World) (h : IsR fP w ao n a) (k : IsR fP w bo m b) (hn : n ≤ 9223372036854775807) (h1 : sameL a b = x) :
    Calls Tryd.prog 21 #[.slice ao n c, .slice bo m d] w fun e w' => e = .returned (.bool x) ∧ Below w.heap.size w w' := by
  have h := refSame_any ao bo n c m d a b w h k hn
  rw [h1] at h
  exact h
theorem norm_at : ∀ {l : List Dp}, Dp.Norm l → ∀ (j : Nat) (h : j + 1 < l.length), Dp.fits (l[j]'(by omega)) l[j + 1]
  | [], _, j, h => by simp at h
  | [p], _, j, h => by simp at h
  | p :: q :: l, hN, 0, h => hN.1
  | p :: q :: l, hN, j + 1, h => norm_at (l := q :: l) hN.2 j (by simpa using h)
theorem fits_k {p q : Dp} (h : Dp.fits p q) : (toP p).k ≠ (toP q).k ∧ ¬ ((toP p).k = 3 ∧ (toP q).k = 2) := by
  cases p <;> cases q <;> first | exact h.elim | (constructor <;> simp [toP])
theorem form_at (l : List Pc) (j : Nat) (h : j + 1 < (formP l).length) : ((formP l)[j]'(by omega)).k ≠ (formP l)[j + 1].k ∧ ¬ (((formP l)[j]'(by omega)).k = 3 ∧ (formP l)[j + 1].k = 2) := by
  have h2 : j + 1 < (Dp.form (l.map ofP)).length := by simpa [formP] using h
  have := fits_k (norm_at (Dp.form_norm (l.map ofP)) j h2)
  simpa [formP] using this
theorem normL_ok {l : List Pc} (h : checkP l = 0) : normL l = formP l := if_pos h
theorem forms_pack {l : List Pc} (hc : checkP l = 0) : ∃ (r : List Pc) (i o : Int), normL l = r ∧ checkP r = 0 ∧ normL r = r ∧ lengthsP l = (i, o, 0) ∧ lengthsP r = (i, o, 0) ∧ r.length ≤ l.length ∧ r.length ≤ 4096 ∧ normalB r = true ∧ normalB l = sameL r l ∧
    ∀ (j : Nat) (h : j + 1 < r.length), (r[j]'(by omega)).k ≠ r[j + 1].k ∧ ¬ ((r[j]'(by omega)).k = 3 ∧ r[j + 1].k = 2) := by
  have h1 := check_formP hc
  have hi := check_inv h1
  refine ⟨formP l, sIP l, sOP l, normL_ok hc, h1, (normL_ok h1).trans (formP_form l), lengths_of_check hc, ?_, len_formP l, hi.1, ?_, ?_, form_at l⟩
  · rw [lengths_of_check h1, sIP_form, sOP_form]
  · unfold normalB
    rw [if_pos h1, formP_form]
    exact decide_eq_true rfl
  · unfold normalB
    rw [if_pos hc]
    unfold sameL
    exact decide_eq_decide.2 eq_comm

set_option maxRecDepth 100000 in
set_option maxHeartbeats 4000000 in
theorem forms_bad (ao : Option Addr) (n c : Nat) (l : List Pc) (w : World) (ht : Tab w) (h : IsR fP w ao n l) (hnc : ao = none → n = 0 ∧ c = 0) (hn : n * 32 ≤ 140737488355328) (hc : checkP l ≠ 0) : Calls Tryd.prog 8 #[.slice ao n c] w fun e w' => e = .returned (.bool true) ∧ Below w.heap.size w w' := by
  have HT := Lib.hid ht
  have Hd0 := Lib.hid h
  have hl := h.1
  have HNC := Lib.hid hnc
  subst hl
  clear ht h hnc
  have hc2 : (checkP l == 0) = false := by rw [beq_eq_false_iff_ne]; exact hc
  have HE := Lib.hid (show normL l = [] by unfold normL; rw [if_neg hc])
  have HNB := Lib.hid (show normalB l = false by unfold normalB; rw [if_neg hc])
  clear hc
  go_enter Tryd.func8, Tryd.ntmps8
  have HC1 := Lib.hid (own_any ao l.length c l w Hd0.out HNC.out hn)
  go_wp2_with fail
  refine (HC1.out).mono ?_; rintro e w1 ⟨v1, rfl, hown1, hb1⟩
  have HB1 := Lib.hid (below_two (Below.refl w.heap.size w) hb1)
  have Hd1 := Lib.hid (Hd0.out.later hb1)
  obtain ⟨aox, capx, rfl, hr1, hncx, hg1⟩ := IsR.owned (f := fP) (s := 3) fP_len (l := l) (n := (l).length) rfl hown1
  have Hx1 := Lib.hid hr1
  have HNx := Lib.hid hncx
  clear hb1 HC1 hown1 hr1 hg1 hncx
  have HC2 := Lib.hid (normalize_to aox l.length capx l w1 Hx1.out (by omega) HE.out rfl)
  go_wp2_with fail
  refine (HC2.out).mono ?_; rintro e w2 ⟨v2, rfl, hown2, hb2⟩
  have HB2 := Lib.hid (below_two HB1.out hb2)
  have Hd2 := Lib.hid (Hd1.out.later hb2)
  obtain ⟨aoy, capy, rfl, -, -, -⟩ := IsR.owned (f := fP) (s := 3) fP_len (l := []) (n := 0) rfl hown2
  clear hb2 HC2 hown2
  have HC3 := Lib.hid (own_any ao l.length c l w2 Hd2.out HNC.out hn)
  go_wp2_with fail
  refine (HC3.out).mono ?_; rintro e w3 ⟨v3, rfl, hown3, hb3⟩
  have HB3 := Lib.hid (below_two HB2.out hb3)
  have Hd3 := Lib.hid (Hd2.out.later hb3)
  obtain ⟨aoz, capz, rfl, hr3, hncz, hg3⟩ := IsR.owned (f := fP) (s := 3) fP_len (l := l) (n := (l).length) rfl hown3
  have Hz3 := Lib.hid hr3
  have HNz := Lib.hid hncz
  clear hb3 HC3 hown3 hr3 hg3 hncz
  have HC4 := Lib.hid (check_any aoz l.length capz l w3 Hz3.out (by omega))
  go_wp2_with fail
  refine (HC4.out).mono ?_; rintro e w4 ⟨rfl, hb4⟩
  have HB4 := Lib.hid (below_two HB3.out hb4)
  have Hd4 := Lib.hid (Hd3.out.later hb4)
  have Hz4 := Lib.hid (Hz3.out.later hb4)
  clear hb4 HC4
  have HC5 := Lib.hid (own_any ao l.length c l w4 Hd4.out HNC.out hn)
  go_wp2_with fail
  refine (HC5.out).mono ?_; rintro e w5 ⟨v5, rfl, hown5, hb5⟩
  have HB5 := Lib.hid (below_two HB4.out hb5)
  have Hd5 := Lib.hid (Hd4.out.later hb5)
  obtain ⟨aou, capu, rfl, hr5, hncu, hg5⟩ := IsR.owned (f := fP) (s := 3) fP_len (l := l) (n := (l).length) rfl hown5
  have Hu5 := Lib.hid hr5
  have HNu := Lib.hid hncu
  clear hb5 HC5 hown5 hr5 hg5 hncu
  have HC6 := Lib.hid (normal_to aou l.length capu l w5 Hu5.out (by omega) HNB.out)
  go_wp2_with fail
  refine (HC6.out).mono ?_; rintro e w6 ⟨rfl, hb6⟩
  have HB6 := Lib.hid (below_two HB5.out hb6)
  have Hd6 := Lib.hid (Hd5.out.later hb6)
  have Hu6 := Lib.hid (Hu5.out.later hb6)
  clear hb6 HC6
  have HC7 := Lib.hid (known_any w6 (HT.out.below HB6.out))
  go_wp2_with fail
  refine (HC7.out).mono ?_; rintro e w7 ⟨rfl, hb7⟩
  have HB7 := Lib.hid (below_two HB6.out hb7)
  have Hd7 := Lib.hid (Hd6.out.later hb7)
  have Hu7 := Lib.hid (Hu6.out.later hb7)
  clear hb7 HC7
  go_wp2_with fail
  go_ret
  exact ⟨rfl, HB7.out⟩

set_option maxRecDepth 100000 in
set_option maxHeartbeats 4000000 in
theorem forms_good (ao : Option Addr) (n c : Nat) (l : List Pc) (w : World) (ht : Tab w) (h : IsR fP w ao n l) (hnc : ao = none → n = 0 ∧ c = 0) (hn : n * 32 ≤ 140737488355328) (hc : checkP l = 0) : Calls Tryd.prog 8 #[.slice ao n c] w fun e w' => e = .returned (.bool true) ∧ Below w.heap.size w w' := by
  have HT := Lib.hid ht
  have Hd0 := Lib.hid h
  have hl := h.1
  have HNC := Lib.hid hnc
  subst hl
  clear ht h hnc
  obtain ⟨r, i, o, p1, p2, p3, p4, p5, p6, p7, p8, p9, p10⟩ := forms_pack hc
  have HP1 := Lib.hid p1
  have HP2 := Lib.hid p2
  have HP3 := Lib.hid p3
  have HP4 := Lib.hid p4
  have HP5 := Lib.hid p5
  have HP8 := Lib.hid p8
  have HP9 := Lib.hid p9
  have HP10 := Lib.hid p10
  have hle : (r.length : Int) ≤ (l.length : Int) := by omega
  have HCK := Lib.hid hc
  have HSS := Lib.hid (show sameL r r = true from decide_eq_true rfl)
  generalize hbb : sameL r l = bb at *
  have HBBB := Lib.hid hbb
  clear hc p1 p2 p3 p4 p5 p8 p9 p10 hbb
  go_enter Tryd.func8, Tryd.ntmps8
  have HC1 := Lib.hid (own_any ao l.length c l w Hd0.out HNC.out hn)
  go_wp2_with fail
  refine (HC1.out).mono ?_; rintro e w1 ⟨v1, rfl, hown1, hb1⟩
  have HB1 := Lib.hid (below_two (Below.refl w.heap.size w) hb1)
  have Hd1 := Lib.hid (Hd0.out.later hb1)
  obtain ⟨aox, capx, rfl, hr1, hncx, hg1⟩ := IsR.owned (f := fP) (s := 3) fP_len (l := l) (n := (l).length) rfl hown1
  have Hx1 := Lib.hid hr1
  have HNx := Lib.hid hncx
  clear hb1 HC1 hown1 hr1 hg1 hncx
  have HC2 := Lib.hid (normalize_to aox l.length capx l w1 Hx1.out (by omega) HP1.out HCK.out)
  go_wp2_with fail
  refine (HC2.out).mono ?_; rintro e w2 ⟨v2, rfl, hown2, hb2⟩
  have HB2 := Lib.hid (below_two HB1.out hb2)
  have Hd2 := Lib.hid (Hd1.out.later hb2)
  have Hx2 := Lib.hid (Hx1.out.later hb2)
  obtain ⟨aoy, capy, rfl, hr2, hncy, hg2⟩ := IsR.owned (f := fP) (s := 3) fP_len (l := r) (n := (r).length) rfl hown2
  have Hy2 := Lib.hid hr2
  have HNy := Lib.hid hncy
  clear hb2 HC2 hown2 hr2 hg2 hncy
  have HC3 := Lib.hid (own_any aoy r.length capy r w2 Hy2.out HNy.out (by omega))
  go_wp2_with fail
  refine (HC3.out).mono ?_; rintro e w3 ⟨v3, rfl, hown3, hb3⟩
  have HB3 := Lib.hid (below_two HB2.out hb3)
  have Hd3 := Lib.hid (Hd2.out.later hb3)
  have Hy3 := Lib.hid (Hy2.out.later hb3)
  obtain ⟨aoz, capz, rfl, hr3, hncz, hg3⟩ := IsR.owned (f := fP) (s := 3) fP_len (l := r) (n := (r).length) rfl hown3
  have Hz3 := Lib.hid hr3
  have HNz := Lib.hid hncz
  clear hb3 HC3 hown3 hr3 hg3 hncz
  have HC4 := Lib.hid (normalize_to aoz r.length capz r w3 Hz3.out (by omega) HP3.out HP2.out)
  go_wp2_with fail
  refine (HC4.out).mono ?_; rintro e w4 ⟨v4, rfl, hown4, hb4⟩
  have HB4 := Lib.hid (below_two HB3.out hb4)
  have Hd4 := Lib.hid (Hd3.out.later hb4)
  have Hy4 := Lib.hid (Hy3.out.later hb4)
  have Hz4 := Lib.hid (Hz3.out.later hb4)
  obtain ⟨aom, capm, rfl, hr4, hncm, hg4⟩ := IsR.owned (f := fP) (s := 3) fP_len (l := r) (n := (r).length) rfl hown4
  have Hm4 := Lib.hid hr4
  have HNm := Lib.hid hncm
  clear hb4 HC4 hown4 hr4 hg4 hncm
  have HC5 := Lib.hid (own_any ao l.length c l w4 Hd4.out HNC.out hn)
  go_wp2_with fail
  refine (HC5.out).mono ?_; rintro e w5 ⟨v5, rfl, hown5, hb5⟩
  have HB5 := Lib.hid (below_two HB4.out hb5)
  have Hd5 := Lib.hid (Hd4.out.later hb5)
  have Hy5 := Lib.hid (Hy4.out.later hb5)
  have Hm5 := Lib.hid (Hm4.out.later hb5)
  obtain ⟨aop, capp, rfl, hr5, hncp, hg5⟩ := IsR.owned (f := fP) (s := 3) fP_len (l := l) (n := (l).length) rfl hown5
  have Hp5 := Lib.hid hr5
  have HNp := Lib.hid hncp
  clear hb5 HC5 hown5 hr5 hg5 hncp
  have HC6 := Lib.hid (lengths_to aop l.length capp l w5 Hp5.out (by omega) HP4.out)
  go_wp2_with fail
  refine (HC6.out).mono ?_; rintro e w6 ⟨rfl, hb6⟩
  have HB6 := Lib.hid (below_two HB5.out hb6)
  have Hd6 := Lib.hid (Hd5.out.later hb6)
  have Hy6 := Lib.hid (Hy5.out.later hb6)
  have Hm6 := Lib.hid (Hm5.out.later hb6)
  have Hp6 := Lib.hid (Hp5.out.later hb6)
  clear hb6 HC6
  have HC7 := Lib.hid (own_any aoy r.length capy r w6 Hy6.out HNy.out (by omega))
  go_wp2_with fail
  refine (HC7.out).mono ?_; rintro e w7 ⟨v7, rfl, hown7, hb7⟩
  have HB7 := Lib.hid (below_two HB6.out hb7)
  have Hd7 := Lib.hid (Hd6.out.later hb7)
  have Hy7 := Lib.hid (Hy6.out.later hb7)
  have Hm7 := Lib.hid (Hm6.out.later hb7)
  obtain ⟨aoq, capq, rfl, hr7, hncq, hg7⟩ := IsR.owned (f := fP) (s := 3) fP_len (l := r) (n := (r).length) rfl hown7
  have Hq7 := Lib.hid hr7
  have HNq := Lib.hid hncq
  clear hb7 HC7 hown7 hr7 hg7 hncq
  have HC8 := Lib.hid (lengths_to aoq r.length capq r w7 Hq7.out (by omega) HP5.out)
  go_wp2_with fail
  refine (HC8.out).mono ?_; rintro e w8 ⟨rfl, hb8⟩
  have HB8 := Lib.hid (below_two HB7.out hb8)
  have Hd8 := Lib.hid (Hd7.out.later hb8)
  have Hy8 := Lib.hid (Hy7.out.later hb8)
  have Hm8 := Lib.hid (Hm7.out.later hb8)
  have Hq8 := Lib.hid (Hq7.out.later hb8)
  clear hb8 HC8
  go_wp2_with fail
  go_loopw [13] (fun s wr => ∃ (j : Nat), j ≤ r.length ∧ s = .int .i64 j ∧ Below w8.heap.size w8 wr) (fun s _ => r.length - (intOf s).toNat)
  case atStart => exact ⟨0, Nat.zero_le _, rfl, Below.refl _ _⟩
  case round =>
    obtain ⟨j, hj, rfl, hbr⟩ := hrel
    have HBR := Lib.hid hbr
    have HBN := Lib.hid (fun k => below_drewN hbr k)
    by_cases hlt : j + 1 < r.length
    · have hja : j < r.length := by omega
      have hj1 : (j : Int) + 1 < (r.length : Int) := by omega
      have hj2 : (j : Int) < (r.length : Int) := by omega
      have hj0 : (0 : Int) ≤ (j : Int) := by omega
      have hj3 : (0 : Int) ≤ (j : Int) + 1 := by omega
      have hjn : ((j : Int) + 1).toNat = j + 1 := by omega
      obtain ⟨b1, o1, e1, hbb1, hc1⟩ := Hy8.out.pc hbr hja
      obtain ⟨b2, o2, e2, hbb2, hc2⟩ := Hy8.out.pc hbr hlt
      obtain ⟨q0, q1, q2⟩ := hc1 hja
      obtain ⟨s0, s1, s2⟩ := hc2 hlt
      obtain ⟨k1, k2⟩ := HP10.out j hlt
      subst e1
      cases e2
      clear hc1 hc2 hbr q1 q2 s1 s2
      generalize r[j] = p at *
      generalize r[j + 1] = q at *
      have g1 : (p.k == q.k) = false := by rw [beq_eq_false_iff_ne]; exact k1
      by_cases h3 : p.k = 3
      · have g2 : (q.k == 2) = false := by rw [beq_eq_false_iff_ne]; exact fun e => k2 ⟨h3, e⟩
        rw [h3] at q0 g1
        clear h3 k1 k2
        go_wp2_with fail
        go_quiet (fail)
        go_wp2_with fail
        go_roundw
        case rel => exact ⟨j + 1, by omega, by go_num, HBN.out _⟩
        case measure => simp [intOf]; omega
      · have g2 : (p.k == 3) = false := by rw [beq_eq_false_iff_ne]; exact h3
        clear h3 k1 k2
        go_wp2_with fail
        go_quiet (fail)
        go_wp2_with fail
        go_roundw
        case rel => exact ⟨j + 1, by omega, by go_num, HBN.out _⟩
        case measure => simp [intOf]; omega
    · have hj1 : ¬ ((j : Int) + 1 < (r.length : Int)) := by omega
      have hj9 : (j : Int) ≤ 4096 := by omega
      have HB9 := Lib.hid (below_two HB8.out hbr)
      have Hd9 := Lib.hid (Hd8.out.later hbr)
      have Hy9 := Lib.hid (Hy8.out.later hbr)
      have Hm9 := Lib.hid (Hm8.out.later hbr)
      clear hbr
      have HC10 := Lib.hid (refSame_to aom aoy r.length capm r.length capy r r wr Hm9.out Hy9.out (by omega) HSS.out)
      go_wp2_with fail
      refine (HC10.out).mono ?_; rintro e w10 ⟨rfl, hb10⟩
      have HB10 := Lib.hid (below_two HB9.out hb10)
      have Hd10 := Lib.hid (Hd9.out.later hb10)
      have Hy10 := Lib.hid (Hy9.out.later hb10)
      have Hm10 := Lib.hid (Hm9.out.later hb10)
      clear hb10 HC10
      have HC11 := Lib.hid (own_any aoy r.length capy r w10 Hy10.out HNy.out (by omega))
      go_wp2_with fail
      refine (HC11.out).mono ?_; rintro e w11 ⟨v11, rfl, hown11, hb11⟩
      have HB11 := Lib.hid (below_two HB10.out hb11)
      have Hd11 := Lib.hid (Hd10.out.later hb11)
      have Hy11 := Lib.hid (Hy10.out.later hb11)
      have Hm11 := Lib.hid (Hm10.out.later hb11)
      obtain ⟨aos, caps, rfl, hr11, hncs, hg11⟩ := IsR.owned (f := fP) (s := 3) fP_len (l := r) (n := (r).length) rfl hown11
      have Hs11 := Lib.hid hr11
      have HNs := Lib.hid hncs
      clear hb11 HC11 hown11 hr11 hg11 hncs
      have HC12 := Lib.hid (normal_to aos r.length caps r w11 Hs11.out (by omega) HP8.out)
      go_wp2_with fail
      refine (HC12.out).mono ?_; rintro e w12 ⟨rfl, hb12⟩
      have HB12 := Lib.hid (below_two HB11.out hb12)
      have Hd12 := Lib.hid (Hd11.out.later hb12)
      have Hy12 := Lib.hid (Hy11.out.later hb12)
      have Hm12 := Lib.hid (Hm11.out.later hb12)
      have Hs12 := Lib.hid (Hs11.out.later hb12)
      clear hb12 HC12
      have HC13 := Lib.hid (own_any ao l.length c l w12 Hd12.out HNC.out hn)
      go_wp2_with fail
      refine (HC13.out).mono ?_; rintro e w13 ⟨v13, rfl, hown13, hb13⟩
      have HB13 := Lib.hid (below_two HB12.out hb13)
      have Hd13 := Lib.hid (Hd12.out.later hb13)
      have Hy13 := Lib.hid (Hy12.out.later hb13)
      have Hm13 := Lib.hid (Hm12.out.later hb13)
      obtain ⟨aot, capt, rfl, hr13, hnct, hg13⟩ := IsR.owned (f := fP) (s := 3) fP_len (l := l) (n := (l).length) rfl hown13
      have Ht13 := Lib.hid hr13
      have HNt := Lib.hid hnct
      clear hb13 HC13 hown13 hr13 hg13 hnct
      have HC14 := Lib.hid (normal_to aot l.length capt l w13 Ht13.out (by omega) HP9.out)
      go_wp2_with fail
      refine (HC14.out).mono ?_; rintro e w14 ⟨rfl, hb14⟩
      have HB14 := Lib.hid (below_two HB13.out hb14)
      have Hd14 := Lib.hid (Hd13.out.later hb14)
      have Hy14 := Lib.hid (Hy13.out.later hb14)
      have Hm14 := Lib.hid (Hm13.out.later hb14)
      have Ht14 := Lib.hid (Ht13.out.later hb14)
      clear hb14 HC14
      have HC15 := Lib.hid (refSame_to aoy ao r.length capy l.length c r l w14 Hy14.out Hd14.out (by omega) HBBB.out)
      go_wp2_with fail
      refine (HC15.out).mono ?_; rintro e w15 ⟨rfl, hb15⟩
      have HB15 := Lib.hid (below_two HB14.out hb15)
      have Hd15 := Lib.hid (Hd14.out.later hb15)
      have Hy15 := Lib.hid (Hy14.out.later hb15)
      have Hm15 := Lib.hid (Hm14.out.later hb15)
      have Ht15 := Lib.hid (Ht14.out.later hb15)
      clear hb15 HC15
      have HC16 := Lib.hid (known_any w15 (HT.out.below HB15.out))
      go_wp2_with fail
      refine (HC16.out).mono ?_; rintro e w16 ⟨rfl, hb16⟩
      have HB16 := Lib.hid (below_two HB15.out hb16)
      have Hd16 := Lib.hid (Hd15.out.later hb16)
      have Hy16 := Lib.hid (Hy15.out.later hb16)
      have Hm16 := Lib.hid (Hm15.out.later hb16)
      have Ht16 := Lib.hid (Ht15.out.later hb16)
      clear hb16 HC16
      go_wp2_with fail
      go_ret
      exact ⟨rfl, HB16.out⟩

theorem forms_law (ao : Option Addr) (n c : Nat) (l : List Pc) (w : World) (ht : Tab w) (h : IsR fP w ao n l) (hnc : ao = none → n = 0 ∧ c = 0) (hn : n * 32 ≤ 140737488355328) : Calls Tryd.prog 8 #[.slice ao n c] w fun e w' => e = .returned (.bool true) ∧ Below w.heap.size w w' := by
  by_cases hc : checkP l = 0
  · exact forms_good ao n c l w ht h hnc hn hc
  · exact forms_bad ao n c l w ht h hnc hn hc

end Go.Proofs.YtkocknhpnmkicaaDoor
