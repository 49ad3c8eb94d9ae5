/- The contracts of EqualKids and slices.Equal, EqualNode and Equal. -/
import Derived.Test.YtbodacjhhkjdfaaNk
namespace Go.Proofs.Ytbodacjhhkjdfaa
open Go.RowKit

instance : DecidableEq Nd := fun x y => decidable_of_iff (x.h = y.h ∧ x.text = y.text ∧ x.kids = y.kids) ⟨fun h => by cases x; cases y; simp_all, fun h => by rw [h]; exact ⟨rfl, rfl, rfl⟩⟩
set_option maxRecDepth 100000 in
set_option maxHeartbeats 2000000 in
theorem equalKids_any (l l' : List Kid) (a a' : Option Addr) (n n' c c' : Nat) (w : World) (h : IsKs w a n l) (h' : IsKs w a' n' l') (hn63 : n ≤ 9223372036854775807) :
    Calls Try.prog 42 #[.slice a n c, .slice a' n' c'] w fun e w' => e = .returned (.bool (decide (l = l'))) ∧ Below w.heap.size w w' := by
  have H := Lib.hid h
  have H' := Lib.hid h'
  clear h h'
  by_cases hn : n = n'
  · subst hn
    go_enter Try.func42, Try.ntmps42
    go_wp2_with fail
    go_loopw [5] (fun i wr => ∃ k : Nat, k ≤ n ∧ i = .int .i64 k ∧ Below w.heap.size w wr ∧ l.take k = l'.take k) (fun i _ => n - (intOf i).toNat)
    case atStart => exact ⟨0, Nat.zero_le _, rfl, Below.refl _ _, rfl⟩
    case round =>
      obtain ⟨k, hk, rfl, hbr, ht⟩ := hrel
      by_cases hlt : k < n
      · obtain ⟨hl1, _, hc1⟩ := H.out
        obtain ⟨hl2, _, hc2⟩ := H'.out
        obtain ⟨b1, o1, rfl, hcell1⟩ := hc1 (by omega)
        obtain ⟨b2, o2, rfl, hcell2⟩ := hc2 (by omega)
        have hkl1 : k < l.length := by omega
        have hkl2 : k < l'.length := by omega
        obtain ⟨p0, p1, p2, p3⟩ := cellK_below (hcell1 k hkl1) hbr (cellK_lt (hcell1 k hkl1))
        obtain ⟨q0, q1, q2, q3⟩ := cellK_below (hcell2 k hkl2) hbr (cellK_lt (hcell2 k hkl2))
        have hk0 : (0 : Int) ≤ (k : Int) := by omega
        have hk1 : (k : Int) < (n : Int) := by omega
        have HBR := Lib.hid hbr
        have HT := Lib.hid ht
        by_cases he : l[k] = l'[k]
        · rw [← he] at q0 q1 q2 q3
          have ht2 : l.take (k + 1) = l'.take (k + 1) := by rw [List.take_succ_eq_append_getElem hkl1, List.take_succ_eq_append_getElem hkl2, ht, he]
          have HT2 := Lib.hid ht2
          clear hl1 hc1 hl2 hc2 hcell1 hcell2 hbr ht he ht2
          go_wp2_with fail
          go_quiet (fail)
          go_wp2_with fail
          go_roundw
          case rel => exact ⟨k + 1, by omega, by go_num, below_drewN HBR.out _, HT2.out⟩
          case measure => simp [intOf]; omega
        · have e : decide (l = l') = false := decide_eq_false fun h => he (by subst h; rfl)
          have HE := Lib.hid e
          clear hl1 hc1 hl2 hc2 hcell1 hcell2 hbr ht e
          by_cases e1 : l[k].1 = l'[k].1
          · rw [← e1] at q0
            by_cases e2 : l[k].2.1 = l'[k].2.1
            · rw [← e2] at q1
              by_cases e3 : l[k].2.2.1 = l'[k].2.2.1
              · rw [← e3] at q2
                have hne : (l[k].2.2.2 == l'[k].2.2.2) = false := by simpa using fun e4 => he (Prod.ext e1 (Prod.ext e2 (Prod.ext e3 e4)))
                clear he e1 e2 e3
                go_wp2_with fail
                go_quiet (fail)
                go_wp2_with fail
                go_ret
                exact ⟨congrArg (fun b => Ending.returned (.bool b)) HE.out.symm, below_drewN HBR.out _⟩
              · have hne : (l[k].2.2.1 == l'[k].2.2.1) = false := by simpa using e3
                clear he e1 e2 e3
                go_wp2_with fail
                go_quiet (fail)
                go_wp2_with fail
                go_ret
                exact ⟨congrArg (fun b => Ending.returned (.bool b)) HE.out.symm, below_drewN HBR.out _⟩
            · have hne : (l[k].2.1 == l'[k].2.1) = false := by simpa using e2
              clear he e1 e2
              go_wp2_with fail
              go_quiet (fail)
              go_wp2_with fail
              go_ret
              exact ⟨congrArg (fun b => Ending.returned (.bool b)) HE.out.symm, below_drewN HBR.out _⟩
          · have hne : (l[k].1 == l'[k].1) = false := by simpa using e1
            clear he e1
            go_wp2_with fail
            go_quiet (fail)
            go_wp2_with fail
            go_ret
            exact ⟨congrArg (fun b => Ending.returned (.bool b)) HE.out.symm, below_drewN HBR.out _⟩
      · have e : decide (l = l') = true := decide_eq_true (by
          have h1 := H.out.1
          have h2 := H'.out.1
          rwa [List.take_of_length_le (by omega), List.take_of_length_le (by omega)] at ht)
        have HE := Lib.hid e
        have HBR := Lib.hid hbr
        clear hbr ht e
        go_wp2_with fail
        go_ret
        exact ⟨congrArg (fun b => Ending.returned (.bool b)) HE.out.symm, HBR.out⟩
  · have e : decide (l = l') = false := decide_eq_false fun h => hn (by rw [← H.out.1, ← H'.out.1, h])
    have HE := Lib.hid e
    have hn' : ((n : Int) == (n' : Int)) = false := by rw [Bool.eq_false_iff]; intro h; rw [beq_iff_eq] at h; exact hn (by omega)
    clear e hn
    go_enter Try.func42, Try.ntmps42
    go_wp2_with fail
    go_ret
    exact ⟨congrArg (fun b => Ending.returned (.bool b)) HE.out.symm, by go_grown⟩

set_option maxRecDepth 100000 in
set_option maxHeartbeats 2000000 in
theorem slicesEqual_any (l l' : List Kid) (a a' : Option Addr) (n n' c c' : Nat) (w : World) (h : IsKs w a n l) (h' : IsKs w a' n' l') (hn63 : n ≤ 9223372036854775807) :
    Calls Try.prog 61 #[.slice a n c, .slice a' n' c'] w fun e w' => e = .returned (.bool (decide (l = l'))) ∧ Below w.heap.size w w' := by
  have H := Lib.hid h
  have H' := Lib.hid h'
  clear h h'
  by_cases hn : n = n'
  · subst hn
    go_enter Try.func61, Try.ntmps61
    go_wp2_with fail
    go_loopw [13] (fun i wr => ∃ k : Nat, k ≤ n ∧ i = .int .i64 k ∧ Below w.heap.size w wr ∧ l.take k = l'.take k) (fun i _ => n - (intOf i).toNat)
    case atStart => exact ⟨0, Nat.zero_le _, rfl, Below.refl _ _, rfl⟩
    case round =>
      obtain ⟨k, hk, rfl, hbr, ht⟩ := hrel
      by_cases hlt : k < n
      · obtain ⟨hl1, _, hc1⟩ := H.out
        obtain ⟨hl2, _, hc2⟩ := H'.out
        obtain ⟨b1, o1, rfl, hcell1⟩ := hc1 (by omega)
        obtain ⟨b2, o2, rfl, hcell2⟩ := hc2 (by omega)
        have hkl1 : k < l.length := by omega
        have hkl2 : k < l'.length := by omega
        obtain ⟨p0, p1, p2, p3⟩ := cellK_below (hcell1 k hkl1) hbr (cellK_lt (hcell1 k hkl1))
        obtain ⟨q0, q1, q2, q3⟩ := cellK_below (hcell2 k hkl2) hbr (cellK_lt (hcell2 k hkl2))
        have hk0 : (0 : Int) ≤ (k : Int) := by omega
        have hk1 : (k : Int) < (n : Int) := by omega
        have HBR := Lib.hid hbr
        have HT := Lib.hid ht
        by_cases he : l[k] = l'[k]
        · rw [← he] at q0 q1 q2 q3
          have ht2 : l.take (k + 1) = l'.take (k + 1) := by rw [List.take_succ_eq_append_getElem hkl1, List.take_succ_eq_append_getElem hkl2, ht, he]
          have HT2 := Lib.hid ht2
          clear hl1 hc1 hl2 hc2 hcell1 hcell2 hbr ht he ht2
          go_wp2_with fail
          go_quiet (fail)
          go_wp2_with fail
          go_roundw
          case rel => exact ⟨k + 1, by omega, by go_num, below_drewN HBR.out _, HT2.out⟩
          case measure => simp [intOf]; omega
        · have e : decide (l = l') = false := decide_eq_false fun h => he (by subst h; rfl)
          have HE := Lib.hid e
          clear hl1 hc1 hl2 hc2 hcell1 hcell2 hbr ht e
          by_cases e1 : l[k].1 = l'[k].1
          · rw [← e1] at q0
            by_cases e2 : l[k].2.1 = l'[k].2.1
            · rw [← e2] at q1
              by_cases e3 : l[k].2.2.1 = l'[k].2.2.1
              · rw [← e3] at q2
                have hne : (l[k].2.2.2 == l'[k].2.2.2) = false := by simpa using fun e4 => he (Prod.ext e1 (Prod.ext e2 (Prod.ext e3 e4)))
                clear he e1 e2 e3
                go_wp2_with fail
                go_quiet (fail)
                go_wp2_with fail
                go_ret
                exact ⟨congrArg (fun b => Ending.returned (.bool b)) HE.out.symm, below_drewN HBR.out _⟩
              · have hne : (l[k].2.2.1 == l'[k].2.2.1) = false := by simpa using e3
                clear he e1 e2 e3
                go_wp2_with fail
                go_quiet (fail)
                go_wp2_with fail
                go_ret
                exact ⟨congrArg (fun b => Ending.returned (.bool b)) HE.out.symm, below_drewN HBR.out _⟩
            · have hne : (l[k].2.1 == l'[k].2.1) = false := by simpa using e2
              clear he e1 e2
              go_wp2_with fail
              go_quiet (fail)
              go_wp2_with fail
              go_ret
              exact ⟨congrArg (fun b => Ending.returned (.bool b)) HE.out.symm, below_drewN HBR.out _⟩
          · have hne : (l[k].1 == l'[k].1) = false := by simpa using e1
            clear he e1
            go_wp2_with fail
            go_quiet (fail)
            go_wp2_with fail
            go_ret
            exact ⟨congrArg (fun b => Ending.returned (.bool b)) HE.out.symm, below_drewN HBR.out _⟩
      · have e : decide (l = l') = true := decide_eq_true (by
          have h1 := H.out.1
          have h2 := H'.out.1
          rwa [List.take_of_length_le (by omega), List.take_of_length_le (by omega)] at ht)
        have HE := Lib.hid e
        have HBR := Lib.hid hbr
        clear hbr ht e
        go_wp2_with fail
        go_ret
        exact ⟨congrArg (fun b => Ending.returned (.bool b)) HE.out.symm, HBR.out⟩
  · have e : decide (l = l') = false := decide_eq_false fun h => hn (by rw [← H.out.1, ← H'.out.1, h])
    have HE := Lib.hid e
    have hn' : ((n : Int) == (n' : Int)) = false := by rw [Bool.eq_false_iff]; intro h; rw [beq_iff_eq] at h; exact hn (by omega)
    clear e hn
    go_enter Try.func61, Try.ntmps61
    go_wp2_with fail
    go_ret
    exact ⟨congrArg (fun b => Ending.returned (.bool b)) HE.out.symm, by go_grown⟩

set_option maxRecDepth 100000 in
set_option maxHeartbeats 2000000 in
theorem equalNode_any (x y : Nd) (a a' : Option Addr) (n n' c c' : Nat) (w : World) (h : IsKs w a n x.kids) (h' : IsKs w a' n' y.kids) (hn63 : n ≤ 9223372036854775807) :
    Calls Try.prog 25 #[aggN x.h x.text a n c, aggN y.h y.text a' n' c'] w fun e w' => e = .returned (.bool (decide (x = y))) ∧ Below w.heap.size w w' := by
  have H := Lib.hid h
  have H' := Lib.hid h'
  clear h h'
  unfold aggN
  by_cases h1 : x.h = y.h
  · by_cases h2 : x.text = y.text
    · have e : decide (x = y) = decide (x.kids = y.kids) := decide_eq_decide.2 ⟨fun h => by rw [h], fun h => by cases x; cases y; simp_all⟩
      have HE := Lib.hid e
      rw [← h1, ← h2]
      clear e h1 h2
      go_enter Try.func25, Try.ntmps25
      go_wp2_with fail
      refine (equalKids_any x.kids y.kids a a' n n' c c' _ ((H.out.box _).box _) ((H'.out.box _).box _) hn63).mono ?_; rintro e w1 ⟨rfl, hb⟩
      have HB := Lib.hid (box2_later hb).1
      clear hb
      go_wp2_with fail
      go_ret
      exact ⟨congrArg (fun b => Ending.returned (.bool b)) HE.out.symm, HB.out⟩
    · have e : decide (x = y) = false := decide_eq_false fun h => h2 (by rw [h])
      have HE := Lib.hid e
      have h2' : (x.text.toList == y.text.toList) = false := by
        rw [Bool.eq_false_iff]
        intro h
        rw [beq_iff_eq, ByteArray.toList_eq, ByteArray.toList_eq] at h
        refine h2 ?_
        rcases hx : x.text with ⟨⟨d⟩⟩
        rcases hy : y.text with ⟨⟨d'⟩⟩
        rw [hx, hy] at h
        simp only at h
        rw [h]
      rw [← h1]
      clear e h1 h2
      go_enter Try.func25, Try.ntmps25
      go_wp2_with fail
      go_ret
      exact ⟨congrArg (fun b => Ending.returned (.bool b)) HE.out.symm, by go_grown⟩
  · have e : decide (x = y) = false := decide_eq_false fun h => h1 (by rw [h])
    have HE := Lib.hid e
    have h1' : (x.h == y.h) = false := by simpa using h1
    clear e h1
    go_enter Try.func25, Try.ntmps25
    go_wp2_with fail
    go_ret
    exact ⟨congrArg (fun b => Ending.returned (.bool b)) HE.out.symm, by go_grown⟩

set_option maxRecDepth 100000 in
set_option maxHeartbeats 2000000 in
theorem equal_any (x y : Nd) (a a' : Option Addr) (n n' c c' : Nat) (w : World) (h : IsKs w a n x.kids) (h' : IsKs w a' n' y.kids) (hn63 : n ≤ 9223372036854775807) :
    Calls Try.prog 30 #[aggN x.h x.text a n c, aggN y.h y.text a' n' c'] w fun e w' => e = .returned (.bool (decide (x = y))) ∧ Below w.heap.size w w' := by
  have H := Lib.hid h
  have H' := Lib.hid h'
  clear h h'
  unfold aggN
  by_cases h1 : x.h = y.h
  · by_cases h2 : x.text = y.text
    · have e : decide (x = y) = decide (x.kids = y.kids) := decide_eq_decide.2 ⟨fun h => by rw [h], fun h => by cases x; cases y; simp_all⟩
      have HE := Lib.hid e
      rw [← h1, ← h2]
      clear e h1 h2
      go_enter Try.func30, Try.ntmps30
      go_wp2_with fail
      refine (slicesEqual_any x.kids y.kids a a' n n' c c' _ ((H.out.box _).box _) ((H'.out.box _).box _) hn63).mono ?_; rintro e w1 ⟨rfl, hb⟩
      have HB := Lib.hid (box2_later hb).1
      clear hb
      go_wp2_with fail
      go_ret
      exact ⟨congrArg (fun b => Ending.returned (.bool b)) HE.out.symm, HB.out⟩
    · have e : decide (x = y) = false := decide_eq_false fun h => h2 (by rw [h])
      have HE := Lib.hid e
      have h2' : (x.text.toList == y.text.toList) = false := by
        rw [Bool.eq_false_iff]
        intro h
        rw [beq_iff_eq, ByteArray.toList_eq, ByteArray.toList_eq] at h
        refine h2 ?_
        rcases hx : x.text with ⟨⟨d⟩⟩
        rcases hy : y.text with ⟨⟨d'⟩⟩
        rw [hx, hy] at h
        simp only at h
        rw [h]
      rw [← h1]
      clear e h1 h2
      go_enter Try.func30, Try.ntmps30
      go_wp2_with fail
      go_ret
      exact ⟨congrArg (fun b => Ending.returned (.bool b)) HE.out.symm, by go_grown⟩
  · have e : decide (x = y) = false := decide_eq_false fun h => h1 (by rw [h])
    have HE := Lib.hid e
    have h1' : (x.h == y.h) = false := by simpa using h1
    clear e h1
    go_enter Try.func30, Try.ntmps30
    go_wp2_with fail
    go_ret
    exact ⟨congrArg (fun b => Ending.returned (.bool b)) HE.out.symm, by go_grown⟩

end Go.Proofs.Ytbodacjhhkjdfaa
