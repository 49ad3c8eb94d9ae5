/- The contract of choose, and those of Child, Rune and Line. -/
import Derived.Test.YtbodacjhhkjdfaaNh
namespace Go.Proofs.Ytbodacjhhkjdfaa
open Go.RowKit

def chooseL (p : Trip → Int) : List Kid → Nat → Int → Int × Int × Int
  | [], _, _ => (0, 0, 3)
  | k :: l, i, n => if n < p k.2 then ((i : Int), n, 0) else chooseL p l (i + 1) (n - p k.2)
def chooseN (p : Trip → Int) (x : Nd) (n : Int) : Int × Int × Int :=
  if checkN x = 0 then (if x.h = 0 then (0, 0, 8) else if n < 0 then (0, 0, 3) else chooseL p x.kids 0 n) else (0, 0, checkN x)
def tup3 (r : Int × Int × Int) : Value := .tuple #[.int .i64 r.1, .int .i64 r.2.1, .int .i64 r.2.2]

theorem chooseL_drop (p : Trip → Int) (l : List Kid) (k : Nat) (n : Int) (h : k < l.length) : chooseL p (l.drop k) k n = if n < p l[k].2 then ((k : Int), n, 0) else chooseL p (l.drop (k + 1)) (k + 1) (n - p l[k].2) := by
  rw [List.drop_eq_getElem_cons h]; rfl

def pB (m : Trip) : Int := m.1
def pR (m : Trip) : Int := m.2.1
def pL (m : Trip) : Int := m.2.2

set_option maxRecDepth 100000 in
set_option maxHeartbeats 2000000 in
theorem child_part (m : Trip) (w : World) : Calls Try.prog 50 #[aggM m] w fun e w' => e = .returned (.int .i64 (pB m)) ∧ Below w.heap.size w w' := by
  unfold aggM pB
  go_enter Try.func50, Try.ntmps50
  go_wp2_with fail
  go_ret
  exact ⟨rfl, by go_grown⟩

set_option maxRecDepth 100000 in
set_option maxHeartbeats 2000000 in
theorem choose_child (x : Nd) (n0 : Int) (ao : Option Addr) (n c : Nat) (w : World) (hk : IsKs w ao n x.kids) (hr : n0 ≤ 9223372036854775807) :
    Calls Try.prog 49 #[aggN x.h x.text ao n c, .int .i64 n0, .func (.func 50) #[] #[]] w fun e w' => e = .returned (tup3 (chooseN pB x n0)) ∧ Below w.heap.size w w' := by
  have HK := Lib.hid hk
  clear hk
  unfold tup3
  by_cases hc : checkN x = 0
  · have HC := Lib.hid hc
    by_cases hh : x.h = 0
    · have e : chooseN pB x n0 = (0, 0, 8) := by unfold chooseN; rw [if_pos hc, if_pos hh]
      rw [e]
      have HH := Lib.hid hh
      clear hc e hh
      unfold aggN
      go_enter Try.func49, Try.ntmps49
      go_wp2_with fail
      refine (check_any x ao n c _ (HK.out.box _)).mono ?_; rintro e w1 ⟨rfl, hb⟩
      rw [HC.out]
      have hh := HH.out
      obtain ⟨hbw, hb0⟩ := box_later hb
      (have q0 := block_cell hb0 0; have q1 := block_cell hb0 1; have q2 := block_cell hb0 2; have f0 := block_free hb0 0; have f1 := block_free hb0 1; have f2 := block_free hb0 2; have hz := block_lt hb0; simp at q0 q1 q2)
      have HBW := Lib.hid hbw
      clear hb hb0 hbw
      go_wp2_with fail
      go_ret3
      exact ⟨rfl, HBW.out⟩
    · have hh' : (x.h == 0) = false := by simpa using hh
      by_cases hn : n0 < 0
      · have e : chooseN pB x n0 = (0, 0, 3) := by unfold chooseN; rw [if_pos hc, if_neg hh, if_pos hn]
        rw [e]
        clear hc e hh
        unfold aggN
        go_enter Try.func49, Try.ntmps49
        go_wp2_with fail
        refine (check_any x ao n c _ (HK.out.box _)).mono ?_; rintro e w1 ⟨rfl, hb⟩
        rw [HC.out]
        obtain ⟨hbw, hb0⟩ := box_later hb
        (have q0 := block_cell hb0 0; have q1 := block_cell hb0 1; have q2 := block_cell hb0 2; have f0 := block_free hb0 0; have f1 := block_free hb0 1; have f2 := block_free hb0 2; have hz := block_lt hb0; simp at q0 q1 q2)
        have HBW := Lib.hid hbw
        clear hb hb0 hbw
        go_wp2_with fail
        go_ret3
        exact ⟨rfl, HBW.out⟩
      · have e : chooseN pB x n0 = chooseL pB x.kids 0 n0 := by unfold chooseN; rw [if_pos hc, if_neg hh, if_neg hn]
        rw [e]
        have hf := (checkN_zero hc).1
        have HPOS : ∀ k (h : k < x.kids.length), 0 ≤ pB x.kids[k].2 := fun k h => by
          rcases formed_cases hf with ⟨h1, _⟩ | ⟨h0, h1, h2, h3, h4, h5, h6⟩
          · exact absurd h1 hh
          · obtain ⟨_, b1, _, b2, _, b3, _⟩ := h6 _ (List.getElem_mem h)
            have := (bnd_pos (x.h - 1).toNat (by omega)).1
            exact (by first | exact b2 | exact b3 | (show (0 : Int) ≤ x.kids[k].2.1; omega))
        have HPO := Lib.hid HPOS
        have hl := HK.out.1
        have hn4 : n ≤ 4 := by have := formed_len hf; omega
        have HL := Lib.hid hl
        clear hc e hh hf HPOS hl
        unfold aggN
        go_enter Try.func49, Try.ntmps49
        go_wp2_with fail
        refine (check_any x ao n c _ (HK.out.box _)).mono ?_; rintro e w1 ⟨rfl, hb⟩
        rw [HC.out]
        obtain ⟨hbw, hb0⟩ := box_later hb
        (have q0 := block_cell hb0 0; have q1 := block_cell hb0 1; have q2 := block_cell hb0 2; have f0 := block_free hb0 0; have f1 := block_free hb0 1; have f2 := block_free hb0 2; have hz := block_lt hb0; simp at q0 q1 q2)
        have HBW := Lib.hid hbw
        clear hb hb0 hbw
        go_wp2_with fail
        go_loopw [1, 25] (fun a i wr => ∃ (k : Nat) (nn : Int), k ≤ n ∧ i = .int .i64 k ∧ a = .int .i64 nn ∧ 0 ≤ nn ∧ nn ≤ 9223372036854775807 ∧ Below w.heap.size w wr ∧ chooseL pB x.kids 0 n0 = chooseL pB (x.kids.drop k) k nn) (fun _ i _ => n - (intOf i).toNat)
        case atStart => exact ⟨0, n0, Nat.zero_le _, rfl, rfl, by omega, hr, HBW.out, rfl⟩
        case round =>
          obtain ⟨k, nn, hkn, rfl, rfl, hn0, hn1, hbr, heq⟩ := hrel
          have HEQ := Lib.hid heq
          have HBR := Lib.hid hbr
          by_cases hlt : k < n
          · obtain ⟨hlen, _, hcx⟩ := HK.out
            obtain ⟨b, off, rfl, hcell⟩ := hcx (by omega)
            have hkl : k < x.kids.length := by omega
            have hbw := cellK_lt (hcell k hkl)
            obtain ⟨m0, m1, m2, m3⟩ := cellK_below (hcell k hkl) hbr hbw
            have hpo := HPO.out k hkl
            have hd := chooseL_drop pB x.kids k nn hkl
            by_cases ht : nn < pB x.kids[k].2
            · rw [if_pos ht] at hd
              have HD := Lib.hid (heq.trans hd)
              clear hlen hcx hcell hbr heq hd
              go_wp2_with fail
              refine (child_part x.kids[k].2 _).mono ?_; rintro e w2 ⟨rfl, hb2⟩
              have hb3 := below_step (HBR.out.alloc HBR.out.size _) hb2
              have HB3 := Lib.hid hb3
              clear hb2 hb3
              go_wp2_with fail
              go_ret3
              exact ⟨by rw [HD.out] <;> rfl, HB3.out⟩
            · rw [if_neg ht] at hd
              have HD := Lib.hid (heq.trans hd)
              have hw : wrap64 (nn - pB x.kids[k].2) = nn - pB x.kids[k].2 := IntWalk.wrap64_in _ (by omega)
              clear hlen hcx hcell hbr heq hd
              go_wp2_with fail
              refine (child_part x.kids[k].2 _).mono ?_; rintro e w2 ⟨rfl, hb2⟩
              have hb3 := below_step (HBR.out.alloc HBR.out.size _) hb2
              have hkb := block_below hb2 (block_new wr _) (by simp)
              have g0 := block_cell hkb 0
              have g1 := block_cell hkb 1
              have g2 := block_cell hkb 2
              have g3 := block_cell hkb 3
              simp at g0 g1 g2 g3
              have HB3 := Lib.hid hb3
              clear hb2 hb3 hkb
              go_wp2_with fail
              refine (child_part x.kids[k].2 _).mono ?_; rintro e w3 ⟨rfl, hb3⟩
              have HB4 := Lib.hid (below_step HB3.out hb3)
              clear hb3
              go_wp2_with fail
              go_roundw
              case rel => exact ⟨k + 1, nn - pB x.kids[k].2, by omega, by go_num, rfl, by omega, by omega, HB4.out, HD.out⟩
              case measure => simp [intOf]; omega
          · have hd : x.kids.drop k = [] := List.drop_eq_nil_of_le (by have := HL.out; omega)
            rw [hd] at heq
            have HD := Lib.hid heq
            clear hbr heq hd
            go_wp2_with fail
            go_ret3
            exact ⟨by rw [HD.out] <;> rfl, HBR.out⟩
  · have e : chooseN pB x n0 = (0, 0, checkN x) := by unfold chooseN; rw [if_neg hc]
    rw [e]
    have hc' : (checkN x == 0) = false := by simpa using hc
    clear hc e
    unfold aggN
    go_enter Try.func49, Try.ntmps49
    go_wp2_with fail
    refine (check_any x ao n c _ (HK.out.box _)).mono ?_; rintro e w1 ⟨rfl, hb⟩
    obtain ⟨hbw, hb0⟩ := box_later hb
    have HBW := Lib.hid hbw
    clear hb hb0 hbw
    go_wp2_with fail
    go_ret3
    exact ⟨rfl, HBW.out⟩

set_option maxRecDepth 100000 in
set_option maxHeartbeats 2000000 in
theorem rune_part (m : Trip) (w : World) : Calls Try.prog 52 #[aggM m] w fun e w' => e = .returned (.int .i64 (pR m)) ∧ Below w.heap.size w w' := by
  unfold aggM pR
  go_enter Try.func52, Try.ntmps52
  go_wp2_with fail
  go_ret
  exact ⟨rfl, by go_grown⟩

set_option maxRecDepth 100000 in
set_option maxHeartbeats 2000000 in
theorem choose_rune (x : Nd) (n0 : Int) (ao : Option Addr) (n c : Nat) (w : World) (hk : IsKs w ao n x.kids) (hr : n0 ≤ 9223372036854775807) :
    Calls Try.prog 49 #[aggN x.h x.text ao n c, .int .i64 n0, .func (.func 52) #[] #[]] w fun e w' => e = .returned (tup3 (chooseN pR x n0)) ∧ Below w.heap.size w w' := by
  have HK := Lib.hid hk
  clear hk
  unfold tup3
  by_cases hc : checkN x = 0
  · have HC := Lib.hid hc
    by_cases hh : x.h = 0
    · have e : chooseN pR x n0 = (0, 0, 8) := by unfold chooseN; rw [if_pos hc, if_pos hh]
      rw [e]
      have HH := Lib.hid hh
      clear hc e hh
      unfold aggN
      go_enter Try.func49, Try.ntmps49
      go_wp2_with fail
      refine (check_any x ao n c _ (HK.out.box _)).mono ?_; rintro e w1 ⟨rfl, hb⟩
      rw [HC.out]
      have hh := HH.out
      obtain ⟨hbw, hb0⟩ := box_later hb
      (have q0 := block_cell hb0 0; have q1 := block_cell hb0 1; have q2 := block_cell hb0 2; have f0 := block_free hb0 0; have f1 := block_free hb0 1; have f2 := block_free hb0 2; have hz := block_lt hb0; simp at q0 q1 q2)
      have HBW := Lib.hid hbw
      clear hb hb0 hbw
      go_wp2_with fail
      go_ret3
      exact ⟨rfl, HBW.out⟩
    · have hh' : (x.h == 0) = false := by simpa using hh
      by_cases hn : n0 < 0
      · have e : chooseN pR x n0 = (0, 0, 3) := by unfold chooseN; rw [if_pos hc, if_neg hh, if_pos hn]
        rw [e]
        clear hc e hh
        unfold aggN
        go_enter Try.func49, Try.ntmps49
        go_wp2_with fail
        refine (check_any x ao n c _ (HK.out.box _)).mono ?_; rintro e w1 ⟨rfl, hb⟩
        rw [HC.out]
        obtain ⟨hbw, hb0⟩ := box_later hb
        (have q0 := block_cell hb0 0; have q1 := block_cell hb0 1; have q2 := block_cell hb0 2; have f0 := block_free hb0 0; have f1 := block_free hb0 1; have f2 := block_free hb0 2; have hz := block_lt hb0; simp at q0 q1 q2)
        have HBW := Lib.hid hbw
        clear hb hb0 hbw
        go_wp2_with fail
        go_ret3
        exact ⟨rfl, HBW.out⟩
      · have e : chooseN pR x n0 = chooseL pR x.kids 0 n0 := by unfold chooseN; rw [if_pos hc, if_neg hh, if_neg hn]
        rw [e]
        have hf := (checkN_zero hc).1
        have HPOS : ∀ k (h : k < x.kids.length), 0 ≤ pR x.kids[k].2 := fun k h => by
          rcases formed_cases hf with ⟨h1, _⟩ | ⟨h0, h1, h2, h3, h4, h5, h6⟩
          · exact absurd h1 hh
          · obtain ⟨_, b1, _, b2, _, b3, _⟩ := h6 _ (List.getElem_mem h)
            have := (bnd_pos (x.h - 1).toNat (by omega)).1
            exact (by first | exact b2 | exact b3 | (show (0 : Int) ≤ x.kids[k].2.1; omega))
        have HPO := Lib.hid HPOS
        have hl := HK.out.1
        have hn4 : n ≤ 4 := by have := formed_len hf; omega
        have HL := Lib.hid hl
        clear hc e hh hf HPOS hl
        unfold aggN
        go_enter Try.func49, Try.ntmps49
        go_wp2_with fail
        refine (check_any x ao n c _ (HK.out.box _)).mono ?_; rintro e w1 ⟨rfl, hb⟩
        rw [HC.out]
        obtain ⟨hbw, hb0⟩ := box_later hb
        (have q0 := block_cell hb0 0; have q1 := block_cell hb0 1; have q2 := block_cell hb0 2; have f0 := block_free hb0 0; have f1 := block_free hb0 1; have f2 := block_free hb0 2; have hz := block_lt hb0; simp at q0 q1 q2)
        have HBW := Lib.hid hbw
        clear hb hb0 hbw
        go_wp2_with fail
        go_loopw [1, 25] (fun a i wr => ∃ (k : Nat) (nn : Int), k ≤ n ∧ i = .int .i64 k ∧ a = .int .i64 nn ∧ 0 ≤ nn ∧ nn ≤ 9223372036854775807 ∧ Below w.heap.size w wr ∧ chooseL pR x.kids 0 n0 = chooseL pR (x.kids.drop k) k nn) (fun _ i _ => n - (intOf i).toNat)
        case atStart => exact ⟨0, n0, Nat.zero_le _, rfl, rfl, by omega, hr, HBW.out, rfl⟩
        case round =>
          obtain ⟨k, nn, hkn, rfl, rfl, hn0, hn1, hbr, heq⟩ := hrel
          have HEQ := Lib.hid heq
          have HBR := Lib.hid hbr
          by_cases hlt : k < n
          · obtain ⟨hlen, _, hcx⟩ := HK.out
            obtain ⟨b, off, rfl, hcell⟩ := hcx (by omega)
            have hkl : k < x.kids.length := by omega
            have hbw := cellK_lt (hcell k hkl)
            obtain ⟨m0, m1, m2, m3⟩ := cellK_below (hcell k hkl) hbr hbw
            have hpo := HPO.out k hkl
            have hd := chooseL_drop pR x.kids k nn hkl
            by_cases ht : nn < pR x.kids[k].2
            · rw [if_pos ht] at hd
              have HD := Lib.hid (heq.trans hd)
              clear hlen hcx hcell hbr heq hd
              go_wp2_with fail
              refine (rune_part x.kids[k].2 _).mono ?_; rintro e w2 ⟨rfl, hb2⟩
              have hb3 := below_step (HBR.out.alloc HBR.out.size _) hb2
              have HB3 := Lib.hid hb3
              clear hb2 hb3
              go_wp2_with fail
              go_ret3
              exact ⟨by rw [HD.out] <;> rfl, HB3.out⟩
            · rw [if_neg ht] at hd
              have HD := Lib.hid (heq.trans hd)
              have hw : wrap64 (nn - pR x.kids[k].2) = nn - pR x.kids[k].2 := IntWalk.wrap64_in _ (by omega)
              clear hlen hcx hcell hbr heq hd
              go_wp2_with fail
              refine (rune_part x.kids[k].2 _).mono ?_; rintro e w2 ⟨rfl, hb2⟩
              have hb3 := below_step (HBR.out.alloc HBR.out.size _) hb2
              have hkb := block_below hb2 (block_new wr _) (by simp)
              have g0 := block_cell hkb 0
              have g1 := block_cell hkb 1
              have g2 := block_cell hkb 2
              have g3 := block_cell hkb 3
              simp at g0 g1 g2 g3
              have HB3 := Lib.hid hb3
              clear hb2 hb3 hkb
              go_wp2_with fail
              refine (rune_part x.kids[k].2 _).mono ?_; rintro e w3 ⟨rfl, hb3⟩
              have HB4 := Lib.hid (below_step HB3.out hb3)
              clear hb3
              go_wp2_with fail
              go_roundw
              case rel => exact ⟨k + 1, nn - pR x.kids[k].2, by omega, by go_num, rfl, by omega, by omega, HB4.out, HD.out⟩
              case measure => simp [intOf]; omega
          · have hd : x.kids.drop k = [] := List.drop_eq_nil_of_le (by have := HL.out; omega)
            rw [hd] at heq
            have HD := Lib.hid heq
            clear hbr heq hd
            go_wp2_with fail
            go_ret3
            exact ⟨by rw [HD.out] <;> rfl, HBR.out⟩
  · have e : chooseN pR x n0 = (0, 0, checkN x) := by unfold chooseN; rw [if_neg hc]
    rw [e]
    have hc' : (checkN x == 0) = false := by simpa using hc
    clear hc e
    unfold aggN
    go_enter Try.func49, Try.ntmps49
    go_wp2_with fail
    refine (check_any x ao n c _ (HK.out.box _)).mono ?_; rintro e w1 ⟨rfl, hb⟩
    obtain ⟨hbw, hb0⟩ := box_later hb
    have HBW := Lib.hid hbw
    clear hb hb0 hbw
    go_wp2_with fail
    go_ret3
    exact ⟨rfl, HBW.out⟩

set_option maxRecDepth 100000 in
set_option maxHeartbeats 2000000 in
theorem line0_part (m : Trip) (w : World) : Calls Try.prog 53 #[aggM m] w fun e w' => e = .returned (.int .i64 (pB m)) ∧ Below w.heap.size w w' := by
  unfold aggM pB
  go_enter Try.func53, Try.ntmps53
  go_wp2_with fail
  go_ret
  exact ⟨rfl, by go_grown⟩

set_option maxRecDepth 100000 in
set_option maxHeartbeats 2000000 in
theorem choose_line0 (x : Nd) (n0 : Int) (ao : Option Addr) (n c : Nat) (w : World) (hk : IsKs w ao n x.kids) (hr : n0 ≤ 9223372036854775807) :
    Calls Try.prog 49 #[aggN x.h x.text ao n c, .int .i64 n0, .func (.func 53) #[] #[]] w fun e w' => e = .returned (tup3 (chooseN pB x n0)) ∧ Below w.heap.size w w' := by
  have HK := Lib.hid hk
  clear hk
  unfold tup3
  by_cases hc : checkN x = 0
  · have HC := Lib.hid hc
    by_cases hh : x.h = 0
    · have e : chooseN pB x n0 = (0, 0, 8) := by unfold chooseN; rw [if_pos hc, if_pos hh]
      rw [e]
      have HH := Lib.hid hh
      clear hc e hh
      unfold aggN
      go_enter Try.func49, Try.ntmps49
      go_wp2_with fail
      refine (check_any x ao n c _ (HK.out.box _)).mono ?_; rintro e w1 ⟨rfl, hb⟩
      rw [HC.out]
      have hh := HH.out
      obtain ⟨hbw, hb0⟩ := box_later hb
      (have q0 := block_cell hb0 0; have q1 := block_cell hb0 1; have q2 := block_cell hb0 2; have f0 := block_free hb0 0; have f1 := block_free hb0 1; have f2 := block_free hb0 2; have hz := block_lt hb0; simp at q0 q1 q2)
      have HBW := Lib.hid hbw
      clear hb hb0 hbw
      go_wp2_with fail
      go_ret3
      exact ⟨rfl, HBW.out⟩
    · have hh' : (x.h == 0) = false := by simpa using hh
      by_cases hn : n0 < 0
      · have e : chooseN pB x n0 = (0, 0, 3) := by unfold chooseN; rw [if_pos hc, if_neg hh, if_pos hn]
        rw [e]
        clear hc e hh
        unfold aggN
        go_enter Try.func49, Try.ntmps49
        go_wp2_with fail
        refine (check_any x ao n c _ (HK.out.box _)).mono ?_; rintro e w1 ⟨rfl, hb⟩
        rw [HC.out]
        obtain ⟨hbw, hb0⟩ := box_later hb
        (have q0 := block_cell hb0 0; have q1 := block_cell hb0 1; have q2 := block_cell hb0 2; have f0 := block_free hb0 0; have f1 := block_free hb0 1; have f2 := block_free hb0 2; have hz := block_lt hb0; simp at q0 q1 q2)
        have HBW := Lib.hid hbw
        clear hb hb0 hbw
        go_wp2_with fail
        go_ret3
        exact ⟨rfl, HBW.out⟩
      · have e : chooseN pB x n0 = chooseL pB x.kids 0 n0 := by unfold chooseN; rw [if_pos hc, if_neg hh, if_neg hn]
        rw [e]
        have hf := (checkN_zero hc).1
        have HPOS : ∀ k (h : k < x.kids.length), 0 ≤ pB x.kids[k].2 := fun k h => by
          rcases formed_cases hf with ⟨h1, _⟩ | ⟨h0, h1, h2, h3, h4, h5, h6⟩
          · exact absurd h1 hh
          · obtain ⟨_, b1, _, b2, _, b3, _⟩ := h6 _ (List.getElem_mem h)
            have := (bnd_pos (x.h - 1).toNat (by omega)).1
            exact (by first | exact b2 | exact b3 | (show (0 : Int) ≤ x.kids[k].2.1; omega))
        have HPO := Lib.hid HPOS
        have hl := HK.out.1
        have hn4 : n ≤ 4 := by have := formed_len hf; omega
        have HL := Lib.hid hl
        clear hc e hh hf HPOS hl
        unfold aggN
        go_enter Try.func49, Try.ntmps49
        go_wp2_with fail
        refine (check_any x ao n c _ (HK.out.box _)).mono ?_; rintro e w1 ⟨rfl, hb⟩
        rw [HC.out]
        obtain ⟨hbw, hb0⟩ := box_later hb
        (have q0 := block_cell hb0 0; have q1 := block_cell hb0 1; have q2 := block_cell hb0 2; have f0 := block_free hb0 0; have f1 := block_free hb0 1; have f2 := block_free hb0 2; have hz := block_lt hb0; simp at q0 q1 q2)
        have HBW := Lib.hid hbw
        clear hb hb0 hbw
        go_wp2_with fail
        go_loopw [1, 25] (fun a i wr => ∃ (k : Nat) (nn : Int), k ≤ n ∧ i = .int .i64 k ∧ a = .int .i64 nn ∧ 0 ≤ nn ∧ nn ≤ 9223372036854775807 ∧ Below w.heap.size w wr ∧ chooseL pB x.kids 0 n0 = chooseL pB (x.kids.drop k) k nn) (fun _ i _ => n - (intOf i).toNat)
        case atStart => exact ⟨0, n0, Nat.zero_le _, rfl, rfl, by omega, hr, HBW.out, rfl⟩
        case round =>
          obtain ⟨k, nn, hkn, rfl, rfl, hn0, hn1, hbr, heq⟩ := hrel
          have HEQ := Lib.hid heq
          have HBR := Lib.hid hbr
          by_cases hlt : k < n
          · obtain ⟨hlen, _, hcx⟩ := HK.out
            obtain ⟨b, off, rfl, hcell⟩ := hcx (by omega)
            have hkl : k < x.kids.length := by omega
            have hbw := cellK_lt (hcell k hkl)
            obtain ⟨m0, m1, m2, m3⟩ := cellK_below (hcell k hkl) hbr hbw
            have hpo := HPO.out k hkl
            have hd := chooseL_drop pB x.kids k nn hkl
            by_cases ht : nn < pB x.kids[k].2
            · rw [if_pos ht] at hd
              have HD := Lib.hid (heq.trans hd)
              clear hlen hcx hcell hbr heq hd
              go_wp2_with fail
              refine (line0_part x.kids[k].2 _).mono ?_; rintro e w2 ⟨rfl, hb2⟩
              have hb3 := below_step (HBR.out.alloc HBR.out.size _) hb2
              have HB3 := Lib.hid hb3
              clear hb2 hb3
              go_wp2_with fail
              go_ret3
              exact ⟨by rw [HD.out] <;> rfl, HB3.out⟩
            · rw [if_neg ht] at hd
              have HD := Lib.hid (heq.trans hd)
              have hw : wrap64 (nn - pB x.kids[k].2) = nn - pB x.kids[k].2 := IntWalk.wrap64_in _ (by omega)
              clear hlen hcx hcell hbr heq hd
              go_wp2_with fail
              refine (line0_part x.kids[k].2 _).mono ?_; rintro e w2 ⟨rfl, hb2⟩
              have hb3 := below_step (HBR.out.alloc HBR.out.size _) hb2
              have hkb := block_below hb2 (block_new wr _) (by simp)
              have g0 := block_cell hkb 0
              have g1 := block_cell hkb 1
              have g2 := block_cell hkb 2
              have g3 := block_cell hkb 3
              simp at g0 g1 g2 g3
              have HB3 := Lib.hid hb3
              clear hb2 hb3 hkb
              go_wp2_with fail
              refine (line0_part x.kids[k].2 _).mono ?_; rintro e w3 ⟨rfl, hb3⟩
              have HB4 := Lib.hid (below_step HB3.out hb3)
              clear hb3
              go_wp2_with fail
              go_roundw
              case rel => exact ⟨k + 1, nn - pB x.kids[k].2, by omega, by go_num, rfl, by omega, by omega, HB4.out, HD.out⟩
              case measure => simp [intOf]; omega
          · have hd : x.kids.drop k = [] := List.drop_eq_nil_of_le (by have := HL.out; omega)
            rw [hd] at heq
            have HD := Lib.hid heq
            clear hbr heq hd
            go_wp2_with fail
            go_ret3
            exact ⟨by rw [HD.out] <;> rfl, HBR.out⟩
  · have e : chooseN pB x n0 = (0, 0, checkN x) := by unfold chooseN; rw [if_neg hc]
    rw [e]
    have hc' : (checkN x == 0) = false := by simpa using hc
    clear hc e
    unfold aggN
    go_enter Try.func49, Try.ntmps49
    go_wp2_with fail
    refine (check_any x ao n c _ (HK.out.box _)).mono ?_; rintro e w1 ⟨rfl, hb⟩
    obtain ⟨hbw, hb0⟩ := box_later hb
    have HBW := Lib.hid hbw
    clear hb hb0 hbw
    go_wp2_with fail
    go_ret3
    exact ⟨rfl, HBW.out⟩

set_option maxRecDepth 100000 in
set_option maxHeartbeats 2000000 in
theorem line_part (m : Trip) (w : World) : Calls Try.prog 54 #[aggM m] w fun e w' => e = .returned (.int .i64 (pL m)) ∧ Below w.heap.size w w' := by
  unfold aggM pL
  go_enter Try.func54, Try.ntmps54
  go_wp2_with fail
  go_ret
  exact ⟨rfl, by go_grown⟩

set_option maxRecDepth 100000 in
set_option maxHeartbeats 2000000 in
theorem choose_line (x : Nd) (n0 : Int) (ao : Option Addr) (n c : Nat) (w : World) (hk : IsKs w ao n x.kids) (hr : n0 ≤ 9223372036854775807) :
    Calls Try.prog 49 #[aggN x.h x.text ao n c, .int .i64 n0, .func (.func 54) #[] #[]] w fun e w' => e = .returned (tup3 (chooseN pL x n0)) ∧ Below w.heap.size w w' := by
  have HK := Lib.hid hk
  clear hk
  unfold tup3
  by_cases hc : checkN x = 0
  · have HC := Lib.hid hc
    by_cases hh : x.h = 0
    · have e : chooseN pL x n0 = (0, 0, 8) := by unfold chooseN; rw [if_pos hc, if_pos hh]
      rw [e]
      have HH := Lib.hid hh
      clear hc e hh
      unfold aggN
      go_enter Try.func49, Try.ntmps49
      go_wp2_with fail
      refine (check_any x ao n c _ (HK.out.box _)).mono ?_; rintro e w1 ⟨rfl, hb⟩
      rw [HC.out]
      have hh := HH.out
      obtain ⟨hbw, hb0⟩ := box_later hb
      (have q0 := block_cell hb0 0; have q1 := block_cell hb0 1; have q2 := block_cell hb0 2; have f0 := block_free hb0 0; have f1 := block_free hb0 1; have f2 := block_free hb0 2; have hz := block_lt hb0; simp at q0 q1 q2)
      have HBW := Lib.hid hbw
      clear hb hb0 hbw
      go_wp2_with fail
      go_ret3
      exact ⟨rfl, HBW.out⟩
    · have hh' : (x.h == 0) = false := by simpa using hh
      by_cases hn : n0 < 0
      · have e : chooseN pL x n0 = (0, 0, 3) := by unfold chooseN; rw [if_pos hc, if_neg hh, if_pos hn]
        rw [e]
        clear hc e hh
        unfold aggN
        go_enter Try.func49, Try.ntmps49
        go_wp2_with fail
        refine (check_any x ao n c _ (HK.out.box _)).mono ?_; rintro e w1 ⟨rfl, hb⟩
        rw [HC.out]
        obtain ⟨hbw, hb0⟩ := box_later hb
        (have q0 := block_cell hb0 0; have q1 := block_cell hb0 1; have q2 := block_cell hb0 2; have f0 := block_free hb0 0; have f1 := block_free hb0 1; have f2 := block_free hb0 2; have hz := block_lt hb0; simp at q0 q1 q2)
        have HBW := Lib.hid hbw
        clear hb hb0 hbw
        go_wp2_with fail
        go_ret3
        exact ⟨rfl, HBW.out⟩
      · have e : chooseN pL x n0 = chooseL pL x.kids 0 n0 := by unfold chooseN; rw [if_pos hc, if_neg hh, if_neg hn]
        rw [e]
        have hf := (checkN_zero hc).1
        have HPOS : ∀ k (h : k < x.kids.length), 0 ≤ pL x.kids[k].2 := fun k h => by
          rcases formed_cases hf with ⟨h1, _⟩ | ⟨h0, h1, h2, h3, h4, h5, h6⟩
          · exact absurd h1 hh
          · obtain ⟨_, b1, _, b2, _, b3, _⟩ := h6 _ (List.getElem_mem h)
            have := (bnd_pos (x.h - 1).toNat (by omega)).1
            exact (by first | exact b2 | exact b3 | (show (0 : Int) ≤ x.kids[k].2.1; omega))
        have HPO := Lib.hid HPOS
        have hl := HK.out.1
        have hn4 : n ≤ 4 := by have := formed_len hf; omega
        have HL := Lib.hid hl
        clear hc e hh hf HPOS hl
        unfold aggN
        go_enter Try.func49, Try.ntmps49
        go_wp2_with fail
        refine (check_any x ao n c _ (HK.out.box _)).mono ?_; rintro e w1 ⟨rfl, hb⟩
        rw [HC.out]
        obtain ⟨hbw, hb0⟩ := box_later hb
        (have q0 := block_cell hb0 0; have q1 := block_cell hb0 1; have q2 := block_cell hb0 2; have f0 := block_free hb0 0; have f1 := block_free hb0 1; have f2 := block_free hb0 2; have hz := block_lt hb0; simp at q0 q1 q2)
        have HBW := Lib.hid hbw
        clear hb hb0 hbw
        go_wp2_with fail
        go_loopw [1, 25] (fun a i wr => ∃ (k : Nat) (nn : Int), k ≤ n ∧ i = .int .i64 k ∧ a = .int .i64 nn ∧ 0 ≤ nn ∧ nn ≤ 9223372036854775807 ∧ Below w.heap.size w wr ∧ chooseL pL x.kids 0 n0 = chooseL pL (x.kids.drop k) k nn) (fun _ i _ => n - (intOf i).toNat)
        case atStart => exact ⟨0, n0, Nat.zero_le _, rfl, rfl, by omega, hr, HBW.out, rfl⟩
        case round =>
          obtain ⟨k, nn, hkn, rfl, rfl, hn0, hn1, hbr, heq⟩ := hrel
          have HEQ := Lib.hid heq
          have HBR := Lib.hid hbr
          by_cases hlt : k < n
          · obtain ⟨hlen, _, hcx⟩ := HK.out
            obtain ⟨b, off, rfl, hcell⟩ := hcx (by omega)
            have hkl : k < x.kids.length := by omega
            have hbw := cellK_lt (hcell k hkl)
            obtain ⟨m0, m1, m2, m3⟩ := cellK_below (hcell k hkl) hbr hbw
            have hpo := HPO.out k hkl
            have hd := chooseL_drop pL x.kids k nn hkl
            by_cases ht : nn < pL x.kids[k].2
            · rw [if_pos ht] at hd
              have HD := Lib.hid (heq.trans hd)
              clear hlen hcx hcell hbr heq hd
              go_wp2_with fail
              refine (line_part x.kids[k].2 _).mono ?_; rintro e w2 ⟨rfl, hb2⟩
              have hb3 := below_step (HBR.out.alloc HBR.out.size _) hb2
              have HB3 := Lib.hid hb3
              clear hb2 hb3
              go_wp2_with fail
              go_ret3
              exact ⟨by rw [HD.out] <;> rfl, HB3.out⟩
            · rw [if_neg ht] at hd
              have HD := Lib.hid (heq.trans hd)
              have hw : wrap64 (nn - pL x.kids[k].2) = nn - pL x.kids[k].2 := IntWalk.wrap64_in _ (by omega)
              clear hlen hcx hcell hbr heq hd
              go_wp2_with fail
              refine (line_part x.kids[k].2 _).mono ?_; rintro e w2 ⟨rfl, hb2⟩
              have hb3 := below_step (HBR.out.alloc HBR.out.size _) hb2
              have hkb := block_below hb2 (block_new wr _) (by simp)
              have g0 := block_cell hkb 0
              have g1 := block_cell hkb 1
              have g2 := block_cell hkb 2
              have g3 := block_cell hkb 3
              simp at g0 g1 g2 g3
              have HB3 := Lib.hid hb3
              clear hb2 hb3 hkb
              go_wp2_with fail
              refine (line_part x.kids[k].2 _).mono ?_; rintro e w3 ⟨rfl, hb3⟩
              have HB4 := Lib.hid (below_step HB3.out hb3)
              clear hb3
              go_wp2_with fail
              go_roundw
              case rel => exact ⟨k + 1, nn - pL x.kids[k].2, by omega, by go_num, rfl, by omega, by omega, HB4.out, HD.out⟩
              case measure => simp [intOf]; omega
          · have hd : x.kids.drop k = [] := List.drop_eq_nil_of_le (by have := HL.out; omega)
            rw [hd] at heq
            have HD := Lib.hid heq
            clear hbr heq hd
            go_wp2_with fail
            go_ret3
            exact ⟨by rw [HD.out] <;> rfl, HBR.out⟩
  · have e : chooseN pL x n0 = (0, 0, checkN x) := by unfold chooseN; rw [if_neg hc]
    rw [e]
    have hc' : (checkN x == 0) = false := by simpa using hc
    clear hc e
    unfold aggN
    go_enter Try.func49, Try.ntmps49
    go_wp2_with fail
    refine (check_any x ao n c _ (HK.out.box _)).mono ?_; rintro e w1 ⟨rfl, hb⟩
    obtain ⟨hbw, hb0⟩ := box_later hb
    have HBW := Lib.hid hbw
    clear hb hb0 hbw
    go_wp2_with fail
    go_ret3
    exact ⟨rfl, HBW.out⟩
end Go.Proofs.Ytbodacjhhkjdfaa
