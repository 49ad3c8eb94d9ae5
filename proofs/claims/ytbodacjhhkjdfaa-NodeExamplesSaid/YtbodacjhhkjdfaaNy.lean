/- The contracts of the reference's Encode (whole) and Equal, of spoil, part and find. -/
import Derived.Test.YtbodacjhhkjdfaaNu
import Derived.Test.YtbodacjhhkjdfaaNx
import Derived.Test.YtbodacjhhkjdfaaOpenN
namespace Go.Proofs.Ytbodacjhhkjdfaa
open Go.RowKit

set_option maxRecDepth 100000 in
set_option maxHeartbeats 2000000 in
theorem refEncode_leaf (t : ByteArray) (ao : Option Addr) (c : Nat) (w : World) (hc : checkN ⟨0, t, []⟩ = 0) :
    Calls Try.prog 24 #[.agg #[.int .i64 0, .string t, .slice ao 0 c]] w fun e w' => e = .returned (.tuple #[.string (⟨#[0]⟩ ++ t), .int .i64 0]) ∧ Below w.heap.size w w' := by
  have hts : t.size ≤ 16 := by
    rcases formed_cases (checkN_zero hc).1 with ⟨_, _, h, _⟩ | ⟨h, _⟩
    · exact h
    · exact absurd rfl h
  have hcat : ¬ 9223372036854775807 < 1 + t.size := by omega
  have HC := Lib.hid hc
  clear hc
  go_enter Try.func24, Try.ntmps24
  go_wp2_with fail
  refine (refCheck_any ⟨0, t, []⟩ ao 0 c _ (IsKs.none _ _)).mono ?_; rintro e w1 ⟨rfl, hb⟩
  rw [HC.out]
  obtain ⟨hbw, hb0⟩ := box_later hb
  (have q0 := block_cell hb0 0; have q1 := block_cell hb0 1; have q2 := block_cell hb0 2; have f0 := block_free hb0 0; have f1 := block_free hb0 1; have f2 := block_free hb0 2; have hz := block_lt hb0; simp at q0 q1 q2)
  have hconv := run_convert_bytes_back (P := Try.prog) (w1.alloc (.cells #[.int .u8 0] 5)) 66 9 5 ⟨w1.heap.size, 0, none⟩ 1 [0] Try.underlying66 Try.underlying5 Try.underlying9 (fun j hj => by
    obtain rfl : j = 0 := by simpa using hj
    rw [add_to, block_cell (block_new _ _)]
    rfl)
  simp only [List.length_singleton] at hconv
  have HB1 := Lib.hid (block_alloc hb0 (.cells #[.int .u8 0] 5))
  have HBW1 := Lib.hid (hbw.alloc hbw.size (.cells #[.int .u8 0] 5))
  clear hb hb0 hbw
  go_wp2_with fail
  go_loop [5, 6] (fun o i => o = .string (⟨#[0]⟩ ++ t) ∧ i = .int .i64 0) (fun _ _ => 0)
  case atStart => exact ⟨rfl, rfl⟩
  case round =>
    obtain ⟨rfl, rfl⟩ := hrel
    have hb0 := HB1.out
    (have q0 := block_cell hb0 0; have q1 := block_cell hb0 1; have q2 := block_cell hb0 2; have f0 := block_free hb0 0; have f1 := block_free hb0 1; have f2 := block_free hb0 2; have hz := block_lt hb0; simp at q0 q1 q2)
    clear hb0
    go_wp2_with fail
    go_ret2
    exact ⟨rfl, HBW1.out⟩

set_option maxRecDepth 100000 in
set_option maxHeartbeats 2000000 in
theorem refEncode_err (x : Nd) (ao : Option Addr) (n c : Nat) (w : World) (hk : IsKs w ao n x.kids) (hc : checkN x ≠ 0) :
    Calls Try.prog 24 #[aggN x.h x.text ao n c] w fun e w' => e = .returned (.tuple #[.string ⟨#[]⟩, .int .i64 (checkN x)]) ∧ Below w.heap.size w w' := by
  have hc' : (checkN x == 0) = false := by simpa using hc
  have HK := Lib.hid hk
  clear hk
  clear hc
  unfold aggN
  go_enter Try.func24, Try.ntmps24
  go_wp2_with fail
  refine (refCheck_any x ao n c _ (HK.out.box _)).mono ?_; rintro e w1 ⟨rfl, hb⟩
  obtain ⟨hbw, hb0⟩ := box_later hb
  have HBW := Lib.hid hbw
  clear hbw
  clear hb hb0
  go_wp2_with fail
  go_ret2
  exact ⟨rfl, HBW.out⟩

theorem refEncode_any (x : Nd) (ao : Option Addr) (n c : Nat) (w : World) (hk : IsKs w ao n x.kids) :
    Calls Try.prog 24 #[aggN x.h x.text ao n c] w fun e w' => e = .returned (.tuple #[.string (encN x), .int .i64 (checkN x)]) ∧ Below w.heap.size w w' := by
  by_cases hc : checkN x = 0
  · by_cases hh : x.h = 0
    · have hl := hk.1
      rcases formed_cases (checkN_zero hc).1 with ⟨_, _, _, h4⟩ | ⟨h, _⟩
      · obtain ⟨h, t, l⟩ := x
        simp only at hh h4 hl
        subst hh h4
        simp at hl
        subst hl
        have e : encN ⟨0, t, []⟩ = ⟨#[0]⟩ ++ t := by unfold encN; rw [if_pos hc, if_pos rfl]
        rw [e, hc]
        exact refEncode_leaf t ao c w hc
      · exact absurd hh h
    · rw [hc]
      exact refEncode_inner x ao n c w hk hc hh
  · have e : encN x = ⟨#[]⟩ := if_neg hc
    rw [e]
    exact refEncode_err x ao n c w hk hc

set_option maxRecDepth 100000 in
set_option maxHeartbeats 2000000 in
theorem refEqual_any (x y : Nd) (a a' : Option Addr) (n n' c c' : Nat) (w : World) (h : IsKs w a n x.kids) (h' : IsKs w a' n' y.kids) (hn63 : n ≤ 9223372036854775807) :
    Calls Try.prog 31 #[aggN x.h x.text a n c, aggN y.h y.text a' n' c'] w fun e w' => e = .returned (.bool (decide (x = y))) ∧ Below w.heap.size w w' := by
  have H := Lib.hid h
  have H' := Lib.hid h'
  clear h h'
  unfold aggN
  go_enter Try.func31, Try.ntmps31
  go_wp2_with fail
  refine (equalNode_any x y a a' n n' c c' _ ((H.out.box _).box _) ((H'.out.box _).box _) hn63).mono ?_; rintro e w1 ⟨rfl, hb⟩
  have HB := Lib.hid (box2_later hb).1
  clear hb
  go_wp2_with fail
  go_ret
  exact ⟨rfl, HB.out⟩

set_option maxRecDepth 100000 in
set_option maxHeartbeats 2000000 in
theorem part_any (m : Trip) (k : Nat) (hk : k ≤ 2) (w : World) :
    Calls Try.prog 36 #[aggM m, .int .i64 k] w fun e w' => e = .returned (.int .i64 (if k = 0 then pB m else if k = 1 then pR m else pL m)) ∧ Below w.heap.size w w' := by
  unfold aggM
  obtain rfl | rfl | rfl : k = 0 ∨ k = 1 ∨ k = 2 := by omega
  · go_enter Try.func36, Try.ntmps36
    go_wp2_with fail
    go_ret
    exact ⟨rfl, by go_grown⟩
  · go_enter Try.func36, Try.ntmps36
    go_wp2_with fail
    go_ret
    exact ⟨rfl, by go_grown⟩
  · go_enter Try.func36, Try.ntmps36
    go_wp2_with fail
    go_ret
    exact ⟨rfl, by go_grown⟩

/-- what find returns -/
def findN (x : Nd) (k : Nat) (n : Int) : Int × Int × Int := if k = 0 then chooseN pB x n else if k = 1 then chooseN pR x n else lineN x n
set_option maxRecDepth 100000 in
set_option maxHeartbeats 2000000 in
theorem find_any (x : Nd) (n0 : Int) (k : Nat) (hk2 : k ≤ 2) (ao : Option Addr) (n c : Nat) (w : World) (hk : IsKs w ao n x.kids) (hr0 : -9223372036854775808 ≤ n0) (hr : n0 ≤ 9223372036854775807) :
    Calls Try.prog 35 #[aggN x.h x.text ao n c, .int .i64 k, .int .i64 n0] w fun e w' => e = .returned (tup3 (findN x k n0)) ∧ Below w.heap.size w w' := by
  have HK := Lib.hid hk
  clear hk
  unfold aggN
  obtain rfl | rfl | rfl : k = 0 ∨ k = 1 ∨ k = 2 := by omega
  · show Calls _ _ _ _ fun e w' => e = .returned (tup3 (chooseN pB x n0)) ∧ Below w.heap.size w w'
    go_enter Try.func35, Try.ntmps35
    go_wp2_with fail
    refine (child_any x n0 ao n c _ (HK.out.box _) hr).mono ?_; rintro e w1 ⟨rfl, hb⟩
    have HB := Lib.hid (box_later hb).1
    clear hb
    unfold tup3
    go_wp2_with fail
    go_ret3
    exact ⟨rfl, HB.out⟩
  · show Calls _ _ _ _ fun e w' => e = .returned (tup3 (chooseN pR x n0)) ∧ Below w.heap.size w w'
    go_enter Try.func35, Try.ntmps35
    go_wp2_with fail
    refine (rune_any x n0 ao n c _ (HK.out.box _) hr).mono ?_; rintro e w1 ⟨rfl, hb⟩
    have HB := Lib.hid (box_later hb).1
    clear hb
    unfold tup3
    go_wp2_with fail
    go_ret3
    exact ⟨rfl, HB.out⟩
  · show Calls _ _ _ _ fun e w' => e = .returned (tup3 (lineN x n0)) ∧ Below w.heap.size w w'
    go_enter Try.func35, Try.ntmps35
    go_wp2_with fail
    refine (line_any x n0 ao n c _ (HK.out.box _) hr0 hr).mono ?_; rintro e w1 ⟨rfl, hb⟩
    have HB := Lib.hid (box_later hb).1
    clear hb
    unfold tup3
    go_wp2_with fail
    go_ret3
    exact ⟨rfl, HB.out⟩

set_option maxRecDepth 100000 in
set_option maxHeartbeats 2000000 in
theorem spoil_any (h : Int) (t : ByteArray) (v : Value) (n c : Nat) (ao : Option Addr) (l : List Kid) (base : Nat) (w : World) (hv : v = .slice ao n c) (hb : base ≤ w.heap.size) (ho : OwnKs base w v n l) (hn : n ≤ 9223372036854775807) :
    Calls Try.prog 29 #[.agg #[.int .i64 h, .string t, v]] w fun e w' => e = .returned (.tuple #[]) ∧ Below base w w' := by
  subst hv
  obtain ⟨h1, h2, h3, h4⟩ := ho
  rcases h4 with ⟨e, rfl⟩ | ⟨g, cap, cur, e, hg, hh, hnc, hm, hsz, htk⟩
  · injection e with e1 e2 e3
    subst e1 e3
    go_enter Try.func29, Try.ntmps29
    go_wp2_with fail
    go_loop [2] (fun i => i = .int .i64 0) (fun _ => 0)
    case atStart => rfl
    case round =>
      obtain rfl := hrel
      go_wp2_with fail
      go_end0
      exact ⟨rfl, by go_grown⟩
  · injection e with e1 e2 e3
    subst e1 e3
    have hgl := block_lt hh
    have hn4 : n * 4 ≤ cur.size := by rw [hsz]; exact Nat.mul_le_mul_right 4 hnc
    have HH := Lib.hid (block_alloc hh (.cells #[.int .i64 h, .string t, .slice (some ⟨g, 0, none⟩) n c] 24))
    have HB := Lib.hid hb
    have HS := Lib.hid hsz
    clear h1 h2 h3 hh htk hsz hm hnc
    go_enter Try.func29, Try.ntmps29
    go_wp2_with fail
    go_loopw [2] (fun i wr => ∃ (k : Nat) (cur' : Array Value), k ≤ n ∧ i = .int .i64 k ∧ Below base w wr ∧ wr.heap[w.heap.size]? = some (.cells #[.int .i64 h, .string t, .slice (some ⟨g, 0, none⟩) n c] 24 (0, 0)) ∧ wr.heap[g]? = some (.cells cur' 49 (0, 0)) ∧ n * 4 ≤ cur'.size) (fun i _ => n - (intOf i).toNat)
    case atStart => exact ⟨0, cur, Nat.zero_le _, rfl, (Below.refl _ _).alloc HB.out _, block_new _ _, HH.out, hn4⟩
    case round =>
      obtain ⟨k, cur', hkn, rfl, hbr, hb0, hb1, hs4⟩ := hrel
      (have q0 := block_cell hb0 0; have q1 := block_cell hb0 1; have q2 := block_cell hb0 2; have f0 := block_free hb0 0; have f1 := block_free hb0 1; have f2 := block_free hb0 2; have hz := block_lt hb0; simp at q0 q1 q2)
      by_cases hlt : k < n
      · have c0 := block_cell hb1 (k * 4)
        have c1 := block_cell hb1 (k * 4 + 1)
        have c2 := block_cell hb1 (k * 4 + 2)
        have c3 := block_cell hb1 (k * 4 + 3)
        rw [Array.getElem?_eq_getElem (by omega)] at c0 c1 c2 c3
        have g0 := block_free hb1 (k * 4)
        have g1 := block_free hb1 (k * 4 + 1)
        have g2 := block_free hb1 (k * 4 + 2)
        have g3 := block_free hb1 (k * 4 + 3)
        have hne : g ≠ w.heap.size := by omega
        have HB1 := Lib.hid (block_setCell (block_setCell (block_setCell (block_setCell hb1 (k * 4) (.int .u64 1)) (k * 4 + 1) (.int .i64 0)) (k * 4 + 2) (.int .i64 0)) (k * 4 + 3) (.int .i64 0))
        have HB0 := Lib.hid (block_setCell_other (block_setCell_other (block_setCell_other (block_setCell_other hb0 (p := ⟨g, k * 4, none⟩) hne (.int .u64 1)) (p := ⟨g, k * 4 + 1, none⟩) hne (.int .i64 0)) (p := ⟨g, k * 4 + 2, none⟩) hne (.int .i64 0)) (p := ⟨g, k * 4 + 3, none⟩) hne (.int .i64 0))
        have HBR := Lib.hid ((((hbr.setCell (p := ⟨g, k * 4, none⟩) hg (.int .u64 1)).setCell (p := ⟨g, k * 4 + 1, none⟩) hg (.int .i64 0)).setCell (p := ⟨g, k * 4 + 2, none⟩) hg (.int .i64 0)).setCell (p := ⟨g, k * 4 + 3, none⟩) hg (.int .i64 0))
        clear hbr hb0 hb1
        go_wp2_with fail
        go_roundw
        case rel => exact ⟨k + 1, _, by omega, by go_num, HBR.out, HB0.out, HB1.out, by simpa using hs4⟩
        case measure => simp [intOf]; omega
      · have HBR := Lib.hid hbr
        clear hbr hb0 hb1
        go_wp2_with fail
        go_end0
        exact ⟨rfl, HBR.out⟩
end Go.Proofs.Ytbodacjhhkjdfaa
