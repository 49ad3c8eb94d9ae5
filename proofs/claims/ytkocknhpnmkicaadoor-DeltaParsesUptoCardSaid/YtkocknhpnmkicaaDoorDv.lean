/- Deltas: reading: Parse of the program. -/
import Derived.Test.YtkocknhpnmkicaaDoorDu
namespace Go.Proofs.YtkocknhpnmkicaaDoor
open Go.RowKit
set_option linter.unusedVariables false

def parseR (s : ByteArray) : List Pc × Int := match parseL s.data.toList with
  | none => ([], 4)
  | some l => if checkP l = 0 then (l, 0) else ([], checkP l)
theorem pieces_some {br : Nat} {s : ByteArray} {l : List Pc} {w : World} (h : RS br s 0 w) (hs : s.size ≤ 1000000000) (hn : parseL s.data.toList = some l) :
    Calls Tryd.prog 52 #[.pointer (some ⟨br, 0, none⟩)] w fun e w' => ∃ v, e = .returned v ∧ w'.ownsRow w.heap.size 38 3 v l.length (flatR fP l) ∧ w.grownBy w' (some br) := by
  refine (pieces_any br s w h hs).mono fun e w' h => ?_
  unfold PiecesPost at h
  rw [hn] at h
  exact h
theorem pieces_none {br : Nat} {s : ByteArray} {w : World} (h : RS br s 0 w) (hs : s.size ≤ 1000000000) (hn : parseL s.data.toList = none) :
    Calls Tryd.prog 52 #[.pointer (some ⟨br, 0, none⟩)] w (Failed br w) := by
  refine (pieces_any br s w h hs).mono fun e w' h => ?_
  unfold PiecesPost at h
  rw [hn] at h
  exact h
theorem allP_len : ∀ (ws : List (List UInt8)) (l : List Pc), allP ws = some l → l.length = ws.length
  | [], l, h => by
    obtain rfl := Option.some.inj h
    rfl
  | w :: ws, l, h => by
    rw [allP_cons] at h
    rcases h1 : oneP w with _ | p
    · rw [h1] at h; cases h
    rcases h2 : allP ws with _ | l'
    · rw [h1, h2] at h; cases h
    rw [h1, h2] at h
    obtain rfl := Option.some.inj h
    rw [List.length_cons, List.length_cons, allP_len ws l' h2]
theorem splitW_len : ∀ l : List UInt8, (splitW l).length ≤ l.length + 1
  | [] => Nat.le_refl _
  | c :: l => by
    have ih := splitW_len l
    rw [splitW_cons]
    by_cases h : c = 32
    · rw [if_pos h, List.length_cons, List.length_cons]; omega
    · rw [if_neg h]
      rcases hh : splitW l with _ | ⟨w, ws⟩
      · exact absurd hh (splitW_ne l)
      · rw [hh] at ih
        show ws.length + 1 ≤ l.length + 1 + 1
        rw [List.length_cons] at ih
        omega
theorem parse_len {s : ByteArray} {l : List Pc} (h : parseL s.data.toList = some l) : l.length ≤ s.size + 1 := by
  have e : s.data.toList.length = s.size := Array.length_toList ..
  unfold parseL at h
  by_cases h0 : s.data.toList = []
  · rw [if_pos h0] at h
    obtain rfl := Option.some.inj h
    exact Nat.zero_le _
  · rw [if_neg h0] at h
    have := splitW_len s.data.toList
    rw [allP_len _ _ h]
    omega
/-- the call's own blocks aside nothing turns -/
theorem below_grown {w w1 w2 : World} {r : Nat} (h : Below w.heap.size w w1) (hg : w1.grownBy w2 (some r)) (hr : w.heap.size ≤ r) : Below w.heap.size w w2 :=
  h.trans ⟨hg.os, hg.tape, hg.output, hg.size, fun k hk => hg.block k (Nat.lt_of_lt_of_le hk h.size) (fun e => by injection e with e; omega)⟩

set_option maxRecDepth 100000 in
set_option maxHeartbeats 8000000 in
theorem parse_any (s : ByteArray) (w : World) (hs : s.size ≤ 1000000000) : Calls Tryd.prog 29 #[.string s] w (Rowed w (parseR s).1 (parseR s).2) := by
  have hmf : ∀ (fn : Fn) (first cap : Array Value) (w : World), (Instr.makeFunc fn first cap).run Tryd.prog w = .ok (.func fn first cap) w := fun _ _ _ _ => rfl
  have HR := Lib.hid (show RS (w.heap.size + 1 + 1) s 0 (((w.alloc (.cells #[.slice none 0 0] 22)).alloc (.cells #[.int .i64 0] 24)).alloc (.cells #[.string s, .int .i64 0] 78)) from block_new' _ _ _ (by simp))
  have HD := Lib.hid (show (((w.alloc (.cells #[.slice none 0 0] 22)).alloc (.cells #[.int .i64 0] 24)).alloc (.cells #[.string s, .int .i64 0] 78)).heap[w.heap.size]? = some (.cells #[.slice none 0 0] 22 (0, 0)) from block_alloc (block_alloc (block_new _ _) _) _)
  have HE := Lib.hid (show (((w.alloc (.cells #[.slice none 0 0] 22)).alloc (.cells #[.int .i64 0] 24)).alloc (.cells #[.string s, .int .i64 0] 78)).heap[w.heap.size + 1]? = some (.cells #[.int .i64 0] 24 (0, 0)) from block_alloc (block_new' _ _ _ (by simp)) _)
  have HB := Lib.hid ((((Below.refl w.heap.size w).alloc (Nat.le_refl _) (.cells #[.slice none 0 0] 22)).alloc (by simp) (.cells #[.int .i64 0] 24)).alloc (by simp; omega) (.cells #[.string s, .int .i64 0] 78))
  rcases hp : parseL s.data.toList with _ | l
  · have HN := Lib.hid (pieces_none HR.out hs hp)
    have HPR := Lib.hid (show parseR s = ([], 4) by unfold parseR; rw [hp])
    clear hp
    go_enter_defers Tryd.func29, Tryd.ntmps29
    go_wp2_with fail
    refine (HN.out).mono ?_; rintro e w2 ⟨rfl, hg2⟩
    go_wp2_with fail
    have hd2 : w2.heap[w.heap.size]? = some (.cells #[.slice none 0 0] 22 (0, 0)) := by
      rw [hg2.block w.heap.size (by simp; omega) (fun e => by injection e with e; omega)]
      exact HD.out
    have he2 : w2.heap[w.heap.size + 1]? = some (.cells #[.int .i64 0] 24 (0, 0)) := by
      rw [hg2.block (w.heap.size + 1) (by simp) (fun e => by injection e with e; omega)]
      exact HE.out
    have HB2 := Lib.hid (below_grown HB.out hg2 (by omega))
    have HD2 := Lib.hid hd2
    have HE2 := Lib.hid he2
    clear hg2 hd2 he2
    unfold chainF
    refine leaves_cons (f := 51) (args := #[.pointer (some ⟨w.heap.size, 0, none⟩), .pointer (some ⟨w.heap.size + 1, 0, none⟩)]) (by simp) (by simp [go_sem]) ?_
    refine (catch_panicking w.heap.size (w.heap.size + 1) _ _ _ _ [] w2 HD2.out HE2.out (by omega)).mono ?_
    rintro e u' w'' ⟨rfl, rfl, rfl⟩
    have hd3 := block_setCell_other (block_setCell HD2.out 0 (.slice none 0 0)) (p := ⟨w.heap.size + 1, 0, none⟩) (by show w.heap.size + 1 ≠ w.heap.size; omega) (.int .i64 4)
    have he3 := block_setCell (block_setCell_other HE2.out (p := ⟨w.heap.size, 0, none⟩) (by show w.heap.size ≠ w.heap.size + 1; omega) (.slice none 0 0)) 0 (.int .i64 4)
    have c3 := block_cell hd3 0
    have c4 := block_cell he3 0
    simp at c3 c4
    have HRW := Lib.hid (show Rowed w (parseR s).1 (parseR s).2 (.returned (.tuple #[.slice none 0 0, .int .i64 4])) ((w2.setCell ⟨w.heap.size, 0, none⟩ (.slice none 0 0)).setCell ⟨w.heap.size + 1, 0, none⟩ (.int .i64 4)) from by
      rw [HPR.out]
      exact ⟨.slice none 0 0, rfl, own_nil _ _, (HB2.out.setCell (p := ⟨w.heap.size, 0, none⟩) (Nat.le_refl _) _).setCell (p := ⟨w.heap.size + 1, 0, none⟩) (by show w.heap.size ≤ w.heap.size + 1; omega) _⟩)
    simp [Leaves, settle, results, Tryd.results29, go_sem, c3, c4]
    exact HRW.out
  · have HN := Lib.hid (pieces_some HR.out hs hp)
    have HPL := Lib.hid hp
    have HLE := Lib.hid (parse_len hp)
    clear hp
    go_enter_defers Tryd.func29, Tryd.ntmps29
    go_wp2_with fail
    refine (HN.out).mono ?_; rintro e w2 ⟨v, rfl, hown, hg2⟩
    have hd2 : w2.heap[w.heap.size]? = some (.cells #[.slice none 0 0] 22 (0, 0)) := by
      rw [hg2.block w.heap.size (by simp; omega) (fun e => by injection e with e; omega)]
      exact HD.out
    have he2 : w2.heap[w.heap.size + 1]? = some (.cells #[.int .i64 0] 24 (0, 0)) := by
      rw [hg2.block (w.heap.size + 1) (by simp) (fun e => by injection e with e; omega)]
      exact HE.out
    obtain ⟨ao1, cap1, rfl, -⟩ := own_form hown
    have HO2 := Lib.hid (show w2.ownsRow (w.heap.size + 3) 38 3 (.slice ao1 l.length cap1) l.length (flatR fP l) by
      have : (((w.alloc (.cells #[.slice none 0 0] 22)).alloc (.cells #[.int .i64 0] 24)).alloc (.cells #[.string s, .int .i64 0] 78)).heap.size = w.heap.size + 3 := by simp
      rw [this] at hown
      exact hown)
    have HB2 := Lib.hid (below_grown HB.out hg2 (by omega))
    have HD2 := Lib.hid hd2
    have HE2 := Lib.hid he2
    have cd2 := block_cell hd2 0
    have fd2 := block_free hd2 0
    simp at cd2
    clear hg2 hd2 he2 hown
    go_upto_region 4 with (fail)
    generalize hw3 : World.setCell _ _ _ = w3
    have hd3 : w3.heap[w.heap.size]? = some (.cells #[.slice ao1 l.length cap1] 22 (0, 0)) := by
      rw [← hw3]
      exact block_setCell HD2.out 0 _
    have he3 : w3.heap[w.heap.size + 1]? = some (.cells #[.int .i64 0] 24 (0, 0)) := by
      rw [← hw3]
      exact block_setCell_other HE2.out (p := ⟨w.heap.size, 0, none⟩) (by show w.heap.size ≠ w.heap.size + 1; omega) _
    have HB3 := Lib.hid (show Below w.heap.size w w3 by
      rw [← hw3]
      exact HB2.out.setCell (p := ⟨w.heap.size, 0, none⟩) (Nat.le_refl _) _)
    have HO3 := Lib.hid (show w3.ownsRow (w.heap.size + 3) 38 3 (.slice ao1 l.length cap1) l.length (flatR fP l) by
      rw [← hw3]
      exact ownsRow_setCell_below HO2.out (by show w.heap.size < w.heap.size + 3; omega) _)
    obtain ⟨ao9, cap9, e9, hR3, -, -⟩ := IsR.owned (f := fP) (s := 3) fP_len (l := l) (n := l.length) rfl HO3.out
    injection e9 with e91 e92 e93
    subst e91 e93
    have HC := Lib.hid (check_any ao1 l.length cap1 l w3 hR3 (by have := HLE.out; omega))
    have HD3 := Lib.hid hd3
    have HE3 := Lib.hid he3
    clear hw3 cd2 fd2 hR3
    have c3 := block_cell hd3 0
    simp at c3
    clear hd3 he3
    go_wp2_with fail
    refine (HC.out).mono ?_; rintro e w4 ⟨rfl, hb4⟩
    have hd4 := block_below hb4 HD3.out (block_lt HD3.out)
    have he4 := block_below hb4 HE3.out (block_lt HE3.out)
    have HO4 := Lib.hid (own_below HO3.out hb4)
    have HB4 := Lib.hid (below_two HB3.out hb4)
    have HD4 := Lib.hid hd4
    have HE4 := Lib.hid he4
    have c4 := block_cell hd4 0
    have f4 := block_free hd4 0
    have c5 := block_cell he4 0
    have f5 := block_free he4 0
    simp at c4 c5
    clear hb4 hd4 he4 HC
    by_cases hc : checkP l = 0
    · have HPR := Lib.hid (show parseR s = (l, 0) by unfold parseR; rw [HPL.out]; exact if_pos hc)
      rw [hc]
      clear hc
      go_wp2_with fail
      refine leaves_cons (f := 51) (args := #[.pointer (some ⟨w.heap.size, 0, none⟩), .pointer (some ⟨w.heap.size + 1, 0, none⟩)]) (by simp) (by simp [go_sem]) ?_
      refine (catch_idle _ _ _).mono ?_
      rintro e u' w'' ⟨rfl, rfl, rfl⟩
      have hd5 := block_setCell_other (block_setCell HD4.out 0 (.slice ao1 l.length cap1)) (p := ⟨w.heap.size + 1, 0, none⟩) (by show w.heap.size + 1 ≠ w.heap.size; omega) (.int .i64 0)
      have he5 := block_setCell (block_setCell_other HE4.out (p := ⟨w.heap.size, 0, none⟩) (by show w.heap.size ≠ w.heap.size + 1; omega) (.slice ao1 l.length cap1)) 0 (.int .i64 0)
      have c6 := block_cell hd5 0
      have c7 := block_cell he5 0
      simp at c6 c7
      have HRW := Lib.hid (show Rowed w (parseR s).1 (parseR s).2 (.returned (.tuple #[(.slice ao1 l.length cap1), .int .i64 0])) ((w4.setCell ⟨w.heap.size, 0, none⟩ (.slice ao1 l.length cap1)).setCell ⟨w.heap.size + 1, 0, none⟩ (.int .i64 0)) from by
        rw [HPR.out]
        exact ⟨(.slice ao1 l.length cap1), rfl, own_mono (ownsRow_setCell_below (ownsRow_setCell_below HO4.out (by show w.heap.size < w.heap.size + 3; omega) _) (by show w.heap.size + 1 < w.heap.size + 3; omega) _) (by omega), (HB4.out.setCell (p := ⟨w.heap.size, 0, none⟩) (Nat.le_refl _) _).setCell (p := ⟨w.heap.size + 1, 0, none⟩) (by show w.heap.size ≤ w.heap.size + 1; omega) _⟩)
      simp [Leaves, settle, results, Tryd.results29, go_sem, c6, c7]
      exact HRW.out
    · have HPR := Lib.hid (show parseR s = ([], checkP l) by unfold parseR; rw [HPL.out]; exact if_neg hc)
      have hc2 : (checkP l == 0) = false := by rw [beq_eq_false_iff_ne]; exact hc
      clear hc
      go_wp2_with fail
      refine leaves_cons (f := 51) (args := #[.pointer (some ⟨w.heap.size, 0, none⟩), .pointer (some ⟨w.heap.size + 1, 0, none⟩)]) (by simp) (by simp [go_sem]) ?_
      refine (catch_idle _ _ _).mono ?_
      rintro e u' w'' ⟨rfl, rfl, rfl⟩
      have hd5 := block_setCell_other (block_setCell HD4.out 0 (.slice none 0 0)) (p := ⟨w.heap.size + 1, 0, none⟩) (by show w.heap.size + 1 ≠ w.heap.size; omega) (.int .i64 (checkP l))
      have he5 := block_setCell (block_setCell_other HE4.out (p := ⟨w.heap.size, 0, none⟩) (by show w.heap.size ≠ w.heap.size + 1; omega) (.slice none 0 0)) 0 (.int .i64 (checkP l))
      have c6 := block_cell hd5 0
      have c7 := block_cell he5 0
      simp at c6 c7
      have HRW := Lib.hid (show Rowed w (parseR s).1 (parseR s).2 (.returned (.tuple #[(.slice none 0 0), .int .i64 (checkP l)])) ((w4.setCell ⟨w.heap.size, 0, none⟩ (.slice none 0 0)).setCell ⟨w.heap.size + 1, 0, none⟩ (.int .i64 (checkP l))) from by
        rw [HPR.out]
        exact ⟨(.slice none 0 0), rfl, own_nil _ _, (HB4.out.setCell (p := ⟨w.heap.size, 0, none⟩) (Nat.le_refl _) _).setCell (p := ⟨w.heap.size + 1, 0, none⟩) (by show w.heap.size ≤ w.heap.size + 1; omega) _⟩)
      simp [Leaves, settle, results, Tryd.results29, go_sem, c6, c7]
      exact HRW.out
end Go.Proofs.YtkocknhpnmkicaaDoor
