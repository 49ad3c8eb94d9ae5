/- Deltas: reading: the reader's pieces. -/
import Derived.Test.YtkocknhpnmkicaaDoorDs
namespace Go.Proofs.YtkocknhpnmkicaaDoor
open Go.RowKit
set_option linter.unusedVariables false

theorem takeWhile_drop {α : Type} (p : α → Bool) (l : List α) : l.takeWhile p ++ l.drop (l.takeWhile p).length = l := by
  induction l with
  | nil => rfl
  | cons x l ih =>
    by_cases hp : p x = true
    · simp [hp, ih]
    · simp [hp]
theorem word_no32 (s : ByteArray) (a : Nat) : ∀ c ∈ wordAt s a, c ≠ 32 := by
  intro c hc
  unfold wordAt at hc
  generalize s.data.toList.drop a = l at hc
  induction l with
  | nil => simp at hc
  | cons x l ih =>
    by_cases hp : x = 32
    · simp [hp] at hc
    · simp [hp] at hc
      rcases hc with rfl | hc
      · exact hp
      · exact ih (by simpa using hc)
theorem split_last (s : ByteArray) {a : Nat} (ha : a + (wordAt s a).length = s.size) : splitW (s.data.toList.drop a) = [wordAt s a] := by
  have e : s.data.toList.length = s.size := Array.length_toList ..
  have h := takeWhile_drop (fun c => decide (c ≠ 32)) (s.data.toList.drop a)
  have h2 : (s.data.toList.drop a).drop (wordAt s a).length = [] := List.drop_eq_nil_of_le (by rw [List.length_drop, e]; omega)
  have h3 : s.data.toList.drop a = wordAt s a := by
    conv => lhs; rw [← h]
    show wordAt s a ++ (s.data.toList.drop a).drop (wordAt s a).length = _
    rw [h2, List.append_nil]
  rw [h3]
  exact split_word _ (word_no32 s a)
theorem split_next (s : ByteArray) {a : Nat} (ha : a + (wordAt s a).length < s.size) : splitW (s.data.toList.drop a) = wordAt s a :: splitW (s.data.toList.drop (a + (wordAt s a).length + 1)) := by
  have e : s.data.toList.length = s.size := Array.length_toList ..
  have h := takeWhile_drop (fun c => decide (c ≠ 32)) (s.data.toList.drop a)
  have h2 : (s.data.toList.drop a).drop (wordAt s a).length = 32 :: s.data.toList.drop (a + (wordAt s a).length + 1) := by
    rw [List.drop_drop, List.drop_eq_getElem_cons (by omega)]
    congr 1
    rw [Array.getElem_toList]
    exact word_end s (by omega) ha
  have h3 : s.data.toList.drop a = wordAt s a ++ 32 :: s.data.toList.drop (a + (wordAt s a).length + 1) := by
    conv => lhs; rw [← h]
    show wordAt s a ++ (s.data.toList.drop a).drop (wordAt s a).length = _
    rw [h2]
  rw [h3]
  exact split_app _ _ (word_no32 s a)
theorem allP_cons (w : List UInt8) (ws : List (List UInt8)) : allP (w :: ws) = match oneP w, allP ws with
    | some p, some l => some (p :: l)
    | _, _ => none := rfl
def PiecesPost (br : Nat) (s : ByteArray) (w : World) (e : Ending) (w' : World) : Prop :=
  match parseL s.data.toList with
  | some l => ∃ v, e = .returned v ∧ w'.ownsRow w.heap.size 38 3 v l.length (flatR fP l) ∧ w.grownBy w' (some br)
  | none => Failed br w e w'
theorem own_reader {w w' : World} {B br n k : Nat} {s : ByteArray} {a : Nat} {v : Value} {xs : List Value} {t : TypeId} (h : w.ownsRow B t k v n xs) (ht : t ≠ 78) (hr : RS br s a w) (hg : w.grownBy w' (some br)) : w'.ownsRow B t k v n xs := by
  refine h.kept hg ?_
  rcases hv : v.ownBlock with _ | q
  · exact .inl rfl
  · refine .inr fun e => ?_
    obtain ⟨-, c1, h1⟩ := own_typS h hv
    injection e with e
    subst e
    exact absurd rfl (cells_ty h1 hr ht)
theorem rs_grown {w w' : World} {B br n k : Nat} {s : ByteArray} {a : Nat} {v : Value} {xs : List Value} {t : TypeId} {o : Obj} (h : w.ownsRow B t k v n xs) (ht : t ≠ 78) (hr : RS br s a w) (hg : (w.alloc o).grownBy w' v.ownBlock) : RS br s a w' := rs_append h ht hr hg

theorem readPiece_some {br : Nat} {s : ByteArray} {a : Nat} {p : Pc} {w : World} (h : RS br s a w) (ha : a ≤ s.size) (hs : s.size ≤ 1000000000) (hn : oneP (wordAt s a) = some p) :
    Calls Tryd.prog 60 #[.pointer (some ⟨br, 0, none⟩)] w (Got br s (a + (wordAt s a).length) (.agg #[.int .u8 p.k, .int .i64 p.n, .string p.t]) w) := by
  refine (readPiece_any br s a w h ha hs).mono fun e w' h => ?_
  unfold PiecePost at h
  rw [hn] at h
  exact h
theorem readPiece_none {br : Nat} {s : ByteArray} {a : Nat} {w : World} (h : RS br s a w) (ha : a ≤ s.size) (hs : s.size ≤ 1000000000) (hn : oneP (wordAt s a) = none) :
    Calls Tryd.prog 60 #[.pointer (some ⟨br, 0, none⟩)] w (Failed br w) := by
  refine (readPiece_any br s a w h ha hs).mono fun e w' h => ?_
  unfold PiecePost at h
  rw [hn] at h
  exact h

set_option maxRecDepth 100000 in
set_option maxHeartbeats 8000000 in
theorem pieces_any (br : Nat) (s : ByteArray) (w : World) (h : RS br s 0 w) (hs : s.size ≤ 1000000000) :
    Calls Tryd.prog 52 #[.pointer (some ⟨br, 0, none⟩)] w (PiecesPost br s w) := by
  obtain ⟨i0, hi0, hz0, hz1, hz2⟩ := info_parts infoPc
  have hk : w.heap[br]? = some (.cells #[.string s, .int .i64 (0 : Nat)] 78 (0, 0)) := h
  have HR0 := Lib.hid h
  by_cases hs0 : s.size = 0
  · have HP := Lib.hid (show PiecesPost br s w (.returned (.slice none 0 0)) w by
      unfold PiecesPost
      have e : s.data.toList = [] := List.eq_nil_of_length_eq_zero (by rw [show s.data.toList.length = s.size from Array.length_toList ..]; exact hs0)
      rw [e]
      exact ⟨_, rfl, own_nil _ _, grown_refl _ _⟩)
    have hl : ¬ ((0 : Int) < (s.size : Int)) := by omega
    (have q0 := block_cell hk 0; have q1 := block_cell hk 1; have f0 := block_free hk 0; have f1 := block_free hk 1; have hz := block_lt hk; simp at q0 q1)
    clear hk h hs0
    go_enter Tryd.func52, Tryd.ntmps52
    go_wp2_with fail
    go_loopw [3] (fun vd wr => vd = .slice none 0 0 ∧ w = wr) (fun _ _ => 0)
    case atStart => exact ⟨rfl, rfl⟩
    case round =>
      obtain ⟨rfl, rfl⟩ := hrel
      go_wp2_with fail
      go_ret
      exact HP.out
  · have hl : (0 : Int) < (s.size : Int) := by omega
    clear hk h
    go_enter Tryd.func52, Tryd.ntmps52
    go_wp2_with fail
    go_loopw [3] (fun vd wr => ∃ (a : Nat) (ps : List Pc), a ≤ s.size ∧ ps.length ≤ a ∧ RS br s a wr ∧ wr.ownsRow w.heap.size 38 3 vd ps.length (flatR fP ps) ∧ allP (splitW s.data.toList) = (allP (splitW (s.data.toList.drop a))).map (ps ++ ·) ∧ w.grownBy wr (some br)) (fun _ wr => s.size - atOf br wr)
    case atStart => exact ⟨0, [], Nat.zero_le _, Nat.zero_le _, HR0.out, own_nil _ _, by simp, grown_refl _ _⟩
    case round =>
      obtain ⟨a, ps, ha, hpl, hr, hown, hall, hg⟩ := hrel
      obtain ⟨ao1, cap1, rfl, hsome1⟩ := own_form hown
      have hkr : wr.heap[br]? = some (.cells #[.string s, .int .i64 a] 78 (0, 0)) := hr
      have HR := Lib.hid hr
      have HOW := Lib.hid hown
      have HALL := Lib.hid hall
      have HG := Lib.hid hg
      have HM := Lib.hid (atOf_eq hr)
      have HPL := Lib.hid (show parseL s.data.toList = allP (splitW s.data.toList) from if_neg (fun e => hs0 (by
        rw [← show s.data.toList.length = s.size from Array.length_toList .., e]; rfl)))
      have hsz := hg.size
      clear hr hown hall hg hsome1
      (have q0 := block_cell hkr 0; have q1 := block_cell hkr 1; have f0 := block_free hkr 0; have f1 := block_free hkr 1; have hz := block_lt hkr; simp at q0 q1)
      clear hkr
      rcases hone : oneP (wordAt s a) with _ | p
      · have HNO := Lib.hid (show parseL s.data.toList = none by
          rw [HPL.out, HALL.out]
          by_cases h1 : a + (wordAt s a).length = s.size
          · rw [split_last s h1, allP_cons, hone]; rfl
          · rw [split_next s (by have := word_le s ha; omega), allP_cons, hone]; rfl)
        have HPC := Lib.hid (readPiece_none HR.out ha hs hone)
        clear hone
        go_wp2_with fail
        refine (HPC.out).mono ?_; rintro e w3 ⟨rfl, hg3⟩
        have HG3 := Lib.hid (grown_trans HG.out hg3)
        clear hg3
        go_wp2_with fail
        refine ⟨rfl, ?_⟩
        unfold PiecesPost
        rw [HNO.out]
        exact ⟨rfl, HG3.out⟩
      · have HPC := Lib.hid (readPiece_some HR.out ha hs hone)
        have HONE := Lib.hid hone
        clear hone
        go_wp2_with fail
        refine (HPC.out).mono ?_; rintro e w3 ⟨rfl, hr3, hg3⟩
        have HR3 := Lib.hid hr3
        have HG3 := Lib.hid (grown_trans HG.out hg3)
        have HO3 := Lib.hid (own_reader HOW.out (by decide) HR.out hg3)
        have hsz3 := (grown_trans HG.out hg3).size
        have hle := word_le s ha
        clear hr3 hg3 HPC q0 q1 f0 f1 hz
        go_wp2_with (at_builtin; refine wpList_append_lies _ rfl _ _ 22 rfl w.heap.size 38 i0 _ 3 32 Tryd.underlying22 hi0 hz0 hz1 hz2 rfl (by decide) _ ps.length _ rfl (HO3.out.alloc _) ⟨w3.heap.size, 0, none⟩ 1 1 [.int .u8 p.k, .int .i64 p.n, .string p.t] rfl rfl (World.news_of_block (cs := #[_, _, _]) (t := 38) (fr := (0, 0)) (heap_alloc_new w3 _)) (by simp [Value.oneCell']) (by omega) (by unfold maxLen; omega) (by omega) (by simp; omega) (w3.heap.size + 1) (by simp) ?c1)
        case c1 =>
          intro gg cap w4 hown4 hgrow4 hat4 hlt4
          have HO4 := Lib.hid (show w4.ownsRow w.heap.size 38 3 (.slice (some ⟨gg, 0, none⟩) (ps.length + 1) cap) (ps ++ [p]).length (flatR fP (ps ++ [p])) by
            rw [flatR_app, flatR_one, List.length_append]
            exact hown4)
          have hr4 := rs_append HO3.out (by decide) HR3.out hgrow4
          have HR4 := Lib.hid hr4
          have HG4 := Lib.hid (grown_append HG3.out hgrow4 fun q hq => (own_typS HO3.out hq).1)
          have hk4 : w4.heap[br]? = some (.cells #[.string s, .int .i64 ((a + (wordAt s a).length : Nat) : Int)] 78 (0, 0)) := hr4
          obtain ⟨b, hb⟩ : ∃ b, b = a + (wordAt s a).length := ⟨_, rfl⟩
          rw [← hb] at hk4 hle
          have HBE := Lib.hid hb
          have HR4' := Lib.hid (show RS br s b w4 by rw [hb]; exact HR4.out)
          clear hown4 hgrow4 hat4 hlt4 hr4
          (have q0 := block_cell hk4 0; have q1 := block_cell hk4 1; have f0 := block_free hk4 0; have f1 := block_free hk4 1; have hz := block_lt hk4; simp at q0 q1)
          clear hk4
          by_cases hend : b = s.size
          · have HYE := Lib.hid (show parseL s.data.toList = some (ps ++ [p]) by
              rw [HPL.out, HALL.out, split_last s (by omega), allP_cons, HONE.out]
              rfl)
            have hbe : ((b : Int) == (s.size : Int)) = true := by rw [beq_iff_eq]; omega
            clear hend hb
            go_wp2_with fail
            go_quiet (fail)
            go_wp2_with fail
            go_ret
            show PiecesPost br s w _ _
            unfold PiecesPost
            rw [HYE.out]
            exact ⟨_, rfl, HO4.out, grown_trans HG4.out (grown_drewN _ _ _)⟩
          · have hlt : b < s.size := by omega
            have hb32 : s[b] = 32 := by
              have := word_end s ha (by omega)
              subst hb
              exact this
            have HNXT := Lib.hid (show allP (splitW s.data.toList) = (allP (splitW (s.data.toList.drop (b + 1)))).map ((ps ++ [p]) ++ ·) by
              rw [HALL.out, split_next s (by omega), ← hb, allP_cons, HONE.out]
              rcases allP (splitW (s.data.toList.drop (b + 1))) with _ | l
              · rfl
              · show some (ps ++ (p :: l)) = some (ps ++ [p] ++ l)
                rw [List.append_assoc]
                rfl)
            have hbe : ((b : Int) == (s.size : Int)) = false := by rw [beq_eq_false_iff_ne]; omega
            have hbv : s[b].toNat = 32 := by rw [hb32]; rfl
            have HNX := Lib.hid (fun u (h : RS br s b u) => next_ok br s b u h hlt hs)
            rw [hbv] at HNX
            clear hend hb hb32 hbv
            go_wp2_with fail
            go_quiet (fail)
            generalize hw5 : World.drewN _ _ = w5
            have HR5 := Lib.hid (show RS br s b w5 by rw [← hw5]; exact HR4'.out)
            have HG5 := Lib.hid (show w.grownBy w5 (some br) by rw [← hw5]; exact grown_trans HG4.out (grown_drewN _ _ _))
            have HO5 := Lib.hid (show w5.ownsRow w.heap.size 38 3 (.slice (some ⟨gg, 0, none⟩) (ps.length + 1) cap) (ps ++ [p]).length (flatR fP (ps ++ [p])) by rw [← hw5]; exact HO4.out)
            clear hw5 q0 q1 f0 f1 hz
            go_wp2_with fail
            refine (HNX.out _ HR5.out).mono ?_; rintro e w6 ⟨rfl, hr6, hg6⟩
            have HR6 := Lib.hid hr6
            have HG6 := Lib.hid (grown_trans HG5.out hg6)
            have HO6 := Lib.hid (own_reader HO5.out (by decide) HR5.out hg6)
            have HM6 := Lib.hid (atOf_eq hr6)
            clear hr6 hg6
            go_wp2_with fail
            go_roundw
            case rel => exact ⟨b + 1, ps ++ [p], by omega, by simp; have := HBE.out; omega, HR6.out, HO6.out, HNXT.out, HG6.out⟩
            case measure =>
              have h1 := HM.out
              have h2 := HM6.out
              have h3 := HBE.out
              omega
end Go.Proofs.YtkocknhpnmkicaaDoor
