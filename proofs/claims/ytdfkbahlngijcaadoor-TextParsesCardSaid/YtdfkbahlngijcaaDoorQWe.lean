/- Text: text.numbers: its walk; the state of the reader. (printed by slim.py.) -/
import Derived.Test.YtdfkbahlngijcaaDoorQWd
import Derived.Test.YtdfkbahlngijcaaDoorQKb
namespace Go.Proofs.YtdfkbahlngijcaaDoor
open Go.RowKit
set_option linter.unusedVariables false

theorem infoInt : (Tryd.prog.info? 3).map (fun i => (i.zero, i.size, i.bytes)) = some (some (.int .i64 0), 1, 8) := by kernel_rfl
theorem flatI_app (a b : List Int) : flatR fI (a ++ b) = flatR fI a ++ flatR fI b := by simp [flatR]
theorem flatI_one (x : Int) : flatR fI [x] = [.int .i64 x] := by simp [flatR, fI]
def NumsPost (B : Nat) (ws : List (List UInt8)) (e : Ending) (w' : World) : Prop :=
  match numsW ws with
  | some l => ∃ v, e = .returned (.tuple #[v, .bool true]) ∧ w'.ownsRow B 3 1 v l.length (flatR fI l)
  | none => e = .returned (.tuple #[.slice none 0 0, .bool false])
theorem numsPost_some {B : Nat} {ws : List (List UInt8)} {l : List Int} {v : Value} {w' : World} (h : numsW ws = some l) (ho : w'.ownsRow B 3 1 v l.length (flatR fI l)) : NumsPost B ws (.returned (.tuple #[v, .bool true])) w' := by
  unfold NumsPost
  rw [h]
  exact ⟨v, rfl, ho⟩
theorem numsPost_none {B : Nat} {ws : List (List UInt8)} {w' : World} (h : numsW ws = none) : NumsPost B ws (.returned (.tuple #[.slice none 0 0, .bool false])) w' := by
  unfold NumsPost
  rw [h]
set_option maxRecDepth 100000 in
set_option maxHeartbeats 8000000 in
theorem numbers_any (ws : List (List UInt8)) (b o n c : Nat) (w : World) (hcells : ∀ j (h : j < ws.length), w.cell? ⟨b, o + j, none⟩ = some (.string ⟨(ws[j]).toArray⟩)) (hb : b < w.heap.size) (hn : ws.length = n) (hN : n ≤ 1000000) (hw : ∀ x ∈ ws, x.length ≤ 1000000) :
    Calls Tryd.prog 80 #[.slice (some ⟨b, o, none⟩) n c] w fun e w' => NumsPost w.heap.size ws e w' ∧ Below w.heap.size w w' := by
  obtain ⟨i0, hi0, hz0, hz1, hz2⟩ := info_parts infoInt
  have HC := Lib.hid hcells
  have HW := Lib.hid hw
  have HN := Lib.hid hn
  have HO0 := Lib.hid (show w.ownsRow w.heap.size 3 1 (.slice none 0 0) 0 (flatR fI []) from ⟨rfl, .inl ⟨rfl, rfl⟩⟩)
  clear hcells hw hn
  go_enter Tryd.func80, Tryd.ntmps80
  go_wp2_with fail
  go_loopw [4, 11] (fun s4 s11 wr => ∃ (j : Nat) (l : List Int), j ≤ n ∧ s11 = .int .i64 j ∧ numsW (ws.take j) = some l ∧ wr.ownsRow w.heap.size 3 1 s4 l.length (flatR fI l) ∧ Below w.heap.size w wr) (fun _ s11 _ => n - (intOf s11).toNat)
  case atStart => exact ⟨0, [], Nat.zero_le _, rfl, rfl, HO0.out, Below.refl _ _⟩
  case round =>
    obtain ⟨j, l, hj, rfl, hl, hown, hbr⟩ := hrel
    have HL := Lib.hid hl
    have HLL := Lib.hid (show l.length = j by rw [numsW_len hl, List.length_take, HN.out]; omega)
    have HOWN := Lib.hid hown
    have HBR := Lib.hid hbr
    have hlo := hbr.size
    clear hl hown HO0
    by_cases hlt : j < n
    · have hlt1 : (j : Int) < (n : Int) := by omega
      have hj0 : (0 : Int) ≤ (j : Int) := by omega
      have HJL := Lib.hid (show j < ws.length by rw [HN.out]; exact hlt)
      have c0 : wr.cell? ⟨b, o + j, none⟩ = some (.string ⟨(ws[j]'HJL.out).toArray⟩) := (hbr.cell (p := ⟨b, o + j, none⟩) hb).trans (HC.out j HJL.out)
      have HWL := Lib.hid (HW.out _ (List.getElem_mem HJL.out))
      have HT := Lib.hid (numsW_take HJL.out HL.out)
      have HS := Lib.hid (numsW_stop HJL.out HL.out)
      obtain ⟨wd, hwd⟩ : ∃ wd, wd = ws[j]'HJL.out := ⟨_, rfl⟩
      rw [← hwd] at c0
      have HT := Lib.hid (show numsW (ws.take (j + 1)) = match numW wd with | some n => some (l ++ [(n : Int)]) | none => none by rw [hwd]; exact HT.out)
      have HS := Lib.hid (show numW wd = none → numsW ws = none from fun h => HS.out (by rw [← hwd]; exact h))
      have HND := Lib.hid (number_any ⟨wd.toArray⟩ wr (by have := HWL.out; rw [← hwd] at this; show wd.toArray.size ≤ _; rw [List.size_toArray]; omega))
      rw [show (⟨wd.toArray⟩ : ByteArray).data.toList = wd from List.toList_toArray ..] at HND
      obtain ⟨ao8, cap8, rfl, -⟩ := own_form HOWN.out
      clear hwd hbr HWL
      rcases hnw : numW wd with _ | m
      · as_aux_lemma =>
          rw [numR_none hnw] at HND
          have HX := Lib.hid (HS.out hnw)
          clear hnw
          go_wp2_with fail
          refine (HND.out).mono ?_; rintro e1 w1 ⟨rfl, rfl⟩
          go_wp2_with fail
          go_ret2
          exact ⟨numsPost_none HX.out, HBR.out⟩
      · as_aux_lemma =>
          rw [numR_some hnw] at HND
          have HX := Lib.hid (show numsW (ws.take (j + 1)) = some (l ++ [(m : Int)]) by rw [HT.out, hnw])
          have hlb : l.length ≤ 1000000 := by rw [HLL.out]; omega
          clear hnw
          go_wp2_with fail
          refine (HND.out).mono ?_; rintro e1 w1 ⟨rfl, rfl⟩
          go_wp2_with (at_builtin; refine wpList_append_lies _ rfl _ _ 40 rfl w.heap.size 3 i0 _ 1 8 Tryd.underlying40 hi0 hz0 hz1 hz2 rfl (by decide) _ l.length _ rfl (HOWN.out.alloc _) ⟨wr.heap.size, 0, none⟩ 1 1 [.int .i64 m] rfl rfl (World.news_of_block (cs := #[_]) (t := 3) (fr := (0, 0)) (heap_alloc_new wr _)) (by simp [Value.oneCell']) (by omega) (by unfold maxLen; omega) (by omega) (by simp; omega) (wr.heap.size + 1) (by simp) ?c1)
          case c1 =>
            intro gg cap w5 hown5 hgrow5 hat5 hlt5
            have HO5 := Lib.hid (show w5.ownsRow w.heap.size 3 1 (.slice (some ⟨gg, 0, none⟩) (l.length + 1) cap) (l ++ [(m : Int)]).length (flatR fI (l ++ [(m : Int)])) by
              rw [flatI_app, flatI_one, List.length_append]; exact hown5)
            have HB5 := Lib.hid (show Below w.heap.size w w5 from (HBR.out.alloc (by omega) _).grown hgrow5 (by simp; omega) fun q hq => (own_typ1 HOWN.out hq).1)
            clear hown5 hgrow5 hat5 hlt5 HND
            go_wp2_with fail
            go_roundw
            case rel => exact ⟨j + 1, l ++ [(m : Int)], by omega, by go_num, HX.out, HO5.out, HB5.out⟩
            case measure => (simp [intOf] <;> omega)
    · as_aux_lemma =>
        obtain rfl : j = n := by omega
        have hlt1 : ¬ ((j : Int) < (j : Int)) := by omega
        have HX := Lib.hid (show numsW ws = some l by have := HL.out; rw [List.take_of_length_le (by rw [HN.out]; omega)] at this; exact this)
        clear hlt hbr
        go_wp2_with fail
        go_ret2
        exact ⟨numsPost_some HX.out HOWN.out, HBR.out⟩
end Go.Proofs.YtdfkbahlngijcaaDoor

