/- Deltas: reading: the reader's bytes. -/
import Derived.Test.YtkocknhpnmkicaaDoorDq
namespace Go.Proofs.YtkocknhpnmkicaaDoor
open Go.RowKit
set_option linter.unusedVariables false

theorem or16 : ∀ x : Nat, x < 16 → ∀ y : Nat, y < 16 → bits BinOp.or IntKind.u8 (16 * (x : Int)) (y : Int) = ((16 * x + y : Nat) : Int) := by decide +kernel
def hexF (wd : List UInt8) : Option (List UInt8) := if wd = [] then none else hexP wd
def BytesPost (br : Nat) (s : ByteArray) (a : Nat) (w : World) (e : Ending) (w' : World) : Prop :=
  match hexF (wordAt s a) with
  | some t => Got br s (a + (wordAt s a).length) (.string ⟨t.toArray⟩) w e w'
  | none => Failed br w e w'
theorem BytesPost.bad {br : Nat} {s : ByteArray} {a : Nat} {w : World} {e : Ending} {w' : World} (h : hexF (wordAt s a) = none) (k : Failed br w e w') : BytesPost br s a w e w' := by
  unfold BytesPost
  rw [h]
  exact k
theorem BytesPost.good {br : Nat} {s : ByteArray} {a : Nat} {t : List UInt8} {w : World} {e : Ending} {w' : World} (h : hexF (wordAt s a) = some t) (k : Got br s (a + (wordAt s a).length) (.string ⟨t.toArray⟩) w e w') : BytesPost br s a w e w' := by
  unfold BytesPost
  rw [h]
  exact k
theorem ownU_reader {w w' : World} {B br n : Nat} {s : ByteArray} {a : Nat} {v : Value} {xs : List Value} (h : w.ownsRow B 5 1 v n xs) (hr : RS br s a w) (hg : w.grownBy w' (some br)) : w'.ownsRow B 5 1 v n xs := by
  refine h.kept hg ?_
  rcases hv : v.ownBlock with _ | q
  · exact .inl rfl
  · refine .inr fun e => ?_
    obtain ⟨-, c1, h1⟩ := own_typS h hv
    injection e with e
    subst e
    exact absurd rfl (cells_ty h1 hr (by decide))
theorem rs_append {w w' : World} {B br n : Nat} {s : ByteArray} {a : Nat} {t : TypeId} {k : Nat} {v : Value} {xs : List Value} {o : Obj} (h : w.ownsRow B t k v n xs) (ht : t ≠ 78) (hr : RS br s a w) (hg : (w.alloc o).grownBy w' v.ownBlock) : RS br s a w' := by
  unfold RS at *
  rw [hg.block br (block_lt (block_alloc hr o)) (fun e => by
    obtain ⟨-, c1, h1⟩ := own_typS h e.symm
    exact absurd rfl (cells_ty h1 hr ht))]
  exact block_alloc hr o
/-- blocks that are there before the call: all but the reader's stay -/
theorem grown_append {w w1 w2 : World} {br : Nat} {v : Value} {o : Obj} (h : w.grownBy w1 (some br)) (hg : (w1.alloc o).grownBy w2 v.ownBlock) (hv : ∀ q, v.ownBlock = some q → w.heap.size ≤ q) : w.grownBy w2 (some br) :=
  ⟨hg.os.trans h.os, hg.tape.trans h.tape, hg.output.trans h.output, by have := hg.size; have := h.size; simp at *; omega, fun k hk hr => by
    have h1 := h.block k hk hr
    have hlt : k < w1.heap.size := Nat.lt_of_lt_of_le hk h.size
    rw [hg.block k (by simp; omega) (fun e => by have := hv k e.symm; omega)]
    rw [Below.heap_alloc w1 o k hlt]
    exact h1⟩
theorem hex_two {wd : List UInt8} {t : List UInt8} {j : Nat} (hj : j + 1 < wd.length) {x y : Nat} (hx : halfP wd[j] = some x) (hy : halfP wd[j + 1] = some y) (h : hexP wd = (hexP (wd.drop j)).map (t ++ ·)) :
    hexP wd = (hexP (wd.drop (j + 2))).map ((t ++ [UInt8.ofNat (16 * x + y)]) ++ ·) := by
  have hd : wd.drop j = wd[j] :: wd[j + 1] :: wd.drop (j + 2) := by
    rw [List.drop_eq_getElem_cons (by omega), List.drop_eq_getElem_cons (by omega)]
  rw [h, hd]
  show Option.map _ (match halfP wd[j], halfP wd[j + 1] with
    | some x, some y => (hexP (wd.drop (j + 2))).map (UInt8.ofNat (16 * x + y) :: ·)
    | _, _ => none) = _
  rw [hx, hy]
  show Option.map _ (Option.map _ _) = _
  rw [Option.map_map]
  congr 1
  funext l
  simp
theorem hex_one {wd : List UInt8} {t : List UInt8} {j : Nat} (hj : j < wd.length) (hx : halfP wd[j] = none) (h : hexP wd = (hexP (wd.drop j)).map (t ++ ·)) : hexP wd = none := by
  rw [h, List.drop_eq_getElem_cons hj]
  rcases wd.drop (j + 1) with _ | ⟨d, l⟩
  · rfl
  · show Option.map _ (match halfP wd[j], halfP d with
      | some x, some y => (hexP l).map (UInt8.ofNat (16 * x + y) :: ·)
      | _, _ => none) = _
    rw [hx]
    rfl
theorem hex_odd {wd : List UInt8} {t : List UInt8} {j : Nat} (hj : j + 1 = wd.length) (h : hexP wd = (hexP (wd.drop j)).map (t ++ ·)) : hexP wd = none := by
  rw [h, List.drop_eq_getElem_cons (by omega), List.drop_eq_nil_of_le (by omega)]
  rfl
theorem hex_half {wd : List UInt8} {t : List UInt8} {j : Nat} (hj : j + 1 < wd.length) (hy : halfP wd[j + 1] = none) (h : hexP wd = (hexP (wd.drop j)).map (t ++ ·)) : hexP wd = none := by
  have hd : wd.drop j = wd[j] :: wd[j + 1] :: wd.drop (j + 2) := by
    rw [List.drop_eq_getElem_cons (by omega), List.drop_eq_getElem_cons (by omega)]
  rw [h, hd]
  show Option.map _ (match halfP wd[j], halfP wd[j + 1] with
    | some x, some y => (hexP (wd.drop (j + 2))).map (UInt8.ofNat (16 * x + y) :: ·)
    | _, _ => none) = _
  rw [hy]
  rcases halfP wd[j] <;> rfl
theorem hexF_none {wd : List UInt8} (h : hexP wd = none) : hexF wd = none := by
  unfold hexF
  by_cases hw : wd = []
  · rw [if_pos hw]
  · rw [if_neg hw]; exact h
/-- where no digit comes: behind the word -/
theorem no_half (s : ByteArray) {a j : Nat} (ha : a ≤ s.size) (hj : j = (wordAt s a).length) : ∀ h : a + j < s.size, halfP s[a + j] = none := by
  intro h
  subst hj
  rw [word_end s ha h]
  rfl

set_option maxRecDepth 100000 in
set_option maxHeartbeats 8000000 in
theorem bytes_any (br : Nat) (s : ByteArray) (a : Nat) (w : World) (h : RS br s a w) (ha : a ≤ s.size) (hs : s.size ≤ 1000000000) :
    Calls Tryd.prog 68 #[.pointer (some ⟨br, 0, none⟩)] w (BytesPost br s a w) := by
  obtain ⟨i0, hi0, hz0, hz1, hz2⟩ := info_parts infoU8
  have HR0 := Lib.hid h
  have hle := word_le s ha
  clear h
  go_enter Tryd.func68, Tryd.ntmps68
  go_wp2_with fail
  go_loopw [3, 4] (fun vb s4 wr => ∃ (t : List UInt8), 2 * t.length ≤ (wordAt s a).length ∧ wr.ownsRow w.heap.size 5 1 vb t.length (Lib.byteCells t) ∧ hexP (wordAt s a) = (hexP ((wordAt s a).drop (2 * t.length))).map (t ++ ·) ∧ RS br s (a + 2 * t.length) wr ∧ w.grownBy wr (some br)) (fun _ _ wr => s.size - atOf br wr)
  case atStart => exact ⟨[], Nat.zero_le _, ⟨rfl, .inl ⟨rfl, rfl⟩⟩, by simp, HR0.out, grown_refl _ _⟩
  case round =>
    obtain ⟨t, ht, hown, hhx, hR, hg⟩ := hrel
    obtain ⟨ao1, cap1, rfl, hconv⟩ := own_conv hown rfl
    obtain ⟨j, hjt⟩ : ∃ j, j = 2 * t.length := ⟨_, rfl⟩
    rw [← hjt] at ht hhx hR
    have HOW := Lib.hid hown
    have HCV := Lib.hid hconv
    have HHX := Lib.hid hhx
    have HR := Lib.hid hR
    have HG := Lib.hid hg
    have HM := Lib.hid (atOf_eq hR)
    have htl : t.length ≤ 1000000000 := by omega
    have hsz := hg.size
    have HJT := Lib.hid hjt
    clear hown hconv hhx hR hg
    by_cases htn : t = []
    · have hl0 : ((t.length : Int) == 0) = true := by rw [htn]; rfl
      have hj00 : j = 0 := by rw [hjt, htn]; rfl
      have HT0 := Lib.hid htn
      have HJ0 := Lib.hid hj00
      clear htn hj00
      by_cases h1 : ∃ (h : j < (wordAt s a).length) (x : Nat), halfP (wordAt s a)[j] = some x
      · obtain ⟨hjl, x, hx⟩ := h1
        obtain ⟨has, hwj, hn32⟩ := word_at s ha hjl
        have hx16 := (half_some _ _ hx).1
        have HX := Lib.hid hx
        have HH1 := Lib.hid (half_ok br s (a + j) x wr HR.out has hs (by rw [← hwj]; exact hx))
        clear hx hwj hn32
        go_wp2_with fail
        refine (HH1.out).mono ?_; rintro e w3 ⟨rfl, hr3, hg3⟩
        have HR3 := Lib.hid (show RS br s (a + (j + 1)) w3 from hr3)
        have HG3 := Lib.hid (grown_trans HG.out hg3)
        have HO3 := Lib.hid (ownU_reader HOW.out HR.out hg3)
        clear hr3 hg3 HH1
        by_cases h2 : ∃ (h : j + 1 < (wordAt s a).length) (y : Nat), halfP (wordAt s a)[j + 1] = some y
        · obtain ⟨hjl2, y, hy⟩ := h2
          obtain ⟨has2, hwj2, hn32⟩ := word_at s ha hjl2
          have hy16 := (half_some _ _ hy).1
          have HH2 := Lib.hid (half_ok br s (a + (j + 1)) y w3 HR3.out has2 hs (by rw [← hwj2]; exact hy))
          have HNX := Lib.hid (hex_two hjl2 HX.out hy HHX.out)
          have hor := or16 x hx16 y hy16
          have hx0 : (0 : Int) ≤ (x : Int) := by omega
          have hx15 : (x : Int) ≤ 15 := by omega
          have hy0 : (0 : Int) ≤ (y : Int) := by omega
          have hy15 : (y : Int) ≤ 15 := by omega
          have hor2 : bits BinOp.or IntKind.u8 ((x : Int) * 16) (y : Int) = ((16 * x + y : Nat) : Int) := by rw [Int.mul_comm]; exact hor
          clear hy hwj2 hn32
          go_wp2_with fail
          refine (HH2.out).mono ?_; rintro e w5 ⟨rfl, hr5, hg5⟩
          have HR5 := Lib.hid (show RS br s (a + (j + 2)) w5 from hr5)
          have HG5 := Lib.hid (grown_trans HG3.out hg5)
          have HO5 := Lib.hid (ownU_reader HO3.out HR3.out hg5)
          have hsz5 := (grown_trans HG3.out hg5).size
          clear hr5 hg5 HH2
          go_wp2_with (at_builtin; refine wpList_append_lies _ rfl _ _ 63 rfl w.heap.size 5 i0 (.int .u8 0) 1 1 Tryd.underlying63 hi0 hz0 hz1 hz2 rfl (by decide) _ t.length _ rfl (HO5.out.alloc _) ⟨w5.heap.size, 0, none⟩ 1 1 [_] rfl rfl (World.news_of_block (cs := #[_]) (t := 5) (fr := (0, 0)) (heap_alloc_new w5 _)) (by simp [Value.oneCell']) (by omega) (by unfold maxLen; omega) (by omega) (by simp; omega) (w5.heap.size + 1) (by simp) ?c1)
          case c1 =>
            intro gg cap w6 hown6 hgrow6 hat6 hlt6
            have hval : ((UInt8.ofNat (16 * x + y)).toNat : Int) = ((16 * x + y : Nat) : Int) := by
              rw [UInt8.toNat_ofNat']
              omega
            have HO6 := Lib.hid (show w6.ownsRow w.heap.size 5 1 (.slice (some ⟨gg, 0, none⟩) (t.length + 1) cap) (t ++ [UInt8.ofNat (16 * x + y)]).length (Lib.byteCells (t ++ [UInt8.ofNat (16 * x + y)])) by
              rw [← byteCells_app, List.length_append]
              show w6.ownsRow w.heap.size 5 1 _ (t.length + 1) (Lib.byteCells t ++ [.int .u8 ((UInt8.ofNat (16 * x + y)).toNat : Int)])
              rw [hval]
              exact hown6)
            have HR6 := Lib.hid (rs_append HO5.out (by decide) HR5.out hgrow6)
            have HG6 := Lib.hid (grown_append HG5.out hgrow6 fun q hq => (own_typ1 HO5.out hq).1)
            have HM6 := Lib.hid (atOf_eq HR6.out)
            clear hown6 hgrow6 hat6 hlt6 hval hor hor2
            go_wp2_with fail
            go_roundw
            case rel => exact ⟨t ++ [UInt8.ofNat (16 * x + y)], by rw [List.length_append]; simp; omega, HO6.out, by rw [List.length_append, show 2 * (t.length + [UInt8.ofNat (16 * x + y)].length) = j + 2 by simp; omega]; exact HNX.out, by rw [List.length_append, show 2 * (t.length + [UInt8.ofNat (16 * x + y)].length) = j + 2 by simp; omega]; exact HR6.out, HG6.out⟩
            case measure =>
              have h1 := HM.out
              have h2 := HM6.out
              omega
        · have HNO := Lib.hid (show hexF (wordAt s a) = none from hexF_none (by
            by_cases h3 : j + 1 < (wordAt s a).length
            · refine hex_half h3 ?_ HHX.out
              rcases hh : halfP (wordAt s a)[j + 1] with _ | y
              · rfl
              · exact absurd ⟨h3, y, hh⟩ h2
            · exact hex_odd (by omega) HHX.out))
          have HH2 := Lib.hid (half_no br s (a + (j + 1)) w3 HR3.out (by omega) hs (fun h => by
            by_cases h3 : j + 1 < (wordAt s a).length
            · obtain ⟨_, hw, _⟩ := word_at s ha h3
              rw [← hw]
              rcases hh : halfP (wordAt s a)[j + 1] with _ | y
              · rfl
              · exact absurd ⟨h3, y, hh⟩ h2
            · exact no_half s ha (by omega) h))
          clear h2
          go_wp2_with fail
          refine (HH2.out).mono ?_; rintro e w5 ⟨rfl, hg5⟩
          have HG5 := Lib.hid (grown_trans HG3.out hg5)
          clear hg5
          go_wp2_with fail
          exact ⟨rfl, BytesPost.bad HNO.out ⟨rfl, HG5.out⟩⟩
      · have HNO := Lib.hid (show hexF (wordAt s a) = none by
          by_cases h3 : j < (wordAt s a).length
          · refine hexF_none (hex_one h3 ?_ HHX.out)
            rcases hh : halfP (wordAt s a)[j] with _ | y
            · rfl
            · exact absurd ⟨h3, y, hh⟩ h1
          · have hw : wordAt s a = [] := List.eq_nil_of_length_eq_zero (by have := HJ0.out; omega)
            rw [hw]; rfl)
        have HH1 := Lib.hid (half_no br s (a + j) wr HR.out (by omega) hs (fun h => by
          by_cases h3 : j < (wordAt s a).length
          · obtain ⟨_, hw, _⟩ := word_at s ha h3
            rw [← hw]
            rcases hh : halfP (wordAt s a)[j] with _ | y
            · rfl
            · exact absurd ⟨h3, y, hh⟩ h1
          · exact no_half s ha (by omega) h))
        clear h1
        go_wp2_with fail
        refine (HH1.out).mono ?_; rintro e w3 ⟨rfl, hg3⟩
        have HG3 := Lib.hid (grown_trans HG.out hg3)
        clear hg3
        go_wp2_with fail
        exact ⟨rfl, BytesPost.bad HNO.out ⟨rfl, HG3.out⟩⟩
    · have htp := List.length_pos_iff.2 htn
      have hl0 : ((t.length : Int) == 0) = false := by rw [beq_eq_false_iff_ne]; omega
      have HMB := Lib.hid (more_any br s (a + j) wr HR.out (by omega))
      have HMW := Lib.hid (more_word s ha ht)
      clear htn
      by_cases hjl : j < (wordAt s a).length
      · rw [HMW.out, decide_eq_true hjl] at HMB
        go_wp2_with fail
        refine (HMB.out).mono ?_; rintro e w2 ⟨rfl, k2, hw2⟩
        have HR2 := Lib.hid (show RS br s (a + j) w2 by rw [hw2]; exact HR.out)
        have HG2 := Lib.hid (show w.grownBy w2 (some br) by rw [hw2]; exact grown_trans HG.out (grown_drewN _ _ _))
        have HO2 := Lib.hid (show w2.ownsRow w.heap.size 5 1 (.slice ao1 t.length cap1) t.length (Lib.byteCells t) by rw [hw2]; exact HOW.out)
        clear hw2
        by_cases h1 : ∃ (h : j < (wordAt s a).length) (x : Nat), halfP (wordAt s a)[j] = some x
        · obtain ⟨hjl, x, hx⟩ := h1
          obtain ⟨has, hwj, hn32⟩ := word_at s ha hjl
          have hx16 := (half_some _ _ hx).1
          have HX := Lib.hid hx
          have HH1 := Lib.hid (half_ok br s (a + j) x w2 HR2.out has hs (by rw [← hwj]; exact hx))
          clear hx hwj hn32
          go_wp2_with fail
          refine (HH1.out).mono ?_; rintro e w3 ⟨rfl, hr3, hg3⟩
          have HR3 := Lib.hid (show RS br s (a + (j + 1)) w3 from hr3)
          have HG3 := Lib.hid (grown_trans HG2.out hg3)
          have HO3 := Lib.hid (ownU_reader HO2.out HR2.out hg3)
          clear hr3 hg3 HH1
          by_cases h2 : ∃ (h : j + 1 < (wordAt s a).length) (y : Nat), halfP (wordAt s a)[j + 1] = some y
          · obtain ⟨hjl2, y, hy⟩ := h2
            obtain ⟨has2, hwj2, hn32⟩ := word_at s ha hjl2
            have hy16 := (half_some _ _ hy).1
            have HH2 := Lib.hid (half_ok br s (a + (j + 1)) y w3 HR3.out has2 hs (by rw [← hwj2]; exact hy))
            have HNX := Lib.hid (hex_two hjl2 HX.out hy HHX.out)
            have hor := or16 x hx16 y hy16
            have hx0 : (0 : Int) ≤ (x : Int) := by omega
            have hx15 : (x : Int) ≤ 15 := by omega
            have hy0 : (0 : Int) ≤ (y : Int) := by omega
            have hy15 : (y : Int) ≤ 15 := by omega
            have hor2 : bits BinOp.or IntKind.u8 ((x : Int) * 16) (y : Int) = ((16 * x + y : Nat) : Int) := by rw [Int.mul_comm]; exact hor
            clear hy hwj2 hn32
            go_wp2_with fail
            refine (HH2.out).mono ?_; rintro e w5 ⟨rfl, hr5, hg5⟩
            have HR5 := Lib.hid (show RS br s (a + (j + 2)) w5 from hr5)
            have HG5 := Lib.hid (grown_trans HG3.out hg5)
            have HO5 := Lib.hid (ownU_reader HO3.out HR3.out hg5)
            have hsz5 := (grown_trans HG3.out hg5).size
            clear hr5 hg5 HH2
            go_wp2_with (at_builtin; refine wpList_append_lies _ rfl _ _ 63 rfl w.heap.size 5 i0 (.int .u8 0) 1 1 Tryd.underlying63 hi0 hz0 hz1 hz2 rfl (by decide) _ t.length _ rfl (HO5.out.alloc _) ⟨w5.heap.size, 0, none⟩ 1 1 [_] rfl rfl (World.news_of_block (cs := #[_]) (t := 5) (fr := (0, 0)) (heap_alloc_new w5 _)) (by simp [Value.oneCell']) (by omega) (by unfold maxLen; omega) (by omega) (by simp; omega) (w5.heap.size + 1) (by simp) ?c1)
            case c1 =>
              intro gg cap w6 hown6 hgrow6 hat6 hlt6
              have hval : ((UInt8.ofNat (16 * x + y)).toNat : Int) = ((16 * x + y : Nat) : Int) := by
                rw [UInt8.toNat_ofNat']
                omega
              have HO6 := Lib.hid (show w6.ownsRow w.heap.size 5 1 (.slice (some ⟨gg, 0, none⟩) (t.length + 1) cap) (t ++ [UInt8.ofNat (16 * x + y)]).length (Lib.byteCells (t ++ [UInt8.ofNat (16 * x + y)])) by
                rw [← byteCells_app, List.length_append]
                show w6.ownsRow w.heap.size 5 1 _ (t.length + 1) (Lib.byteCells t ++ [.int .u8 ((UInt8.ofNat (16 * x + y)).toNat : Int)])
                rw [hval]
                exact hown6)
              have HR6 := Lib.hid (rs_append HO5.out (by decide) HR5.out hgrow6)
              have HG6 := Lib.hid (grown_append HG5.out hgrow6 fun q hq => (own_typ1 HO5.out hq).1)
              have HM6 := Lib.hid (atOf_eq HR6.out)
              clear hown6 hgrow6 hat6 hlt6 hval hor hor2
              go_wp2_with fail
              go_roundw
              case rel => exact ⟨t ++ [UInt8.ofNat (16 * x + y)], by rw [List.length_append]; simp; omega, HO6.out, by rw [List.length_append, show 2 * (t.length + [UInt8.ofNat (16 * x + y)].length) = j + 2 by simp; omega]; exact HNX.out, by rw [List.length_append, show 2 * (t.length + [UInt8.ofNat (16 * x + y)].length) = j + 2 by simp; omega]; exact HR6.out, HG6.out⟩
              case measure =>
                have h1 := HM.out
                have h2 := HM6.out
                omega
          · have HNO := Lib.hid (show hexF (wordAt s a) = none from hexF_none (by
              by_cases h3 : j + 1 < (wordAt s a).length
              · refine hex_half h3 ?_ HHX.out
                rcases hh : halfP (wordAt s a)[j + 1] with _ | y
                · rfl
                · exact absurd ⟨h3, y, hh⟩ h2
              · exact hex_odd (by omega) HHX.out))
            have HH2 := Lib.hid (half_no br s (a + (j + 1)) w3 HR3.out (by omega) hs (fun h => by
              by_cases h3 : j + 1 < (wordAt s a).length
              · obtain ⟨_, hw, _⟩ := word_at s ha h3
                rw [← hw]
                rcases hh : halfP (wordAt s a)[j + 1] with _ | y
                · rfl
                · exact absurd ⟨h3, y, hh⟩ h2
              · exact no_half s ha (by omega) h))
            clear h2
            go_wp2_with fail
            refine (HH2.out).mono ?_; rintro e w5 ⟨rfl, hg5⟩
            have HG5 := Lib.hid (grown_trans HG3.out hg5)
            clear hg5
            go_wp2_with fail
            exact ⟨rfl, BytesPost.bad HNO.out ⟨rfl, HG5.out⟩⟩
        · have HNO := Lib.hid (show hexF (wordAt s a) = none by
            by_cases h3 : j < (wordAt s a).length
            · refine hexF_none (hex_one h3 ?_ HHX.out)
              rcases hh : halfP (wordAt s a)[j] with _ | y
              · rfl
              · exact absurd ⟨h3, y, hh⟩ h1
            · exact absurd hjl h3)
          have HH1 := Lib.hid (half_no br s (a + j) w2 HR2.out (by omega) hs (fun h => by
            by_cases h3 : j < (wordAt s a).length
            · obtain ⟨_, hw, _⟩ := word_at s ha h3
              rw [← hw]
              rcases hh : halfP (wordAt s a)[j] with _ | y
              · rfl
              · exact absurd ⟨h3, y, hh⟩ h1
            · exact no_half s ha (by omega) h))
          clear h1
          go_wp2_with fail
          refine (HH1.out).mono ?_; rintro e w3 ⟨rfl, hg3⟩
          have HG3 := Lib.hid (grown_trans HG2.out hg3)
          clear hg3
          go_wp2_with fail
          exact ⟨rfl, BytesPost.bad HNO.out ⟨rfl, HG3.out⟩⟩
      · rw [HMW.out, decide_eq_false hjl] at HMB
        have HEQ := Lib.hid (show hexF (wordAt s a) = some t by
          unfold hexF
          rw [if_neg (fun e => by rw [e] at ht; simp at ht; omega), HHX.out, List.drop_eq_nil_of_le (by omega)]
          show some (t ++ []) = some t
          rw [List.append_nil])
        have HRE := Lib.hid (show RS br s (a + (wordAt s a).length) wr by have := HR.out; rwa [show j = (wordAt s a).length by omega] at this)
        go_wp2_with fail
        refine (HMB.out).mono ?_; rintro e w2 ⟨rfl, k2, hw2⟩
        have HP := Lib.hid (show BytesPost br s a w (.returned (.string ⟨t.toArray⟩)) w2 from BytesPost.good HEQ.out ⟨rfl, by rw [hw2]; exact HRE.out, by rw [hw2]; exact grown_trans HG.out (grown_drewN _ _ _)⟩)
        have hconv : (convert 63 9 (.slice ao1 t.length cap1)).run Tryd.prog w2 = .ok (.string ⟨t.toArray⟩) w2 := by
          have ho : w2.ownsRow w.heap.size 5 1 (.slice ao1 t.length cap1) t.length (Lib.byteCells t) := by rw [hw2]; exact HOW.out
          obtain ⟨ao2, cap2, e2, hc2⟩ := own_conv ho rfl
          injection e2 with e3 e4 e5
          subst e3 e5
          exact hc2
        clear hw2
        go_wp2_with fail
        go_ret
        exact HP.out
end Go.Proofs.YtkocknhpnmkicaaDoor
