/- Diff: Replace and Between of the reference: their walks. -/
import Derived.Test.YtfbjbgknfdekfaaDoorEh
import Derived.Deep.CutRange
namespace Go.Proofs.YtfbjbgknfdekfaaDoor
open Go.RowKit
set_option linter.unusedVariables false

def RowAt (B : Nat) (ds : List Pc) (v : Value) (w : World) : Prop := w.ownsRow B 45 3 v ds.length (flatR fP ds)
theorem rowAt_app {B : Nat} {ds : List Pc} {p : Pc} {v : Value} {w : World} (h : w.ownsRow B 45 3 v (ds.length + 1) (flatR fP ds ++ fP p)) : RowAt B (ds ++ [p]) v w := by
  unfold RowAt
  rw [flatR_app, flatR_one, List.length_append]
  exact h

set_option maxRecDepth 100000 in
set_option maxHeartbeats 8000000 in
theorem refReplace_any (n at_ k : Nat) (text : ByteArray) (w : World) (hk : at_ + k ≤ n) (hn : n ≤ 1048576) (ht : text.size ≤ 1048576 - (n - k)) :
    Calls Tryd.prog 34 #[.int .i64 n, .int .i64 at_, .int .i64 k, .string text] w (Rowed w (formP (repL n at_ k text)) 0) := by
  obtain ⟨i0, hi0, hz0, hz1, hz2⟩ := info_parts infoPc
  have HB := Lib.hid (Below.refl w.heap.size w)
  have HPR := Lib.hid (rep_props n at_ k text hk)
  obtain ⟨r, hr⟩ : ∃ r, r = n - at_ - k := ⟨_, rfl⟩
  have HRL := Lib.hid (show repL n at_ k text = putL (putL (putL (putL [] ⟨1, (at_ : Nat), ⟨#[]⟩⟩) ⟨2, 0, text⟩) ⟨3, (k : Nat), ⟨#[]⟩⟩) ⟨1, (r : Nat), ⟨#[]⟩⟩ by rw [hr]; rfl)
  have a1 : ¬ ((at_ : Int) < 0) := by omega
  have a2 : ¬ ((n : Int) < (at_ : Int)) := by omega
  have a3 : ¬ ((k : Int) < 0) := by omega
  have a4 : ¬ ((n : Int) - (at_ : Int) < (k : Int)) := by omega
  have a5 : ¬ ((1048576 : Int) < (n : Int)) := by omega
  have a6 : ¬ ((1048576 : Int) - ((n : Int) - (k : Int)) < (text.size : Int)) := by omega
  have w1 : IntKind.i64.wrap ((n : Int) - (at_ : Int)) = (n : Int) - (at_ : Int) := by rw [IntKind.wrap_i64]; omega
  have w2 : IntKind.i64.wrap ((n : Int) - (k : Int)) = (n : Int) - (k : Int) := by rw [IntKind.wrap_i64]; omega
  have w4 : IntKind.i64.wrap ((at_ : Int) + (k : Int)) = (at_ : Int) + (k : Int) := by rw [IntKind.wrap_i64]; omega
  obtain ⟨l1, hl1⟩ : ∃ l, l = putL [] ⟨1, (at_ : Nat), ⟨#[]⟩⟩ := ⟨_, rfl⟩
  obtain ⟨l2, hl2⟩ : ∃ l, l = putL l1 ⟨2, 0, text⟩ := ⟨_, rfl⟩
  obtain ⟨l3, hl3⟩ : ∃ l, l = putL l2 ⟨3, (k : Nat), ⟨#[]⟩⟩ := ⟨_, rfl⟩
  obtain ⟨l4, hl4⟩ : ∃ l, l = putL l3 ⟨1, (r : Nat), ⟨#[]⟩⟩ := ⟨_, rfl⟩
  have HE := Lib.hid (show repL n at_ k text = l4 by rw [HRL.out, hl4, hl3, hl2, hl1])
  have n1 : l1.length ≤ 1 := by have := putL_len [] ⟨1, (at_ : Nat), ⟨#[]⟩⟩; rw [← hl1] at this; exact this
  have n2 : l2.length ≤ 2 := by have := putL_len l1 ⟨2, 0, text⟩; rw [← hl2] at this; omega
  have n3 : l3.length ≤ 3 := by have := putL_len l2 ⟨3, (k : Nat), ⟨#[]⟩⟩; rw [← hl3] at this; omega
  have HL1 := Lib.hid hl1
  have HL2 := Lib.hid hl2
  have HL3 := Lib.hid hl3
  have HL4 := Lib.hid hl4
  have HRR := Lib.hid hr
  clear hl1 hl2 hl3 hl4 hr
  go_enter Tryd.func34, Tryd.ntmps34
  go_upto_region 5 with (fail)
  go_cut [10] (fun vz wq => wq.ownsRow w.heap.size 45 3 vz ([] : List Pc).length (flatR fP []) ∧ w = wq)
  case first =>
    go_wp2_with fail
    go_meet
    case rel => exact ⟨own_nil _ _, rfl⟩
  case rest =>
    obtain ⟨hown0, rfl⟩ := hcut
    have HO0 := Lib.hid hown0
    clear hown0
    go_upto_if 41 with (fail)
    have HB0 := HB
    have z0 : ([] : List Pc).length ≤ 0 := Nat.le_refl _
    have hs0 := Nat.le_refl w.heap.size
    go_cut [10] from 41 to 46 (fun vz wq => wq.ownsRow w.heap.size 45 3 vz l1.length (flatR fP l1) ∧ Below w.heap.size w wq)
    case first =>
      by_cases hz : at_ = 0
      · have HE1 := Lib.hid (show l1 = [] by rw [HL1.out]; exact if_pos ⟨by show (at_ : Int) = 0; omega, rfl⟩)
        have hz' : ¬ ((0 : Int) < (at_ : Int)) := by omega
        clear hz
        go_wp2_with fail
        go_meet
        case rel => exact ⟨by rw [HE1.out]; exact HO0.out, HB0.out⟩
      · have HE1 := Lib.hid (show l1 = [] ++ [⟨1, (at_ : Nat), ⟨#[]⟩⟩] by rw [HL1.out]; exact if_neg (fun h => hz (by have : (at_ : Int) = 0 := h.1; omega)))
        have hz' : (0 : Int) < (at_ : Int) := by omega
        clear hz
        go_wp2_with (at_builtin; go_loud (refine wpList_append_lies _ rfl _ _ 26 rfl w.heap.size 45 i0 _ 3 32 Tryd.underlying26 hi0 hz0 hz1 hz2 rfl (by decide) _ ([] : List Pc).length _ rfl (HO0.out.alloc _) ⟨w.heap.size, 0, none⟩ 1 1 [.int .u8 1, .int .i64 at_, .string ⟨#[]⟩] rfl rfl (World.news_of_block (cs := #[_, _, _]) (t := 45) (fr := (0, 0)) (heap_alloc_new w _)) (by simp [Value.oneCell']) (by omega) (by unfold maxLen; omega) (by omega) (by simp <;> omega) (w.heap.size + 1) (by simp) ?c1))
        case c1 =>
          intro gg cap w4 hown4 hgrow4 hat4 hlt4
          have HOx := Lib.hid (show w4.ownsRow w.heap.size 45 3 (.slice (some ⟨gg, 0, none⟩) (([] : List Pc).length + 1) cap) l1.length (flatR fP l1) by rw [HE1.out]; exact rowAt_app hown4)
          have HBx := Lib.hid ((HB0.out.alloc hs0 _).grown hgrow4 (by simp <;> omega) fun q hq => (own_typ1 HO0.out hq).1)
          clear hown4 hgrow4 hat4 hlt4
          go_wp2_with fail
          go_meet
          case rel => exact ⟨HOx.out, HBx.out⟩
    case rest =>
      obtain ⟨hown1, hb1⟩ := hcut
      have HO1 := Lib.hid hown1
      have HB1 := Lib.hid hb1
      have hs1 := hb1.size
      generalize wc = wc1 at *
      clear hown1 hb1
      by_cases hz : text.size = 0
      · have HE1 := Lib.hid (show l2 = l1 by rw [HL2.out]; exact if_pos ⟨rfl, hz⟩)
        have HO2 := Lib.hid (show wc1.ownsRow w.heap.size 45 3 _ l2.length (flatR fP l2) by rw [HE1.out]; exact HO1.out)
        have HB2 := HB1
        have hs2 := hs1
        obtain rfl := str_empty hz
        clear hz
        go_upto_if 55 with (fail)
        go_cut [10] from 55 to 60 (fun vz wq => wq.ownsRow w.heap.size 45 3 vz l3.length (flatR fP l3) ∧ Below w.heap.size w wq)
        case first =>
          by_cases hz : k = 0
          · have HE1 := Lib.hid (show l3 = l2 by rw [HL3.out]; exact if_pos ⟨by show (k : Int) = 0; omega, rfl⟩)
            have hz' : ¬ ((0 : Int) < (k : Int)) := by omega
            clear hz
            go_wp2_with fail
            go_meet
            case rel => exact ⟨by rw [HE1.out]; exact HO2.out, HB2.out⟩
          · have HE1 := Lib.hid (show l3 = l2 ++ [⟨3, (k : Nat), ⟨#[]⟩⟩] by rw [HL3.out]; exact if_neg (fun h => hz (by have : (k : Int) = 0 := h.1; omega)))
            have hz' : (0 : Int) < (k : Int) := by omega
            clear hz
            go_wp2_with (at_builtin; go_loud (refine wpList_append_lies _ rfl _ _ 26 rfl w.heap.size 45 i0 _ 3 32 Tryd.underlying26 hi0 hz0 hz1 hz2 rfl (by decide) _ l2.length _ rfl (HO2.out.alloc _) ⟨wc1.heap.size, 0, none⟩ 1 1 [.int .u8 3, .int .i64 k, .string ⟨#[]⟩] rfl rfl (World.news_of_block (cs := #[_, _, _]) (t := 45) (fr := (0, 0)) (heap_alloc_new wc1 _)) (by simp [Value.oneCell']) (by omega) (by unfold maxLen; omega) (by omega) (by simp <;> omega) (wc1.heap.size + 1) (by simp) ?c2))
            case c2 =>
              intro gg cap w4 hown4 hgrow4 hat4 hlt4
              have HOx := Lib.hid (show w4.ownsRow w.heap.size 45 3 (.slice (some ⟨gg, 0, none⟩) (l2.length + 1) cap) l3.length (flatR fP l3) by rw [HE1.out]; exact rowAt_app hown4)
              have HBx := Lib.hid ((HB2.out.alloc hs2 _).grown hgrow4 (by simp <;> omega) fun q hq => (own_typ1 HO2.out hq).1)
              clear hown4 hgrow4 hat4 hlt4
              go_wp2_with fail
              go_meet
              case rel => exact ⟨HOx.out, HBx.out⟩
        case rest =>
          obtain ⟨hown3, hb3⟩ := hcut
          have HO3 := Lib.hid hown3
          have HB3 := Lib.hid hb3
          have hs3 := hb3.size
          generalize wc = wc3 at *
          clear hown3 hb3
          go_upto_if 65 with (fail)
          go_cut [10] from 65 to 74 (fun vz wq => wq.ownsRow w.heap.size 45 3 vz l4.length (flatR fP l4) ∧ Below w.heap.size w wq)
          case first =>
            by_cases hz : r = 0
            · have HE1 := Lib.hid (show l4 = l3 by rw [HL4.out]; exact if_pos ⟨by show (r : Int) = 0; omega, rfl⟩)
              have hz' : ¬ ((at_ : Int) + (k : Int) < (n : Int)) := by have := HRR.out; omega
              clear hz
              go_wp2_with fail
              go_meet
              case rel => exact ⟨by rw [HE1.out]; exact HO3.out, HB3.out⟩
            · have HE1 := Lib.hid (show l4 = l3 ++ [⟨1, (r : Nat), ⟨#[]⟩⟩] by rw [HL4.out]; exact if_neg (fun h => hz (by have : (r : Int) = 0 := h.1; omega)))
              have hz' : (at_ : Int) + (k : Int) < (n : Int) := by have := HRR.out; omega
              have hri : (n : Int) - (at_ : Int) - (k : Int) = (r : Int) := by have := HRR.out; omega
              clear hz
              go_wp2_with (at_builtin; go_loud (refine wpList_append_lies _ rfl _ _ 26 rfl w.heap.size 45 i0 _ 3 32 Tryd.underlying26 hi0 hz0 hz1 hz2 rfl (by decide) _ l3.length _ rfl (HO3.out.alloc _) ⟨wc3.heap.size, 0, none⟩ 1 1 [.int .u8 1, .int .i64 r, .string ⟨#[]⟩] rfl rfl (World.news_of_block (cs := #[_, _, _]) (t := 45) (fr := (0, 0)) (heap_alloc_new wc3 _)) (by simp [Value.oneCell']) (by omega) (by unfold maxLen; omega) (by omega) (by simp <;> omega) (wc3.heap.size + 1) (by simp) ?c3))
              case c3 =>
                intro gg cap w4 hown4 hgrow4 hat4 hlt4
                have HOx := Lib.hid (show w4.ownsRow w.heap.size 45 3 (.slice (some ⟨gg, 0, none⟩) (l3.length + 1) cap) l4.length (flatR fP l4) by rw [HE1.out]; exact rowAt_app hown4)
                have HBx := Lib.hid ((HB3.out.alloc hs3 _).grown hgrow4 (by simp <;> omega) fun q hq => (own_typ1 HO3.out hq).1)
                clear hown4 hgrow4 hat4 hlt4
                go_wp2_with fail
                go_meet
                case rel => exact ⟨HOx.out, HBx.out⟩
          case rest =>
            obtain ⟨hown4, hb4⟩ := hcut
            have HO4 := Lib.hid hown4
            have HB4 := Lib.hid hb4
            have hs4 := hb4.size
            generalize wc = wc4 at *
            clear hown4 hb4
            obtain ⟨ao9, cap9, e9, hR5, -, -⟩ := IsR.owned (f := fP) (s := 3) fP_len (l := l4) (n := l4.length) rfl HO4.out
            subst e9
            rw [HE.out] at HPR
            have HF := Lib.hid (refForm_any ao9 l4.length cap9 l4 wc4 hR5 (by have := HPR.out.1; omega) HPR.out.2.1 (by have := HPR.out.2.2.1; omega) (by have := HPR.out.2.2.2; omega))
            clear hR5
            go_wp2_with fail
            refine (HF.out).mono ?_; rintro e w6 ⟨v6, rfl, hown6, hb6⟩
            have HO6 := Lib.hid (own_mono hown6 hs4)
            have HB6 := Lib.hid (below_two HB4.out hb6)
            clear hown6 hb6
            go_wp2_with fail
            go_ret2
            rw [HE.out]
            exact ⟨_, rfl, HO6.out, HB6.out⟩
      · have HE1 := Lib.hid (show l2 = l1 ++ [⟨2, 0, text⟩] by rw [HL2.out]; exact if_neg (fun h => hz h.2))
        have hne := str_some hz
        clear hz
        go_wp2_with (at_builtin; go_loud (refine wpList_append_lies _ rfl _ _ 26 rfl w.heap.size 45 i0 _ 3 32 Tryd.underlying26 hi0 hz0 hz1 hz2 rfl (by decide) _ l1.length _ rfl (HO1.out.alloc _) ⟨wc1.heap.size, 0, none⟩ 1 1 [.int .u8 2, .int .i64 0, .string text] rfl rfl (World.news_of_block (cs := #[_, _, _]) (t := 45) (fr := (0, 0)) (heap_alloc_new wc1 _)) (by simp [Value.oneCell']) (by omega) (by unfold maxLen; omega) (by omega) (by simp <;> omega) (wc1.heap.size + 1) (by simp) ?c4))
        case c4 =>
          intro gg cap w4 hown4 hgrow4 hat4 hlt4
          have HOx := Lib.hid (show w4.ownsRow w.heap.size 45 3 (.slice (some ⟨gg, 0, none⟩) (l1.length + 1) cap) l2.length (flatR fP l2) by rw [HE1.out]; exact rowAt_app hown4)
          have HBx := Lib.hid ((HB1.out.alloc hs1 _).grown hgrow4 (by simp <;> omega) fun q hq => (own_typ1 HO1.out hq).1)
          clear hown4 hgrow4 hat4 hlt4
          have HO2 := HOx
          have HB2 := HBx
          have hs2 := HBx.out.size
          go_upto_if 55 with (fail)
          go_cut [10] from 55 to 60 (fun vz wq => wq.ownsRow w.heap.size 45 3 vz l3.length (flatR fP l3) ∧ Below w.heap.size w wq)
          case first =>
            by_cases hz : k = 0
            · have HE1 := Lib.hid (show l3 = l2 by rw [HL3.out]; exact if_pos ⟨by show (k : Int) = 0; omega, rfl⟩)
              have hz' : ¬ ((0 : Int) < (k : Int)) := by omega
              clear hz
              go_wp2_with fail
              go_meet
              case rel => exact ⟨by rw [HE1.out]; exact HO2.out, HB2.out⟩
            · have HE1 := Lib.hid (show l3 = l2 ++ [⟨3, (k : Nat), ⟨#[]⟩⟩] by rw [HL3.out]; exact if_neg (fun h => hz (by have : (k : Int) = 0 := h.1; omega)))
              have hz' : (0 : Int) < (k : Int) := by omega
              clear hz
              go_wp2_with (at_builtin; go_loud (refine wpList_append_lies _ rfl _ _ 26 rfl w.heap.size 45 i0 _ 3 32 Tryd.underlying26 hi0 hz0 hz1 hz2 rfl (by decide) _ l2.length _ rfl (HO2.out.alloc _) ⟨w4.heap.size, 0, none⟩ 1 1 [.int .u8 3, .int .i64 k, .string ⟨#[]⟩] rfl rfl (World.news_of_block (cs := #[_, _, _]) (t := 45) (fr := (0, 0)) (heap_alloc_new w4 _)) (by simp [Value.oneCell']) (by omega) (by unfold maxLen; omega) (by omega) (by simp <;> omega) (w4.heap.size + 1) (by simp) ?c5))
              case c5 =>
                intro gg cap w4 hown4 hgrow4 hat4 hlt4
                have HOx := Lib.hid (show w4.ownsRow w.heap.size 45 3 (.slice (some ⟨gg, 0, none⟩) (l2.length + 1) cap) l3.length (flatR fP l3) by rw [HE1.out]; exact rowAt_app hown4)
                have HBx := Lib.hid ((HB2.out.alloc hs2 _).grown hgrow4 (by simp <;> omega) fun q hq => (own_typ1 HO2.out hq).1)
                clear hown4 hgrow4 hat4 hlt4
                go_wp2_with fail
                go_meet
                case rel => exact ⟨HOx.out, HBx.out⟩
          case rest =>
            obtain ⟨hown3, hb3⟩ := hcut
            have HO3 := Lib.hid hown3
            have HB3 := Lib.hid hb3
            have hs3 := hb3.size
            generalize wc = wc3 at *
            clear hown3 hb3
            go_upto_if 65 with (fail)
            go_cut [10] from 65 to 74 (fun vz wq => wq.ownsRow w.heap.size 45 3 vz l4.length (flatR fP l4) ∧ Below w.heap.size w wq)
            case first =>
              by_cases hz : r = 0
              · have HE1 := Lib.hid (show l4 = l3 by rw [HL4.out]; exact if_pos ⟨by show (r : Int) = 0; omega, rfl⟩)
                have hz' : ¬ ((at_ : Int) + (k : Int) < (n : Int)) := by have := HRR.out; omega
                clear hz
                go_wp2_with fail
                go_meet
                case rel => exact ⟨by rw [HE1.out]; exact HO3.out, HB3.out⟩
              · have HE1 := Lib.hid (show l4 = l3 ++ [⟨1, (r : Nat), ⟨#[]⟩⟩] by rw [HL4.out]; exact if_neg (fun h => hz (by have : (r : Int) = 0 := h.1; omega)))
                have hz' : (at_ : Int) + (k : Int) < (n : Int) := by have := HRR.out; omega
                have hri : (n : Int) - (at_ : Int) - (k : Int) = (r : Int) := by have := HRR.out; omega
                clear hz
                go_wp2_with (at_builtin; go_loud (refine wpList_append_lies _ rfl _ _ 26 rfl w.heap.size 45 i0 _ 3 32 Tryd.underlying26 hi0 hz0 hz1 hz2 rfl (by decide) _ l3.length _ rfl (HO3.out.alloc _) ⟨wc3.heap.size, 0, none⟩ 1 1 [.int .u8 1, .int .i64 r, .string ⟨#[]⟩] rfl rfl (World.news_of_block (cs := #[_, _, _]) (t := 45) (fr := (0, 0)) (heap_alloc_new wc3 _)) (by simp [Value.oneCell']) (by omega) (by unfold maxLen; omega) (by omega) (by simp <;> omega) (wc3.heap.size + 1) (by simp) ?c6))
                case c6 =>
                  intro gg cap w4 hown4 hgrow4 hat4 hlt4
                  have HOx := Lib.hid (show w4.ownsRow w.heap.size 45 3 (.slice (some ⟨gg, 0, none⟩) (l3.length + 1) cap) l4.length (flatR fP l4) by rw [HE1.out]; exact rowAt_app hown4)
                  have HBx := Lib.hid ((HB3.out.alloc hs3 _).grown hgrow4 (by simp <;> omega) fun q hq => (own_typ1 HO3.out hq).1)
                  clear hown4 hgrow4 hat4 hlt4
                  go_wp2_with fail
                  go_meet
                  case rel => exact ⟨HOx.out, HBx.out⟩
            case rest =>
              obtain ⟨hown4, hb4⟩ := hcut
              have HO4 := Lib.hid hown4
              have HB4 := Lib.hid hb4
              have hs4 := hb4.size
              generalize wc = wc4 at *
              clear hown4 hb4
              obtain ⟨ao9, cap9, e9, hR5, -, -⟩ := IsR.owned (f := fP) (s := 3) fP_len (l := l4) (n := l4.length) rfl HO4.out
              subst e9
              rw [HE.out] at HPR
              have HF := Lib.hid (refForm_any ao9 l4.length cap9 l4 wc4 hR5 (by have := HPR.out.1; omega) HPR.out.2.1 (by have := HPR.out.2.2.1; omega) (by have := HPR.out.2.2.2; omega))
              clear hR5
              go_wp2_with fail
              refine (HF.out).mono ?_; rintro e w6 ⟨v6, rfl, hown6, hb6⟩
              have HO6 := Lib.hid (own_mono hown6 hs4)
              have HB6 := Lib.hid (below_two HB4.out hb6)
              clear hown6 hb6
              go_wp2_with fail
              go_ret2
              rw [HE.out]
              exact ⟨_, rfl, HO6.out, HB6.out⟩

set_option maxRecDepth 100000 in
set_option maxHeartbeats 4000000 in
theorem refBetween_any (a b : ByteArray) (w : World) (ha : a.size ≤ 140737488355328) (hb : b.size ≤ 140737488355328) :
    Calls Tryd.prog 15 #[.string a, .string b] w (Rowed w (betR a b).1 (betR a b).2) := by
  have HB := Lib.hid (Below.refl w.heap.size w)
  by_cases h1 : 1048576 < a.size
  · have h1' : (1048576 : Int) < (a.size : Int) := by omega
    have HE := Lib.hid (show betR a b = ([], 5) from if_pos (.inl h1))
    clear h1
    go_enter Tryd.func15, Tryd.ntmps15
    go_wp2_with fail
    go_ret2
    rw [HE.out]
    exact ⟨_, rfl, own_nil _ _, HB.out⟩
  · have h1' : ¬ ((1048576 : Int) < (a.size : Int)) := by omega
    by_cases h2 : 1048576 < b.size
    · have h2' : (1048576 : Int) < (b.size : Int) := by omega
      have HE := Lib.hid (show betR a b = ([], 5) from if_pos (.inr h2))
      clear h1 h2
      go_enter Tryd.func15, Tryd.ntmps15
      go_wp2_with fail
      go_ret2
      rw [HE.out]
      exact ⟨_, rfl, own_nil _ _, HB.out⟩
    · have h2' : ¬ ((1048576 : Int) < (b.size : Int)) := by omega
      have HE := Lib.hid (show betR a b = (formP (betL a b), 0) from if_neg (by rintro (h | h) <;> omega))
      have HC := Lib.hid (refCommon_any a b w ha hb)
      obtain ⟨c1, c2⟩ := comS_le a b
      have hms := mid_size a b
      have HR := Lib.hid (fun u => show Calls Tryd.prog 34 #[.int .i64 a.size, .int .i64 (comP a b : Nat), .int .i64 (a.size - comP a b - comS a b : Nat), .string (b.extract (comP a b) (b.size - comS a b))] u (Rowed u (formP (betL a b)) 0) from
        refReplace_any a.size (comP a b) (a.size - comP a b - comS a b) (midB a b) u (by omega) (by omega) (by omega))
      generalize comP a b = p at *
      generalize comS a b = q at *
      have g1 : (0 : Int) ≤ (p : Int) := by omega
      have g2 : (b.size : Int) - (q : Int) = ((b.size - q : Nat) : Int) := by omega
      have g3 : (p : Int) ≤ ((b.size - q : Nat) : Int) := by omega
      have g4 : ((b.size - q : Nat) : Int) ≤ (b.size : Int) := by omega
      have g5 : (a.size : Int) - (p : Int) - (q : Int) = ((a.size - p - q : Nat) : Int) := by omega
      have g6 : IntKind.i64.wrap ((a.size : Int) - (p : Int)) = (a.size : Int) - (p : Int) := by rw [IntKind.wrap_i64]; omega
      clear h1 h2 ha hb hms
      go_enter Tryd.func15, Tryd.ntmps15
      go_wp2_with fail
      refine (HC.out).mono ?_; rintro e w1 ⟨rfl, hb1⟩
      have HB1 := Lib.hid hb1
      have HS1 := Lib.hid hb1.size
      clear hb1 HC
      go_wp2_with fail
      refine (HR.out w1).mono ?_; rintro e w6 ⟨v6, rfl, hown6, hb6⟩
      have HO6 := Lib.hid (own_mono hown6 HS1.out)
      have HB6 := Lib.hid (below_two HB1.out hb6)
      clear hown6 hb6
      go_wp2_with fail
      go_ret2
      rw [HE.out]
      exact ⟨_, rfl, HO6.out, HB6.out⟩

end Go.Proofs.YtfbjbgknfdekfaaDoor
