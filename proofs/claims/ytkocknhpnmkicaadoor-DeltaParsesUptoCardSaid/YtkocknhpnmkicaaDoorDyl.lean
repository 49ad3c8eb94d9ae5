/- Deltas: reading: the reference's Parse: its walk. -/
import Derived.Test.YtkocknhpnmkicaaDoorDyk
namespace Go.Proofs.YtkocknhpnmkicaaDoor
open Go.RowKit
set_option linter.unusedVariables false

theorem ext_word (s : ByteArray) {a : Nat} (ha : a ≤ s.size) : (s.extract a (a + (wordAt s a).length)).data.toList = wordAt s a := by
  rw [ByteArray.data_extract, Array.toList_extract, List.extract_eq_take_drop, Nat.add_sub_cancel_left]
  have h := takeWhile_drop (fun c => decide (c ≠ 32)) (s.data.toList.drop a)
  conv => lhs; rw [← h]
  exact List.take_left' rfl
theorem ext_size (s : ByteArray) {a : Nat} (ha : a ≤ s.size) : (s.extract a (a + (wordAt s a).length)).size = (wordAt s a).length := by
  have h1 := congrArg List.length (ext_word s ha)
  have h2 : (s.extract a (a + (wordAt s a).length)).data.toList.length = (s.extract a (a + (wordAt s a).length)).size := Array.length_toList ..
  rw [← h2, h1]
theorem refOne_some {s : ByteArray} {p : Pc} (w : World) (hs : s.size ≤ 1000000000) (h : oneP s.data.toList = some p) :
    Calls Tryd.prog 53 #[.string s] w fun e w' => e = .returned (.tuple #[.agg #[.int .u8 p.k, .int .i64 p.n, .string p.t], .bool true]) ∧ Below w.heap.size w w' := by
  refine (one_any s w hs).mono fun e w' k => ?_
  unfold OnePost at k
  rw [h] at k
  exact k
theorem refOne_none {s : ByteArray} (w : World) (hs : s.size ≤ 1000000000) (h : oneP s.data.toList = none) :
    Calls Tryd.prog 53 #[.string s] w fun e w' => (∃ k n t, e = .returned (.tuple #[.agg #[.int .u8 k, .int .i64 n, .string t], .bool false])) ∧ Below w.heap.size w w' := by
  refine (one_any s w hs).mono fun e w' k => ?_
  unfold OnePost at k
  rw [h] at k
  exact k
/-- where the reference's Parse stands -/
def PSt (s : ByteArray) (a i : Nat) (ps : List Pc) : Prop :=
  (a ≤ i ∧ i ≤ s.size ∧ i ≤ a + (wordAt s a).length ∧ allP (splitW s.data.toList) = (allP (splitW (s.data.toList.drop a))).map (ps ++ ·)) ∨ (i = s.size + 1 ∧ allP (splitW s.data.toList) = some ps)
theorem pst_go {s : ByteArray} {a i : Nat} {ps : List Pc} (h1 : a ≤ i) (h3 : i ≤ a + (wordAt s a).length) (h4 : allP (splitW s.data.toList) = (allP (splitW (s.data.toList.drop a))).map (ps ++ ·)) (hi : i < s.size) (hc : s[i] ≠ 32) : PSt s a (i + 1) ps := by
  refine .inl ⟨by omega, by omega, ?_, h4⟩
  rcases Nat.lt_or_ge i (a + (wordAt s a).length) with h | h
  · omega
  · exfalso
    have e : i = a + (wordAt s a).length := by omega
    subst e
    exact hc (word_end s (by omega) hi)
theorem pst_end {s : ByteArray} {a i : Nat} (h1 : a ≤ i) (h2 : i ≤ s.size) (h3 : i ≤ a + (wordAt s a).length) (hc : ∀ h : i < s.size, s[i] = 32) : i = a + (wordAt s a).length := by
  rcases Nat.lt_or_ge i (a + (wordAt s a).length) with h | h
  · exfalso
    obtain ⟨g1, _, g2⟩ := word_at s (a := a) (by omega) (j := i - a) (by omega)
    have e : a + (i - a) = i := by omega
    have g3 : s[i]'(by omega) ≠ 32 := by
      have : ∀ (k : Nat) (hk : k < s.size), k = a + (i - a) → s[k] ≠ 32 := fun k hk e => by subst e; exact g2
      exact this i (by omega) e.symm
    exact g3 (hc (by omega))
  · omega
theorem pst_next {s : ByteArray} {a i : Nat} {ps : List Pc} {p : Pc} (he : i = a + (wordAt s a).length) (h4 : allP (splitW s.data.toList) = (allP (splitW (s.data.toList.drop a))).map (ps ++ ·)) (hp : oneP (wordAt s a) = some p) (hi : i ≤ s.size) : PSt s (i + 1) (i + 1) (ps ++ [p]) := by
  by_cases hend : i = s.size
  · refine .inr ⟨by omega, ?_⟩
    rw [h4, split_last s (by omega), allP_cons, hp]
    rfl
  · refine .inl ⟨Nat.le_refl _, by omega, by omega, ?_⟩
    rw [h4, split_next s (by omega), ← he, allP_cons, hp]
    rcases allP (splitW (s.data.toList.drop (i + 1))) with _ | l
    · rfl
    · show some (ps ++ (p :: l)) = some (ps ++ [p] ++ l)
      rw [List.append_assoc]
      rfl
theorem pst_none {s : ByteArray} {a i : Nat} {ps : List Pc} (he : i = a + (wordAt s a).length) (h4 : allP (splitW s.data.toList) = (allP (splitW (s.data.toList.drop a))).map (ps ++ ·)) (hp : oneP (wordAt s a) = none) (hi : i ≤ s.size) : allP (splitW s.data.toList) = none := by
  by_cases hend : i = s.size
  · rw [h4, split_last s (by omega), allP_cons, hp]
    rfl
  · rw [h4, split_next s (by omega), allP_cons, hp]
    rfl
theorem parseL_words {s : ByteArray} (h : s.size ≠ 0) : parseL s.data.toList = allP (splitW s.data.toList) := if_neg (fun e => h (by
  rw [← show s.data.toList.length = s.size from Array.length_toList .., e]; rfl))

set_option maxRecDepth 100000 in
set_option maxHeartbeats 8000000 in
theorem refParse_any (s : ByteArray) (w : World) (hs : s.size ≤ 1000000000) : Calls Tryd.prog 30 #[.string s] w (Rowed w (parseR s).1 (parseR s).2) := by
  obtain ⟨i0, hi0, hz0, hz1, hz2⟩ := info_parts infoPc
  by_cases hs0 : s.size = 0
  · obtain rfl := str_empty hs0
    have HP := Lib.hid (show Rowed w (parseR ⟨#[]⟩).1 (parseR ⟨#[]⟩).2 (.returned (.tuple #[.slice none 0 0, .int .i64 0])) w from ⟨_, rfl, own_nil _ _, Below.refl _ _⟩)
    clear hs hs0
    go_enter Tryd.func30, Tryd.ntmps30
    go_wp2_with fail
    go_ret2
    exact HP.out
  · have hne := str_some hs0
    have HPL := Lib.hid (parseL_words hs0)
    have HS0 := Lib.hid hs0
    clear hs0
    go_enter Tryd.func30, Tryd.ntmps30
    go_wp2_with fail
    go_loopw [4, 5, 6] (fun vd s5 s6 wr => ∃ (a i : Nat) (ps : List Pc), s5 = .int .i64 a ∧ s6 = .int .i64 i ∧ i ≤ s.size + 1 ∧ wr.ownsRow w.heap.size 38 3 vd ps.length (flatR fP ps) ∧ ps.length ≤ i ∧ PSt s a i ps ∧ Below w.heap.size w wr) (fun _ _ s6 _ => s.size + 2 - (intOf s6).toNat)
    case atStart => exact ⟨0, 0, [], rfl, rfl, Nat.zero_le _, own_nil _ _, Nat.le_refl _, .inl ⟨Nat.le_refl _, Nat.zero_le _, Nat.zero_le _, by simp⟩, Below.refl _ _⟩
    case round =>
      obtain ⟨a, i, ps, rfl, rfl, hi1, hown, hpl, hst, hbr⟩ := hrel
      obtain ⟨ao1, cap1, rfl, -⟩ := own_form hown
      have HOW := Lib.hid hown
      have HBR := Lib.hid hbr
      have hsz := hbr.size
      have hii0 : (0 : Int) ≤ (i : Int) := by omega
      have hwr : IntKind.i64.wrap ((i : Int) + 1) = (i : Int) + 1 := by rw [IntKind.wrap_i64]; omega
      clear hown hbr
      rcases hst with ⟨h1, h2, h3, h4⟩ | ⟨h1, h2⟩
      · have HH1 := Lib.hid h1
        have HH3 := Lib.hid h3
        have HH4 := Lib.hid h4
        have hle : (i : Int) ≤ (s.size : Int) := by omega
        have hai : (a : Int) ≤ (i : Int) := by omega
        have ha0 : (0 : Int) ≤ (a : Int) := by omega
        clear h3 h4
        by_cases hgo : ∃ h : i < s.size, s[i] ≠ 32
        · obtain ⟨hlt, hc⟩ := hgo
          have HNX := Lib.hid (pst_go h1 HH3.out HH4.out hlt hc)
          have hlt1 : (i : Int) < (s.size : Int) := by omega
          have hc' : ((s[i].toNat : Int) == 32) = false := by
            rw [beq_eq_false_iff_ne]
            exact fun e => hc (UInt8.toNat_inj.1 (by show s[i].toNat = 32; omega))
          clear hc h1
          go_wp2_with fail
          go_roundw
          case rel => exact ⟨a, i + 1, ps, rfl, by go_num, by omega, HOW.out, by omega, HNX.out, HBR.out⟩
          case measure => simp [intOf]; omega
        · have HE := Lib.hid (pst_end h1 h2 HH3.out (fun h => by
            by_cases hc : s[i] = 32
            · exact hc
            · exact absurd ⟨h, hc⟩ hgo))
          have HX := Lib.hid (show (s.extract a i).data.toList = wordAt s a by
            rw [HE.out]; exact ext_word s (by omega))
          have HXS := Lib.hid (show (s.extract a i).size ≤ 1000000000 by
            rw [HE.out, ext_size s (by omega)]
            have := word_le s (a := a) (by omega)
            omega)
          clear h1
          rcases hone : oneP (wordAt s a) with _ | p
          · have HNO := Lib.hid (refOne_none (s := s.extract a i) wr HXS.out (by rw [HX.out]; exact hone))
            have HPR := Lib.hid (show parseR s = ([], 4) by
              unfold parseR
              rw [HPL.out, pst_none HE.out HH4.out hone h2])
            clear hone
            by_cases hlt : i < s.size
            · have hlt1 : (i : Int) < (s.size : Int) := by omega
              have hc : s[i] = 32 := by
                by_cases hc : s[i] = 32
                · exact hc
                · exact absurd ⟨hlt, hc⟩ hgo
              have hcv : s[i].toNat = 32 := by rw [hc]; rfl
              clear hgo hc
              go_wp2_with fail
              refine (HNO.out).mono ?_; rintro e w2 ⟨⟨k, n, t, rfl⟩, hb2⟩
              have HB2 := Lib.hid (below_two HBR.out hb2)
              clear hb2
              go_wp2_with fail
              go_ret2
              rw [HPR.out]
              exact ⟨_, rfl, own_nil _ _, HB2.out.alloc HB2.out.size _⟩
            · have hlt1 : ¬ ((i : Int) < (s.size : Int)) := by omega
              clear hgo
              go_wp2_with fail
              refine (HNO.out).mono ?_; rintro e w2 ⟨⟨k, n, t, rfl⟩, hb2⟩
              have HB2 := Lib.hid (below_two HBR.out hb2)
              clear hb2
              go_wp2_with fail
              go_ret2
              rw [HPR.out]
              exact ⟨_, rfl, own_nil _ _, HB2.out.alloc HB2.out.size _⟩
          · have HSO := Lib.hid (refOne_some (s := s.extract a i) wr HXS.out (by rw [HX.out]; exact hone))
            have HNX := Lib.hid (pst_next HE.out HH4.out hone h2)
            clear hone
            by_cases hlt : i < s.size
            · have hlt1 : (i : Int) < (s.size : Int) := by omega
              have hc : s[i] = 32 := by
                by_cases hc : s[i] = 32
                · exact hc
                · exact absurd ⟨hlt, hc⟩ hgo
              have hcv : s[i].toNat = 32 := by rw [hc]; rfl
              clear hgo hc
              go_wp2_with fail
              refine (HSO.out).mono ?_; rintro e w2 ⟨rfl, hb2⟩
              have HB2 := Lib.hid (below_two HBR.out hb2)
              have HO2 := Lib.hid (own_below HOW.out hb2)
              have hsz2 := HB2.out.size
              clear hb2
              go_wp2_with (at_builtin; refine wpList_append_lies _ rfl _ _ 22 rfl w.heap.size 38 i0 _ 3 32 Tryd.underlying22 hi0 hz0 hz1 hz2 rfl (by decide) _ ps.length _ rfl ((HO2.out.alloc _).alloc _) ⟨w2.heap.size + 1, 0, none⟩ 1 1 [.int .u8 p.k, .int .i64 p.n, .string p.t] rfl rfl (World.news_of_block (cs := #[_, _, _]) (t := 38) (fr := (0, 0)) (block_new' (w2.alloc _) _ _ (by simp))) (by simp [Value.oneCell']) (by omega) (by unfold maxLen; omega) (by omega) (by simp; omega) (w2.heap.size + 1 + 1) (by simp) ?c1)
              case c1 =>
                intro gg cap w4 hown4 hgrow4 hat4 hlt4
                have HO4 := Lib.hid (show w4.ownsRow w.heap.size 38 3 (.slice (some ⟨gg, 0, none⟩) (ps.length + 1) cap) (ps ++ [p]).length (flatR fP (ps ++ [p])) by
                  rw [flatR_app, flatR_one, List.length_append]
                  exact hown4)
                have HB4 := Lib.hid (((HB2.out.alloc hsz2 _).alloc (by simp; omega) _).grown hgrow4 (by simp; omega) fun q hq => (own_typS HO2.out hq).1)
                clear hown4 hgrow4 hat4 hlt4
                go_wp2_with fail
                go_roundw
                case rel => exact ⟨i + 1, i + 1, ps ++ [p], by go_num, by go_num, by omega, HO4.out, by rw [List.length_append]; simp; omega, HNX.out, HB4.out⟩
                case measure => simp [intOf]; omega
            · have hlt1 : ¬ ((i : Int) < (s.size : Int)) := by omega
              clear hgo
              go_wp2_with fail
              refine (HSO.out).mono ?_; rintro e w2 ⟨rfl, hb2⟩
              have HB2 := Lib.hid (below_two HBR.out hb2)
              have HO2 := Lib.hid (own_below HOW.out hb2)
              have hsz2 := HB2.out.size
              clear hb2
              go_wp2_with (at_builtin; refine wpList_append_lies _ rfl _ _ 22 rfl w.heap.size 38 i0 _ 3 32 Tryd.underlying22 hi0 hz0 hz1 hz2 rfl (by decide) _ ps.length _ rfl ((HO2.out.alloc _).alloc _) ⟨w2.heap.size + 1, 0, none⟩ 1 1 [.int .u8 p.k, .int .i64 p.n, .string p.t] rfl rfl (World.news_of_block (cs := #[_, _, _]) (t := 38) (fr := (0, 0)) (block_new' (w2.alloc _) _ _ (by simp))) (by simp [Value.oneCell']) (by omega) (by unfold maxLen; omega) (by omega) (by simp; omega) (w2.heap.size + 1 + 1) (by simp) ?c1)
              case c1 =>
                intro gg cap w4 hown4 hgrow4 hat4 hlt4
                have HO4 := Lib.hid (show w4.ownsRow w.heap.size 38 3 (.slice (some ⟨gg, 0, none⟩) (ps.length + 1) cap) (ps ++ [p]).length (flatR fP (ps ++ [p])) by
                  rw [flatR_app, flatR_one, List.length_append]
                  exact hown4)
                have HB4 := Lib.hid (((HB2.out.alloc hsz2 _).alloc (by simp; omega) _).grown hgrow4 (by simp; omega) fun q hq => (own_typS HO2.out hq).1)
                clear hown4 hgrow4 hat4 hlt4
                go_wp2_with fail
                go_roundw
                case rel => exact ⟨i + 1, i + 1, ps ++ [p], by go_num, by go_num, by omega, HO4.out, by rw [List.length_append]; simp; omega, HNX.out, HB4.out⟩
                case measure => simp [intOf]; omega
      · have HPS := Lib.hid (show parseL s.data.toList = some ps by rw [HPL.out]; exact h2)
        have hle : ¬ ((i : Int) ≤ (s.size : Int)) := by omega
        obtain ⟨ao9, cap9, e9, hR3, -, -⟩ := IsR.owned (f := fP) (s := 3) fP_len (l := ps) (n := ps.length) rfl HOW.out
        injection e9 with e91 e92 e93
        subst e91 e93
        have HC := Lib.hid (refCheck_pc ao1 ps.length cap1 ps wr hR3 (by omega))
        clear h1 h2 hR3
        go_wp2_with fail
        refine (HC.out).mono ?_; rintro e w4 ⟨rfl, hb4⟩
        have HB4 := Lib.hid (below_two HBR.out hb4)
        have HO4 := Lib.hid (own_below HOW.out hb4)
        clear hb4 HC
        by_cases hc : checkP ps = 0
        · have HPR := Lib.hid (show parseR s = (ps, 0) by unfold parseR; rw [HPS.out]; exact if_pos hc)
          rw [hc]
          clear hc
          go_wp2_with fail
          go_ret2
          rw [HPR.out]
          exact ⟨_, rfl, HO4.out, HB4.out⟩
        · have HPR := Lib.hid (show parseR s = ([], checkP ps) by unfold parseR; rw [HPS.out]; exact if_neg hc)
          have hc2 : (checkP ps == 0) = false := by rw [beq_eq_false_iff_ne]; exact hc
          clear hc
          go_wp2_with fail
          go_ret2
          rw [HPR.out]
          exact ⟨_, rfl, own_nil _ _, HB4.out⟩
end Go.Proofs.YtkocknhpnmkicaaDoor
