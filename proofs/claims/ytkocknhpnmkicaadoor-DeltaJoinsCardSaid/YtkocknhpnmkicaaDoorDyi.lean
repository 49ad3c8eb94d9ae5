/- Deltas: the law Joins: its walk. -/
import Derived.Test.YtkocknhpnmkicaaDoorDyh
namespace Go.Proofs.YtkocknhpnmkicaaDoor
open Go.RowKit
set_option linter.unusedVariables false

theorem infoSl : (Tryd.prog.info? 22).map (fun i => (i.zero, i.size, i.bytes)) = some (some (.slice none 0 0), 1, 24) := by kernel_rfl
/-- a row of pieces of the call's own -/
def Mine (B : Nat) (w : World) (s : Sl) : Prop := w.ownsRow B 38 3 (.slice s.a s.n s.c) s.n (flatR fP s.l) ∧ s.l.length = s.n ∧ s.n ≤ 4398046511104
theorem Mine.later {B : Nat} {w w' : World} {s : Sl} (h : Mine B w s) (hb : Below w.heap.size w w') : Mine B w' s := ⟨own_below h.1 hb, h.2⟩
theorem Mine.grown {B B2 : Nat} {w w' : World} {s : Sl} {v : Value} {n : Nat} {xs : List Value} (h : Mine B w s) (ho : w.ownsRow B2 22 1 v n xs) (hg : w.grownBy w' v.ownBlock) : Mine B w' s := by
  refine ⟨h.1.kept hg ?_, h.2⟩
  rcases hq : (Value.slice s.a s.n s.c).ownBlock with _ | q
  · exact .inl rfl
  · refine .inr fun e => ?_
    obtain ⟨-, c1, h1⟩ := own_typS h.1 hq
    obtain ⟨-, c2, h2⟩ := own_typS ho e.symm
    exact absurd rfl (cells_ty h1 h2 (by decide))
theorem Mine.part {B : Nat} {w : World} {s : Sl} (h : Mine B w s) : Part w s := by
  obtain ⟨ho, hl, hn⟩ := h
  obtain ⟨ao, cap, e, hr, hnc, -⟩ := IsR.owned (f := fP) (s := 3) fP_len hl ho
  cases e
  exact ⟨hr, hnc, by omega⟩
theorem own_ls {B : Nat} {w : World} {v : Value} {xs : List Sl} {m : Nat} (h : w.ownsRow B 22 1 v m (flatR fS xs)) (hm : xs.length = m) (hp : ∀ s ∈ xs, Mine B w s) :
    ∃ ao cap, v = .slice ao m cap ∧ IsLs w ao m xs := by
  obtain ⟨ao, cap, e, hr, -, -⟩ := IsR.owned (f := fS) (s := 1) fS_len hm h
  exact ⟨ao, cap, e, hr, fun s hs => ⟨(hp s hs).part.1, (hp s hs).part.2.1⟩⟩
theorem joinS_len (ss : List Sl) (h : ss.length ≤ 40) : (joinS ss).1.length ≤ 163840 := by
  unfold joinS
  split
  · rename_i hb
    have h1 := (catL_ok hb).1
    split
    · have h2 := len_formP (catL ss)
      simp only
      omega
    · exact Nat.zero_le _
  · exact Nat.zero_le _

set_option maxRecDepth 100000 in
set_option maxHeartbeats 8000000 in
theorem joins_law (ao : Option Addr) (m c : Nat) (ss : List Sl) (w : World) (ht : Tab w) (h : IsLs w ao m ss) (hb : ∀ s ∈ ss, s.n * 32 ≤ 140737488355328) (hm : m ≤ 9223372036854775807) :
    Calls Tryd.prog 12 #[.slice ao m c] w fun e w' => e = .returned (.bool true) ∧ Below w.heap.size w w' := by
  obtain ⟨i0, hi0, hz0, hz1, hz2⟩ := info_parts infoSl
  have hl := h.1.1
  have HT := Lib.hid ht
  have HA := Lib.hid h
  have HG := Lib.hid hb
  have HB := Lib.hid (Below.refl w.heap.size w)
  clear ht h hb
  by_cases h40 : 40 < m
  · have HC := Lib.hid (known_any w HT.out)
    have h1 : (40 : Int) < (m : Int) := by omega
    go_enter Tryd.func12, Tryd.ntmps12
    go_wp2_with fail
    refine (HC.out).mono ?_; rintro e w1 ⟨rfl, hb1⟩
    have HB1 := Lib.hid hb1
    clear hb1
    go_wp2_with fail
    go_ret
    exact ⟨rfl, HB1.out⟩
  · have h1 : ¬ ((40 : Int) < (m : Int)) := by omega
    have hm40 : m ≤ 40 := by omega
    go_enter Tryd.func12, Tryd.ntmps12
    go_wp2_with fail
    go_loopw [3, 4] (fun s3 s wr => ∃ (j : Nat) (xs : List Sl), j ≤ m ∧ s = .int .i64 j ∧ xs.length = j ∧ xs.map Sl.l = (ss.take j).map Sl.l ∧ wr.ownsRow w.heap.size 22 1 s3 j (flatR fS xs) ∧ (∀ s ∈ xs, Mine w.heap.size wr s) ∧ Below w.heap.size w wr) (fun _ s _ => m - (intOf s).toNat)
    case atStart => exact ⟨0, [], Nat.zero_le _, rfl, rfl, rfl, ⟨rfl, .inl ⟨rfl, rfl⟩⟩, (fun _ h => nomatch h), HB.out⟩
    case round =>
      obtain ⟨j, xs, hj, rfl, hxl, hxe, hown, hmi, hbr⟩ := hrel
      generalize wr = w3 at *
      have HXL := Lib.hid hxl
      have HXE := Lib.hid hxe
      have HO := Lib.hid hown
      have HM := Lib.hid hmi
      have HB3 := Lib.hid hbr
      have hsz := hbr.size
      clear hxl hxe
      by_cases hlt : j < m
      · have hjs : j < ss.length := by omega
        have hj1 : (j : Int) < (m : Int) := by omega
        have hj0 : (0 : Int) ≤ (j : Int) := by omega
        obtain ⟨bb, off, rfl, hat⟩ := HA.out.at hbr hlt
        obtain ⟨c0, hr, hnn⟩ := hat hjs
        have hbn := HG.out _ (List.getElem_mem hjs)
        have HOW := Lib.hid (own_any ss[j].a ss[j].n ss[j].c ss[j].l w3 hr hnn hbn)
        have HTK := Lib.hid (show (ss.take (j + 1)).map Sl.l = (ss.take j).map Sl.l ++ [ss[j].l] by rw [List.take_succ_eq_append_getElem hjs, List.map_append]; rfl)
        have HS := Lib.hid hr.1
        have hsn := hr.1
        clear hat hr hnn hown hmi hbr
        generalize ss[j] = s at *
        obtain ⟨sa, sn, sc, sl⟩ := s
        have hsn2 : sl.length = sn := hsn
        have hbn2 : sn * 32 ≤ 140737488355328 := hbn
        have HTK2 := Lib.hid (show (ss.take (j + 1)).map Sl.l = (ss.take j).map Sl.l ++ [sl] from HTK.out)
        clear hsn hbn HTK HS
        subst hsn2
        go_wp2_with fail
        refine (HOW.out).mono ?_; rintro e w4 ⟨v4, rfl, hown4, hb4⟩
        have HB4 := Lib.hid (below_two HB3.out hb4)
        have HO4 := Lib.hid (own_below HO.out hb4)
        have hszw : w.heap.size ≤ w4.heap.size := by have := hb4.size; omega
        have hmine : ∀ s ∈ xs, Mine w.heap.size w4 s := fun s hs => (HM.out s hs).later hb4
        obtain ⟨ao4, cap4, rfl, -, -, -⟩ := IsR.owned (f := fP) (s := 3) fP_len (l := sl) (n := sl.length) rfl hown4
        have hnew : Mine w.heap.size w4 ⟨ao4, sl.length, cap4, sl⟩ := ⟨own_mono hown4 hsz, rfl, by show sl.length ≤ _; omega⟩
        have HMI := Lib.hid hmine
        have HNE := Lib.hid hnew
        clear hown4 hb4 hmine hnew HOW
        go_wp2_with (at_builtin; go_loud (refine wpList_append_own _ rfl _ _ 52 rfl w.heap.size 22 i0 (.slice none 0 0) 1 24 Tryd.underlying52 hi0 hz0 hz1 hz2 rfl (by decide) _ j (flatR fS xs) rfl (HO4.out.alloc _) ⟨w4.heap.size, 0, none⟩ 1 1 [_] rfl rfl (World.news_of_block (cs := #[_]) (t := 22) (fr := (0, 0)) (heap_alloc_new w4 _)) (by simp [Value.oneCell']) (by unfold maxLen; omega) (by omega) (by simp; omega) ?c1))
        case c1 =>
          intro v5 w5 hown5 hgrow5 hnil5
          have HO5 := Lib.hid (show w5.ownsRow w.heap.size 22 1 v5 (j + 1) (flatR fS (xs ++ [(⟨ao4, sl.length, cap4, sl⟩ : Sl)])) by
            rw [flatR_app, flatR_one]
            exact hown5)
          have HB5 := Lib.hid ((HB4.out.alloc hszw _).grown hgrow5 (by simp; omega) fun q hq => (own_typS HO4.out hq).1)
          have HM5 := Lib.hid (show ∀ s ∈ xs ++ [(⟨ao4, sl.length, cap4, sl⟩ : Sl)], Mine w.heap.size w5 s from fun s hs => by
            have key : ∀ {s}, Mine w.heap.size w4 s → Mine w.heap.size w5 s := fun hm => Mine.grown ⟨hm.1.alloc _, hm.2⟩ (HO4.out.alloc _) hgrow5
            rcases List.mem_append.1 hs with h | h
            · exact key (HMI.out s h)
            · obtain rfl := List.mem_singleton.1 h
              exact key HNE.out)
          have HXE5 := Lib.hid (show (xs ++ [(⟨ao4, sl.length, cap4, sl⟩ : Sl)]).map Sl.l = (ss.take (j + 1)).map Sl.l by rw [HTK2.out, List.map_append, HXE.out]; rfl)
          have HXL5 := Lib.hid (show (xs ++ [(⟨ao4, sl.length, cap4, sl⟩ : Sl)]).length = j + 1 by rw [List.length_append, HXL.out]; rfl)
          clear hown5 hgrow5 hnil5
          go_wp2_with fail
          go_roundw
          case rel => exact ⟨j + 1, _, by omega, by go_num, HXL5.out, HXE5.out, HO5.out, HM5.out, HB5.out⟩
          case measure => simp [intOf]; omega
      · obtain rfl : j = m := by omega
        have hxe : xs.map Sl.l = ss.map Sl.l := by rw [HXE.out, List.take_of_length_le (by omega)]
        obtain ⟨aox, capx, rfl, hls⟩ := own_ls hown HXL.out hmi
        have HX3 := Lib.hid hls
        have HXB := Lib.hid (fun s hs => (hmi s hs).part.2.2)
        have HA3 := Lib.hid (HA.out.later hbr)
        obtain ⟨r, x, hjs⟩ : ∃ r x, joinS ss = (r, x) := ⟨_, _, rfl⟩
        have hrl : r.length ≤ 9223372036854775807 := by
          have := joinS_len ss (by omega)
          rw [hjs] at this
          simp only at this
          omega
        have HJX := Lib.hid (show joinS xs = (r, x) by rw [joinS_eq, hxe, ← joinS_eq]; exact hjs)
        have HJS := Lib.hid hjs
        have HBN := Lib.hid (show ∀ s ∈ ss, s.n ≤ 9223372036854775807 from fun s hs => by have := HG.out s hs; omega)
        have HXEQ := Lib.hid hxe
        have hxl := HXL.out
        have HSS := Lib.hid (show sameL r r = true from decide_eq_true rfl)
        have hC := join_any aox j capx xs w3 HX3.out hm40 HXB.out
        rw [HJX.out] at hC
        have HC := Lib.hid hC
        clear hxe hls hown hmi hbr hjs hC HO HM
        have hj1 : ¬ ((j : Int) < (j : Int)) := by omega
        go_wp2_with fail
        refine (HC.out).mono ?_; rintro e w4 ⟨v4, rfl, hown4, hb4⟩
        have HB4 := Lib.hid (below_two HB3.out hb4)
        have HX4 := Lib.hid (HX3.out.later hb4)
        have HA4 := Lib.hid (HA3.out.later hb4)
        obtain ⟨ao4, cap4, rfl, hr4, -, -⟩ := IsR.owned (f := fP) (s := 3) fP_len (l := r) (n := r.length) rfl hown4
        have HR4 := Lib.hid hr4
        have hD := refJoin_any ao j c ss w4 HA4.out hm40 HBN.out
        rw [HJS.out] at hD
        have HD := Lib.hid hD
        clear hown4 hb4 hr4 HC hD
        go_wp2_with fail
        refine (HD.out).mono ?_; rintro e w5 ⟨v5, rfl, hown5, hb5⟩
        have HB5 := Lib.hid (below_two HB4.out hb5)
        have HX5 := Lib.hid (HX4.out.later hb5)
        have HA5 := Lib.hid (HA4.out.later hb5)
        have HR5 := Lib.hid (HR4.out.later hb5)
        obtain ⟨ao5, cap5, rfl, hr5, -, -⟩ := IsR.owned (f := fP) (s := 3) fP_len (l := r) (n := r.length) rfl hown5
        have HE := Lib.hid (refSame_to ao4 ao5 r.length cap4 r.length cap5 r r w5 HR5.out hr5 hrl HSS.out)
        clear hown5 hb5 hr5 HD
        go_wp2_with fail
        refine (HE.out).mono ?_; rintro e w6 ⟨rfl, hb6⟩
        have HB6 := Lib.hid (below_two HB5.out hb6)
        have HX6 := Lib.hid (HX5.out.later hb6)
        have HA6 := Lib.hid (HA5.out.later hb6)
        clear hb6 HE
        go_wp2_with fail
        go_loopw [9] (fun s wr => ∃ (i : Nat), i ≤ j ∧ s = .int .i64 i ∧ Below w6.heap.size w6 wr) (fun s _ => j - (intOf s).toNat)
        case atStart => exact ⟨0, Nat.zero_le _, rfl, Below.refl _ _⟩
        case round =>
          obtain ⟨i, hi, rfl, hbr⟩ := hrel
          generalize wr = w7 at *
          have HBR := Lib.hid hbr
          by_cases hlt : i < j
          · have his : i < ss.length := by omega
            have hix : i < xs.length := by omega
            have hi1 : (i : Int) < (j : Int) := by omega
            have hi0 : (0 : Int) ≤ (i : Int) := by omega
            obtain ⟨b1, o1, rfl, hat1⟩ := HX6.out.at hbr hlt
            obtain ⟨b2, o2, rfl, hat2⟩ := HA6.out.at hbr hlt
            obtain ⟨c1, hr1, -⟩ := hat1 hix
            obtain ⟨c2, hr2, -⟩ := hat2 his
            have hle : xs[i].l = ss[i].l := by
              have := congrArg (fun q => q[i]?) HXEQ.out
              simpa [hix, his] using this
            have HSM := Lib.hid (fun u (hu : Below w7.heap.size w7 u) => refSame_to xs[i].a ss[i].a xs[i].n xs[i].c ss[i].n ss[i].c xs[i].l ss[i].l u (hr1.later hu) (hr2.later hu) (HXB.out _ (List.getElem_mem hix)) (decide_eq_true hle))
            clear hat1 hat2 hr1 hr2 hle hbr
            generalize xs[i] = s at *
            generalize ss[i] = t at *
            obtain ⟨sa, sn, sc, sl⟩ := s
            obtain ⟨ta, tn, tc, tl⟩ := t
            go_wp2_with fail
            go_region_law (go_simp; go_at_call 21; (refine (HSM.out _ (by first | exact Below.refl _ _ | exact below_drewN (Below.refl _ _) _)).mono ?_); rintro e w8 ⟨rfl, hb8⟩; have HB8 := Lib.hid (show Below w6.heap.size w6 w8 from by first | exact below_two (below_drewN HBR.out _) hb8 | exact below_two HBR.out hb8); clear hb8)
            all_goals
              go_wp2_with fail
              go_roundw
              case rel => exact ⟨i + 1, by omega, by go_num, by first | exact HB8.out | exact below_drewN HB8.out _⟩
              case measure => simp [intOf]; omega
          · have hi2 : ¬ ((i : Int) < (j : Int)) := by omega
            have HB7 := Lib.hid (below_two HB6.out hbr)
            have HK := Lib.hid (known_any w7 (HT.out.below HB7.out))
            clear hbr
            go_wp2_with fail
            refine (HK.out).mono ?_; rintro e w8 ⟨rfl, hb8⟩
            have HB8 := Lib.hid (below_two HB7.out hb8)
            clear hb8
            go_wp2_with fail
            go_ret
            exact ⟨rfl, HB8.out⟩

end Go.Proofs.YtkocknhpnmkicaaDoor
