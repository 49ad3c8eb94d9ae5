/- Deltas: reading: the reference's one: its walk. -/
import Derived.Test.YtkocknhpnmkicaaDoorDyj
namespace Go.Proofs.YtkocknhpnmkicaaDoor
open Go.RowKit
set_option linter.unusedVariables false

def OnePost (s : ByteArray) (w : World) (e : Ending) (w' : World) : Prop :=
  match oneP s.data.toList with
  | some p => e = .returned (.tuple #[.agg #[.int .u8 p.k, .int .i64 p.n, .string p.t], .bool true]) ∧ Below w.heap.size w w'
  | none => (∃ k n t, e = .returned (.tuple #[.agg #[.int .u8 k, .int .i64 n, .string t], .bool false])) ∧ Below w.heap.size w w'
theorem OnePost.bad {s : ByteArray} {w : World} {w' : World} (h : oneP s.data.toList = none) (k n : Int) (t : ByteArray) (hb : Below w.heap.size w w') : OnePost s w (.returned (.tuple #[.agg #[.int .u8 k, .int .i64 n, .string t], .bool false])) w' := by
  unfold OnePost
  rw [h]
  exact ⟨⟨k, n, t, rfl⟩, hb⟩
theorem OnePost.good {s : ByteArray} {p : Pc} {w : World} {w' : World} (h : oneP s.data.toList = some p) (hb : Below w.heap.size w w') : OnePost s w (.returned (.tuple #[.agg #[.int .u8 p.k, .int .i64 p.n, .string p.t], .bool true])) w' := by
  unfold OnePost
  rw [h]
  exact ⟨rfl, hb⟩
/-- the word behind its first byte -/
def restL (s : ByteArray) : List UInt8 := s.data.toList.drop 1
theorem rest_len (s : ByteArray) : (restL s).length = s.size - 1 := by
  unfold restL
  rw [List.length_drop, show s.data.toList.length = s.size from Array.length_toList ..]
theorem rest_at (s : ByteArray) {j : Nat} (h : j < (restL s).length) : ∃ h' : 1 + j < s.size, (restL s)[j] = s[1 + j] := by
  have hl := rest_len s
  refine ⟨by omega, ?_⟩
  have h3 : ∀ (l : List UInt8) (hk : restL s = l) (hj : j < l.length), (restL s)[j] = l[j] := fun l hk hj => by subst hk; rfl
  have h4 : j < (s.data.toList.drop 1).length := h
  rw [h3 (s.data.toList.drop 1) rfl h4, List.getElem_drop, Array.getElem_toList]
  rfl
theorem word_first (s : ByteArray) (h : 0 < s.size) : s.data.toList = s[0] :: restL s := by
  have e : s.data.toList.length = s.size := Array.length_toList ..
  unfold restL
  have h2 : 0 < s.data.toList.length := by omega
  have := List.drop_eq_getElem_cons (l := s.data.toList) (i := 0) h2
  rw [List.drop_zero] at this
  conv => lhs; rw [this]
  rw [Array.getElem_toList]
  rfl
theorem rest_split (s : ByteArray) (h : 1 < s.size) : restL s = s[1] :: (restL s).drop 1 := by
  have hl := rest_len s
  obtain ⟨h', e⟩ := rest_at s (j := 0) (by omega)
  have := List.drop_eq_getElem_cons (l := restL s) (i := 0) (by omega)
  rw [List.drop_zero, e] at this
  exact this
theorem num_zero (s : ByteArray) (h : 1 < s.size) (h48 : s[1] = 48) : numP (restL s) = none := by
  rw [rest_split s h, numP_cons, if_pos h48]
theorem num_more (s : ByteArray) (h : 1 < s.size) (h48 : s[1] ≠ 48) : numP (restL s) = numG 0 (restL s) := by
  rw [rest_split s h, numP_cons, if_neg h48]
theorem one_short (s : ByteArray) (h : s.size < 2) : oneP s.data.toList = none := by
  have e : s.data.toList.length = s.size := Array.length_toList ..
  have hl := rest_len s
  by_cases h0 : 0 < s.size
  · rw [word_first s h0, List.eq_nil_of_length_eq_zero (l := restL s) (by omega), oneP_cons]
    by_cases h1 : s[0] = 43
    · rw [if_pos h1]; rfl
    rw [if_neg h1]
    by_cases h2 : s[0] = 61
    · rw [if_pos h2]; rfl
    rw [if_neg h2]
    by_cases h3 : s[0] = 45
    · rw [if_pos h3]; rfl
    · rw [if_neg h3]
  · rw [List.eq_nil_of_length_eq_zero (l := s.data.toList) (by omega)]
    rfl
/-- a block that lies below an owned row is not touched by an append to it -/
theorem blk_append {w w' : World} {B k n i : Nat} {t : TypeId} {v : Value} {xs : List Value} {o x : Obj} (h : w.ownsRow B t k v n xs) (hx : w.heap[i]? = some x) (hi : i < B) (hg : (w.alloc o).grownBy w' v.ownBlock) : w'.heap[i]? = some x := by
  have hl : i < w.heap.size := block_lt hx
  rw [hg.block i (by simp; omega) (fun e => by
    have := (own_typS h e.symm).1
    omega), Below.heap_alloc w o i hl]
  exact hx
theorem blk_app {w w1 w' : World} {B k n i : Nat} {t : TypeId} {v : Value} {xs : List Value} {x : Obj} (h : w.ownsRow B t k v n xs) (hi : i < B) (hx : w1.heap[i]? = some x) (hg : w1.grownBy w' v.ownBlock) : w'.heap[i]? = some x := by
  rw [hg.block i (block_lt hx) (fun e => by
    have := (own_typS h e.symm).1
    omega)]
  exact hx
theorem numG_stop {n : Nat} {c : UInt8} {l : List UInt8} (h : c < 48 ∨ 57 < c) : numG n (c :: l) = none := by
  rw [numG_cons, if_pos h]
def NumSt (wd : List UInt8) (i n : Nat) : Prop := (n ≤ 1048576 ∧ numG 0 wd = numG n (wd.drop i)) ∨ (1048576 < n ∧ n ≤ 10485769 ∧ numG 0 wd = none)
theorem numSt_stop {wd : List UInt8} {i n : Nat} (h : NumSt wd i n) (hi : i < wd.length) (hc : wd[i] < 48 ∨ 57 < wd[i]) : numG 0 wd = none := by
  rcases h with ⟨_, h⟩ | ⟨_, _, h⟩
  · rw [h, List.drop_eq_getElem_cons hi, numG_stop hc]
  · exact h
theorem numSt_big {wd : List UInt8} {i n : Nat} (h : NumSt wd i n) (hn : 1048576 < n) : numG 0 wd = none := by
  rcases h with ⟨h1, _⟩ | ⟨_, _, h⟩
  · omega
  · exact h
theorem numSt_le {wd : List UInt8} {i n : Nat} (h : NumSt wd i n) : n ≤ 10485769 := by
  rcases h with ⟨h1, _⟩ | ⟨_, h, _⟩ <;> omega
theorem numSt_step {wd : List UInt8} {i n : Nat} (h : NumSt wd i n) (hi : i < wd.length) (hn : n ≤ 1048576) (hc : ¬ (wd[i] < 48 ∨ 57 < wd[i])) : NumSt wd (i + 1) (10 * n + (wd[i].toNat - 48)) := by
  obtain ⟨d1, d2⟩ := dig_eq hc
  rcases h with ⟨_, h⟩ | ⟨_, _, h⟩
  · rw [List.drop_eq_getElem_cons hi, numG_cons, if_neg hc] at h
    by_cases hb : 1048576 < 10 * n + (wd[i].toNat - 48)
    · rw [if_pos hb] at h
      exact .inr ⟨hb, by omega, h⟩
    · rw [if_neg hb] at h
      exact .inl ⟨by omega, h⟩
  · omega
theorem numSt_end {wd : List UInt8} {i n : Nat} (h : NumSt wd i n) (hi : wd.length ≤ i) : numG 0 wd = if n ≤ 1048576 then some n else none := by
  rcases h with ⟨h1, h⟩ | ⟨h1, _, h⟩
  · rw [if_pos h1, h, List.drop_eq_nil_of_le hi, numG_nil]
  · rw [if_neg (by omega), h]
theorem hexP_done {wd t : List UInt8} {j : Nat} (hj : wd.length ≤ j) (h : hexP wd = (hexP (wd.drop j)).map (t ++ ·)) : hexP wd = some t := by
  rw [h, List.drop_eq_nil_of_le hj]
  show some (t ++ []) = some t
  rw [List.append_nil]
theorem halfR_lt {c : UInt8} {x : Nat} (h : halfP c = some x) : halfR c = x ∧ x < 16 := by
  rw [halfR_P] at h
  by_cases h1 : halfR c < 16
  · rw [if_pos h1] at h
    obtain rfl := Option.some.inj h
    exact ⟨rfl, h1⟩
  · rw [if_neg h1] at h; cases h
theorem halfR_16 {c : UInt8} (h : halfP c = none) : halfR c = 16 := by
  rw [halfR_P] at h
  by_cases h1 : halfR c < 16
  · rw [if_pos h1] at h; cases h
  · unfold halfR at h1 ⊢
    split at h1
    · omega
    · rename_i h2
      rw [if_neg h2]
      split at h1
      · omega
      · rename_i h3
        rw [if_neg h3]

set_option maxRecDepth 100000 in
set_option maxHeartbeats 8000000 in
theorem one_less (s : ByteArray) (w : World) (hs : s.size ≤ 1000000000) (h2 : s.size < 2) : Calls Tryd.prog 53 #[.string s] w (OnePost s w) := by
  obtain ⟨i0, hi0, hz0, hz1, hz2⟩ := info_parts infoU8
  have HZ := Lib.hid (block_new w (.cells #[.int .u8 0, .int .i64 0, .string ByteArray.empty] 38))
  have HB0 := Lib.hid ((Below.refl w.heap.size w).alloc (Nat.le_refl _) (.cells #[.int .u8 0, .int .i64 0, .string ByteArray.empty] 38))
  have h2' : (s.size : Int) < 2 := by omega
  have HNO := Lib.hid (one_short s h2)
  clear h2
  go_enter Tryd.func53, Tryd.ntmps53
  go_wp2_with fail
  refine bodyPost_ret (res3_tmp Tryd.results53 (Tryd.isAgg38 _) (Tryd.sizeOf38 _) rfl HZ.out) rfl ?_
  exact OnePost.bad HNO.out _ _ _ HB0.out

set_option maxRecDepth 100000 in
set_option maxHeartbeats 8000000 in
theorem one_hex (s : ByteArray) (w : World) (hs : s.size ≤ 1000000000) (h2 : ¬ s.size < 2) (h00 : 0 < s.size) (hc43 : s[0] = 43) : Calls Tryd.prog 53 #[.string s] w (OnePost s w) := by
  obtain ⟨i0, hi0, hz0, hz1, hz2⟩ := info_parts infoU8
  have HZ := Lib.hid (block_new w (.cells #[.int .u8 0, .int .i64 0, .string ByteArray.empty] 38))
  have HB0 := Lib.hid ((Below.refl w.heap.size w).alloc (Nat.le_refl _) (.cells #[.int .u8 0, .int .i64 0, .string ByteArray.empty] 38))
  have h2' : ¬ ((s.size : Int) < 2) := by omega
  have h01 : (0 : Int) < (s.size : Int) := by omega
  have h10 : 1 < s.size := by omega
  have h11 : (1 : Int) < (s.size : Int) := by omega
  have HW := Lib.hid (word_first s h00)
  have HRL := Lib.hid (rest_len s)
  go_enter Tryd.func53, Tryd.ntmps53
  go_upto_region 4 with (fail)
  generalize hw4 : World.alloc (World.alloc w _) _ = w4
  have hz4 : w4.heap[w.heap.size]? = some (.cells #[.int .u8 0, .int .i64 0, .string ByteArray.empty] 38 (0, 0)) := by
    rw [← hw4]
    exact block_alloc HZ.out _
  have hk4 : w4.heap[w.heap.size + 1]? = some (.cells #[.int .u8 2, .int .i64 0, .string ByteArray.empty] 38 (0, 0)) := by
    rw [← hw4]
    exact block_new' _ _ _ (by simp)
  have HB4 := Lib.hid (show Below w.heap.size w w4 by
    rw [← hw4]
    exact HB0.out.alloc (by simp) _)
  have hsz4 : w.heap.size + 2 ≤ w4.heap.size := by have := block_lt hk4; omega
  have HZ4 := Lib.hid hz4
  have HK4 := Lib.hid hk4
  clear hw4 HB0 HZ
  (have q0 := block_cell hk4 0; have q1 := block_cell hk4 1; have q2 := block_cell hk4 2; have f0 := block_free hk4 0; have f1 := block_free hk4 1; have f2 := block_free hk4 2; have hz := block_lt hk4; simp at q0 q1 q2)
  clear hz4 hk4
  have hcv : s[0].toNat = 43 := by rw [hc43]; rfl
  have HWD := Lib.hid (show oneP s.data.toList = (hexP (restL s)).map fun t => ⟨2, 0, ⟨t.toArray⟩⟩ by
    rw [HW.out, hc43, oneP_cons, if_pos rfl, if_neg (fun e => by have := HRL.out; rw [e] at this; simp at this; omega)])
  clear hc43
  go_wp2_with fail
  go_loopw [5, 6] (fun vb si wr => ∃ (t : List UInt8), 2 * t.length ≤ (restL s).length ∧ si = .int .i64 ((1 + 2 * t.length : Nat) : Int) ∧ wr.ownsRow (w.heap.size + 2) 5 1 vb t.length (Lib.byteCells t) ∧ hexP (restL s) = (hexP ((restL s).drop (2 * t.length))).map (t ++ ·) ∧ wr.heap[w.heap.size]? = some (.cells #[.int .u8 0, .int .i64 0, .string ByteArray.empty] 38 (0, 0)) ∧ wr.heap[w.heap.size + 1]? = some (.cells #[.int .u8 2, .int .i64 0, .string ByteArray.empty] 38 (0, 0)) ∧ Below w.heap.size w wr) (fun _ si _ => s.size + 2 - (intOf si).toNat)
  case atStart => exact ⟨[], Nat.zero_le _, rfl, ⟨rfl, .inl ⟨rfl, rfl⟩⟩, by simp, HZ4.out, HK4.out, HB4.out⟩
  case round =>
    obtain ⟨t, ht, rfl, hown, hhx, hzr, hkr, hbr⟩ := hrel
    obtain ⟨ao1, cap1, rfl, hconv⟩ := own_conv hown rfl
    obtain ⟨i, hi⟩ : ∃ i, i = 1 + 2 * t.length := ⟨_, rfl⟩
    rw [← hi]
    have HOW := Lib.hid hown
    have HCV := Lib.hid hconv
    have HHX := Lib.hid hhx
    have HZR := Lib.hid hzr
    have HKR := Lib.hid hkr
    have HBR := Lib.hid hbr
    have HI := Lib.hid hi
    have hrl := HRL.out
    have hsz := hbr.size
    have hszr : w.heap.size + 2 ≤ wr.heap.size := by have := block_lt hkr; omega
    clear hown hconv hhx hbr hi q0 q1 q2 f0 f1 f2 hz
    (have q0 := block_cell hzr 0; have q1 := block_cell hzr 1; have q2 := block_cell hzr 2; have f0 := block_free hzr 0; have f1 := block_free hzr 1; have f2 := block_free hzr 2; have hz := block_lt hzr; simp at q0 q1 q2)
    clear hzr hkr
    have hii0 : (0 : Int) ≤ (i : Int) := by omega
    have hi1p : (0 : Int) ≤ (i : Int) + 1 := by omega
    have htl : t.length ≤ 1000000000 := by have := HI.out; omega
    by_cases hlt : i < s.size
    · have hlt1 : (i : Int) < (s.size : Int) := by omega
      by_cases hodd : i + 1 = s.size
      · have hodd1 : ((i : Int) + 1 == (s.size : Int)) = true := by rw [beq_iff_eq]; omega
        have HNO := Lib.hid (show oneP s.data.toList = none by rw [HWD.out, hex_odd (by have := HI.out; omega) HHX.out]; rfl)
        clear hodd
        go_wp2_with fail
        (try simp only [Exit.inBlock, Exit.then]); refine bodyPost_ret (res3_tmp Tryd.results53 (Tryd.isAgg38 _) (Tryd.sizeOf38 _) rfl (stored3 HZR.out)) rfl ?_; exact OnePost.bad HNO.out _ _ _ (((HBR.out.setCell (p := ⟨w.heap.size, 0, none⟩) (Nat.le_refl _) _).setCell (p := ⟨w.heap.size, 1, none⟩) (Nat.le_refl _) _).setCell (p := ⟨w.heap.size, 2, none⟩) (Nat.le_refl _) _)
      · have hodd1 : ((i : Int) + 1 == (s.size : Int)) = false := by rw [beq_eq_false_iff_ne]; omega
        have hlt2 : i + 1 < s.size := by omega
        have hlt3 : (i : Int) + 1 < (s.size : Int) := by omega
        have hwr : IntKind.i64.wrap ((i : Int) + 1) = (i : Int) + 1 := by rw [IntKind.wrap_i64]; omega
        have htn : ((i : Int) + 1).toNat = i + 1 := rfl
        have HX1 := Lib.hid (show ∃ h : 2 * t.length < (restL s).length, (restL s)[2 * t.length] = s[i] from ⟨by have := HI.out; omega, by obtain ⟨h', e⟩ := rest_at s (j := 2 * t.length) (by have := HI.out; omega); rw [e]; congr 1; exact HI.out.symm⟩)
        have HX2 := Lib.hid (show ∃ h : 2 * t.length + 1 < (restL s).length, (restL s)[2 * t.length + 1] = s[i + 1] from ⟨by have := HI.out; omega, by obtain ⟨h', e⟩ := rest_at s (j := 2 * t.length + 1) (by have := HI.out; omega); rw [e]; congr 1; have := HI.out; omega⟩)
        have HH1 := Lib.hid (half_any s[i])
        have HH2 := Lib.hid (half_any s[i + 1])
        clear hodd
        rcases hx : halfP s[i] with _ | x
        · have HNO := Lib.hid (show oneP s.data.toList = none by
            obtain ⟨h', e⟩ := HX1.out
            rw [HWD.out, hex_one h' (by rw [e]; exact hx) HHX.out]; rfl)
          rw [halfR_16 hx] at HH1
          clear hx
          go_wp2_with fail
          refine (HH1.out _).mono ?_; rintro e w5 ⟨rfl, rfl⟩
          go_wp2_with fail
          (try simp only [Exit.inBlock, Exit.then]); refine bodyPost_ret (res3_tmp Tryd.results53 (Tryd.isAgg38 _) (Tryd.sizeOf38 _) rfl (stored3 HZR.out)) rfl ?_; exact OnePost.bad HNO.out _ _ _ (((HBR.out.setCell (p := ⟨w.heap.size, 0, none⟩) (Nat.le_refl _) _).setCell (p := ⟨w.heap.size, 1, none⟩) (Nat.le_refl _) _).setCell (p := ⟨w.heap.size, 2, none⟩) (Nat.le_refl _) _)
        · obtain ⟨hx1, hx2⟩ := halfR_lt hx
          rw [hx1] at HH1
          have hx3 : ¬ ((15 : Int) < (x : Int)) := by omega
          have HX := Lib.hid hx
          clear hx hx1
          rcases hy : halfP s[i + 1] with _ | y
          · have HNO := Lib.hid (show oneP s.data.toList = none by
              obtain ⟨h', e⟩ := HX2.out
              rw [HWD.out, hex_half h' (by rw [e]; exact hy) HHX.out]; rfl)
            rw [halfR_16 hy] at HH2
            clear hy
            go_wp2_with fail
            refine (HH1.out _).mono ?_; rintro e w5 ⟨rfl, rfl⟩
            go_wp2_with fail
            refine (HH2.out _).mono ?_; rintro e w6 ⟨rfl, rfl⟩
            go_wp2_with fail
            (try simp only [Exit.inBlock, Exit.then]); refine bodyPost_ret (res3_tmp Tryd.results53 (Tryd.isAgg38 _) (Tryd.sizeOf38 _) rfl (stored3 HZR.out)) rfl ?_; exact OnePost.bad HNO.out _ _ _ (((HBR.out.setCell (p := ⟨w.heap.size, 0, none⟩) (Nat.le_refl _) _).setCell (p := ⟨w.heap.size, 1, none⟩) (Nat.le_refl _) _).setCell (p := ⟨w.heap.size, 2, none⟩) (Nat.le_refl _) _)
          · obtain ⟨hy1, hy2⟩ := halfR_lt hy
            rw [hy1] at HH2
            have hy3 : ¬ ((15 : Int) < (y : Int)) := by omega
            have HNX := Lib.hid (show hexP (restL s) = (hexP ((restL s).drop (2 * t.length + 2))).map ((t ++ [UInt8.ofNat (16 * x + y)]) ++ ·) from by
              obtain ⟨g1, e1⟩ := HX1.out
              obtain ⟨g2, e2⟩ := HX2.out
              exact hex_two g2 (by rw [e1]; exact HX.out) (by rw [e2]; exact hy) HHX.out)
            have hwa : IntKind.u8.wrap (16 * (x : Int)) = 16 * (x : Int) := wrap8 _ (by omega) (by omega)
            have hwb : IntKind.u8.wrap (16 * (x : Int) + (y : Int)) = 16 * (x : Int) + (y : Int) := wrap8 _ (by omega) (by omega)
            clear hy hy1
            go_wp2_with fail
            refine (HH1.out _).mono ?_; rintro e w5 ⟨rfl, rfl⟩
            go_wp2_with fail
            refine (HH2.out _).mono ?_; rintro e w6 ⟨rfl, rfl⟩
            go_wp2_with fail
            go_region_law (first
              | (go_simp; go_at_call 63; (with_reducible refine (HH1.out _).mono ?_); rintro e w7 ⟨rfl, rfl⟩)
              | (go_simp; go_at_call 63; (with_reducible refine (HH2.out _).mono ?_); rintro e w7 ⟨rfl, rfl⟩)
              | (refine step_append_lies _ (by rfl) _ _ _ (by rfl) (w.heap.size + 2) 5 i0 _ 1 1 Tryd.underlying63 hi0 hz0 hz1 hz2 rfl (by decide) _ t.length _ (by rfl) ((HOW.out.alloc _).drew) ⟨wr.heap.size, 0, none⟩ 1 1 [_] (by rfl) (by rfl) (World.news_of_block (cs := #[_]) (t := 5) (fr := (0, 0)) (heap_alloc_new wr _)) (by simp [Value.oneCell']) (by omega) (by unfold maxLen; omega) (by omega) (by simp; omega) (wr.heap.size + 1) (by simp) ?_; intro gg cap w8 hown8 hgrow hat hlt'; have hbw : Below w.heap.size w w8 := (HBR.out.alloc hsz _).drew.grown hgrow (by simp; omega) fun q hq => by have := (own_typ1 HOW.out hq).1; omega))
            all_goals
              have hval : ((UInt8.ofNat (16 * x + y)).toNat : Int) = 16 * (x : Int) + (y : Int) := by
                rw [UInt8.toNat_ofNat']
                omega
              have HO8 := Lib.hid (show w8.ownsRow (w.heap.size + 2) 5 1 (.slice (some ⟨gg, 0, none⟩) (t.length + 1) cap) (t ++ [UInt8.ofNat (16 * x + y)]).length (Lib.byteCells (t ++ [UInt8.ofNat (16 * x + y)])) by
                rw [← byteCells_app, List.length_append]
                show w8.ownsRow (w.heap.size + 2) 5 1 _ (t.length + 1) (Lib.byteCells t ++ [.int .u8 ((UInt8.ofNat (16 * x + y)).toNat : Int)])
                rw [hval]
                exact hown8)
              have HZ8 := Lib.hid (blk_app HOW.out (by omega) (show (wr.alloc _).drew.heap[w.heap.size]? = _ from block_alloc HZR.out _) hgrow)
              have HK8 := Lib.hid (blk_app HOW.out (by omega) (show (wr.alloc _).drew.heap[w.heap.size + 1]? = _ from block_alloc HKR.out _) hgrow)
              have HB8 := Lib.hid hbw
              have hl8 : (t ++ [UInt8.ofNat (16 * x + y)]).length = t.length + 1 := by rw [List.length_append]; rfl
              have hwr2 : IntKind.i64.wrap ((i : Int) + 2) = (i : Int) + 2 := by rw [IntKind.wrap_i64]; omega
              clear hown8 hgrow hat hlt' hbw hval q0 q1 q2 f0 f1 f2 hz hwa hwb
              go_wp2_with fail
              go_roundw
              case rel => exact ⟨t ++ [UInt8.ofNat (16 * x + y)], by rw [hl8]; have := HI.out; omega, by rw [hl8]; have := HI.out; exact congrArg (Value.int .i64) (by omega), HO8.out, by rw [hl8]; exact HNX.out, HZ8.out, HK8.out, HB8.out⟩
              case measure => simp [intOf]; omega
    · have hlt1 : ¬ ((i : Int) < (s.size : Int)) := by omega
      have HYE := Lib.hid (show oneP s.data.toList = some ⟨2, 0, ⟨t.toArray⟩⟩ by
        rw [HWD.out, hexP_done (by have := HI.out; omega) HHX.out]; rfl)
      have hcv2 := HCV.out
      have k0 := block_cell HKR.out 0
      have k1 := block_cell HKR.out 1
      have k2 := block_cell HKR.out 2
      have g2 := block_free HKR.out 2
      simp at k0 k1 k2
      go_wp2_with fail
      (try simp only [Exit.inBlock, Exit.then])
      refine bodyPost_ret (res3_tmp Tryd.results53 (Tryd.isAgg38 _) (Tryd.sizeOf38 _) rfl (stored3 (block_setCell_other HZR.out (p := ⟨w.heap.size + 1, 2, none⟩) (by show w.heap.size + 1 ≠ w.heap.size; omega) _))) rfl ?_
      exact OnePost.good HYE.out ((((HBR.out.setCell (p := ⟨w.heap.size + 1, 2, none⟩) (by show w.heap.size ≤ w.heap.size + 1; omega) _).setCell (p := ⟨w.heap.size, 0, none⟩) (Nat.le_refl _) _).setCell (p := ⟨w.heap.size, 1, none⟩) (Nat.le_refl _) _).setCell (p := ⟨w.heap.size, 2, none⟩) (Nat.le_refl _) _)

set_option maxRecDepth 100000 in
set_option maxHeartbeats 8000000 in
theorem one_del (s : ByteArray) (w : World) (hs : s.size ≤ 1000000000) (h2 : ¬ s.size < 2) (h00 : 0 < s.size) (hc45 : s[0] = 45) : Calls Tryd.prog 53 #[.string s] w (OnePost s w) := by
  obtain ⟨i0, hi0, hz0, hz1, hz2⟩ := info_parts infoU8
  have HZ := Lib.hid (block_new w (.cells #[.int .u8 0, .int .i64 0, .string ByteArray.empty] 38))
  have HB0 := Lib.hid ((Below.refl w.heap.size w).alloc (Nat.le_refl _) (.cells #[.int .u8 0, .int .i64 0, .string ByteArray.empty] 38))
  have h2' : ¬ ((s.size : Int) < 2) := by omega
  have h01 : (0 : Int) < (s.size : Int) := by omega
  have h10 : 1 < s.size := by omega
  have h11 : (1 : Int) < (s.size : Int) := by omega
  have HW := Lib.hid (word_first s h00)
  have HRL := Lib.hid (rest_len s)
  go_enter Tryd.func53, Tryd.ntmps53
  go_upto_region 4 with (fail)
  generalize hw4 : World.alloc (World.alloc w _) _ = w4
  have hz4 : w4.heap[w.heap.size]? = some (.cells #[.int .u8 0, .int .i64 0, .string ByteArray.empty] 38 (0, 0)) := by
    rw [← hw4]
    exact block_alloc HZ.out _
  have hk4 : w4.heap[w.heap.size + 1]? = some (.cells #[.int .u8 2, .int .i64 0, .string ByteArray.empty] 38 (0, 0)) := by
    rw [← hw4]
    exact block_new' _ _ _ (by simp)
  have HB4 := Lib.hid (show Below w.heap.size w w4 by
    rw [← hw4]
    exact HB0.out.alloc (by simp) _)
  have hsz4 : w.heap.size + 2 ≤ w4.heap.size := by have := block_lt hk4; omega
  have HZ4 := Lib.hid hz4
  have HK4 := Lib.hid hk4
  clear hw4 HB0 HZ
  (have q0 := block_cell hk4 0; have q1 := block_cell hk4 1; have q2 := block_cell hk4 2; have f0 := block_free hk4 0; have f1 := block_free hk4 1; have f2 := block_free hk4 2; have hz := block_lt hk4; simp at q0 q1 q2)
  clear hz4 hk4
  have hc43 : s[0] ≠ 43 := fun e => by rw [hc45] at e; exact absurd e (by decide)
  have hcn : ((s[0].toNat : Int) == 43) = false := by
    rw [beq_eq_false_iff_ne]
    exact fun e => hc43 (UInt8.toNat_inj.1 (by show s[0].toNat = 43; omega))
  have z0 := block_cell HZ4.out 0
  have z1 := block_cell HZ4.out 1
  have z2 := block_cell HZ4.out 2
  have y0 := block_free HZ4.out 0
  have y1 := block_free HZ4.out 1
  have y2 := block_free HZ4.out 2
  simp at z0 z1 z2
  have hcv : s[0].toNat = 45 := by rw [hc45]; rfl
  have HWD := Lib.hid (show oneP s.data.toList = (numP (restL s)).map fun (n : Nat) => (⟨3, (n : Int), ⟨#[]⟩⟩ : Pc) by
    rw [HW.out, hc45, oneP_cons, if_neg (by decide), if_neg (by decide), if_pos rfl])
  clear hc45 hc43 hcn
  go_upto_region 19 with (fail)
  generalize hw6 : World.setCell _ _ _ = w6
  have hz6 : w6.heap[w.heap.size]? = some (.cells #[.int .u8 0, .int .i64 0, .string ByteArray.empty] 38 (0, 0)) := by
    rw [← hw6]
    exact block_setCell_other (block_setCell_other HZ4.out (p := ⟨w.heap.size + 1, 0, none⟩) (by show w.heap.size + 1 ≠ w.heap.size; omega) _) (p := ⟨w.heap.size + 1, 0, none⟩) (by show w.heap.size + 1 ≠ w.heap.size; omega) _
  have hk6 : w6.heap[w.heap.size + 1]? = some (.cells #[.int .u8 3, .int .i64 ((0 : Nat) : Int), .string ByteArray.empty] 38 (0, 0)) := by
    rw [← hw6]
    exact block_setCell (block_setCell HK4.out 0 _) 0 _
  have HB6 := Lib.hid (show Below w.heap.size w w6 by
    rw [← hw6]
    exact (HB4.out.setCell (p := ⟨w.heap.size + 1, 0, none⟩) (by show w.heap.size ≤ w.heap.size + 1; omega) _).setCell (p := ⟨w.heap.size + 1, 0, none⟩) (by show w.heap.size ≤ w.heap.size + 1; omega) _)
  have HZ6 := Lib.hid hz6
  have HK6 := Lib.hid hk6
  clear hw6 HZ4 HK4 HB4 hsz4 q0 q1 q2 f0 f1 f2 hz z0 z1 z2 y0 y1 y2
  (have q0 := block_cell hz6 0; have q1 := block_cell hz6 1; have q2 := block_cell hz6 2; have f0 := block_free hz6 0; have f1 := block_free hz6 1; have f2 := block_free hz6 2; have hz := block_lt hz6; simp at q0 q1 q2)
  clear hz6 hk6
  by_cases h48 : s[1] = 48
  · have hv48 : s[1].toNat = 48 := by rw [h48]; rfl
    have HNO := Lib.hid (show oneP s.data.toList = none by
      rw [HWD.out, num_zero s h10 h48]; rfl)
    clear h48
    go_wp2_with fail
    (try simp only [Exit.inBlock, Exit.then]); refine bodyPost_ret (res3_tmp Tryd.results53 (Tryd.isAgg38 _) (Tryd.sizeOf38 _) rfl (stored3 HZ6.out)) rfl ?_; exact OnePost.bad HNO.out _ _ _ (((HB6.out.setCell (p := ⟨w.heap.size, 0, none⟩) (Nat.le_refl _) _).setCell (p := ⟨w.heap.size, 1, none⟩) (Nat.le_refl _) _).setCell (p := ⟨w.heap.size, 2, none⟩) (Nat.le_refl _) _)
  · have hv48 : ((s[1].toNat : Int) == 48) = false := by
      rw [beq_eq_false_iff_ne]
      exact fun e => h48 (UInt8.toNat_inj.1 (by show s[1].toNat = 48; omega))
    have HNP := Lib.hid (show numP (restL s) = numG 0 (restL s) from num_more s h10 h48)
    clear h48
    go_wp2_with fail
    go_loopw [7] (fun si wr => ∃ (i n : Nat), 1 + i ≤ s.size ∧ si = .int .i64 ((1 + i : Nat) : Int) ∧ NumSt (restL s) i n ∧ wr.heap[w.heap.size]? = some (.cells #[.int .u8 0, .int .i64 0, .string ByteArray.empty] 38 (0, 0)) ∧ wr.heap[w.heap.size + 1]? = some (.cells #[.int .u8 3, .int .i64 (n : Int), .string ByteArray.empty] 38 (0, 0)) ∧ Below w.heap.size w wr) (fun si _ => s.size + 2 - (intOf si).toNat)
    case atStart => exact ⟨0, 0, by omega, rfl, .inl ⟨by omega, rfl⟩, HZ6.out, HK6.out, HB6.out⟩
    case round =>
      obtain ⟨j, n, hj, rfl, hst, hzr, hkr, hbr⟩ := hrel
      have hnb := numSt_le hst
      obtain ⟨i, hi⟩ : ∃ i, i = 1 + j := ⟨_, rfl⟩
      rw [← hi]
      have HST := Lib.hid hst
      have HZR := Lib.hid hzr
      have HKR := Lib.hid hkr
      have HBR := Lib.hid hbr
      have HI := Lib.hid hi
      have hsz := hbr.size
      have hrl := HRL.out
      clear hst hbr hi q0 q1 q2 f0 f1 f2 hz
      have k0 := block_cell hkr 0
      have k1 := block_cell hkr 1
      have k2 := block_cell hkr 2
      have g1 := block_free hkr 1
      simp at k0 k1 k2
      (have q0 := block_cell hzr 0; have q1 := block_cell hzr 1; have q2 := block_cell hzr 2; have f0 := block_free hzr 0; have f1 := block_free hzr 1; have f2 := block_free hzr 2; have hz := block_lt hzr; simp at q0 q1 q2)
      clear hzr hkr
      have hii0 : (0 : Int) ≤ (i : Int) := by omega
      by_cases hlt : i < s.size
      · have hlt1 : (i : Int) < (s.size : Int) := by omega
        have HX1 := Lib.hid (show ∃ h : j < (restL s).length, (restL s)[j] = s[i] from ⟨by have := HI.out; omega, by obtain ⟨h', e⟩ := rest_at s (j := j) (by have := HI.out; omega); rw [e]; congr 1; have := HI.out; omega⟩)
        have hb := u8lt s[i]
        by_cases hd1 : s[i].toNat < 48
        · have hd1' : (s[i].toNat : Int) < 48 := by omega
          have HNO := Lib.hid (show oneP s.data.toList = none by
            obtain ⟨h', e⟩ := HX1.out
            rw [HWD.out, HNP.out, numSt_stop HST.out h' (.inl (by rw [e, UInt8.lt_iff_toNat_lt]; exact hd1))]; rfl)
          go_wp2_with fail
          (try simp only [Exit.inBlock, Exit.then]); refine bodyPost_ret (res3_tmp Tryd.results53 (Tryd.isAgg38 _) (Tryd.sizeOf38 _) rfl (stored3 HZR.out)) rfl ?_; exact OnePost.bad HNO.out _ _ _ (((HBR.out.setCell (p := ⟨w.heap.size, 0, none⟩) (Nat.le_refl _) _).setCell (p := ⟨w.heap.size, 1, none⟩) (Nat.le_refl _) _).setCell (p := ⟨w.heap.size, 2, none⟩) (Nat.le_refl _) _)
        · have hd1' : ¬ ((s[i].toNat : Int) < 48) := by omega
          by_cases hd2 : 57 < s[i].toNat
          · have hd2' : (57 : Int) < (s[i].toNat : Int) := by omega
            have HNO := Lib.hid (show oneP s.data.toList = none by
              obtain ⟨h', e⟩ := HX1.out
              rw [HWD.out, HNP.out, numSt_stop HST.out h' (.inr (by rw [e, UInt8.lt_iff_toNat_lt]; exact hd2))]; rfl)
            go_wp2_with fail
            (try simp only [Exit.inBlock, Exit.then]); refine bodyPost_ret (res3_tmp Tryd.results53 (Tryd.isAgg38 _) (Tryd.sizeOf38 _) rfl (stored3 HZR.out)) rfl ?_; exact OnePost.bad HNO.out _ _ _ (((HBR.out.setCell (p := ⟨w.heap.size, 0, none⟩) (Nat.le_refl _) _).setCell (p := ⟨w.heap.size, 1, none⟩) (Nat.le_refl _) _).setCell (p := ⟨w.heap.size, 2, none⟩) (Nat.le_refl _) _)
          · have hd2' : ¬ ((57 : Int) < (s[i].toNat : Int)) := by omega
            by_cases hd3 : 1048576 < n
            · have hd3' : (1048576 : Int) < (n : Int) := by omega
              have HNO := Lib.hid (show oneP s.data.toList = none by
                rw [HWD.out, HNP.out, numSt_big HST.out hd3]; rfl)
              go_wp2_with fail
              (try simp only [Exit.inBlock, Exit.then]); refine bodyPost_ret (res3_tmp Tryd.results53 (Tryd.isAgg38 _) (Tryd.sizeOf38 _) rfl (stored3 HZR.out)) rfl ?_; exact OnePost.bad HNO.out _ _ _ (((HBR.out.setCell (p := ⟨w.heap.size, 0, none⟩) (Nat.le_refl _) _).setCell (p := ⟨w.heap.size, 1, none⟩) (Nat.le_refl _) _).setCell (p := ⟨w.heap.size, 2, none⟩) (Nat.le_refl _) _)
            · have hd3' : ¬ ((1048576 : Int) < (n : Int)) := by omega
              have HNX := Lib.hid (show NumSt (restL s) (j + 1) (10 * n + (s[i].toNat - 48)) by
                obtain ⟨h', e⟩ := HX1.out
                have := numSt_step HST.out h' (by omega) (by rw [e]; rw [UInt8.lt_iff_toNat_lt, UInt8.lt_iff_toNat_lt]; rintro (h | h); exact hd1 h; exact hd2 h)
                rw [e] at this
                exact this)
              have hm : IntKind.i64.wrap (10 * (n : Int)) = 10 * (n : Int) := by rw [IntKind.wrap_i64]; omega
              have hu : IntKind.u8.wrap ((s[i].toNat : Int) - 48) = (s[i].toNat : Int) - 48 := wrap8 _ (by omega) (by omega)
              have hv : IntKind.i64.wrap ((s[i].toNat : Int) - 48) = (s[i].toNat : Int) - 48 := by rw [IntKind.wrap_i64]; omega
              have ha : IntKind.i64.wrap (10 * (n : Int) + ((s[i].toNat : Int) - 48)) = 10 * (n : Int) + ((s[i].toNat : Int) - 48) := by rw [IntKind.wrap_i64]; omega
              have hwr1 : IntKind.i64.wrap ((i : Int) + 1) = (i : Int) + 1 := by rw [IntKind.wrap_i64]; omega
              go_wp2_with fail
              go_region
              all_goals
                have HZ8 := Lib.hid (block_setCell_other HZR.out (p := ⟨w.heap.size + 1, 1, none⟩) (by show w.heap.size + 1 ≠ w.heap.size; omega) (.int .i64 (10 * (n : Int) + ((s[i].toNat : Int) - 48))))
                have HK8 := Lib.hid (block_setCell HKR.out 1 (.int .i64 (10 * (n : Int) + ((s[i].toNat : Int) - 48))))
                have HB8 := Lib.hid (HBR.out.setCell (p := ⟨w.heap.size + 1, 1, none⟩) (by show w.heap.size ≤ w.heap.size + 1; omega) (.int .i64 (10 * (n : Int) + ((s[i].toNat : Int) - 48))))
                have hn8 : ((10 * n + (s[i].toNat - 48) : Nat) : Int) = 10 * (n : Int) + ((s[i].toNat : Int) - 48) := by omega
                clear k0 k1 k2 g1 q0 q1 q2 f0 f1 f2 hz hm hu hv ha
                go_wp2_with fail
                go_roundw
                case rel => exact ⟨j + 1, 10 * n + (s[i].toNat - 48), by have := HI.out; omega, by have := HI.out; exact congrArg (Value.int .i64) (by first | omega | (rw [IntKind.wrap_i64]; omega)), HNX.out, HZ8.out, by rw [hn8]; exact HK8.out, HB8.out.drew⟩
                case measure => simp [intOf]; omega
      · have hlt1 : ¬ ((i : Int) < (s.size : Int)) := by omega
        have hend := numSt_end HST.out (by have := HI.out; omega)
        by_cases hnn : n ≤ 1048576
        · have hnn' : (n : Int) ≤ 1048576 := by omega
          have HYE := Lib.hid (show oneP s.data.toList = some ⟨3, n, ⟨#[]⟩⟩ by
            rw [HWD.out, HNP.out, hend, if_pos hnn]; rfl)
          clear hend
          go_wp2_with fail
          go_region
          all_goals
            go_wp2_with fail
            (try simp only [Exit.inBlock, Exit.then])
            refine bodyPost_ret (res3_tmp Tryd.results53 (Tryd.isAgg38 _) (Tryd.sizeOf38 _) rfl (show (World.drew _).heap[w.heap.size]? = _ from stored3 HZR.out)) rfl ?_
            exact OnePost.good HYE.out (((HBR.out.setCell (p := ⟨w.heap.size, 0, none⟩) (Nat.le_refl _) _).setCell (p := ⟨w.heap.size, 1, none⟩) (Nat.le_refl _) _).setCell (p := ⟨w.heap.size, 2, none⟩) (Nat.le_refl _) _).drew
        · have hnn' : ¬ ((n : Int) ≤ 1048576) := by omega
          have hnd := decide_eq_false hnn'
          have HNO := Lib.hid (show oneP s.data.toList = none by
            rw [HWD.out, HNP.out, hend, if_neg hnn]; rfl)
          clear hend
          go_wp2_with fail
          go_region
          all_goals
            go_wp2_with fail
            (try simp only [Exit.inBlock, Exit.then]); refine bodyPost_ret (res3_tmp Tryd.results53 (Tryd.isAgg38 _) (Tryd.sizeOf38 _) rfl (show (World.drew _).heap[w.heap.size]? = _ from stored3 HZR.out)) rfl ?_; exact OnePost.bad HNO.out _ _ _ (((HBR.out.setCell (p := ⟨w.heap.size, 0, none⟩) (Nat.le_refl _) _).setCell (p := ⟨w.heap.size, 1, none⟩) (Nat.le_refl _) _).setCell (p := ⟨w.heap.size, 2, none⟩) (Nat.le_refl _) _).drew


set_option maxRecDepth 100000 in
set_option maxHeartbeats 8000000 in
theorem one_ret (s : ByteArray) (w : World) (hs : s.size ≤ 1000000000) (h2 : ¬ s.size < 2) (h00 : 0 < s.size) (hc61 : s[0] = 61) : Calls Tryd.prog 53 #[.string s] w (OnePost s w) := by
  obtain ⟨i0, hi0, hz0, hz1, hz2⟩ := info_parts infoU8
  have HZ := Lib.hid (block_new w (.cells #[.int .u8 0, .int .i64 0, .string ByteArray.empty] 38))
  have HB0 := Lib.hid ((Below.refl w.heap.size w).alloc (Nat.le_refl _) (.cells #[.int .u8 0, .int .i64 0, .string ByteArray.empty] 38))
  have h2' : ¬ ((s.size : Int) < 2) := by omega
  have h01 : (0 : Int) < (s.size : Int) := by omega
  have h10 : 1 < s.size := by omega
  have h11 : (1 : Int) < (s.size : Int) := by omega
  have HW := Lib.hid (word_first s h00)
  have HRL := Lib.hid (rest_len s)
  go_enter Tryd.func53, Tryd.ntmps53
  go_upto_region 4 with (fail)
  generalize hw4 : World.alloc (World.alloc w _) _ = w4
  have hz4 : w4.heap[w.heap.size]? = some (.cells #[.int .u8 0, .int .i64 0, .string ByteArray.empty] 38 (0, 0)) := by
    rw [← hw4]
    exact block_alloc HZ.out _
  have hk4 : w4.heap[w.heap.size + 1]? = some (.cells #[.int .u8 2, .int .i64 0, .string ByteArray.empty] 38 (0, 0)) := by
    rw [← hw4]
    exact block_new' _ _ _ (by simp)
  have HB4 := Lib.hid (show Below w.heap.size w w4 by
    rw [← hw4]
    exact HB0.out.alloc (by simp) _)
  have hsz4 : w.heap.size + 2 ≤ w4.heap.size := by have := block_lt hk4; omega
  have HZ4 := Lib.hid hz4
  have HK4 := Lib.hid hk4
  clear hw4 HB0 HZ
  (have q0 := block_cell hk4 0; have q1 := block_cell hk4 1; have q2 := block_cell hk4 2; have f0 := block_free hk4 0; have f1 := block_free hk4 1; have f2 := block_free hk4 2; have hz := block_lt hk4; simp at q0 q1 q2)
  clear hz4 hk4
  have hc43 : s[0] ≠ 43 := fun e => by rw [hc61] at e; exact absurd e (by decide)
  have hc45 : s[0] ≠ 45 := fun e => by rw [hc61] at e; exact absurd e (by decide)
  have hcn : ((s[0].toNat : Int) == 43) = false := by
    rw [beq_eq_false_iff_ne]
    exact fun e => hc43 (UInt8.toNat_inj.1 (by show s[0].toNat = 43; omega))
  have z0 := block_cell HZ4.out 0
  have z1 := block_cell HZ4.out 1
  have z2 := block_cell HZ4.out 2
  have y0 := block_free HZ4.out 0
  have y1 := block_free HZ4.out 1
  have y2 := block_free HZ4.out 2
  simp at z0 z1 z2
  have hcn2 : ((s[0].toNat : Int) == 45) = false := by
    rw [beq_eq_false_iff_ne]
    exact fun e => hc45 (UInt8.toNat_inj.1 (by show s[0].toNat = 45; omega))
  have hcv : s[0].toNat = 61 := by rw [hc61]; rfl
  have HWD := Lib.hid (show oneP s.data.toList = (numP (restL s)).map fun (n : Nat) => (⟨1, (n : Int), ⟨#[]⟩⟩ : Pc) by
    rw [HW.out, hc61, oneP_cons, if_neg (by decide), if_pos rfl])
  clear hc61 hc43 hcn hcn2 hc45
  go_upto_region 19 with (fail)
  generalize hw6 : World.setCell _ _ _ = w6
  have hz6 : w6.heap[w.heap.size]? = some (.cells #[.int .u8 0, .int .i64 0, .string ByteArray.empty] 38 (0, 0)) := by
    rw [← hw6]
    exact block_setCell_other HZ4.out (p := ⟨w.heap.size + 1, 0, none⟩) (by show w.heap.size + 1 ≠ w.heap.size; omega) _
  have hk6 : w6.heap[w.heap.size + 1]? = some (.cells #[.int .u8 1, .int .i64 ((0 : Nat) : Int), .string ByteArray.empty] 38 (0, 0)) := by
    rw [← hw6]
    exact block_setCell HK4.out 0 _
  have HB6 := Lib.hid (show Below w.heap.size w w6 by
    rw [← hw6]
    exact HB4.out.setCell (p := ⟨w.heap.size + 1, 0, none⟩) (by show w.heap.size ≤ w.heap.size + 1; omega) _)
  have HZ6 := Lib.hid hz6
  have HK6 := Lib.hid hk6
  clear hw6 HZ4 HK4 HB4 hsz4 q0 q1 q2 f0 f1 f2 hz z0 z1 z2 y0 y1 y2
  (have q0 := block_cell hz6 0; have q1 := block_cell hz6 1; have q2 := block_cell hz6 2; have f0 := block_free hz6 0; have f1 := block_free hz6 1; have f2 := block_free hz6 2; have hz := block_lt hz6; simp at q0 q1 q2)
  clear hz6 hk6
  by_cases h48 : s[1] = 48
  · have hv48 : s[1].toNat = 48 := by rw [h48]; rfl
    have HNO := Lib.hid (show oneP s.data.toList = none by
      rw [HWD.out, num_zero s h10 h48]; rfl)
    clear h48
    go_wp2_with fail
    (try simp only [Exit.inBlock, Exit.then]); refine bodyPost_ret (res3_tmp Tryd.results53 (Tryd.isAgg38 _) (Tryd.sizeOf38 _) rfl (stored3 HZ6.out)) rfl ?_; exact OnePost.bad HNO.out _ _ _ (((HB6.out.setCell (p := ⟨w.heap.size, 0, none⟩) (Nat.le_refl _) _).setCell (p := ⟨w.heap.size, 1, none⟩) (Nat.le_refl _) _).setCell (p := ⟨w.heap.size, 2, none⟩) (Nat.le_refl _) _)
  · have hv48 : ((s[1].toNat : Int) == 48) = false := by
      rw [beq_eq_false_iff_ne]
      exact fun e => h48 (UInt8.toNat_inj.1 (by show s[1].toNat = 48; omega))
    have HNP := Lib.hid (show numP (restL s) = numG 0 (restL s) from num_more s h10 h48)
    clear h48
    go_wp2_with fail
    go_loopw [7] (fun si wr => ∃ (i n : Nat), 1 + i ≤ s.size ∧ si = .int .i64 ((1 + i : Nat) : Int) ∧ NumSt (restL s) i n ∧ wr.heap[w.heap.size]? = some (.cells #[.int .u8 0, .int .i64 0, .string ByteArray.empty] 38 (0, 0)) ∧ wr.heap[w.heap.size + 1]? = some (.cells #[.int .u8 1, .int .i64 (n : Int), .string ByteArray.empty] 38 (0, 0)) ∧ Below w.heap.size w wr) (fun si _ => s.size + 2 - (intOf si).toNat)
    case atStart => exact ⟨0, 0, by omega, rfl, .inl ⟨by omega, rfl⟩, HZ6.out, HK6.out, HB6.out⟩
    case round =>
      obtain ⟨j, n, hj, rfl, hst, hzr, hkr, hbr⟩ := hrel
      have hnb := numSt_le hst
      obtain ⟨i, hi⟩ : ∃ i, i = 1 + j := ⟨_, rfl⟩
      rw [← hi]
      have HST := Lib.hid hst
      have HZR := Lib.hid hzr
      have HKR := Lib.hid hkr
      have HBR := Lib.hid hbr
      have HI := Lib.hid hi
      have hsz := hbr.size
      have hrl := HRL.out
      clear hst hbr hi q0 q1 q2 f0 f1 f2 hz
      have k0 := block_cell hkr 0
      have k1 := block_cell hkr 1
      have k2 := block_cell hkr 2
      have g1 := block_free hkr 1
      simp at k0 k1 k2
      (have q0 := block_cell hzr 0; have q1 := block_cell hzr 1; have q2 := block_cell hzr 2; have f0 := block_free hzr 0; have f1 := block_free hzr 1; have f2 := block_free hzr 2; have hz := block_lt hzr; simp at q0 q1 q2)
      clear hzr hkr
      have hii0 : (0 : Int) ≤ (i : Int) := by omega
      by_cases hlt : i < s.size
      · have hlt1 : (i : Int) < (s.size : Int) := by omega
        have HX1 := Lib.hid (show ∃ h : j < (restL s).length, (restL s)[j] = s[i] from ⟨by have := HI.out; omega, by obtain ⟨h', e⟩ := rest_at s (j := j) (by have := HI.out; omega); rw [e]; congr 1; have := HI.out; omega⟩)
        have hb := u8lt s[i]
        by_cases hd1 : s[i].toNat < 48
        · have hd1' : (s[i].toNat : Int) < 48 := by omega
          have HNO := Lib.hid (show oneP s.data.toList = none by
            obtain ⟨h', e⟩ := HX1.out
            rw [HWD.out, HNP.out, numSt_stop HST.out h' (.inl (by rw [e, UInt8.lt_iff_toNat_lt]; exact hd1))]; rfl)
          go_wp2_with fail
          (try simp only [Exit.inBlock, Exit.then]); refine bodyPost_ret (res3_tmp Tryd.results53 (Tryd.isAgg38 _) (Tryd.sizeOf38 _) rfl (stored3 HZR.out)) rfl ?_; exact OnePost.bad HNO.out _ _ _ (((HBR.out.setCell (p := ⟨w.heap.size, 0, none⟩) (Nat.le_refl _) _).setCell (p := ⟨w.heap.size, 1, none⟩) (Nat.le_refl _) _).setCell (p := ⟨w.heap.size, 2, none⟩) (Nat.le_refl _) _)
        · have hd1' : ¬ ((s[i].toNat : Int) < 48) := by omega
          by_cases hd2 : 57 < s[i].toNat
          · have hd2' : (57 : Int) < (s[i].toNat : Int) := by omega
            have HNO := Lib.hid (show oneP s.data.toList = none by
              obtain ⟨h', e⟩ := HX1.out
              rw [HWD.out, HNP.out, numSt_stop HST.out h' (.inr (by rw [e, UInt8.lt_iff_toNat_lt]; exact hd2))]; rfl)
            go_wp2_with fail
            (try simp only [Exit.inBlock, Exit.then]); refine bodyPost_ret (res3_tmp Tryd.results53 (Tryd.isAgg38 _) (Tryd.sizeOf38 _) rfl (stored3 HZR.out)) rfl ?_; exact OnePost.bad HNO.out _ _ _ (((HBR.out.setCell (p := ⟨w.heap.size, 0, none⟩) (Nat.le_refl _) _).setCell (p := ⟨w.heap.size, 1, none⟩) (Nat.le_refl _) _).setCell (p := ⟨w.heap.size, 2, none⟩) (Nat.le_refl _) _)
          · have hd2' : ¬ ((57 : Int) < (s[i].toNat : Int)) := by omega
            by_cases hd3 : 1048576 < n
            · have hd3' : (1048576 : Int) < (n : Int) := by omega
              have HNO := Lib.hid (show oneP s.data.toList = none by
                rw [HWD.out, HNP.out, numSt_big HST.out hd3]; rfl)
              go_wp2_with fail
              (try simp only [Exit.inBlock, Exit.then]); refine bodyPost_ret (res3_tmp Tryd.results53 (Tryd.isAgg38 _) (Tryd.sizeOf38 _) rfl (stored3 HZR.out)) rfl ?_; exact OnePost.bad HNO.out _ _ _ (((HBR.out.setCell (p := ⟨w.heap.size, 0, none⟩) (Nat.le_refl _) _).setCell (p := ⟨w.heap.size, 1, none⟩) (Nat.le_refl _) _).setCell (p := ⟨w.heap.size, 2, none⟩) (Nat.le_refl _) _)
            · have hd3' : ¬ ((1048576 : Int) < (n : Int)) := by omega
              have HNX := Lib.hid (show NumSt (restL s) (j + 1) (10 * n + (s[i].toNat - 48)) by
                obtain ⟨h', e⟩ := HX1.out
                have := numSt_step HST.out h' (by omega) (by rw [e]; rw [UInt8.lt_iff_toNat_lt, UInt8.lt_iff_toNat_lt]; rintro (h | h); exact hd1 h; exact hd2 h)
                rw [e] at this
                exact this)
              have hm : IntKind.i64.wrap (10 * (n : Int)) = 10 * (n : Int) := by rw [IntKind.wrap_i64]; omega
              have hu : IntKind.u8.wrap ((s[i].toNat : Int) - 48) = (s[i].toNat : Int) - 48 := wrap8 _ (by omega) (by omega)
              have hv : IntKind.i64.wrap ((s[i].toNat : Int) - 48) = (s[i].toNat : Int) - 48 := by rw [IntKind.wrap_i64]; omega
              have ha : IntKind.i64.wrap (10 * (n : Int) + ((s[i].toNat : Int) - 48)) = 10 * (n : Int) + ((s[i].toNat : Int) - 48) := by rw [IntKind.wrap_i64]; omega
              have hwr1 : IntKind.i64.wrap ((i : Int) + 1) = (i : Int) + 1 := by rw [IntKind.wrap_i64]; omega
              go_wp2_with fail
              go_region
              all_goals
                have HZ8 := Lib.hid (block_setCell_other HZR.out (p := ⟨w.heap.size + 1, 1, none⟩) (by show w.heap.size + 1 ≠ w.heap.size; omega) (.int .i64 (10 * (n : Int) + ((s[i].toNat : Int) - 48))))
                have HK8 := Lib.hid (block_setCell HKR.out 1 (.int .i64 (10 * (n : Int) + ((s[i].toNat : Int) - 48))))
                have HB8 := Lib.hid (HBR.out.setCell (p := ⟨w.heap.size + 1, 1, none⟩) (by show w.heap.size ≤ w.heap.size + 1; omega) (.int .i64 (10 * (n : Int) + ((s[i].toNat : Int) - 48))))
                have hn8 : ((10 * n + (s[i].toNat - 48) : Nat) : Int) = 10 * (n : Int) + ((s[i].toNat : Int) - 48) := by omega
                clear k0 k1 k2 g1 q0 q1 q2 f0 f1 f2 hz hm hu hv ha
                go_wp2_with fail
                go_roundw
                case rel => exact ⟨j + 1, 10 * n + (s[i].toNat - 48), by have := HI.out; omega, by have := HI.out; exact congrArg (Value.int .i64) (by first | omega | (rw [IntKind.wrap_i64]; omega)), HNX.out, HZ8.out, by rw [hn8]; exact HK8.out, HB8.out.drew⟩
                case measure => simp [intOf]; omega
      · have hlt1 : ¬ ((i : Int) < (s.size : Int)) := by omega
        have hend := numSt_end HST.out (by have := HI.out; omega)
        by_cases hnn : n ≤ 1048576
        · have hnn' : (n : Int) ≤ 1048576 := by omega
          have HYE := Lib.hid (show oneP s.data.toList = some ⟨1, n, ⟨#[]⟩⟩ by
            rw [HWD.out, HNP.out, hend, if_pos hnn]; rfl)
          clear hend
          go_wp2_with fail
          go_region
          all_goals
            go_wp2_with fail
            (try simp only [Exit.inBlock, Exit.then])
            refine bodyPost_ret (res3_tmp Tryd.results53 (Tryd.isAgg38 _) (Tryd.sizeOf38 _) rfl (show (World.drew _).heap[w.heap.size]? = _ from stored3 HZR.out)) rfl ?_
            exact OnePost.good HYE.out (((HBR.out.setCell (p := ⟨w.heap.size, 0, none⟩) (Nat.le_refl _) _).setCell (p := ⟨w.heap.size, 1, none⟩) (Nat.le_refl _) _).setCell (p := ⟨w.heap.size, 2, none⟩) (Nat.le_refl _) _).drew
        · have hnn' : ¬ ((n : Int) ≤ 1048576) := by omega
          have hnd := decide_eq_false hnn'
          have HNO := Lib.hid (show oneP s.data.toList = none by
            rw [HWD.out, HNP.out, hend, if_neg hnn]; rfl)
          clear hend
          go_wp2_with fail
          go_region
          all_goals
            go_wp2_with fail
            (try simp only [Exit.inBlock, Exit.then]); refine bodyPost_ret (res3_tmp Tryd.results53 (Tryd.isAgg38 _) (Tryd.sizeOf38 _) rfl (show (World.drew _).heap[w.heap.size]? = _ from stored3 HZR.out)) rfl ?_; exact OnePost.bad HNO.out _ _ _ (((HBR.out.setCell (p := ⟨w.heap.size, 0, none⟩) (Nat.le_refl _) _).setCell (p := ⟨w.heap.size, 1, none⟩) (Nat.le_refl _) _).setCell (p := ⟨w.heap.size, 2, none⟩) (Nat.le_refl _) _).drew


set_option maxRecDepth 100000 in
set_option maxHeartbeats 8000000 in
theorem one_bad (s : ByteArray) (w : World) (hs : s.size ≤ 1000000000) (h2 : ¬ s.size < 2) (h00 : 0 < s.size) (hc43 : s[0] ≠ 43) (hc45 : s[0] ≠ 45) (hc61 : s[0] ≠ 61) : Calls Tryd.prog 53 #[.string s] w (OnePost s w) := by
  obtain ⟨i0, hi0, hz0, hz1, hz2⟩ := info_parts infoU8
  have HZ := Lib.hid (block_new w (.cells #[.int .u8 0, .int .i64 0, .string ByteArray.empty] 38))
  have HB0 := Lib.hid ((Below.refl w.heap.size w).alloc (Nat.le_refl _) (.cells #[.int .u8 0, .int .i64 0, .string ByteArray.empty] 38))
  have h2' : ¬ ((s.size : Int) < 2) := by omega
  have h01 : (0 : Int) < (s.size : Int) := by omega
  have h10 : 1 < s.size := by omega
  have h11 : (1 : Int) < (s.size : Int) := by omega
  have HW := Lib.hid (word_first s h00)
  have HRL := Lib.hid (rest_len s)
  go_enter Tryd.func53, Tryd.ntmps53
  go_upto_region 4 with (fail)
  generalize hw4 : World.alloc (World.alloc w _) _ = w4
  have hz4 : w4.heap[w.heap.size]? = some (.cells #[.int .u8 0, .int .i64 0, .string ByteArray.empty] 38 (0, 0)) := by
    rw [← hw4]
    exact block_alloc HZ.out _
  have hk4 : w4.heap[w.heap.size + 1]? = some (.cells #[.int .u8 2, .int .i64 0, .string ByteArray.empty] 38 (0, 0)) := by
    rw [← hw4]
    exact block_new' _ _ _ (by simp)
  have HB4 := Lib.hid (show Below w.heap.size w w4 by
    rw [← hw4]
    exact HB0.out.alloc (by simp) _)
  have hsz4 : w.heap.size + 2 ≤ w4.heap.size := by have := block_lt hk4; omega
  have HZ4 := Lib.hid hz4
  have HK4 := Lib.hid hk4
  clear hw4 HB0 HZ
  (have q0 := block_cell hk4 0; have q1 := block_cell hk4 1; have q2 := block_cell hk4 2; have f0 := block_free hk4 0; have f1 := block_free hk4 1; have f2 := block_free hk4 2; have hz := block_lt hk4; simp at q0 q1 q2)
  clear hz4 hk4
  have hcn : ((s[0].toNat : Int) == 43) = false := by
    rw [beq_eq_false_iff_ne]
    exact fun e => hc43 (UInt8.toNat_inj.1 (by show s[0].toNat = 43; omega))
  have z0 := block_cell HZ4.out 0
  have z1 := block_cell HZ4.out 1
  have z2 := block_cell HZ4.out 2
  have y0 := block_free HZ4.out 0
  have y1 := block_free HZ4.out 1
  have y2 := block_free HZ4.out 2
  simp at z0 z1 z2
  have hcn2 : ((s[0].toNat : Int) == 45) = false := by
    rw [beq_eq_false_iff_ne]
    exact fun e => hc45 (UInt8.toNat_inj.1 (by show s[0].toNat = 45; omega))
  have hcn3 : ((s[0].toNat : Int) == 61) = false := by
    rw [beq_eq_false_iff_ne]
    exact fun e => hc61 (UInt8.toNat_inj.1 (by show s[0].toNat = 61; omega))
  have HNO := Lib.hid (show oneP s.data.toList = none by
    rw [HW.out, oneP_cons, if_neg hc43, if_neg hc61, if_neg hc45])
  clear hc43 hc45 hc61
  go_wp2_with fail
  (try simp only [Exit.inBlock, Exit.then])
  refine bodyPost_ret (res3_tmp Tryd.results53 (Tryd.isAgg38 _) (Tryd.sizeOf38 _) rfl (stored3 (block_setCell_other HZ4.out (p := ⟨w.heap.size + 1, 0, none⟩) (by show w.heap.size + 1 ≠ w.heap.size; omega) _))) rfl ?_
  exact OnePost.bad HNO.out _ _ _ ((((HB4.out.setCell (p := ⟨w.heap.size + 1, 0, none⟩) (by show w.heap.size ≤ w.heap.size + 1; omega) _).setCell (p := ⟨w.heap.size, 0, none⟩) (Nat.le_refl _) _).setCell (p := ⟨w.heap.size, 1, none⟩) (Nat.le_refl _) _).setCell (p := ⟨w.heap.size, 2, none⟩) (Nat.le_refl _) _)

theorem one_any (s : ByteArray) (w : World) (hs : s.size ≤ 1000000000) : Calls Tryd.prog 53 #[.string s] w (OnePost s w) := by
  by_cases h2 : s.size < 2
  · exact one_less s w hs h2
  have h00 : 0 < s.size := by omega
  by_cases h43 : s[0] = 43
  · exact one_hex s w hs h2 h00 h43
  by_cases h45 : s[0] = 45
  · exact one_del s w hs h2 h00 h45
  by_cases h61 : s[0] = 61
  · exact one_ret s w hs h2 h00 h61
  · exact one_bad s w hs h2 h00 h43 h45 h61

end Go.Proofs.YtkocknhpnmkicaaDoor
