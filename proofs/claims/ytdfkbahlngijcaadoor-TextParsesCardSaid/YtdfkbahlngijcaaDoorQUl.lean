/- Text: cut of the reference: its walk. (printed by slim.py.) -/
import Derived.Test.YtdfkbahlngijcaaDoorQUj
import Derived.Test.YtdfkbahlngijcaaDoorQKe
import Derived.BigRegion
namespace Go.Proofs.YtdfkbahlngijcaaDoor
open Go.RowKit
set_option linter.unusedVariables false

/-- a piece of a string -/
def pieceL (l : List UInt8) (a b : Nat) : List UInt8 := (l.take b).drop a
theorem extract_piece (s : ByteArray) (a b : Nat) : s.extract a b = ⟨(pieceL s.data.toList a b).toArray⟩ := by
  apply ByteArray.ext
  rw [ByteArray.data_extract]
  apply Array.toList_inj.1
  rw [List.toList_toArray]
  unfold pieceL
  rw [Array.toList_extract, List.extract_eq_take_drop, List.drop_take]
theorem piece_no {l : List UInt8} {a b : Nat} (h : ∀ j (hj : j < l.length), a ≤ j → j < b → l[j] ≠ 32) : ∀ c ∈ pieceL l a b, c ≠ 32 := by
  intro c hc
  obtain ⟨j, hj, e⟩ := List.getElem_of_mem hc
  unfold pieceL at hj e
  rw [List.length_drop, List.length_take] at hj
  rw [List.getElem_drop, List.getElem_take] at e
  rw [← e]
  exact h (a + j) (by omega) (by omega) (by omega)
theorem cut_step {l : List UInt8} {a b : Nat} (hab : a ≤ b) (hb : b < l.length) (h32 : l[b] = 32) (h : ∀ j (hj : j < l.length), a ≤ j → j < b → l[j] ≠ 32) : splitW (l.drop a) = pieceL l a b :: splitW (l.drop (b + 1)) := by
  have e : l.drop a = pieceL l a b ++ 32 :: l.drop (b + 1) := by
    unfold pieceL
    have h1 : l = l.take b ++ l.drop b := (List.take_append_drop b l).symm
    conv => lhs; rw [h1]
    rw [List.drop_append_of_le_length (by rw [List.length_take]; omega), List.drop_eq_getElem_cons hb, h32]
  rw [e, split_app _ _ (piece_no h)]
theorem cut_end {l : List UInt8} {a : Nat} (h : ∀ j (hj : j < l.length), a ≤ j → j < l.length → l[j] ≠ 32) : splitW (l.drop a) = [pieceL l a l.length] := by
  have e : l.drop a = pieceL l a l.length := by unfold pieceL; rw [List.take_length]
  rw [e]
  exact split_word _ (piece_no h)
def CutPost (s : ByteArray) (w : World) (e : Ending) (w' : World) : Prop :=
  ∃ v, e = .returned v ∧ w'.ownsRow w.heap.size 9 1 v (splitW s.data.toList).length (flatR fS (splitW s.data.toList)) ∧ Below w.heap.size w w'
theorem list_at (s : ByteArray) {j : Nat} (h : j < s.size) (h2 : j < s.data.toList.length) : s.data.toList[j]'h2 = s[j]'h := by
  have := byte_at s h
  rw [List.getElem?_eq_getElem h2] at this
  exact Option.some.inj this
set_option maxRecDepth 100000 in
set_option maxHeartbeats 8000000 in
theorem cut_any (s : ByteArray) (w : World) (hs : s.size ≤ 1000000) : Calls Tryd.prog 59 #[.string s] w (CutPost s w) := by
  obtain ⟨i0, hi0, hz0, hz1, hz2⟩ := info_parts infoStr
  have hlen : s.data.toList.length = s.size := Array.length_toList ..
  have HL := Lib.hid hlen
  have HSZ := Lib.hid (show (splitW s.data.toList).length ≤ 1000001 by
    have := splitW_len s.data.toList
    have : s.data.toList.count 32 ≤ s.data.toList.length := List.count_le_length
    omega)
  have HB0 := Lib.hid (Below.refl w.heap.size w)
  clear hlen
  go_enter Tryd.func59, Tryd.ntmps59
  go_wp2_with fail
  go_loopw [3, 4, 5] (fun v3 s4 s5 wr => ∃ (i a : Nat) (out : List (List UInt8)), i ≤ s.size + 1 ∧ s5 = .int .i64 i ∧ s4 = .int .i64 a ∧ a ≤ i ∧ wr.ownsRow w.heap.size 9 1 v3 out.length (flatR fS out) ∧ Below w.heap.size w wr ∧
    (i ≤ s.size → splitW s.data.toList = out ++ splitW (s.data.toList.drop a) ∧ ∀ j (hj : j < s.data.toList.length), a ≤ j → j < i → s.data.toList[j] ≠ 32) ∧ (i = s.size + 1 → out = splitW s.data.toList)) (fun _ _ s5 _ => s.size + 1 - (intOf s5).toNat)
  case atStart => exact ⟨0, 0, [], Nat.zero_le _, rfl, rfl, Nat.le_refl _, World.ownsRow_nil _ _ _ _, HB0.out, fun _ => ⟨rfl, fun j _ _ h => absurd h (Nat.not_lt_zero _)⟩, fun h => by omega⟩
  case round =>
    obtain ⟨i, a, out, hi, rfl, rfl, hai, hown, hbr, hin, hout⟩ := hrel
    have HOW := Lib.hid hown
    have HBR := Lib.hid hbr
    have HIN := Lib.hid hin
    have HOUT := Lib.hid hout
    have hsz := hbr.size
    clear hown hbr hin hout
    by_cases hle : i ≤ s.size
    · have hlei : (i : Int) ≤ (s.size : Int) := by omega
      obtain ⟨h1, h2⟩ := HIN.out hle
      have H1 := Lib.hid h1
      have H2 := Lib.hid h2
      have hol : out.length ≤ 1000001 := by
        have := congrArg List.length h1
        rw [List.length_append] at this
        have := HSZ.out
        omega
      have ha0 : (0 : Int) ≤ (a : Int) := by omega
      have hai1 : (a : Int) ≤ (i : Int) := by omega
      have hwi : IntKind.i64.wrap ((i : Int) + 1) = (i : Int) + 1 := by rw [IntKind.wrap_i64]; omega
      clear h1 h2
      have HGO := Lib.hid (show ∀ (g cap : Nat) (w6 : World) (v3 : Value), w6.ownsRow w.heap.size 9 1 (.slice (some ⟨g, 0, none⟩) (out.length + 1) cap) (out.length + 1) (flatR fS out ++ [.string (s.extract a i)]) → w6.ownsRow w.heap.size 9 1 (.slice (some ⟨g, 0, none⟩) (out.length + 1) cap) (out ++ [pieceL s.data.toList a i]).length (flatR fS (out ++ [pieceL s.data.toList a i])) from fun g cap w6 v3 h => by
        rw [flatS_app, flatS_one, List.length_append]
        rw [extract_piece] at h
        exact h)
      by_cases he : i = s.size
      · have heb : ((i : Int) == (s.size : Int)) = true := by rw [beq_iff_eq]; omega
        have HFE := Lib.hid (show out ++ [pieceL s.data.toList a i] = splitW s.data.toList by
          rw [H1.out, cut_end fun j hj h1 _ => H2.out j hj h1 (by rw [he, ← HL.out]; exact hj), he, HL.out])
        have HIE := Lib.hid he
        clear he
        go_wp2_with (at_builtin; refine wpList_append_lies _ rfl _ _ 59 rfl w.heap.size 9 i0 _ 1 16 Tryd.underlying59 hi0 hz0 hz1 hz2 rfl (by decide) _ out.length _ rfl (HOW.out.alloc _) ⟨wr.heap.size, 0, none⟩ 1 1 [_] rfl rfl (World.news_of_block (cs := #[_]) (t := 9) (fr := (0, 0)) (heap_alloc_new wr _)) (by simp [Value.oneCell']) (by omega) (by unfold maxLen; omega) (by omega) (by simp; omega) (wr.heap.size + 1) (by simp) ?c1)
        case c1 =>
          intro gg cap w6 hown6 hgrow6 hat6 hlt6
          have HO6 := Lib.hid (HGO.out gg cap w6 undef hown6)
          have HB6 := Lib.hid ((HBR.out.alloc hsz _).grown hgrow6 (by simp; omega) fun q hq => (own_typ1 HOW.out hq).1)
          clear hown6 hgrow6 hat6 hlt6
          go_wp2_with fail
          go_roundw
          case rel => exact ⟨i + 1, i + 1, _, by omega, by go_num, by go_num, Nat.le_refl _, HO6.out, HB6.out, fun h => absurd h (by have := HIE.out; omega), fun _ => HFE.out⟩
          case measure => simp [intOf]; omega
      · have heb : ((i : Int) == (s.size : Int)) = false := by rw [beq_eq_false_iff_ne]; omega
        have hlt : i < s.size := by omega
        have hlti : (i : Int) < (s.size : Int) := by omega
        have hi0i : (0 : Int) ≤ (i : Int) := by omega
        have HAT := Lib.hid (show ∀ h : i < s.data.toList.length, s.data.toList[i]'h = s[i] from fun h => list_at s hlt h)
        have hc8 := u8lt s[i]
        clear he
        by_cases h32 : s[i] = 32
        · have hb32 : ((s[i].toNat : Int) == 32) = true := by rw [h32]; rfl
          have HNX := Lib.hid (show splitW s.data.toList = (out ++ [pieceL s.data.toList a i]) ++ splitW (s.data.toList.drop (i + 1)) by
            have hil : i < s.data.toList.length := by rw [HL.out]; exact hlt
            rw [H1.out, cut_step hai hil (by rw [HAT.out hil]; exact h32) H2.out, List.append_assoc]
            rfl)
          clear h32
          go_wp2_with (at_builtin; refine wpList_append_lies _ rfl _ _ 59 rfl w.heap.size 9 i0 _ 1 16 Tryd.underlying59 hi0 hz0 hz1 hz2 rfl (by decide) _ out.length _ rfl (HOW.out.alloc _) ⟨wr.heap.size, 0, none⟩ 1 1 [_] rfl rfl (World.news_of_block (cs := #[_]) (t := 9) (fr := (0, 0)) (heap_alloc_new wr _)) (by simp [Value.oneCell']) (by omega) (by unfold maxLen; omega) (by omega) (by simp; omega) (wr.heap.size + 1) (by simp) ?c1)
          case c1 =>
            intro gg cap w6 hown6 hgrow6 hat6 hlt6
            have HO6 := Lib.hid (HGO.out gg cap w6 undef hown6)
            have HB6 := Lib.hid ((HBR.out.alloc hsz _).grown hgrow6 (by simp; omega) fun q hq => (own_typ1 HOW.out hq).1)
            clear hown6 hgrow6 hat6 hlt6
            go_wp2_with fail
            go_roundw
            case rel => exact ⟨i + 1, i + 1, _, by omega, by go_num, by go_num, Nat.le_refl _, HO6.out, HB6.out, fun _ => ⟨HNX.out, fun j _ h1 h2 => by omega⟩, fun h => by omega⟩
            case measure => simp [intOf]; omega
        · have hn32 : s[i].toNat ≠ 32 := fun e => h32 (UInt8.toNat_inj.1 (by rw [e]; rfl))
          have hb32 : ((s[i].toNat : Int) == 32) = false := by rw [beq_eq_false_iff_ne]; omega
          have H2N := Lib.hid (show ∀ j (hj : j < s.data.toList.length), a ≤ j → j < i + 1 → s.data.toList[j] ≠ 32 from fun j hj h1 h2 => by
            rcases Nat.lt_or_ge j i with h | h
            · exact H2.out j hj h1 h
            · obtain rfl : j = i := by omega
              rw [HAT.out hj]; exact h32)
          clear h32 hn32
          go_wp2_with fail
          go_roundw
          case rel => exact ⟨i + 1, a, out, by omega, by go_num, rfl, by omega, HOW.out, HBR.out, fun _ => ⟨H1.out, H2N.out⟩, fun h => by omega⟩
          case measure => simp [intOf]; omega
    · have hlei : ¬ ((i : Int) ≤ (s.size : Int)) := by omega
      have HE := Lib.hid (HOUT.out (by omega))
      have HOE := Lib.hid (show wr.ownsRow w.heap.size 9 1 u3 (splitW s.data.toList).length (flatR fS (splitW s.data.toList)) by rw [← HE.out]; exact HOW.out)
      go_wp2_with fail
      go_ret
      exact ⟨_, rfl, HOE.out, HBR.out⟩
end Go.Proofs.YtdfkbahlngijcaaDoor

namespace Go.Proofs.YtdfkbahlngijcaaDoor
open Go.RowKit
set_option linter.unusedVariables false
set_option linter.unusedSimpArgs false

theorem own_words {w : World} {B : Nat} {v : Value} {ws : List (List UInt8)} (h : w.ownsRow B 9 1 v ws.length (flatR fS ws)) (hn : 0 < ws.length) :
    ∃ g cap, v = .slice (some ⟨g, 0, none⟩) ws.length cap ∧ (∀ j (hj : j < ws.length), w.cell? ⟨g, j, none⟩ = some (.string ⟨(ws[j]).toArray⟩)) ∧ g < w.heap.size ∧ ws.length ≤ cap := by
  rcases h with ⟨_, ⟨_, h⟩ | ⟨g, cap, cur, rfl, hb, hg, hcap, hm, hs, htk⟩⟩
  · omega
  · refine ⟨g, cap, rfl, fun j hj => ?_, block_lt hg, hcap⟩
    rw [block_cell hg]
    rw [flatS_map] at htk
    have e := congrArg (fun l => l[j]?) htk
    rw [List.getElem?_take_of_lt (by omega), Array.getElem?_toList] at e
    rw [e, List.getElem?_map, List.getElem?_eq_getElem hj]
    rfl
/-- the operation that the numbers and the string make -/
def finO (k : Nat) (v0 v1 v2 : Int) (t : ByteArray) : Ov :=
  match k with
  | 1 => ⟨1, 0, v0, 0, 0, 0, t⟩
  | 2 => ⟨2, 0, v0, v1, 0, 0, t⟩
  | 3 => ⟨3, 0, v1, 0, v0 % 4294967296, v2 % 256, t⟩
  | 4 => ⟨4, 0, 0, 0, v0 % 4294967296, 0, t⟩
  | 6 => ⟨6, v0, 0, 0, 0, 0, t⟩
  | 7 => ⟨7, v0, v1, v2, 0, 0, t⟩
  | 8 => ⟨8, v0, 0, v1, 0, 0, t⟩
  | 9 => ⟨9, v0, 0, v1, 0, 0, t⟩
  | 10 => ⟨10, v0, 0, 0, v1 % 4294967296, 0, t⟩
  | 11 => ⟨11, v0, v1, 0, 0, 0, t⟩
  | 12 => ⟨12, v0, 0, v1, 0, 0, t⟩
  | 13 => ⟨13, v0, 0, 0, 0, 0, t⟩
  | k => ⟨k, 0, 0, 0, 0, 0, t⟩
/-- what was read up to word i -/
structure RdInv (k : Nat) (wt : List (List UInt8)) (i n : Nat) (V : List Int) (t : ByteArray) : Prop where
  i1 : 1 ≤ i
  iw : i ≤ wt.length + 1
  len : V.length = 6
  rng : ∀ v ∈ V, 0 ≤ v ∧ v ≤ 9999999999
  n6 : n ≤ 6
  tl : t.size ≤ 1000000
  zero : ∀ j (h : j < V.length), n ≤ j → V[j] = 0
  other : k ≠ 1 → n = i - 1 ∧ t = ⟨#[]⟩ ∧ ∀ j (h : j < V.length) (h2 : j < wt.length), j < n → numL V[j] = wt[j]
  ins : k = 1 → (i ≤ 2 → n = i - 1 ∧ t = ⟨#[]⟩) ∧ (2 < i → n = i - 2 ∧ ∀ h : 1 < wt.length, quoteL t = wt[1]) ∧ (0 < n → ∀ (h : 0 < V.length) (h2 : 0 < wt.length), numL V[0] = wt[0])
theorem finO_ok (k : Nat) (hk : k < 17) (v0 v1 v2 : Int) (t : ByteArray) : OvOk (finO k v0 v1 v2 t) := by
  unfold finO
  split
  all_goals
    refine ⟨⟨?_, ?_⟩, ⟨?_, ?_⟩, ⟨?_, ?_⟩⟩ <;> simp only <;> omega
theorem finO_text (k : Nat) (v0 v1 v2 : Int) (t : ByteArray) : (finO k v0 v1 v2 t).t = t := by
  unfold finO
  split <;> rfl
theorem made_1 {wt : List (List UInt8)} {i n : Nat} {V : List Int} {t : ByteArray} {s : List UInt8} {y : Ov} (h : RdInv 1 wt i n V t) (hk : y.k = (1 : Nat)) (yw : wt = (letL 1).map (letW y)) (hy : HasLine s y) (hi : i = wt.length + 1 ∨ 6 ≤ n)
    (h0 : 0 < V.length) (h1 : 1 < V.length) (h2 : 2 < V.length) : finO 1 V[0] V[1] V[2] t = y := by
  rw [show letL 1 = [97, 116] by decide] at yw
  simp only [List.map_cons, List.map_nil, letW_a, letW_t] at yw
  subst yw
  have hz := plain_zero hy.plain
  unfold zeroU at hz
  rw [hk, Int.toNat_natCast] at hz
  have hb := hy.big
  have hid := hy.ok.id
  have hg := hy.ok.g
  have hiw := h.iw
  have hi1 := h.i1
  simp only [List.length_cons, List.length_nil] at hi hiw
  have r0 := h.rng V[0] (List.getElem_mem h0)
  have r1 := h.rng V[1] (List.getElem_mem h1)
  have r2 := h.rng V[2] (List.getElem_mem h2)
  obtain ⟨ha, hbt, hc⟩ := h.ins rfl
  have hi3 : i = 3 := by
    rcases hi with hi | hi
    · exact hi
    · exfalso
      rcases Nat.lt_or_ge 2 i with q | q
      · have := (hbt q).1; omega
      · have := (ha q).1; omega
  obtain ⟨hn, ht2⟩ := hbt (by omega)
  have e0 : V[0] = y.at_ := by
    have := hc (by omega) h0 (by simp)
    exact numL_inj r0 hb.at_ (by simpa using this)
  have ht : t = y.t := by
    have := ht2 (by simp)
    exact quoteL_inj (by simpa using this)
  apply ov_ext
  · exact hk.symm
  · exact (hz.1 (by decide)).symm
  · exact e0
  · exact (hz.2.2.1 (by decide)).symm
  · exact (hz.2.2.2.1 (by decide)).symm
  · exact (hz.2.2.2.2.1 (by decide)).symm
  · exact ht
theorem made_2 {wt : List (List UInt8)} {i n : Nat} {V : List Int} {t : ByteArray} {s : List UInt8} {y : Ov} (h : RdInv 2 wt i n V t) (hk : y.k = (2 : Nat)) (yw : wt = (letL 2).map (letW y)) (hy : HasLine s y) (hi : i = wt.length + 1 ∨ 6 ≤ n)
    (h0 : 0 < V.length) (h1 : 1 < V.length) (h2 : 2 < V.length) : finO 2 V[0] V[1] V[2] t = y := by
  rw [show letL 2 = [97, 110] by decide] at yw
  simp only [List.map_cons, List.map_nil, letW_a, letW_n] at yw
  subst yw
  have hz := plain_zero hy.plain
  unfold zeroU at hz
  rw [hk, Int.toNat_natCast] at hz
  have hb := hy.big
  have hid := hy.ok.id
  have hg := hy.ok.g
  have hiw := h.iw
  have hi1 := h.i1
  simp only [List.length_cons, List.length_nil] at hi hiw
  have r0 := h.rng V[0] (List.getElem_mem h0)
  have r1 := h.rng V[1] (List.getElem_mem h1)
  have r2 := h.rng V[2] (List.getElem_mem h2)
  obtain ⟨hn, ht, hv⟩ := h.other (by decide)
  have hi3 : n = 2 := by omega
  have e0 : V[0] = y.at_ := by
    have := hv 0 h0 (by simp) (by omega)
    exact numL_inj r0 hb.at_ (by simpa using this)
  have e1 : V[1] = y.n := by
    have := hv 1 h1 (by simp) (by omega)
    exact numL_inj r1 hb.n (by simpa using this)
  apply ov_ext
  · exact hk.symm
  · exact (hz.1 (by decide)).symm
  · exact e0
  · exact e1
  · exact (hz.2.2.2.1 (by decide)).symm
  · exact (hz.2.2.2.2.1 (by decide)).symm
  · rw [str_empty (hz.2.2.2.2.2 (by decide))]; exact ht
theorem made_3 {wt : List (List UInt8)} {i n : Nat} {V : List Int} {t : ByteArray} {s : List UInt8} {y : Ov} (h : RdInv 3 wt i n V t) (hk : y.k = (3 : Nat)) (yw : wt = (letL 3).map (letW y)) (hy : HasLine s y) (hi : i = wt.length + 1 ∨ 6 ≤ n)
    (h0 : 0 < V.length) (h1 : 1 < V.length) (h2 : 2 < V.length) : finO 3 V[0] V[1] V[2] t = y := by
  rw [show letL 3 = [105, 97, 103] by decide] at yw
  simp only [List.map_cons, List.map_nil, letW_i, letW_a, letW_g] at yw
  subst yw
  have hz := plain_zero hy.plain
  unfold zeroU at hz
  rw [hk, Int.toNat_natCast] at hz
  have hb := hy.big
  have hid := hy.ok.id
  have hg := hy.ok.g
  have hiw := h.iw
  have hi1 := h.i1
  simp only [List.length_cons, List.length_nil] at hi hiw
  have r0 := h.rng V[0] (List.getElem_mem h0)
  have r1 := h.rng V[1] (List.getElem_mem h1)
  have r2 := h.rng V[2] (List.getElem_mem h2)
  obtain ⟨hn, ht, hv⟩ := h.other (by decide)
  have hi3 : n = 3 := by omega
  have e0 : V[0] = y.id := by
    have := hv 0 h0 (by simp) (by omega)
    exact numL_inj r0 hb.id (by simpa using this)
  have e1 : V[1] = y.at_ := by
    have := hv 1 h1 (by simp) (by omega)
    exact numL_inj r1 hb.at_ (by simpa using this)
  have e2 : V[2] = y.g := by
    have := hv 2 h2 (by simp) (by omega)
    exact numL_inj r2 hb.g (by simpa using this)
  apply ov_ext
  · exact hk.symm
  · exact (hz.1 (by decide)).symm
  · exact e1
  · exact (hz.2.2.1 (by decide)).symm
  · show V[0] % 4294967296 = y.id
    rw [e0]; omega
  · show V[2] % 256 = y.g
    rw [e2]; omega
  · rw [str_empty (hz.2.2.2.2.2 (by decide))]; exact ht
theorem made_4 {wt : List (List UInt8)} {i n : Nat} {V : List Int} {t : ByteArray} {s : List UInt8} {y : Ov} (h : RdInv 4 wt i n V t) (hk : y.k = (4 : Nat)) (yw : wt = (letL 4).map (letW y)) (hy : HasLine s y) (hi : i = wt.length + 1 ∨ 6 ≤ n)
    (h0 : 0 < V.length) (h1 : 1 < V.length) (h2 : 2 < V.length) : finO 4 V[0] V[1] V[2] t = y := by
  rw [show letL 4 = [105] by decide] at yw
  simp only [List.map_cons, List.map_nil, letW_i] at yw
  subst yw
  have hz := plain_zero hy.plain
  unfold zeroU at hz
  rw [hk, Int.toNat_natCast] at hz
  have hb := hy.big
  have hid := hy.ok.id
  have hg := hy.ok.g
  have hiw := h.iw
  have hi1 := h.i1
  simp only [List.length_cons, List.length_nil] at hi hiw
  have r0 := h.rng V[0] (List.getElem_mem h0)
  have r1 := h.rng V[1] (List.getElem_mem h1)
  have r2 := h.rng V[2] (List.getElem_mem h2)
  obtain ⟨hn, ht, hv⟩ := h.other (by decide)
  have hi3 : n = 1 := by omega
  have e0 : V[0] = y.id := by
    have := hv 0 h0 (by simp) (by omega)
    exact numL_inj r0 hb.id (by simpa using this)
  apply ov_ext
  · exact hk.symm
  · exact (hz.1 (by decide)).symm
  · exact (hz.2.1 (by decide)).symm
  · exact (hz.2.2.1 (by decide)).symm
  · show V[0] % 4294967296 = y.id
    rw [e0]; omega
  · exact (hz.2.2.2.2.1 (by decide)).symm
  · rw [str_empty (hz.2.2.2.2.2 (by decide))]; exact ht
theorem made_5 {wt : List (List UInt8)} {i n : Nat} {V : List Int} {t : ByteArray} {s : List UInt8} {y : Ov} (h : RdInv 5 wt i n V t) (hk : y.k = (5 : Nat)) (yw : wt = (letL 5).map (letW y)) (hy : HasLine s y) (hi : i = wt.length + 1 ∨ 6 ≤ n)
    (h0 : 0 < V.length) (h1 : 1 < V.length) (h2 : 2 < V.length) : finO 5 V[0] V[1] V[2] t = y := by
  rw [show letL 5 = [] by decide] at yw
  simp only [List.map_nil] at yw
  subst yw
  have hz := plain_zero hy.plain
  unfold zeroU at hz
  rw [hk, Int.toNat_natCast] at hz
  have hb := hy.big
  have hid := hy.ok.id
  have hg := hy.ok.g
  have hiw := h.iw
  have hi1 := h.i1
  simp only [List.length_cons, List.length_nil] at hi hiw
  have r0 := h.rng V[0] (List.getElem_mem h0)
  have r1 := h.rng V[1] (List.getElem_mem h1)
  have r2 := h.rng V[2] (List.getElem_mem h2)
  obtain ⟨hn, ht, hv⟩ := h.other (by decide)
  have hi3 : n = 0 := by omega
  apply ov_ext
  · exact hk.symm
  · exact (hz.1 (by decide)).symm
  · exact (hz.2.1 (by decide)).symm
  · exact (hz.2.2.1 (by decide)).symm
  · exact (hz.2.2.2.1 (by decide)).symm
  · exact (hz.2.2.2.2.1 (by decide)).symm
  · rw [str_empty (hz.2.2.2.2.2 (by decide))]; exact ht
theorem made_6 {wt : List (List UInt8)} {i n : Nat} {V : List Int} {t : ByteArray} {s : List UInt8} {y : Ov} (h : RdInv 6 wt i n V t) (hk : y.k = (6 : Nat)) (yw : wt = (letL 6).map (letW y)) (hy : HasLine s y) (hi : i = wt.length + 1 ∨ 6 ≤ n)
    (h0 : 0 < V.length) (h1 : 1 < V.length) (h2 : 2 < V.length) : finO 6 V[0] V[1] V[2] t = y := by
  rw [show letL 6 = [115] by decide] at yw
  simp only [List.map_cons, List.map_nil, letW_s] at yw
  subst yw
  have hz := plain_zero hy.plain
  unfold zeroU at hz
  rw [hk, Int.toNat_natCast] at hz
  have hb := hy.big
  have hid := hy.ok.id
  have hg := hy.ok.g
  have hiw := h.iw
  have hi1 := h.i1
  simp only [List.length_cons, List.length_nil] at hi hiw
  have r0 := h.rng V[0] (List.getElem_mem h0)
  have r1 := h.rng V[1] (List.getElem_mem h1)
  have r2 := h.rng V[2] (List.getElem_mem h2)
  obtain ⟨hn, ht, hv⟩ := h.other (by decide)
  have hi3 : n = 1 := by omega
  have e0 : V[0] = y.slot := by
    have := hv 0 h0 (by simp) (by omega)
    exact numL_inj r0 hb.slot (by simpa using this)
  apply ov_ext
  · exact hk.symm
  · exact e0
  · exact (hz.2.1 (by decide)).symm
  · exact (hz.2.2.1 (by decide)).symm
  · exact (hz.2.2.2.1 (by decide)).symm
  · exact (hz.2.2.2.2.1 (by decide)).symm
  · rw [str_empty (hz.2.2.2.2.2 (by decide))]; exact ht
theorem made_7 {wt : List (List UInt8)} {i n : Nat} {V : List Int} {t : ByteArray} {s : List UInt8} {y : Ov} (h : RdInv 7 wt i n V t) (hk : y.k = (7 : Nat)) (yw : wt = (letL 7).map (letW y)) (hy : HasLine s y) (hi : i = wt.length + 1 ∨ 6 ≤ n)
    (h0 : 0 < V.length) (h1 : 1 < V.length) (h2 : 2 < V.length) : finO 7 V[0] V[1] V[2] t = y := by
  rw [show letL 7 = [115, 97, 110] by decide] at yw
  simp only [List.map_cons, List.map_nil, letW_s, letW_a, letW_n] at yw
  subst yw
  have hz := plain_zero hy.plain
  unfold zeroU at hz
  rw [hk, Int.toNat_natCast] at hz
  have hb := hy.big
  have hid := hy.ok.id
  have hg := hy.ok.g
  have hiw := h.iw
  have hi1 := h.i1
  simp only [List.length_cons, List.length_nil] at hi hiw
  have r0 := h.rng V[0] (List.getElem_mem h0)
  have r1 := h.rng V[1] (List.getElem_mem h1)
  have r2 := h.rng V[2] (List.getElem_mem h2)
  obtain ⟨hn, ht, hv⟩ := h.other (by decide)
  have hi3 : n = 3 := by omega
  have e0 : V[0] = y.slot := by
    have := hv 0 h0 (by simp) (by omega)
    exact numL_inj r0 hb.slot (by simpa using this)
  have e1 : V[1] = y.at_ := by
    have := hv 1 h1 (by simp) (by omega)
    exact numL_inj r1 hb.at_ (by simpa using this)
  have e2 : V[2] = y.n := by
    have := hv 2 h2 (by simp) (by omega)
    exact numL_inj r2 hb.n (by simpa using this)
  apply ov_ext
  · exact hk.symm
  · exact e0
  · exact e1
  · exact e2
  · exact (hz.2.2.2.1 (by decide)).symm
  · exact (hz.2.2.2.2.1 (by decide)).symm
  · rw [str_empty (hz.2.2.2.2.2 (by decide))]; exact ht
theorem made_8 {wt : List (List UInt8)} {i n : Nat} {V : List Int} {t : ByteArray} {s : List UInt8} {y : Ov} (h : RdInv 8 wt i n V t) (hk : y.k = (8 : Nat)) (yw : wt = (letL 8).map (letW y)) (hy : HasLine s y) (hi : i = wt.length + 1 ∨ 6 ≤ n)
    (h0 : 0 < V.length) (h1 : 1 < V.length) (h2 : 2 < V.length) : finO 8 V[0] V[1] V[2] t = y := by
  rw [show letL 8 = [115, 110] by decide] at yw
  simp only [List.map_cons, List.map_nil, letW_s, letW_n] at yw
  subst yw
  have hz := plain_zero hy.plain
  unfold zeroU at hz
  rw [hk, Int.toNat_natCast] at hz
  have hb := hy.big
  have hid := hy.ok.id
  have hg := hy.ok.g
  have hiw := h.iw
  have hi1 := h.i1
  simp only [List.length_cons, List.length_nil] at hi hiw
  have r0 := h.rng V[0] (List.getElem_mem h0)
  have r1 := h.rng V[1] (List.getElem_mem h1)
  have r2 := h.rng V[2] (List.getElem_mem h2)
  obtain ⟨hn, ht, hv⟩ := h.other (by decide)
  have hi3 : n = 2 := by omega
  have e0 : V[0] = y.slot := by
    have := hv 0 h0 (by simp) (by omega)
    exact numL_inj r0 hb.slot (by simpa using this)
  have e1 : V[1] = y.n := by
    have := hv 1 h1 (by simp) (by omega)
    exact numL_inj r1 hb.n (by simpa using this)
  apply ov_ext
  · exact hk.symm
  · exact e0
  · exact (hz.2.1 (by decide)).symm
  · exact e1
  · exact (hz.2.2.2.1 (by decide)).symm
  · exact (hz.2.2.2.2.1 (by decide)).symm
  · rw [str_empty (hz.2.2.2.2.2 (by decide))]; exact ht
theorem made_9 {wt : List (List UInt8)} {i n : Nat} {V : List Int} {t : ByteArray} {s : List UInt8} {y : Ov} (h : RdInv 9 wt i n V t) (hk : y.k = (9 : Nat)) (yw : wt = (letL 9).map (letW y)) (hy : HasLine s y) (hi : i = wt.length + 1 ∨ 6 ≤ n)
    (h0 : 0 < V.length) (h1 : 1 < V.length) (h2 : 2 < V.length) : finO 9 V[0] V[1] V[2] t = y := by
  rw [show letL 9 = [115, 110] by decide] at yw
  simp only [List.map_cons, List.map_nil, letW_s, letW_n] at yw
  subst yw
  have hz := plain_zero hy.plain
  unfold zeroU at hz
  rw [hk, Int.toNat_natCast] at hz
  have hb := hy.big
  have hid := hy.ok.id
  have hg := hy.ok.g
  have hiw := h.iw
  have hi1 := h.i1
  simp only [List.length_cons, List.length_nil] at hi hiw
  have r0 := h.rng V[0] (List.getElem_mem h0)
  have r1 := h.rng V[1] (List.getElem_mem h1)
  have r2 := h.rng V[2] (List.getElem_mem h2)
  obtain ⟨hn, ht, hv⟩ := h.other (by decide)
  have hi3 : n = 2 := by omega
  have e0 : V[0] = y.slot := by
    have := hv 0 h0 (by simp) (by omega)
    exact numL_inj r0 hb.slot (by simpa using this)
  have e1 : V[1] = y.n := by
    have := hv 1 h1 (by simp) (by omega)
    exact numL_inj r1 hb.n (by simpa using this)
  apply ov_ext
  · exact hk.symm
  · exact e0
  · exact (hz.2.1 (by decide)).symm
  · exact e1
  · exact (hz.2.2.2.1 (by decide)).symm
  · exact (hz.2.2.2.2.1 (by decide)).symm
  · rw [str_empty (hz.2.2.2.2.2 (by decide))]; exact ht
theorem made_10 {wt : List (List UInt8)} {i n : Nat} {V : List Int} {t : ByteArray} {s : List UInt8} {y : Ov} (h : RdInv 10 wt i n V t) (hk : y.k = (10 : Nat)) (yw : wt = (letL 10).map (letW y)) (hy : HasLine s y) (hi : i = wt.length + 1 ∨ 6 ≤ n)
    (h0 : 0 < V.length) (h1 : 1 < V.length) (h2 : 2 < V.length) : finO 10 V[0] V[1] V[2] t = y := by
  rw [show letL 10 = [115, 105] by decide] at yw
  simp only [List.map_cons, List.map_nil, letW_s, letW_i] at yw
  subst yw
  have hz := plain_zero hy.plain
  unfold zeroU at hz
  rw [hk, Int.toNat_natCast] at hz
  have hb := hy.big
  have hid := hy.ok.id
  have hg := hy.ok.g
  have hiw := h.iw
  have hi1 := h.i1
  simp only [List.length_cons, List.length_nil] at hi hiw
  have r0 := h.rng V[0] (List.getElem_mem h0)
  have r1 := h.rng V[1] (List.getElem_mem h1)
  have r2 := h.rng V[2] (List.getElem_mem h2)
  obtain ⟨hn, ht, hv⟩ := h.other (by decide)
  have hi3 : n = 2 := by omega
  have e0 : V[0] = y.slot := by
    have := hv 0 h0 (by simp) (by omega)
    exact numL_inj r0 hb.slot (by simpa using this)
  have e1 : V[1] = y.id := by
    have := hv 1 h1 (by simp) (by omega)
    exact numL_inj r1 hb.id (by simpa using this)
  apply ov_ext
  · exact hk.symm
  · exact e0
  · exact (hz.2.1 (by decide)).symm
  · exact (hz.2.2.1 (by decide)).symm
  · show V[1] % 4294967296 = y.id
    rw [e1]; omega
  · exact (hz.2.2.2.2.1 (by decide)).symm
  · rw [str_empty (hz.2.2.2.2.2 (by decide))]; exact ht
theorem made_11 {wt : List (List UInt8)} {i n : Nat} {V : List Int} {t : ByteArray} {s : List UInt8} {y : Ov} (h : RdInv 11 wt i n V t) (hk : y.k = (11 : Nat)) (yw : wt = (letL 11).map (letW y)) (hy : HasLine s y) (hi : i = wt.length + 1 ∨ 6 ≤ n)
    (h0 : 0 < V.length) (h1 : 1 < V.length) (h2 : 2 < V.length) : finO 11 V[0] V[1] V[2] t = y := by
  rw [show letL 11 = [115, 97] by decide] at yw
  simp only [List.map_cons, List.map_nil, letW_s, letW_a] at yw
  subst yw
  have hz := plain_zero hy.plain
  unfold zeroU at hz
  rw [hk, Int.toNat_natCast] at hz
  have hb := hy.big
  have hid := hy.ok.id
  have hg := hy.ok.g
  have hiw := h.iw
  have hi1 := h.i1
  simp only [List.length_cons, List.length_nil] at hi hiw
  have r0 := h.rng V[0] (List.getElem_mem h0)
  have r1 := h.rng V[1] (List.getElem_mem h1)
  have r2 := h.rng V[2] (List.getElem_mem h2)
  obtain ⟨hn, ht, hv⟩ := h.other (by decide)
  have hi3 : n = 2 := by omega
  have e0 : V[0] = y.slot := by
    have := hv 0 h0 (by simp) (by omega)
    exact numL_inj r0 hb.slot (by simpa using this)
  have e1 : V[1] = y.at_ := by
    have := hv 1 h1 (by simp) (by omega)
    exact numL_inj r1 hb.at_ (by simpa using this)
  apply ov_ext
  · exact hk.symm
  · exact e0
  · exact e1
  · exact (hz.2.2.1 (by decide)).symm
  · exact (hz.2.2.2.1 (by decide)).symm
  · exact (hz.2.2.2.2.1 (by decide)).symm
  · rw [str_empty (hz.2.2.2.2.2 (by decide))]; exact ht
theorem made_12 {wt : List (List UInt8)} {i n : Nat} {V : List Int} {t : ByteArray} {s : List UInt8} {y : Ov} (h : RdInv 12 wt i n V t) (hk : y.k = (12 : Nat)) (yw : wt = (letL 12).map (letW y)) (hy : HasLine s y) (hi : i = wt.length + 1 ∨ 6 ≤ n)
    (h0 : 0 < V.length) (h1 : 1 < V.length) (h2 : 2 < V.length) : finO 12 V[0] V[1] V[2] t = y := by
  rw [show letL 12 = [115, 110] by decide] at yw
  simp only [List.map_cons, List.map_nil, letW_s, letW_n] at yw
  subst yw
  have hz := plain_zero hy.plain
  unfold zeroU at hz
  rw [hk, Int.toNat_natCast] at hz
  have hb := hy.big
  have hid := hy.ok.id
  have hg := hy.ok.g
  have hiw := h.iw
  have hi1 := h.i1
  simp only [List.length_cons, List.length_nil] at hi hiw
  have r0 := h.rng V[0] (List.getElem_mem h0)
  have r1 := h.rng V[1] (List.getElem_mem h1)
  have r2 := h.rng V[2] (List.getElem_mem h2)
  obtain ⟨hn, ht, hv⟩ := h.other (by decide)
  have hi3 : n = 2 := by omega
  have e0 : V[0] = y.slot := by
    have := hv 0 h0 (by simp) (by omega)
    exact numL_inj r0 hb.slot (by simpa using this)
  have e1 : V[1] = y.n := by
    have := hv 1 h1 (by simp) (by omega)
    exact numL_inj r1 hb.n (by simpa using this)
  apply ov_ext
  · exact hk.symm
  · exact e0
  · exact (hz.2.1 (by decide)).symm
  · exact e1
  · exact (hz.2.2.2.1 (by decide)).symm
  · exact (hz.2.2.2.2.1 (by decide)).symm
  · rw [str_empty (hz.2.2.2.2.2 (by decide))]; exact ht
theorem made_13 {wt : List (List UInt8)} {i n : Nat} {V : List Int} {t : ByteArray} {s : List UInt8} {y : Ov} (h : RdInv 13 wt i n V t) (hk : y.k = (13 : Nat)) (yw : wt = (letL 13).map (letW y)) (hy : HasLine s y) (hi : i = wt.length + 1 ∨ 6 ≤ n)
    (h0 : 0 < V.length) (h1 : 1 < V.length) (h2 : 2 < V.length) : finO 13 V[0] V[1] V[2] t = y := by
  rw [show letL 13 = [115] by decide] at yw
  simp only [List.map_cons, List.map_nil, letW_s] at yw
  subst yw
  have hz := plain_zero hy.plain
  unfold zeroU at hz
  rw [hk, Int.toNat_natCast] at hz
  have hb := hy.big
  have hid := hy.ok.id
  have hg := hy.ok.g
  have hiw := h.iw
  have hi1 := h.i1
  simp only [List.length_cons, List.length_nil] at hi hiw
  have r0 := h.rng V[0] (List.getElem_mem h0)
  have r1 := h.rng V[1] (List.getElem_mem h1)
  have r2 := h.rng V[2] (List.getElem_mem h2)
  obtain ⟨hn, ht, hv⟩ := h.other (by decide)
  have hi3 : n = 1 := by omega
  have e0 : V[0] = y.slot := by
    have := hv 0 h0 (by simp) (by omega)
    exact numL_inj r0 hb.slot (by simpa using this)
  apply ov_ext
  · exact hk.symm
  · exact e0
  · exact (hz.2.1 (by decide)).symm
  · exact (hz.2.2.1 (by decide)).symm
  · exact (hz.2.2.2.1 (by decide)).symm
  · exact (hz.2.2.2.2.1 (by decide)).symm
  · rw [str_empty (hz.2.2.2.2.2 (by decide))]; exact ht
theorem made_14 {wt : List (List UInt8)} {i n : Nat} {V : List Int} {t : ByteArray} {s : List UInt8} {y : Ov} (h : RdInv 14 wt i n V t) (hk : y.k = (14 : Nat)) (yw : wt = (letL 14).map (letW y)) (hy : HasLine s y) (hi : i = wt.length + 1 ∨ 6 ≤ n)
    (h0 : 0 < V.length) (h1 : 1 < V.length) (h2 : 2 < V.length) : finO 14 V[0] V[1] V[2] t = y := by
  rw [show letL 14 = [] by decide] at yw
  simp only [List.map_nil] at yw
  subst yw
  have hz := plain_zero hy.plain
  unfold zeroU at hz
  rw [hk, Int.toNat_natCast] at hz
  have hb := hy.big
  have hid := hy.ok.id
  have hg := hy.ok.g
  have hiw := h.iw
  have hi1 := h.i1
  simp only [List.length_cons, List.length_nil] at hi hiw
  have r0 := h.rng V[0] (List.getElem_mem h0)
  have r1 := h.rng V[1] (List.getElem_mem h1)
  have r2 := h.rng V[2] (List.getElem_mem h2)
  obtain ⟨hn, ht, hv⟩ := h.other (by decide)
  have hi3 : n = 0 := by omega
  apply ov_ext
  · exact hk.symm
  · exact (hz.1 (by decide)).symm
  · exact (hz.2.1 (by decide)).symm
  · exact (hz.2.2.1 (by decide)).symm
  · exact (hz.2.2.2.1 (by decide)).symm
  · exact (hz.2.2.2.2.1 (by decide)).symm
  · rw [str_empty (hz.2.2.2.2.2 (by decide))]; exact ht
theorem made_15 {wt : List (List UInt8)} {i n : Nat} {V : List Int} {t : ByteArray} {s : List UInt8} {y : Ov} (h : RdInv 15 wt i n V t) (hk : y.k = (15 : Nat)) (yw : wt = (letL 15).map (letW y)) (hy : HasLine s y) (hi : i = wt.length + 1 ∨ 6 ≤ n)
    (h0 : 0 < V.length) (h1 : 1 < V.length) (h2 : 2 < V.length) : finO 15 V[0] V[1] V[2] t = y := by
  rw [show letL 15 = [] by decide] at yw
  simp only [List.map_nil] at yw
  subst yw
  have hz := plain_zero hy.plain
  unfold zeroU at hz
  rw [hk, Int.toNat_natCast] at hz
  have hb := hy.big
  have hid := hy.ok.id
  have hg := hy.ok.g
  have hiw := h.iw
  have hi1 := h.i1
  simp only [List.length_cons, List.length_nil] at hi hiw
  have r0 := h.rng V[0] (List.getElem_mem h0)
  have r1 := h.rng V[1] (List.getElem_mem h1)
  have r2 := h.rng V[2] (List.getElem_mem h2)
  obtain ⟨hn, ht, hv⟩ := h.other (by decide)
  have hi3 : n = 0 := by omega
  apply ov_ext
  · exact hk.symm
  · exact (hz.1 (by decide)).symm
  · exact (hz.2.1 (by decide)).symm
  · exact (hz.2.2.1 (by decide)).symm
  · exact (hz.2.2.2.1 (by decide)).symm
  · exact (hz.2.2.2.2.1 (by decide)).symm
  · rw [str_empty (hz.2.2.2.2.2 (by decide))]; exact ht
theorem made_16 {wt : List (List UInt8)} {i n : Nat} {V : List Int} {t : ByteArray} {s : List UInt8} {y : Ov} (h : RdInv 16 wt i n V t) (hk : y.k = (16 : Nat)) (yw : wt = (letL 16).map (letW y)) (hy : HasLine s y) (hi : i = wt.length + 1 ∨ 6 ≤ n)
    (h0 : 0 < V.length) (h1 : 1 < V.length) (h2 : 2 < V.length) : finO 16 V[0] V[1] V[2] t = y := by
  rw [show letL 16 = [] by decide] at yw
  simp only [List.map_nil] at yw
  subst yw
  have hz := plain_zero hy.plain
  unfold zeroU at hz
  rw [hk, Int.toNat_natCast] at hz
  have hb := hy.big
  have hid := hy.ok.id
  have hg := hy.ok.g
  have hiw := h.iw
  have hi1 := h.i1
  simp only [List.length_cons, List.length_nil] at hi hiw
  have r0 := h.rng V[0] (List.getElem_mem h0)
  have r1 := h.rng V[1] (List.getElem_mem h1)
  have r2 := h.rng V[2] (List.getElem_mem h2)
  obtain ⟨hn, ht, hv⟩ := h.other (by decide)
  have hi3 : n = 0 := by omega
  apply ov_ext
  · exact hk.symm
  · exact (hz.1 (by decide)).symm
  · exact (hz.2.1 (by decide)).symm
  · exact (hz.2.2.1 (by decide)).symm
  · exact (hz.2.2.2.1 (by decide)).symm
  · exact (hz.2.2.2.2.1 (by decide)).symm
  · rw [str_empty (hz.2.2.2.2.2 (by decide))]; exact ht
/-- if the line is an operation's, it is what was made -/
theorem RdInv.made {k : Nat} {wt : List (List UInt8)} {i n : Nat} {V : List Int} {t : ByteArray} {s : List UInt8} {y : Ov} (h : RdInv k wt i n V t) (hk1 : 1 ≤ k) (hk2 : k ≤ 16) (hs : splitW s = nameL k :: wt) (hy : HasLine s y) (hi : i = wt.length + 1 ∨ 6 ≤ n)
    (h0 : 0 < V.length) (h1 : 1 < V.length) (h2 : 2 < V.length) : finO k V[0] V[1] V[2] t = y := by
  obtain ⟨yk, yw⟩ := hy.kind hk1 hk2 hs
  rcases kind_cases hk1 hk2 with rfl | rfl | rfl | rfl | rfl | rfl | rfl | rfl | rfl | rfl | rfl | rfl | rfl | rfl | rfl | rfl
  · exact made_1 h yk yw hy hi h0 h1 h2
  · exact made_2 h yk yw hy hi h0 h1 h2
  · exact made_3 h yk yw hy hi h0 h1 h2
  · exact made_4 h yk yw hy hi h0 h1 h2
  · exact made_5 h yk yw hy hi h0 h1 h2
  · exact made_6 h yk yw hy hi h0 h1 h2
  · exact made_7 h yk yw hy hi h0 h1 h2
  · exact made_8 h yk yw hy hi h0 h1 h2
  · exact made_9 h yk yw hy hi h0 h1 h2
  · exact made_10 h yk yw hy hi h0 h1 h2
  · exact made_11 h yk yw hy hi h0 h1 h2
  · exact made_12 h yk yw hy hi h0 h1 h2
  · exact made_13 h yk yw hy hi h0 h1 h2
  · exact made_14 h yk yw hy hi h0 h1 h2
  · exact made_15 h yk yw hy hi h0 h1 h2
  · exact made_16 h yk yw hy hi h0 h1 h2
theorem t_only : ∀ k : Nat, k < 17 → (116 : UInt8) ∈ letL k → k = 1 := by decide +kernel
/-- a word that cannot be read -/
theorem no_number {k : Nat} {wt : List (List UInt8)} {s : List UInt8} (hk1 : 1 ≤ k) (hk2 : k ≤ 16) (hs : splitW s = nameL k :: wt) {j : Nat} (h : j < wt.length) (hk : k ≠ 1 ∨ j ≠ 1) (hf : (numR wt[j]).2 = false) : ∀ y, ¬ HasLine s y := by
  intro y hy
  obtain ⟨yk, yw⟩ := hy.kind hk1 hk2 hs
  have hjl : j < (letL k).length := by rw [yw, List.length_map] at h; exact h
  have e : wt[j] = letW y (letL k)[j] := by subst yw; rw [List.getElem_map]
  have hb := hy.big
  have key : ∀ {v : Int}, numOK v → (numR (numL v)).2 = true := fun {v} hv => by rw [numR_some (numW_numL hv)]
  rw [e] at hf
  have h6 := six_mem (k := k) (by omega) (List.getElem_mem hjl)
  have hne : (letL k)[j] ≠ 116 := fun e6 => by
    have hm : (116 : UInt8) ∈ letL k := by rw [← e6]; exact List.getElem_mem hjl
    have hkk : k = 1 := t_only k (by omega) hm
    subst hkk
    have : j = 0 ∨ j = 1 := by
      have : (letL 1).length = 2 := by decide
      omega
    rcases this with rfl | rfl
    · exact absurd (show (97 : UInt8) = 116 from e6) (by decide)
    · rcases hk with hk | hk <;> exact hk rfl
  generalize (letL k)[j] = c at *
  rcases h6 with rfl | rfl | rfl | rfl | rfl | rfl
  · rw [letW_s, key hb.slot] at hf; cases hf
  · rw [letW_a, key hb.at_] at hf; cases hf
  · rw [letW_n, key hb.n] at hf; cases hf
  · rw [letW_i, key hb.id] at hf; cases hf
  · rw [letW_g, key hb.g] at hf; cases hf
  · exact hne rfl
theorem no_text {wt : List (List UInt8)} {s : List UInt8} (hs : splitW s = nameL 1 :: wt) (h : 1 < wt.length) (hf : (unqR wt[1]).2 = false) : ∀ y, ¬ HasLine s y := by
  intro y hy
  obtain ⟨yk, yw⟩ := hy.kind (by decide) (by decide) hs
  rw [show letL 1 = [97, 116] by decide] at yw
  subst yw
  have e : ([97, 116].map (letW y))[1] = quoteL y.t := rfl
  rw [e, unqR_some (unqL_quote y.t)] at hf
  cases hf
theorem RdInv.start (k : Nat) (wt : List (List UInt8)) : RdInv k wt 1 0 [0, 0, 0, 0, 0, 0] ⟨#[]⟩ where
  i1 := Nat.le_refl _
  iw := by omega
  len := rfl
  rng := fun v hv => by simp at hv; omega
  n6 := by decide
  tl := by decide
  zero := fun j h _ => by
    have : j < 6 := h
    have : j = 0 ∨ j = 1 ∨ j = 2 ∨ j = 3 ∨ j = 4 ∨ j = 5 := by omega
    rcases this with rfl | rfl | rfl | rfl | rfl | rfl <;> rfl
  other := fun _ => ⟨rfl, rfl, fun j _ _ h => absurd h (Nat.not_lt_zero _)⟩
  ins := fun _ => ⟨fun _ => ⟨rfl, rfl⟩, fun h => by omega, fun h => by omega⟩
/-- a number read -/
theorem RdInv.num {k : Nat} {wt : List (List UInt8)} {i n : Nat} {V : List Int} {t : ByteArray} (h : RdInv k wt i n V t) (hi : i ≤ wt.length) (hn : n < 6) (hk : k ≠ 1 ∨ i ≠ 2) (hw : i - 1 < wt.length) (hf : (numR wt[i - 1]).2 = true) :
    RdInv k wt (i + 1) (n + 1) (V.set n (numR wt[i - 1]).1) t where
  i1 := by omega
  iw := by omega
  len := by rw [List.length_set]; exact h.len
  rng := fun v hv => by
    rcases List.mem_or_eq_of_mem_set hv with hv | rfl
    · exact h.rng v hv
    · exact numR_rng _
  n6 := by omega
  tl := h.tl
  zero := fun j hj hnj => by
    rw [List.getElem_set, if_neg (by omega)]
    exact h.zero j (by simpa using hj) (by omega)
  other := fun k1 => by
    obtain ⟨a, b, c⟩ := h.other k1
    have h1 := h.i1
    refine ⟨by omega, b, fun j hj h2 hjn => ?_⟩
    rw [List.getElem_set]
    by_cases e : n = j
    · rw [if_pos e]
      subst e
      have e2 : wt[i - 1] = wt[n] := by congr 1; omega
      rw [e2] at hf ⊢
      exact numR_true hf
    · rw [if_neg e]
      exact c j (by simpa using hj) h2 (by omega)
  ins := fun k1 => by
    obtain ⟨a, b, c⟩ := h.ins k1
    have h1 := h.i1
    have hi2 : i ≠ 2 := by rcases hk with hk | hk; exact absurd k1 hk; exact hk
    refine ⟨fun q => ?_, fun q => ?_, fun q hv h2 => ?_⟩
    · obtain ⟨a1, a2⟩ := a (by omega)
      exact ⟨by omega, a2⟩
    · obtain ⟨b1, b2⟩ := b (by omega)
      exact ⟨by omega, b2⟩
    · rw [List.getElem_set]
      by_cases e : n = 0
      · rw [if_pos e]
        have hi1 : i = 1 := by
          rcases Nat.lt_or_ge 2 i with q2 | q2
          · obtain ⟨b1, b2⟩ := b (by omega); omega
          · obtain ⟨a1, a2⟩ := a (by omega); omega
        have e2 : wt[i - 1] = wt[0] := by congr 1; omega
        rw [e2] at hf ⊢
        exact numR_true hf
      · rw [if_neg e]
        exact c (by omega) (by simpa using hv) h2
/-- the string read -/
theorem RdInv.txt {wt : List (List UInt8)} {n : Nat} {V : List Int} {t : ByteArray} (h : RdInv 1 wt 2 n V t) (hw : 1 < wt.length) (hl : wt[1].length ≤ 1000000) (hf : (unqR wt[1]).2 = true) :
    RdInv 1 wt 3 n V ⟨(unqR wt[1]).1.toArray⟩ where
  i1 := by decide
  iw := by omega
  len := h.len
  rng := h.rng
  n6 := h.n6
  tl := by
    have := congrArg List.length (unqR_true hf)
    rw [quote_len] at this
    omega
  zero := h.zero
  other := fun k1 => absurd rfl k1
  ins := fun _ => by
    obtain ⟨a, b, c⟩ := h.ins rfl
    obtain ⟨a1, a2⟩ := a (by omega)
    exact ⟨fun q => by omega, fun _ => ⟨by omega, fun _ => unqR_true hf⟩, c⟩
end Go.Proofs.YtdfkbahlngijcaaDoor

