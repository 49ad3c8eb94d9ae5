/- Text: results: Result of the reference. (printed by slim.py.) -/
import Derived.Test.YtdfkbahlngijcaaDoorQKb
import Derived.Test.YtdfkbahlngijcaaDoorQUb
namespace Go.Proofs.YtdfkbahlngijcaaDoor
open Go.RowKit
set_option linter.unusedVariables false

theorem cat_word {S : ByteArray} {A B : List UInt8} (h : S = ⟨A.toArray⟩) : S ++ ((⟨#[32]⟩ : ByteArray) ++ ⟨B.toArray⟩) = ⟨(A ++ 32 :: B).toArray⟩ := by
  subst h
  apply ByteArray.ext
  rw [ByteArray.data_append, ByteArray.data_append]
  simp
theorem word_snoc {S : ByteArray} {ws : List (List UInt8)} {B : List UInt8} (h : S = ⟨(joinW ws).toArray⟩) (hn : ws ≠ []) : S ++ ((⟨#[32]⟩ : ByteArray) ++ ⟨B.toArray⟩) = ⟨(joinW (ws ++ [B])).toArray⟩ := by
  rw [cat_word h, joinW_snoc ws B hn]
theorem bytes_len {S : ByteArray} {l : List UInt8} (h : S = ⟨l.toArray⟩) : S.size = l.length := by
  subst h
  exact List.size_toArray ..
end Go.Proofs.YtdfkbahlngijcaaDoor

namespace Go.Proofs.YtdfkbahlngijcaaDoor
open Go.RowKit
set_option linter.unusedVariables false

/-- the numbers of the loop -/
def numsO (x : Ov) : List Int := [x.slot, x.id, x.at_, x.n, x.g]
def hasO (k : Nat) : List Bool := [decide (0 ∈ fldK k), decide (k = 10), decide (1 ∈ fldK k), decide (2 ∈ fldK k), decide (4 ∈ fldK k)]
/-- the words of the loop's first j rounds -/
def loopW (bs : List Bool) (vs : List Int) : List (List UInt8) := (bs.zip vs).filterMap fun p => if p.1 then some (numL p.2) else none
def refW (k : Nat) (x : Ov) : List (List UInt8) := (if k = 3 ∨ k = 4 then [numL x.id] else []) ++ loopW (hasO k) (numsO x) ++ (if 5 ∈ fldK k then [quoteL x.t] else [])
theorem refW_is (x : Ov) (k : Nat) (h1 : 1 ≤ k) (h2 : k ≤ 16) : refW k x = (letL k).map (letW x) := by
  rcases kind_cases h1 h2 with rfl | rfl | rfl | rfl | rfl | rfl | rfl | rfl | rfl | rfl | rfl | rfl | rfl | rfl | rfl | rfl <;> rfl
theorem loopW_snoc (bs : List Bool) (vs : List Int) (j : Nat) (hb : j < bs.length) (hv : j < vs.length) : loopW (bs.take (j + 1)) (vs.take (j + 1)) = loopW (bs.take j) (vs.take j) ++ (if bs[j] = true then [numL vs[j]] else []) := by
  unfold loopW
  rw [List.take_succ_eq_append_getElem hb, List.take_succ_eq_append_getElem hv, List.zip_append (by simp; omega), List.filterMap_append]
  congr 1
  by_cases h : bs[j] = true
  · simp [h]
  · simp [h]
theorem loopW_len {bs : List Bool} {vs : List Int} : (loopW bs vs).length ≤ vs.length := by
  unfold loopW
  refine Nat.le_trans (List.length_filterMap_le _ _) ?_
  rw [List.length_zip]; omega
theorem loopW_mem {bs : List Bool} {vs : List Int} : ∀ w ∈ loopW bs vs, w.length ≤ 10 := by
  intro w hw
  unfold loopW at hw
  obtain ⟨p, _, hp⟩ := List.mem_filterMap.1 hw
  by_cases h : p.1 = true
  · rw [if_pos h] at hp
    rw [← Option.some.inj hp]; exact numL_len _
  · rw [if_neg h] at hp; cases hp
theorem refWs_len {ws0 : List (List UInt8)} {bs : List Bool} {vs : List Int} (h1 : ws0.length ≤ 2) (h2 : ∀ v ∈ ws0, v.length ≤ 10) (hv : vs.length ≤ 5) : (joinW (ws0 ++ loopW bs vs)).length ≤ 1000 := by
  have hk : ∀ w ∈ ws0 ++ loopW bs vs, w.length ≤ 10 := fun w hw => by
    rcases List.mem_append.1 hw with h | h
    · exact h2 w h
    · exact loopW_mem w h
  have hl : (ws0 ++ loopW bs vs).length ≤ 7 := by
    rw [List.length_append]
    have := @loopW_len bs vs
    omega
  have := joinW_most _ 10 hk
  have := Nat.mul_le_mul_right (10 + 1) hl
  omega
theorem ws_ne {ws0 : List (List UInt8)} {nm : List UInt8} {pre : List (List UInt8)} (h : ∀ l, ws0 ++ l = nm :: (pre ++ l)) (l : List (List UInt8)) : ws0 ++ l ≠ [] := by
  rw [h l]; simp
theorem nameL_len (k : Nat) : (nameL k).length ≤ 10 :=
  Nat.le_trans (List.takeWhile_sublist _).length_le (wordsL_len k)
theorem opL_ref (x : Ov) (k : Nat) (hk : x.k = k) (h1 : 1 ≤ k) (h2 : k ≤ 16) : opL x = joinW (nameL k :: refW k x) := by
  unfold opL opW
  rw [refW_is x k h1 h2, hk, Int.toNat_natCast]
set_option maxRecDepth 100000 in
set_option maxHeartbeats 8000000 in
theorem refOp_a (x : Ov) (hk : x.k = (3 : Nat)) (ho : OvOk x) (ht : x.t.size ≤ 140737488355328) (hp : plainO x = true) (w : World) :
    Calls Tryd.prog 22 #[.agg #[.int .u8 x.k, .int .i64 x.slot, .int .i64 x.at_, .int .i64 x.n, .int .u32 x.id, .int .u8 x.g, .string x.t]] w fun e w' => e = .returned (.tuple #[.string ⟨(opL x).toArray⟩, .int .i64 0]) ∧ Below w.heap.size w w' := by
  have HE := Lib.hid (opL_ref x 3 hk (by omega) (by omega))
  have HP := Lib.hid (refPlain_any x (w.alloc (.cells (oC x) 51)) ht)
  have HB0 := Lib.hid ((Below.refl w.heap.size w).alloc (Nat.le_refl _) (.cells (oC x) 51))
  have HNB := Lib.hid (block_new w (.cells (oC x) 51))
  have HTX := Lib.hid (plain_text hp)
  rw [hp] at HP
  have HW := Lib.hid (fun u => word_any 3 (by omega) (by omega) u)
  have HU := Lib.hid (fun u => uses_any 3 (by omega) (by omega) u)
  have HNL := Lib.hid (show (nameL 3).length ≤ 10 from nameL_len _)
  have hwid : IntKind.i64.wrap x.id = x.id := by rw [IntKind.wrap_i64]; have := ho.id; omega
  have hwg : IntKind.i64.wrap x.g = x.g := by rw [IntKind.wrap_i64]; have := ho.g; omega
  have HHO := Lib.hid (show hasO 3 = [decide (0 ∈ fldK 3), false, decide (1 ∈ fldK 3), decide (2 ∈ fldK 3), decide (4 ∈ fldK 3)] from rfl)
  have HRW := Lib.hid (show refW 3 x = [numL x.id] ++ loopW (hasO 3) (numsO x) ++ (if decide (5 ∈ fldK 3) = true then [quoteL x.t] else []) by unfold refW; simp)
  unfold usesA at HU
  generalize decide (0 ∈ fldK 3) = n0 at *
  generalize decide (1 ∈ fldK 3) = n1 at *
  generalize decide (2 ∈ fldK 3) = n2 at *
  generalize decide (3 ∈ fldK 3) = n3 at *
  generalize decide (4 ∈ fldK 3) = n4 at *
  generalize decide (5 ∈ fldK 3) = n5 at *
  generalize hnm : nameL 3 = nm at *
  clear hnm
  obtain ⟨k, s, a, m, id, g, t⟩ := x
  replace hk : k = (3 : Nat) := hk
  subst hk
  simp only [oC] at HE HP HB0 HNB HTX HRW hwid hwg ht ⊢
  have HVS := Lib.hid (show numsO ⟨((3 : Nat) : Int), s, a, m, id, g, t⟩ = [s, id, a, m, g] from rfl)
  simp only [Int.cast_ofNat_Int] at HE HP HB0 HNB HTX HRW HVS HU HW ⊢
  have HNI := Lib.hid (fun u => refNumber_any id u)
  have hli := numL_len id
  clear ho hp
  go_enter Tryd.func22, Tryd.ntmps22
  go_wp2_with fail
  refine (HP.out).mono ?_; rintro e w2 ⟨rfl, hb2⟩
  have HN2 := Lib.hid (block_below hb2 HNB.out (by simp))
  have HB2 := Lib.hid (HB0.out.trans (hb2.mono HB0.out.size))
  have q0 := block_cell HN2.out 0
  simp at q0
  clear hb2
  go_wp2_with fail
  refine (HW.out _).mono ?_; rintro e w3 ⟨rfl, hb3⟩
  have HN3 := Lib.hid (block_below hb3 HN2.out (block_lt HN2.out))
  have HB3 := Lib.hid (below_two HB2.out hb3)
  have q0 := block_cell HN3.out 0
  simp at q0
  clear hb3
  go_wp2_with fail
  refine (HU.out _).mono ?_; rintro e w4 ⟨rfl, hb4⟩
  have HN4 := Lib.hid (block_below hb4 HN3.out (block_lt HN3.out))
  have HB4 := Lib.hid (below_two HB3.out hb4)
  have HBU := Lib.hid (block_new w4 (.cells #[.bool n0, .bool n1, .bool n2, .bool n3, .bool n4, .bool n5] 104))
  have HN4a := Lib.hid (block_alloc HN4.out (.cells #[.bool n0, .bool n1, .bool n2, .bool n3, .bool n4, .bool n5] 104))
  have hlt4 := block_lt HN4.out
  have HB4a := Lib.hid (HB4.out.alloc (by omega) (.cells #[.bool n0, .bool n1, .bool n2, .bool n3, .bool n4, .bool n5] 104))
  clear hb4
  go_upto_region 5 with (fail)
  generalize hw5 : World.alloc w4 _ = w5 at *
  clear hw5
  have q0 := block_cell HN4a.out 0
  simp at q0
  have HN5 := HN4a
  have HBI := Lib.hid (block_new w5 (.cells #[.bool true, .bool false] 106))
  have HN6 := Lib.hid (block_alloc HN5.out (.cells #[.bool true, .bool false] 106))
  have HBU6 := Lib.hid (block_alloc HBU.out (.cells #[.bool true, .bool false] 106))
  have hlt5 := block_lt HN5.out
  have HB6 := Lib.hid (HB4a.out.alloc (by omega) (.cells #[.bool true, .bool false] 106))
  go_upto_region 6 with (fail)
  generalize hw6 : World.alloc w5 _ = w6 at *
  clear hw6
  have i0 := block_cell HBI.out 0
  have i1 := block_cell HBI.out 1
  simp at i0 i1
  have q4 := block_cell HN6.out 4
  simp at q4
  have hcn1 : ¬ (9223372036854775807 < 1 + (numL id).length) := by omega
  have hcn2 : ¬ (9223372036854775807 < nm.length + (1 + (numL id).length)) := by have := HNL.out; omega
  go_wp2_with fail
  refine (HNI.out _).mono ?_; rintro e w7 ⟨rfl, hb7⟩
  have HN7 := Lib.hid (block_below hb7 HN6.out (block_lt HN6.out))
  have HBU7 := Lib.hid (block_below hb7 HBU6.out (block_lt HBU6.out))
  have HBI7 := Lib.hid (block_below hb7 HBI.out (block_lt HBI.out))
  have HB7 := Lib.hid (below_two HB6.out hb7)
  have HWS := Lib.hid (word_snoc (S := ⟨nm.toArray⟩) (ws := [nm]) (B := numL id) rfl (by simp))
  have HL0 := Lib.hid (show ([nm, numL id]).length ≤ 2 ∧ ∀ v ∈ [nm, numL id], v.length ≤ 10 from ⟨by simp, by intro v hv; simp at hv; rcases hv with rfl | rfl; exact HNL.out; exact hli⟩)
  clear hb7
  go_upto_region 9 with (fail)
  rw [HWS.out]
  have HWS0 := Lib.hid (show [nm] ++ [numL id] = [nm, numL id] from rfl)
  generalize hws : [nm] ++ [numL id] = ws0 at *
  rw [← HWS0.out] at HL0
  clear hws
  have HOW := Lib.hid (show ∀ l, ws0 ++ l = nm :: ([numL id] ++ l) from fun l => by rw [HWS0.out]; rfl)
  have q1 := block_cell HN7.out 1
  have q2 := block_cell HN7.out 2
  have q3 := block_cell HN7.out 3
  have q4 := block_cell HN7.out 4
  have q5 := block_cell HN7.out 5
  simp at q1 q2 q3 q4 q5
  have hlt7 := block_lt HN7.out
  have HBV := Lib.hid (block_new w7 (.cells #[.int .i64 s, .int .i64 id, .int .i64 a, .int .i64 m, .int .i64 g] 107))
  have HN8 := Lib.hid (block_alloc HN7.out (.cells #[.int .i64 s, .int .i64 id, .int .i64 a, .int .i64 m, .int .i64 g] 107))
  have HBU8 := Lib.hid (block_alloc HBU7.out (.cells #[.int .i64 s, .int .i64 id, .int .i64 a, .int .i64 m, .int .i64 g] 107))
  have HBI8 := Lib.hid (block_alloc HBI7.out (.cells #[.int .i64 s, .int .i64 id, .int .i64 a, .int .i64 m, .int .i64 g] 107))
  have HB8 := Lib.hid (HB7.out.alloc (by omega) (.cells #[.int .i64 s, .int .i64 id, .int .i64 a, .int .i64 m, .int .i64 g] 107))
  clear i0 i1
  go_upto_region 10 with (fail)
  generalize hw8 : World.alloc w7 _ = w8 at *
  clear hw8 q1 q2 q3 q4 q5
  have i0 := block_cell HBI8.out 1
  have u0 := block_cell HBU8.out 0
  have u1 := block_cell HBU8.out 1
  have u2 := block_cell HBU8.out 2
  have u4 := block_cell HBU8.out 4
  simp at i0 u0 u1 u2 u4
  have hlt8 := block_lt HN8.out
  have HBH := Lib.hid (block_new w8 (.cells #[.bool n0, .bool false, .bool n1, .bool n2, .bool n4] 108))
  have HN9 := Lib.hid (block_alloc HN8.out (.cells #[.bool n0, .bool false, .bool n1, .bool n2, .bool n4] 108))
  have HBU9 := Lib.hid (block_alloc HBU8.out (.cells #[.bool n0, .bool false, .bool n1, .bool n2, .bool n4] 108))
  have HBV9 := Lib.hid (block_alloc HBV.out (.cells #[.bool n0, .bool false, .bool n1, .bool n2, .bool n4] 108))
  have HB9 := Lib.hid (HB8.out.alloc (by omega) (.cells #[.bool n0, .bool false, .bool n1, .bool n2, .bool n4] 108))
  go_upto_region 11 with (fail)
  generalize hw9 : World.alloc w8 _ = w9 at *
  clear hw9 i0 u0 u1 u2 u4
  obtain ⟨S0, hS0⟩ : ∃ S0 : ByteArray, S0 = ⟨(joinW ws0).toArray⟩ := ⟨_, rfl⟩
  rw [← hS0]
  have HS0 := Lib.hid hS0
  clear hS0
  have HBC := Lib.hid (show w9.heap[w8.heap.size]? = some (.cells (([n0, false, n1, n2, n4] : List Bool).map Value.bool).toArray 108 (0, 0)) from HBH.out)
  have HVC := Lib.hid (show w9.heap[w7.heap.size]? = some (.cells (([s, id, a, m, g] : List Int).map (Value.int .i64)).toArray 107 (0, 0)) from HBV9.out)
  have HHO := Lib.hid (show hasO 3 = [n0, false, n1, n2, n4] from HHO.out)
  rw [HHO.out, HVS.out] at HRW
  have HBL := Lib.hid (show ([n0, false, n1, n2, n4] : List Bool).length = 5 from rfl)
  have HVL := Lib.hid (show ([s, id, a, m, g] : List Int).length = 5 from rfl)
  generalize ([n0, false, n1, n2, n4] : List Bool) = bs at *
  generalize ([s, id, a, m, g] : List Int) = vs at *
  clear HBH HBV9 HBV
  go_wp2_with fail
  go_loopw [4, 11] (fun ss sj wr => ∃ (j : Nat) (S : ByteArray), j ≤ 5 ∧ sj = .int .i64 j ∧ ss = .string S ∧ S = ⟨(joinW (ws0 ++ loopW (bs.take j) (vs.take j))).toArray⟩ ∧ Below w9.heap.size w9 wr) (fun _ sj _ => 5 - (intOf sj).toNat)
  case atStart => exact ⟨0, S0, Nat.zero_le _, rfl, rfl, by rw [HS0.out]; simp [loopW], Below.refl _ _⟩
  case round =>
    obtain ⟨j, S, hj, rfl, rfl, hS, hbr⟩ := hrel
    have HS := Lib.hid hS
    have HBR := Lib.hid hbr
    have hSL : S.size ≤ 1000 := by rw [bytes_len hS]; exact refWs_len HL0.out.1 HL0.out.2 (by rw [List.length_take, HVL.out]; omega)
    clear hS
    by_cases hlt : j < 5
    · have hlt1 : (j : Int) < 5 := by omega
      have hj0 : (0 : Int) ≤ (j : Int) := by omega
      have hjb : j < bs.length := by rw [HBL.out]; exact hlt
      have hjv : j < vs.length := by rw [HVL.out]; exact hlt
      have cb := block_cell (block_below hbr HBC.out (block_lt HBC.out)) j
      have cv := block_cell (block_below hbr HVC.out (block_lt HVC.out)) j
      rw [List.getElem?_toArray, List.getElem?_map, List.getElem?_eq_getElem hjb] at cb
      rw [List.getElem?_toArray, List.getElem?_map, List.getElem?_eq_getElem hjv] at cv
      simp only [Option.map_some] at cb cv
      have HLS := Lib.hid (loopW_snoc bs vs j hjb hjv)
      generalize bs[j] = b at *
      generalize vs[j] = v at *
      clear hjb hjv hbr
      rcases b with _ | _
      · have HLE := Lib.hid (show loopW (bs.take (j + 1)) (vs.take (j + 1)) = loopW (bs.take j) (vs.take j) by rw [HLS.out]; simp)
        go_wp2_with fail
        go_roundw
        case rel => exact ⟨j + 1, S, by omega, by go_num, rfl, by rw [HLE.out]; exact HS.out, HBR.out⟩
        case measure => simp [intOf]; omega
      · have HLE := Lib.hid (show ws0 ++ loopW (bs.take (j + 1)) (vs.take (j + 1)) = (ws0 ++ loopW (bs.take j) (vs.take j)) ++ [numL v] by rw [HLS.out]; simp)
        have HNV := Lib.hid (fun u => refNumber_any v u)
        have hlv := numL_len v
        have hcn1 : ¬ (9223372036854775807 < 1 + (numL v).length) := by omega
        have hcn2 : ¬ (9223372036854775807 < S.size + (1 + (numL v).length)) := by omega
        have HS3 := Lib.hid (word_snoc (B := numL v) HS.out (ws_ne HOW.out _))
        go_wp2_with fail
        refine (HNV.out _).mono ?_; rintro e w8b ⟨rfl, hb8⟩
        have HBR2 := Lib.hid (below_two HBR.out hb8)
        clear hb8
        go_wp2_with fail
        go_roundw
        case rel => exact ⟨j + 1, _, by omega, by go_num, rfl, by rw [HS3.out, HLE.out], HBR2.out⟩
        case measure => simp [intOf]; omega
    · have hlt1 : ¬ ((j : Int) < 5) := by omega
      have HSE := Lib.hid (show S = ⟨(joinW (ws0 ++ loopW bs vs)).toArray⟩ by
        have := HS.out
        rw [List.take_of_length_le (by rw [HBL.out]; omega), List.take_of_length_le (by rw [HVL.out]; omega)] at this
        exact this)
      have cu := block_cell (block_below hbr HBU9.out (block_lt HBU9.out)) 5
      have HNR := Lib.hid (block_below hbr HN9.out (block_lt HN9.out))
      have HBR3 := Lib.hid (HB9.out.trans (hbr.mono HB9.out.size))
      simp at cu
      clear hbr HS
      rcases n5 with _ | _
      · have HF := Lib.hid (show opL ⟨3, s, a, m, id, g, t⟩ = joinW (ws0 ++ loopW bs vs) by rw [HE.out, HRW.out, HOW.out]; simp)
        go_wp2_with fail
        go_ret2
        exact ⟨by rw [HF.out, ← HSE.out] <;> rfl, HBR3.out⟩
      · have HF := Lib.hid (show opL ⟨3, s, a, m, id, g, t⟩ = joinW ((ws0 ++ loopW bs vs) ++ [quoteL t]) by rw [HE.out, HRW.out, List.append_assoc, HOW.out]; simp)
        have HS3 := Lib.hid (word_snoc (B := quoteL t) HSE.out (ws_ne HOW.out _))
        have hql := quote_len t
        have htx : t.size ≤ 256 := HTX.out
        have HQ := Lib.hid (refString_any t wr (by omega))
        have hcn1 : ¬ (9223372036854775807 < 1 + (quoteL t).length) := by omega
        have hcn2 : ¬ (9223372036854775807 < S.size + (1 + (quoteL t).length)) := by omega
        have q6 := block_cell HNR.out 6
        simp at q6
        clear hql htx
        go_wp2_with fail
        refine (HQ.out).mono ?_; rintro e w8b ⟨rfl, hb8⟩
        have HBR4 := Lib.hid (below_two HBR3.out hb8)
        clear hb8
        go_wp2_with fail
        go_ret2
        exact ⟨by rw [HF.out, ← HS3.out] <;> rfl, HBR4.out⟩
set_option maxRecDepth 100000 in
set_option maxHeartbeats 8000000 in
theorem refOp_b (x : Ov) (hk : x.k = (4 : Nat)) (ho : OvOk x) (ht : x.t.size ≤ 140737488355328) (hp : plainO x = true) (w : World) :
    Calls Tryd.prog 22 #[.agg #[.int .u8 x.k, .int .i64 x.slot, .int .i64 x.at_, .int .i64 x.n, .int .u32 x.id, .int .u8 x.g, .string x.t]] w fun e w' => e = .returned (.tuple #[.string ⟨(opL x).toArray⟩, .int .i64 0]) ∧ Below w.heap.size w w' := by
  have HE := Lib.hid (opL_ref x 4 hk (by omega) (by omega))
  have HP := Lib.hid (refPlain_any x (w.alloc (.cells (oC x) 51)) ht)
  have HB0 := Lib.hid ((Below.refl w.heap.size w).alloc (Nat.le_refl _) (.cells (oC x) 51))
  have HNB := Lib.hid (block_new w (.cells (oC x) 51))
  have HTX := Lib.hid (plain_text hp)
  rw [hp] at HP
  have HW := Lib.hid (fun u => word_any 4 (by omega) (by omega) u)
  have HU := Lib.hid (fun u => uses_any 4 (by omega) (by omega) u)
  have HNL := Lib.hid (show (nameL 4).length ≤ 10 from nameL_len _)
  have hwid : IntKind.i64.wrap x.id = x.id := by rw [IntKind.wrap_i64]; have := ho.id; omega
  have hwg : IntKind.i64.wrap x.g = x.g := by rw [IntKind.wrap_i64]; have := ho.g; omega
  have HHO := Lib.hid (show hasO 4 = [decide (0 ∈ fldK 4), false, decide (1 ∈ fldK 4), decide (2 ∈ fldK 4), decide (4 ∈ fldK 4)] from rfl)
  have HRW := Lib.hid (show refW 4 x = [numL x.id] ++ loopW (hasO 4) (numsO x) ++ (if decide (5 ∈ fldK 4) = true then [quoteL x.t] else []) by unfold refW; simp)
  unfold usesA at HU
  generalize decide (0 ∈ fldK 4) = n0 at *
  generalize decide (1 ∈ fldK 4) = n1 at *
  generalize decide (2 ∈ fldK 4) = n2 at *
  generalize decide (3 ∈ fldK 4) = n3 at *
  generalize decide (4 ∈ fldK 4) = n4 at *
  generalize decide (5 ∈ fldK 4) = n5 at *
  generalize hnm : nameL 4 = nm at *
  clear hnm
  obtain ⟨k, s, a, m, id, g, t⟩ := x
  replace hk : k = (4 : Nat) := hk
  subst hk
  simp only [oC] at HE HP HB0 HNB HTX HRW hwid hwg ht ⊢
  have HVS := Lib.hid (show numsO ⟨((4 : Nat) : Int), s, a, m, id, g, t⟩ = [s, id, a, m, g] from rfl)
  simp only [Int.cast_ofNat_Int] at HE HP HB0 HNB HTX HRW HVS HU HW ⊢
  have HNI := Lib.hid (fun u => refNumber_any id u)
  have hli := numL_len id
  clear ho hp
  go_enter Tryd.func22, Tryd.ntmps22
  go_wp2_with fail
  refine (HP.out).mono ?_; rintro e w2 ⟨rfl, hb2⟩
  have HN2 := Lib.hid (block_below hb2 HNB.out (by simp))
  have HB2 := Lib.hid (HB0.out.trans (hb2.mono HB0.out.size))
  have q0 := block_cell HN2.out 0
  simp at q0
  clear hb2
  go_wp2_with fail
  refine (HW.out _).mono ?_; rintro e w3 ⟨rfl, hb3⟩
  have HN3 := Lib.hid (block_below hb3 HN2.out (block_lt HN2.out))
  have HB3 := Lib.hid (below_two HB2.out hb3)
  have q0 := block_cell HN3.out 0
  simp at q0
  clear hb3
  go_wp2_with fail
  refine (HU.out _).mono ?_; rintro e w4 ⟨rfl, hb4⟩
  have HN4 := Lib.hid (block_below hb4 HN3.out (block_lt HN3.out))
  have HB4 := Lib.hid (below_two HB3.out hb4)
  have HBU := Lib.hid (block_new w4 (.cells #[.bool n0, .bool n1, .bool n2, .bool n3, .bool n4, .bool n5] 104))
  have HN4a := Lib.hid (block_alloc HN4.out (.cells #[.bool n0, .bool n1, .bool n2, .bool n3, .bool n4, .bool n5] 104))
  have hlt4 := block_lt HN4.out
  have HB4a := Lib.hid (HB4.out.alloc (by omega) (.cells #[.bool n0, .bool n1, .bool n2, .bool n3, .bool n4, .bool n5] 104))
  clear hb4
  go_upto_region 5 with (fail)
  generalize hw5 : World.alloc w4 _ = w5 at *
  clear hw5
  have q0 := block_cell HN4a.out 0
  simp at q0
  have HN5 := HN4a
  have HBI := Lib.hid (block_new w5 (.cells #[.bool true, .bool false] 106))
  have HN6 := Lib.hid (block_alloc HN5.out (.cells #[.bool true, .bool false] 106))
  have HBU6 := Lib.hid (block_alloc HBU.out (.cells #[.bool true, .bool false] 106))
  have hlt5 := block_lt HN5.out
  have HB6 := Lib.hid (HB4a.out.alloc (by omega) (.cells #[.bool true, .bool false] 106))
  go_upto_region 6 with (fail)
  generalize hw6 : World.alloc w5 _ = w6 at *
  clear hw6
  have i0 := block_cell HBI.out 0
  have i1 := block_cell HBI.out 1
  simp at i0 i1
  have q4 := block_cell HN6.out 4
  simp at q4
  have hcn1 : ¬ (9223372036854775807 < 1 + (numL id).length) := by omega
  have hcn2 : ¬ (9223372036854775807 < nm.length + (1 + (numL id).length)) := by have := HNL.out; omega
  go_wp2_with fail
  refine (HNI.out _).mono ?_; rintro e w7 ⟨rfl, hb7⟩
  have HN7 := Lib.hid (block_below hb7 HN6.out (block_lt HN6.out))
  have HBU7 := Lib.hid (block_below hb7 HBU6.out (block_lt HBU6.out))
  have HBI7 := Lib.hid (block_below hb7 HBI.out (block_lt HBI.out))
  have HB7 := Lib.hid (below_two HB6.out hb7)
  have HWS := Lib.hid (word_snoc (S := ⟨nm.toArray⟩) (ws := [nm]) (B := numL id) rfl (by simp))
  have HL0 := Lib.hid (show ([nm, numL id]).length ≤ 2 ∧ ∀ v ∈ [nm, numL id], v.length ≤ 10 from ⟨by simp, by intro v hv; simp at hv; rcases hv with rfl | rfl; exact HNL.out; exact hli⟩)
  clear hb7
  go_upto_region 9 with (fail)
  rw [HWS.out]
  have HWS0 := Lib.hid (show [nm] ++ [numL id] = [nm, numL id] from rfl)
  generalize hws : [nm] ++ [numL id] = ws0 at *
  rw [← HWS0.out] at HL0
  clear hws
  have HOW := Lib.hid (show ∀ l, ws0 ++ l = nm :: ([numL id] ++ l) from fun l => by rw [HWS0.out]; rfl)
  have q1 := block_cell HN7.out 1
  have q2 := block_cell HN7.out 2
  have q3 := block_cell HN7.out 3
  have q4 := block_cell HN7.out 4
  have q5 := block_cell HN7.out 5
  simp at q1 q2 q3 q4 q5
  have hlt7 := block_lt HN7.out
  have HBV := Lib.hid (block_new w7 (.cells #[.int .i64 s, .int .i64 id, .int .i64 a, .int .i64 m, .int .i64 g] 107))
  have HN8 := Lib.hid (block_alloc HN7.out (.cells #[.int .i64 s, .int .i64 id, .int .i64 a, .int .i64 m, .int .i64 g] 107))
  have HBU8 := Lib.hid (block_alloc HBU7.out (.cells #[.int .i64 s, .int .i64 id, .int .i64 a, .int .i64 m, .int .i64 g] 107))
  have HBI8 := Lib.hid (block_alloc HBI7.out (.cells #[.int .i64 s, .int .i64 id, .int .i64 a, .int .i64 m, .int .i64 g] 107))
  have HB8 := Lib.hid (HB7.out.alloc (by omega) (.cells #[.int .i64 s, .int .i64 id, .int .i64 a, .int .i64 m, .int .i64 g] 107))
  clear i0 i1
  go_upto_region 10 with (fail)
  generalize hw8 : World.alloc w7 _ = w8 at *
  clear hw8 q1 q2 q3 q4 q5
  have i0 := block_cell HBI8.out 1
  have u0 := block_cell HBU8.out 0
  have u1 := block_cell HBU8.out 1
  have u2 := block_cell HBU8.out 2
  have u4 := block_cell HBU8.out 4
  simp at i0 u0 u1 u2 u4
  have hlt8 := block_lt HN8.out
  have HBH := Lib.hid (block_new w8 (.cells #[.bool n0, .bool false, .bool n1, .bool n2, .bool n4] 108))
  have HN9 := Lib.hid (block_alloc HN8.out (.cells #[.bool n0, .bool false, .bool n1, .bool n2, .bool n4] 108))
  have HBU9 := Lib.hid (block_alloc HBU8.out (.cells #[.bool n0, .bool false, .bool n1, .bool n2, .bool n4] 108))
  have HBV9 := Lib.hid (block_alloc HBV.out (.cells #[.bool n0, .bool false, .bool n1, .bool n2, .bool n4] 108))
  have HB9 := Lib.hid (HB8.out.alloc (by omega) (.cells #[.bool n0, .bool false, .bool n1, .bool n2, .bool n4] 108))
  go_upto_region 11 with (fail)
  generalize hw9 : World.alloc w8 _ = w9 at *
  clear hw9 i0 u0 u1 u2 u4
  obtain ⟨S0, hS0⟩ : ∃ S0 : ByteArray, S0 = ⟨(joinW ws0).toArray⟩ := ⟨_, rfl⟩
  rw [← hS0]
  have HS0 := Lib.hid hS0
  clear hS0
  have HBC := Lib.hid (show w9.heap[w8.heap.size]? = some (.cells (([n0, false, n1, n2, n4] : List Bool).map Value.bool).toArray 108 (0, 0)) from HBH.out)
  have HVC := Lib.hid (show w9.heap[w7.heap.size]? = some (.cells (([s, id, a, m, g] : List Int).map (Value.int .i64)).toArray 107 (0, 0)) from HBV9.out)
  have HHO := Lib.hid (show hasO 4 = [n0, false, n1, n2, n4] from HHO.out)
  rw [HHO.out, HVS.out] at HRW
  have HBL := Lib.hid (show ([n0, false, n1, n2, n4] : List Bool).length = 5 from rfl)
  have HVL := Lib.hid (show ([s, id, a, m, g] : List Int).length = 5 from rfl)
  generalize ([n0, false, n1, n2, n4] : List Bool) = bs at *
  generalize ([s, id, a, m, g] : List Int) = vs at *
  clear HBH HBV9 HBV
  go_wp2_with fail
  go_loopw [4, 11] (fun ss sj wr => ∃ (j : Nat) (S : ByteArray), j ≤ 5 ∧ sj = .int .i64 j ∧ ss = .string S ∧ S = ⟨(joinW (ws0 ++ loopW (bs.take j) (vs.take j))).toArray⟩ ∧ Below w9.heap.size w9 wr) (fun _ sj _ => 5 - (intOf sj).toNat)
  case atStart => exact ⟨0, S0, Nat.zero_le _, rfl, rfl, by rw [HS0.out]; simp [loopW], Below.refl _ _⟩
  case round =>
    obtain ⟨j, S, hj, rfl, rfl, hS, hbr⟩ := hrel
    have HS := Lib.hid hS
    have HBR := Lib.hid hbr
    have hSL : S.size ≤ 1000 := by rw [bytes_len hS]; exact refWs_len HL0.out.1 HL0.out.2 (by rw [List.length_take, HVL.out]; omega)
    clear hS
    by_cases hlt : j < 5
    · have hlt1 : (j : Int) < 5 := by omega
      have hj0 : (0 : Int) ≤ (j : Int) := by omega
      have hjb : j < bs.length := by rw [HBL.out]; exact hlt
      have hjv : j < vs.length := by rw [HVL.out]; exact hlt
      have cb := block_cell (block_below hbr HBC.out (block_lt HBC.out)) j
      have cv := block_cell (block_below hbr HVC.out (block_lt HVC.out)) j
      rw [List.getElem?_toArray, List.getElem?_map, List.getElem?_eq_getElem hjb] at cb
      rw [List.getElem?_toArray, List.getElem?_map, List.getElem?_eq_getElem hjv] at cv
      simp only [Option.map_some] at cb cv
      have HLS := Lib.hid (loopW_snoc bs vs j hjb hjv)
      generalize bs[j] = b at *
      generalize vs[j] = v at *
      clear hjb hjv hbr
      rcases b with _ | _
      · have HLE := Lib.hid (show loopW (bs.take (j + 1)) (vs.take (j + 1)) = loopW (bs.take j) (vs.take j) by rw [HLS.out]; simp)
        go_wp2_with fail
        go_roundw
        case rel => exact ⟨j + 1, S, by omega, by go_num, rfl, by rw [HLE.out]; exact HS.out, HBR.out⟩
        case measure => simp [intOf]; omega
      · have HLE := Lib.hid (show ws0 ++ loopW (bs.take (j + 1)) (vs.take (j + 1)) = (ws0 ++ loopW (bs.take j) (vs.take j)) ++ [numL v] by rw [HLS.out]; simp)
        have HNV := Lib.hid (fun u => refNumber_any v u)
        have hlv := numL_len v
        have hcn1 : ¬ (9223372036854775807 < 1 + (numL v).length) := by omega
        have hcn2 : ¬ (9223372036854775807 < S.size + (1 + (numL v).length)) := by omega
        have HS3 := Lib.hid (word_snoc (B := numL v) HS.out (ws_ne HOW.out _))
        go_wp2_with fail
        refine (HNV.out _).mono ?_; rintro e w8b ⟨rfl, hb8⟩
        have HBR2 := Lib.hid (below_two HBR.out hb8)
        clear hb8
        go_wp2_with fail
        go_roundw
        case rel => exact ⟨j + 1, _, by omega, by go_num, rfl, by rw [HS3.out, HLE.out], HBR2.out⟩
        case measure => simp [intOf]; omega
    · have hlt1 : ¬ ((j : Int) < 5) := by omega
      have HSE := Lib.hid (show S = ⟨(joinW (ws0 ++ loopW bs vs)).toArray⟩ by
        have := HS.out
        rw [List.take_of_length_le (by rw [HBL.out]; omega), List.take_of_length_le (by rw [HVL.out]; omega)] at this
        exact this)
      have cu := block_cell (block_below hbr HBU9.out (block_lt HBU9.out)) 5
      have HNR := Lib.hid (block_below hbr HN9.out (block_lt HN9.out))
      have HBR3 := Lib.hid (HB9.out.trans (hbr.mono HB9.out.size))
      simp at cu
      clear hbr HS
      rcases n5 with _ | _
      · have HF := Lib.hid (show opL ⟨4, s, a, m, id, g, t⟩ = joinW (ws0 ++ loopW bs vs) by rw [HE.out, HRW.out, HOW.out]; simp)
        go_wp2_with fail
        go_ret2
        exact ⟨by rw [HF.out, ← HSE.out] <;> rfl, HBR3.out⟩
      · have HF := Lib.hid (show opL ⟨4, s, a, m, id, g, t⟩ = joinW ((ws0 ++ loopW bs vs) ++ [quoteL t]) by rw [HE.out, HRW.out, List.append_assoc, HOW.out]; simp)
        have HS3 := Lib.hid (word_snoc (B := quoteL t) HSE.out (ws_ne HOW.out _))
        have hql := quote_len t
        have htx : t.size ≤ 256 := HTX.out
        have HQ := Lib.hid (refString_any t wr (by omega))
        have hcn1 : ¬ (9223372036854775807 < 1 + (quoteL t).length) := by omega
        have hcn2 : ¬ (9223372036854775807 < S.size + (1 + (quoteL t).length)) := by omega
        have q6 := block_cell HNR.out 6
        simp at q6
        clear hql htx
        go_wp2_with fail
        refine (HQ.out).mono ?_; rintro e w8b ⟨rfl, hb8⟩
        have HBR4 := Lib.hid (below_two HBR3.out hb8)
        clear hb8
        go_wp2_with fail
        go_ret2
        exact ⟨by rw [HF.out, ← HS3.out] <;> rfl, HBR4.out⟩
set_option maxRecDepth 100000 in
set_option maxHeartbeats 8000000 in
theorem refOp_c (x : Ov) (hk : x.k = (10 : Nat)) (ho : OvOk x) (ht : x.t.size ≤ 140737488355328) (hp : plainO x = true) (w : World) :
    Calls Tryd.prog 22 #[.agg #[.int .u8 x.k, .int .i64 x.slot, .int .i64 x.at_, .int .i64 x.n, .int .u32 x.id, .int .u8 x.g, .string x.t]] w fun e w' => e = .returned (.tuple #[.string ⟨(opL x).toArray⟩, .int .i64 0]) ∧ Below w.heap.size w w' := by
  have HE := Lib.hid (opL_ref x 10 hk (by omega) (by omega))
  have HP := Lib.hid (refPlain_any x (w.alloc (.cells (oC x) 51)) ht)
  have HB0 := Lib.hid ((Below.refl w.heap.size w).alloc (Nat.le_refl _) (.cells (oC x) 51))
  have HNB := Lib.hid (block_new w (.cells (oC x) 51))
  have HTX := Lib.hid (plain_text hp)
  rw [hp] at HP
  have HW := Lib.hid (fun u => word_any 10 (by omega) (by omega) u)
  have HU := Lib.hid (fun u => uses_any 10 (by omega) (by omega) u)
  have HNL := Lib.hid (show (nameL 10).length ≤ 10 from nameL_len _)
  have hwid : IntKind.i64.wrap x.id = x.id := by rw [IntKind.wrap_i64]; have := ho.id; omega
  have hwg : IntKind.i64.wrap x.g = x.g := by rw [IntKind.wrap_i64]; have := ho.g; omega
  have HHO := Lib.hid (show hasO 10 = [decide (0 ∈ fldK 10), true, decide (1 ∈ fldK 10), decide (2 ∈ fldK 10), decide (4 ∈ fldK 10)] from rfl)
  have HRW := Lib.hid (show refW 10 x = [] ++ loopW (hasO 10) (numsO x) ++ (if decide (5 ∈ fldK 10) = true then [quoteL x.t] else []) by unfold refW; simp)
  unfold usesA at HU
  generalize decide (0 ∈ fldK 10) = n0 at *
  generalize decide (1 ∈ fldK 10) = n1 at *
  generalize decide (2 ∈ fldK 10) = n2 at *
  generalize decide (3 ∈ fldK 10) = n3 at *
  generalize decide (4 ∈ fldK 10) = n4 at *
  generalize decide (5 ∈ fldK 10) = n5 at *
  generalize hnm : nameL 10 = nm at *
  clear hnm
  obtain ⟨k, s, a, m, id, g, t⟩ := x
  replace hk : k = (10 : Nat) := hk
  subst hk
  simp only [oC] at HE HP HB0 HNB HTX HRW hwid hwg ht ⊢
  have HVS := Lib.hid (show numsO ⟨((10 : Nat) : Int), s, a, m, id, g, t⟩ = [s, id, a, m, g] from rfl)
  simp only [Int.cast_ofNat_Int] at HE HP HB0 HNB HTX HRW HVS HU HW ⊢
  have HNI := Lib.hid (fun u => refNumber_any id u)
  have hli := numL_len id
  clear ho hp
  go_enter Tryd.func22, Tryd.ntmps22
  go_wp2_with fail
  refine (HP.out).mono ?_; rintro e w2 ⟨rfl, hb2⟩
  have HN2 := Lib.hid (block_below hb2 HNB.out (by simp))
  have HB2 := Lib.hid (HB0.out.trans (hb2.mono HB0.out.size))
  have q0 := block_cell HN2.out 0
  simp at q0
  clear hb2
  go_wp2_with fail
  refine (HW.out _).mono ?_; rintro e w3 ⟨rfl, hb3⟩
  have HN3 := Lib.hid (block_below hb3 HN2.out (block_lt HN2.out))
  have HB3 := Lib.hid (below_two HB2.out hb3)
  have q0 := block_cell HN3.out 0
  simp at q0
  clear hb3
  go_wp2_with fail
  refine (HU.out _).mono ?_; rintro e w4 ⟨rfl, hb4⟩
  have HN4 := Lib.hid (block_below hb4 HN3.out (block_lt HN3.out))
  have HB4 := Lib.hid (below_two HB3.out hb4)
  have HBU := Lib.hid (block_new w4 (.cells #[.bool n0, .bool n1, .bool n2, .bool n3, .bool n4, .bool n5] 104))
  have HN4a := Lib.hid (block_alloc HN4.out (.cells #[.bool n0, .bool n1, .bool n2, .bool n3, .bool n4, .bool n5] 104))
  have hlt4 := block_lt HN4.out
  have HB4a := Lib.hid (HB4.out.alloc (by omega) (.cells #[.bool n0, .bool n1, .bool n2, .bool n3, .bool n4, .bool n5] 104))
  clear hb4
  go_upto_region 5 with (fail)
  generalize hw5 : World.alloc w4 _ = w5 at *
  clear hw5
  have q0 := block_cell HN4a.out 0
  simp at q0
  have HN5 := HN4a
  have HBI := Lib.hid (block_new w5 (.cells #[.bool false, .bool true] 106))
  have HN6 := Lib.hid (block_alloc HN5.out (.cells #[.bool false, .bool true] 106))
  have HBU6 := Lib.hid (block_alloc HBU.out (.cells #[.bool false, .bool true] 106))
  have hlt5 := block_lt HN5.out
  have HB6 := Lib.hid (HB4a.out.alloc (by omega) (.cells #[.bool false, .bool true] 106))
  go_upto_region 6 with (fail)
  generalize hw6 : World.alloc w5 _ = w6 at *
  clear hw6
  have i0 := block_cell HBI.out 0
  have i1 := block_cell HBI.out 1
  simp at i0 i1
  have q4 := block_cell HN6.out 4
  simp at q4
  have HN7 := HN6
  have HBU7 := HBU6
  have HBI7 := HBI
  have HB7 := HB6
  obtain ⟨w7, hw7⟩ : ∃ w7, w7 = w6 := ⟨_, rfl⟩
  rw [← hw7] at HN7 HBU7 HBI7 HB7
  go_upto_region 9 with (fail)
  rw [← hw7]
  clear hw7
  obtain ⟨ws0, hws0⟩ : ∃ ws0, ws0 = [nm] := ⟨_, rfl⟩
  have HL0 := Lib.hid (show ws0.length ≤ 2 ∧ ∀ v ∈ ws0, v.length ≤ 10 from ⟨by rw [hws0]; simp, by intro v hv; rw [hws0] at hv; simp at hv; rcases hv with rfl; exact HNL.out⟩)
  have HOW := Lib.hid (show ∀ l, ws0 ++ l = nm :: ([] ++ l) from fun l => by rw [hws0]; rfl)
  have HWS := Lib.hid (show (⟨nm.toArray⟩ : ByteArray) = ⟨(joinW ws0).toArray⟩ by rw [hws0]; rfl)
  rw [HWS.out]
  clear hws0
  have q1 := block_cell HN7.out 1
  have q2 := block_cell HN7.out 2
  have q3 := block_cell HN7.out 3
  have q4 := block_cell HN7.out 4
  have q5 := block_cell HN7.out 5
  simp at q1 q2 q3 q4 q5
  have hlt7 := block_lt HN7.out
  have HBV := Lib.hid (block_new w7 (.cells #[.int .i64 s, .int .i64 id, .int .i64 a, .int .i64 m, .int .i64 g] 107))
  have HN8 := Lib.hid (block_alloc HN7.out (.cells #[.int .i64 s, .int .i64 id, .int .i64 a, .int .i64 m, .int .i64 g] 107))
  have HBU8 := Lib.hid (block_alloc HBU7.out (.cells #[.int .i64 s, .int .i64 id, .int .i64 a, .int .i64 m, .int .i64 g] 107))
  have HBI8 := Lib.hid (block_alloc HBI7.out (.cells #[.int .i64 s, .int .i64 id, .int .i64 a, .int .i64 m, .int .i64 g] 107))
  have HB8 := Lib.hid (HB7.out.alloc (by omega) (.cells #[.int .i64 s, .int .i64 id, .int .i64 a, .int .i64 m, .int .i64 g] 107))
  clear i0 i1
  go_upto_region 10 with (fail)
  generalize hw8 : World.alloc w7 _ = w8 at *
  clear hw8 q1 q2 q3 q4 q5
  have i0 := block_cell HBI8.out 1
  have u0 := block_cell HBU8.out 0
  have u1 := block_cell HBU8.out 1
  have u2 := block_cell HBU8.out 2
  have u4 := block_cell HBU8.out 4
  simp at i0 u0 u1 u2 u4
  have hlt8 := block_lt HN8.out
  have HBH := Lib.hid (block_new w8 (.cells #[.bool n0, .bool true, .bool n1, .bool n2, .bool n4] 108))
  have HN9 := Lib.hid (block_alloc HN8.out (.cells #[.bool n0, .bool true, .bool n1, .bool n2, .bool n4] 108))
  have HBU9 := Lib.hid (block_alloc HBU8.out (.cells #[.bool n0, .bool true, .bool n1, .bool n2, .bool n4] 108))
  have HBV9 := Lib.hid (block_alloc HBV.out (.cells #[.bool n0, .bool true, .bool n1, .bool n2, .bool n4] 108))
  have HB9 := Lib.hid (HB8.out.alloc (by omega) (.cells #[.bool n0, .bool true, .bool n1, .bool n2, .bool n4] 108))
  go_upto_region 11 with (fail)
  generalize hw9 : World.alloc w8 _ = w9 at *
  clear hw9 i0 u0 u1 u2 u4
  obtain ⟨S0, hS0⟩ : ∃ S0 : ByteArray, S0 = ⟨(joinW ws0).toArray⟩ := ⟨_, rfl⟩
  rw [← hS0]
  have HS0 := Lib.hid hS0
  clear hS0
  have HBC := Lib.hid (show w9.heap[w8.heap.size]? = some (.cells (([n0, true, n1, n2, n4] : List Bool).map Value.bool).toArray 108 (0, 0)) from HBH.out)
  have HVC := Lib.hid (show w9.heap[w7.heap.size]? = some (.cells (([s, id, a, m, g] : List Int).map (Value.int .i64)).toArray 107 (0, 0)) from HBV9.out)
  have HHO := Lib.hid (show hasO 10 = [n0, true, n1, n2, n4] from HHO.out)
  rw [HHO.out, HVS.out] at HRW
  have HBL := Lib.hid (show ([n0, true, n1, n2, n4] : List Bool).length = 5 from rfl)
  have HVL := Lib.hid (show ([s, id, a, m, g] : List Int).length = 5 from rfl)
  generalize ([n0, true, n1, n2, n4] : List Bool) = bs at *
  generalize ([s, id, a, m, g] : List Int) = vs at *
  clear HBH HBV9 HBV
  go_wp2_with fail
  go_loopw [4, 11] (fun ss sj wr => ∃ (j : Nat) (S : ByteArray), j ≤ 5 ∧ sj = .int .i64 j ∧ ss = .string S ∧ S = ⟨(joinW (ws0 ++ loopW (bs.take j) (vs.take j))).toArray⟩ ∧ Below w9.heap.size w9 wr) (fun _ sj _ => 5 - (intOf sj).toNat)
  case atStart => exact ⟨0, S0, Nat.zero_le _, rfl, rfl, by rw [HS0.out]; simp [loopW], Below.refl _ _⟩
  case round =>
    obtain ⟨j, S, hj, rfl, rfl, hS, hbr⟩ := hrel
    have HS := Lib.hid hS
    have HBR := Lib.hid hbr
    have hSL : S.size ≤ 1000 := by rw [bytes_len hS]; exact refWs_len HL0.out.1 HL0.out.2 (by rw [List.length_take, HVL.out]; omega)
    clear hS
    by_cases hlt : j < 5
    · have hlt1 : (j : Int) < 5 := by omega
      have hj0 : (0 : Int) ≤ (j : Int) := by omega
      have hjb : j < bs.length := by rw [HBL.out]; exact hlt
      have hjv : j < vs.length := by rw [HVL.out]; exact hlt
      have cb := block_cell (block_below hbr HBC.out (block_lt HBC.out)) j
      have cv := block_cell (block_below hbr HVC.out (block_lt HVC.out)) j
      rw [List.getElem?_toArray, List.getElem?_map, List.getElem?_eq_getElem hjb] at cb
      rw [List.getElem?_toArray, List.getElem?_map, List.getElem?_eq_getElem hjv] at cv
      simp only [Option.map_some] at cb cv
      have HLS := Lib.hid (loopW_snoc bs vs j hjb hjv)
      generalize bs[j] = b at *
      generalize vs[j] = v at *
      clear hjb hjv hbr
      rcases b with _ | _
      · have HLE := Lib.hid (show loopW (bs.take (j + 1)) (vs.take (j + 1)) = loopW (bs.take j) (vs.take j) by rw [HLS.out]; simp)
        go_wp2_with fail
        go_roundw
        case rel => exact ⟨j + 1, S, by omega, by go_num, rfl, by rw [HLE.out]; exact HS.out, HBR.out⟩
        case measure => simp [intOf]; omega
      · have HLE := Lib.hid (show ws0 ++ loopW (bs.take (j + 1)) (vs.take (j + 1)) = (ws0 ++ loopW (bs.take j) (vs.take j)) ++ [numL v] by rw [HLS.out]; simp)
        have HNV := Lib.hid (fun u => refNumber_any v u)
        have hlv := numL_len v
        have hcn1 : ¬ (9223372036854775807 < 1 + (numL v).length) := by omega
        have hcn2 : ¬ (9223372036854775807 < S.size + (1 + (numL v).length)) := by omega
        have HS3 := Lib.hid (word_snoc (B := numL v) HS.out (ws_ne HOW.out _))
        go_wp2_with fail
        refine (HNV.out _).mono ?_; rintro e w8b ⟨rfl, hb8⟩
        have HBR2 := Lib.hid (below_two HBR.out hb8)
        clear hb8
        go_wp2_with fail
        go_roundw
        case rel => exact ⟨j + 1, _, by omega, by go_num, rfl, by rw [HS3.out, HLE.out], HBR2.out⟩
        case measure => simp [intOf]; omega
    · have hlt1 : ¬ ((j : Int) < 5) := by omega
      have HSE := Lib.hid (show S = ⟨(joinW (ws0 ++ loopW bs vs)).toArray⟩ by
        have := HS.out
        rw [List.take_of_length_le (by rw [HBL.out]; omega), List.take_of_length_le (by rw [HVL.out]; omega)] at this
        exact this)
      have cu := block_cell (block_below hbr HBU9.out (block_lt HBU9.out)) 5
      have HNR := Lib.hid (block_below hbr HN9.out (block_lt HN9.out))
      have HBR3 := Lib.hid (HB9.out.trans (hbr.mono HB9.out.size))
      simp at cu
      clear hbr HS
      rcases n5 with _ | _
      · have HF := Lib.hid (show opL ⟨10, s, a, m, id, g, t⟩ = joinW (ws0 ++ loopW bs vs) by rw [HE.out, HRW.out, HOW.out]; simp)
        go_wp2_with fail
        go_ret2
        exact ⟨by rw [HF.out, ← HSE.out] <;> rfl, HBR3.out⟩
      · have HF := Lib.hid (show opL ⟨10, s, a, m, id, g, t⟩ = joinW ((ws0 ++ loopW bs vs) ++ [quoteL t]) by rw [HE.out, HRW.out, List.append_assoc, HOW.out]; simp)
        have HS3 := Lib.hid (word_snoc (B := quoteL t) HSE.out (ws_ne HOW.out _))
        have hql := quote_len t
        have htx : t.size ≤ 256 := HTX.out
        have HQ := Lib.hid (refString_any t wr (by omega))
        have hcn1 : ¬ (9223372036854775807 < 1 + (quoteL t).length) := by omega
        have hcn2 : ¬ (9223372036854775807 < S.size + (1 + (quoteL t).length)) := by omega
        have q6 := block_cell HNR.out 6
        simp at q6
        clear hql htx
        go_wp2_with fail
        refine (HQ.out).mono ?_; rintro e w8b ⟨rfl, hb8⟩
        have HBR4 := Lib.hid (below_two HBR3.out hb8)
        clear hb8
        go_wp2_with fail
        go_ret2
        exact ⟨by rw [HF.out, ← HS3.out] <;> rfl, HBR4.out⟩
set_option maxRecDepth 100000 in
set_option maxHeartbeats 8000000 in
theorem refOp_d (x : Ov) (kn : Nat) (hk1 : 1 ≤ kn) (hk2 : kn ≤ 16) (hk : x.k = (kn : Nat)) (h3 : kn ≠ 3) (h4 : kn ≠ 4) (h10 : kn ≠ 10) (ho : OvOk x) (ht : x.t.size ≤ 140737488355328) (hp : plainO x = true) (w : World) :
    Calls Tryd.prog 22 #[.agg #[.int .u8 x.k, .int .i64 x.slot, .int .i64 x.at_, .int .i64 x.n, .int .u32 x.id, .int .u8 x.g, .string x.t]] w fun e w' => e = .returned (.tuple #[.string ⟨(opL x).toArray⟩, .int .i64 0]) ∧ Below w.heap.size w w' := by
  have HE := Lib.hid (opL_ref x kn hk (by omega) (by omega))
  have HP := Lib.hid (refPlain_any x (w.alloc (.cells (oC x) 51)) ht)
  have HB0 := Lib.hid ((Below.refl w.heap.size w).alloc (Nat.le_refl _) (.cells (oC x) 51))
  have HNB := Lib.hid (block_new w (.cells (oC x) 51))
  have HTX := Lib.hid (plain_text hp)
  rw [hp] at HP
  have HW := Lib.hid (fun u => word_any kn (by omega) (by omega) u)
  have HU := Lib.hid (fun u => uses_any kn (by omega) (by omega) u)
  have HNL := Lib.hid (show (nameL kn).length ≤ 10 from nameL_len _)
  have hwid : IntKind.i64.wrap x.id = x.id := by rw [IntKind.wrap_i64]; have := ho.id; omega
  have hwg : IntKind.i64.wrap x.g = x.g := by rw [IntKind.wrap_i64]; have := ho.g; omega
  have HHO := Lib.hid (show hasO kn = [decide (0 ∈ fldK kn), decide (kn = 10), decide (1 ∈ fldK kn), decide (2 ∈ fldK kn), decide (4 ∈ fldK kn)] from rfl)
  have HRW := Lib.hid (show refW kn x = [] ++ loopW (hasO kn) (numsO x) ++ (if decide (5 ∈ fldK kn) = true then [quoteL x.t] else []) by unfold refW; rw [if_neg (by omega)]; simp)
  unfold usesA at HU
  rw [decide_eq_false h10] at HHO
  generalize decide (0 ∈ fldK kn) = n0 at *
  generalize decide (1 ∈ fldK kn) = n1 at *
  generalize decide (2 ∈ fldK kn) = n2 at *
  generalize decide (3 ∈ fldK kn) = n3 at *
  generalize decide (4 ∈ fldK kn) = n4 at *
  generalize decide (5 ∈ fldK kn) = n5 at *
  generalize hnm : nameL kn = nm at *
  clear hnm
  obtain ⟨k, s, a, m, id, g, t⟩ := x
  replace hk : k = (kn : Nat) := hk
  subst hk
  simp only [oC] at HE HP HB0 HNB HTX HRW hwid hwg ht ⊢
  have HVS := Lib.hid (show numsO ⟨((kn : Nat) : Int), s, a, m, id, g, t⟩ = [s, id, a, m, g] from rfl)
  have b3 : ((kn : Int) == 3) = false := by rw [beq_eq_false_iff_ne]; omega
  have b4 : ((kn : Int) == 4) = false := by rw [beq_eq_false_iff_ne]; omega
  have b10 : ((kn : Int) == 10) = false := by rw [beq_eq_false_iff_ne]; omega
  have c3 : ¬ ((kn : Int) = 3) := by omega
  have c4 : ¬ ((kn : Int) = 4) := by omega
  have c10 : ¬ ((kn : Int) = 10) := by omega
  have HNI := Lib.hid (fun u => refNumber_any id u)
  have hli := numL_len id
  clear ho hp
  go_enter Tryd.func22, Tryd.ntmps22
  go_wp2_with fail
  refine (HP.out).mono ?_; rintro e w2 ⟨rfl, hb2⟩
  have HN2 := Lib.hid (block_below hb2 HNB.out (by simp))
  have HB2 := Lib.hid (HB0.out.trans (hb2.mono HB0.out.size))
  have q0 := block_cell HN2.out 0
  simp at q0
  clear hb2
  go_wp2_with fail
  refine (HW.out _).mono ?_; rintro e w3 ⟨rfl, hb3⟩
  have HN3 := Lib.hid (block_below hb3 HN2.out (block_lt HN2.out))
  have HB3 := Lib.hid (below_two HB2.out hb3)
  have q0 := block_cell HN3.out 0
  simp at q0
  clear hb3
  go_wp2_with fail
  refine (HU.out _).mono ?_; rintro e w4 ⟨rfl, hb4⟩
  have HN4 := Lib.hid (block_below hb4 HN3.out (block_lt HN3.out))
  have HB4 := Lib.hid (below_two HB3.out hb4)
  have HBU := Lib.hid (block_new w4 (.cells #[.bool n0, .bool n1, .bool n2, .bool n3, .bool n4, .bool n5] 104))
  have HN4a := Lib.hid (block_alloc HN4.out (.cells #[.bool n0, .bool n1, .bool n2, .bool n3, .bool n4, .bool n5] 104))
  have hlt4 := block_lt HN4.out
  have HB4a := Lib.hid (HB4.out.alloc (by omega) (.cells #[.bool n0, .bool n1, .bool n2, .bool n3, .bool n4, .bool n5] 104))
  clear hb4
  go_upto_region 5 with (fail)
  generalize hw5 : World.alloc w4 _ = w5 at *
  clear hw5
  have q0 := block_cell HN4a.out 0
  simp at q0
  have HN5 := HN4a
  have HBI := Lib.hid (block_new w5 (.cells #[.bool false, .bool false] 106))
  have HN6 := Lib.hid (block_alloc HN5.out (.cells #[.bool false, .bool false] 106))
  have HBU6 := Lib.hid (block_alloc HBU.out (.cells #[.bool false, .bool false] 106))
  have hlt5 := block_lt HN5.out
  have HB6 := Lib.hid (HB4a.out.alloc (by omega) (.cells #[.bool false, .bool false] 106))
  go_upto_region 6 with (fail)
  generalize hw6 : World.alloc w5 _ = w6 at *
  clear hw6
  have i0 := block_cell HBI.out 0
  have i1 := block_cell HBI.out 1
  simp at i0 i1
  have q4 := block_cell HN6.out 4
  simp at q4
  have HN7 := HN6
  have HBU7 := HBU6
  have HBI7 := HBI
  have HB7 := HB6
  obtain ⟨w7, hw7⟩ : ∃ w7, w7 = w6 := ⟨_, rfl⟩
  rw [← hw7] at HN7 HBU7 HBI7 HB7
  go_upto_region 9 with (fail)
  rw [← hw7]
  clear hw7
  obtain ⟨ws0, hws0⟩ : ∃ ws0, ws0 = [nm] := ⟨_, rfl⟩
  have HL0 := Lib.hid (show ws0.length ≤ 2 ∧ ∀ v ∈ ws0, v.length ≤ 10 from ⟨by rw [hws0]; simp, by intro v hv; rw [hws0] at hv; simp at hv; rcases hv with rfl; exact HNL.out⟩)
  have HOW := Lib.hid (show ∀ l, ws0 ++ l = nm :: ([] ++ l) from fun l => by rw [hws0]; rfl)
  have HWS := Lib.hid (show (⟨nm.toArray⟩ : ByteArray) = ⟨(joinW ws0).toArray⟩ by rw [hws0]; rfl)
  rw [HWS.out]
  clear hws0
  have q1 := block_cell HN7.out 1
  have q2 := block_cell HN7.out 2
  have q3 := block_cell HN7.out 3
  have q4 := block_cell HN7.out 4
  have q5 := block_cell HN7.out 5
  simp at q1 q2 q3 q4 q5
  have hlt7 := block_lt HN7.out
  have HBV := Lib.hid (block_new w7 (.cells #[.int .i64 s, .int .i64 id, .int .i64 a, .int .i64 m, .int .i64 g] 107))
  have HN8 := Lib.hid (block_alloc HN7.out (.cells #[.int .i64 s, .int .i64 id, .int .i64 a, .int .i64 m, .int .i64 g] 107))
  have HBU8 := Lib.hid (block_alloc HBU7.out (.cells #[.int .i64 s, .int .i64 id, .int .i64 a, .int .i64 m, .int .i64 g] 107))
  have HBI8 := Lib.hid (block_alloc HBI7.out (.cells #[.int .i64 s, .int .i64 id, .int .i64 a, .int .i64 m, .int .i64 g] 107))
  have HB8 := Lib.hid (HB7.out.alloc (by omega) (.cells #[.int .i64 s, .int .i64 id, .int .i64 a, .int .i64 m, .int .i64 g] 107))
  clear i0 i1
  go_upto_region 10 with (fail)
  generalize hw8 : World.alloc w7 _ = w8 at *
  clear hw8 q1 q2 q3 q4 q5
  have i0 := block_cell HBI8.out 1
  have u0 := block_cell HBU8.out 0
  have u1 := block_cell HBU8.out 1
  have u2 := block_cell HBU8.out 2
  have u4 := block_cell HBU8.out 4
  simp at i0 u0 u1 u2 u4
  have hlt8 := block_lt HN8.out
  have HBH := Lib.hid (block_new w8 (.cells #[.bool n0, .bool false, .bool n1, .bool n2, .bool n4] 108))
  have HN9 := Lib.hid (block_alloc HN8.out (.cells #[.bool n0, .bool false, .bool n1, .bool n2, .bool n4] 108))
  have HBU9 := Lib.hid (block_alloc HBU8.out (.cells #[.bool n0, .bool false, .bool n1, .bool n2, .bool n4] 108))
  have HBV9 := Lib.hid (block_alloc HBV.out (.cells #[.bool n0, .bool false, .bool n1, .bool n2, .bool n4] 108))
  have HB9 := Lib.hid (HB8.out.alloc (by omega) (.cells #[.bool n0, .bool false, .bool n1, .bool n2, .bool n4] 108))
  go_upto_region 11 with (fail)
  generalize hw9 : World.alloc w8 _ = w9 at *
  clear hw9 i0 u0 u1 u2 u4
  obtain ⟨S0, hS0⟩ : ∃ S0 : ByteArray, S0 = ⟨(joinW ws0).toArray⟩ := ⟨_, rfl⟩
  rw [← hS0]
  have HS0 := Lib.hid hS0
  clear hS0
  have HBC := Lib.hid (show w9.heap[w8.heap.size]? = some (.cells (([n0, false, n1, n2, n4] : List Bool).map Value.bool).toArray 108 (0, 0)) from HBH.out)
  have HVC := Lib.hid (show w9.heap[w7.heap.size]? = some (.cells (([s, id, a, m, g] : List Int).map (Value.int .i64)).toArray 107 (0, 0)) from HBV9.out)
  have HHO := Lib.hid (show hasO kn = [n0, false, n1, n2, n4] from HHO.out)
  rw [HHO.out, HVS.out] at HRW
  have HBL := Lib.hid (show ([n0, false, n1, n2, n4] : List Bool).length = 5 from rfl)
  have HVL := Lib.hid (show ([s, id, a, m, g] : List Int).length = 5 from rfl)
  generalize ([n0, false, n1, n2, n4] : List Bool) = bs at *
  generalize ([s, id, a, m, g] : List Int) = vs at *
  clear HBH HBV9 HBV
  go_wp2_with fail
  go_loopw [4, 11] (fun ss sj wr => ∃ (j : Nat) (S : ByteArray), j ≤ 5 ∧ sj = .int .i64 j ∧ ss = .string S ∧ S = ⟨(joinW (ws0 ++ loopW (bs.take j) (vs.take j))).toArray⟩ ∧ Below w9.heap.size w9 wr) (fun _ sj _ => 5 - (intOf sj).toNat)
  case atStart => exact ⟨0, S0, Nat.zero_le _, rfl, rfl, by rw [HS0.out]; simp [loopW], Below.refl _ _⟩
  case round =>
    obtain ⟨j, S, hj, rfl, rfl, hS, hbr⟩ := hrel
    have HS := Lib.hid hS
    have HBR := Lib.hid hbr
    have hSL : S.size ≤ 1000 := by rw [bytes_len hS]; exact refWs_len HL0.out.1 HL0.out.2 (by rw [List.length_take, HVL.out]; omega)
    clear hS
    by_cases hlt : j < 5
    · have hlt1 : (j : Int) < 5 := by omega
      have hj0 : (0 : Int) ≤ (j : Int) := by omega
      have hjb : j < bs.length := by rw [HBL.out]; exact hlt
      have hjv : j < vs.length := by rw [HVL.out]; exact hlt
      have cb := block_cell (block_below hbr HBC.out (block_lt HBC.out)) j
      have cv := block_cell (block_below hbr HVC.out (block_lt HVC.out)) j
      rw [List.getElem?_toArray, List.getElem?_map, List.getElem?_eq_getElem hjb] at cb
      rw [List.getElem?_toArray, List.getElem?_map, List.getElem?_eq_getElem hjv] at cv
      simp only [Option.map_some] at cb cv
      have HLS := Lib.hid (loopW_snoc bs vs j hjb hjv)
      generalize bs[j] = b at *
      generalize vs[j] = v at *
      clear hjb hjv hbr
      rcases b with _ | _
      · have HLE := Lib.hid (show loopW (bs.take (j + 1)) (vs.take (j + 1)) = loopW (bs.take j) (vs.take j) by rw [HLS.out]; simp)
        go_wp2_with fail
        go_roundw
        case rel => exact ⟨j + 1, S, by omega, by go_num, rfl, by rw [HLE.out]; exact HS.out, HBR.out⟩
        case measure => simp [intOf]; omega
      · have HLE := Lib.hid (show ws0 ++ loopW (bs.take (j + 1)) (vs.take (j + 1)) = (ws0 ++ loopW (bs.take j) (vs.take j)) ++ [numL v] by rw [HLS.out]; simp)
        have HNV := Lib.hid (fun u => refNumber_any v u)
        have hlv := numL_len v
        have hcn1 : ¬ (9223372036854775807 < 1 + (numL v).length) := by omega
        have hcn2 : ¬ (9223372036854775807 < S.size + (1 + (numL v).length)) := by omega
        have HS3 := Lib.hid (word_snoc (B := numL v) HS.out (ws_ne HOW.out _))
        go_wp2_with fail
        refine (HNV.out _).mono ?_; rintro e w8b ⟨rfl, hb8⟩
        have HBR2 := Lib.hid (below_two HBR.out hb8)
        clear hb8
        go_wp2_with fail
        go_roundw
        case rel => exact ⟨j + 1, _, by omega, by go_num, rfl, by rw [HS3.out, HLE.out], HBR2.out⟩
        case measure => simp [intOf]; omega
    · have hlt1 : ¬ ((j : Int) < 5) := by omega
      have HSE := Lib.hid (show S = ⟨(joinW (ws0 ++ loopW bs vs)).toArray⟩ by
        have := HS.out
        rw [List.take_of_length_le (by rw [HBL.out]; omega), List.take_of_length_le (by rw [HVL.out]; omega)] at this
        exact this)
      have cu := block_cell (block_below hbr HBU9.out (block_lt HBU9.out)) 5
      have HNR := Lib.hid (block_below hbr HN9.out (block_lt HN9.out))
      have HBR3 := Lib.hid (HB9.out.trans (hbr.mono HB9.out.size))
      simp at cu
      clear hbr HS
      rcases n5 with _ | _
      · have HF := Lib.hid (show opL ⟨kn, s, a, m, id, g, t⟩ = joinW (ws0 ++ loopW bs vs) by rw [HE.out, HRW.out, HOW.out]; simp)
        go_wp2_with fail
        go_ret2
        exact ⟨by rw [HF.out, ← HSE.out] <;> rfl, HBR3.out⟩
      · have HF := Lib.hid (show opL ⟨kn, s, a, m, id, g, t⟩ = joinW ((ws0 ++ loopW bs vs) ++ [quoteL t]) by rw [HE.out, HRW.out, List.append_assoc, HOW.out]; simp)
        have HS3 := Lib.hid (word_snoc (B := quoteL t) HSE.out (ws_ne HOW.out _))
        have hql := quote_len t
        have htx : t.size ≤ 256 := HTX.out
        have HQ := Lib.hid (refString_any t wr (by omega))
        have hcn1 : ¬ (9223372036854775807 < 1 + (quoteL t).length) := by omega
        have hcn2 : ¬ (9223372036854775807 < S.size + (1 + (quoteL t).length)) := by omega
        have q6 := block_cell HNR.out 6
        simp at q6
        clear hql htx
        go_wp2_with fail
        refine (HQ.out).mono ?_; rintro e w8b ⟨rfl, hb8⟩
        have HBR4 := Lib.hid (below_two HBR3.out hb8)
        clear hb8
        go_wp2_with fail
        go_ret2
        exact ⟨by rw [HF.out, ← HS3.out] <;> rfl, HBR4.out⟩
set_option maxRecDepth 100000 in
set_option maxHeartbeats 4000000 in
theorem refOp_any (x : Ov) (w : World) (ho : OvOk x) (ht : x.t.size ≤ 140737488355328) :
    Calls Tryd.prog 22 #[.agg #[.int .u8 x.k, .int .i64 x.slot, .int .i64 x.at_, .int .i64 x.n, .int .u32 x.id, .int .u8 x.g, .string x.t]] w fun e w' => e = .returned (.tuple #[.string ⟨(opR x).1.toArray⟩, .int .i64 (opR x).2]) ∧ Below w.heap.size w w' := by
  by_cases hp : plainO x = true
  · have e : opR x = (opL x, 0) := if_pos hp
    rw [e]
    obtain ⟨k1, k2⟩ := plain_kind hp
    by_cases h3 : x.k = 3
    · exact refOp_a x h3 ho ht hp w
    by_cases h4 : x.k = 4
    · exact refOp_b x h4 ho ht hp w
    by_cases h10 : x.k = 10
    · exact refOp_c x h10 ho ht hp w
    exact refOp_d x x.k.toNat (by omega) (by omega) (by omega) (by omega) (by omega) (by omega) ho ht hp w
  · have HE := Lib.hid (show opR x = ([], 2) from if_neg hp)
    have HB0 := Lib.hid ((Below.refl w.heap.size w).alloc (Nat.le_refl _) (.cells (oC x) 51))
    have HP := Lib.hid (refPlain_any x (w.alloc (.cells (oC x) 51)) ht)
    rw [Bool.eq_false_iff.2 hp] at HP
    unfold oC at HB0 HP
    clear ho
    go_enter Tryd.func22, Tryd.ntmps22
    go_wp2_with fail
    refine (HP.out).mono ?_; rintro e w2 ⟨rfl, hb2⟩
    have HB2 := Lib.hid (HB0.out.trans (hb2.mono HB0.out.size))
    clear hb2
    go_wp2_with fail
    go_ret2
    exact ⟨by rw [HE.out] <;> rfl, HB2.out⟩
end Go.Proofs.YtdfkbahlngijcaaDoor

