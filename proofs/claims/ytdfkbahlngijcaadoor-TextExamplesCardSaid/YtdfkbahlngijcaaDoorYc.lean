/- Text: the law Examples: its walk. -/
import Derived.Test.YtdfkbahlngijcaaDoorWs
import Derived.Test.YtdfkbahlngijcaaDoorYb
import Derived.Test.YtdfkbahlngijcaaDoorUj
import Derived.Test.YtdfkbahlngijcaaDoorKc
import Derived.Test.YtdfkbahlngijcaaDoorKd
import Derived.Test.YtdfkbahlngijcaaDoorVo
namespace Go.Proofs.YtdfkbahlngijcaaDoor
open Go.RowKit
set_option linter.unusedVariables false

def exO1 : Ov := ⟨1, 0, 1, 0, 0, 0, ⟨#[97, 98]⟩⟩
def exO2 : Ov := ⟨2, 0, -1, 0, 0, 0, ⟨#[]⟩⟩
theorem exO1_R : opR exO1 = ([105, 110, 115, 101, 114, 116, 32, 49, 32, 43, 54, 49, 54, 50], 0) := by kernel_rfl
theorem exO2_R : opR exO2 = ([], 2) := by kernel_rfl
def wrongL : List (List UInt8) := [[108, 101, 110, 32, 51, 48, 48], [108, 101, 110, 32, 48, 51], [105, 110, 115, 101, 114, 116, 32, 48, 32, 43, 54], [105, 110, 115, 101, 114, 116, 32, 48], [105, 110, 115, 101, 114, 116, 32, 48, 32, 43, 32], [32, 108, 101, 110, 32, 48], [108, 101, 110, 32, 32, 48], [108, 101, 110], [99, 108, 111, 115, 101, 32, 48], [], [67, 108, 111, 115, 101], [105, 110, 115, 101, 114, 116, 32, 48, 32, 43, 54, 65], [112, 105, 99, 107, 32, 48, 32, 49], [115, 101, 116, 32, 49, 32, 50, 32, 50, 53, 54]]
theorem wrong_all : ∀ l ∈ wrongL, parC l = none := by
  intro l hl
  unfold wrongL at hl
  simp only [List.mem_cons, List.not_mem_nil, or_false] at hl
  rcases hl with rfl | rfl | rfl | rfl | rfl | rfl | rfl | rfl | rfl | rfl | rfl | rfl | rfl | rfl
  · exact wrong_0
  · exact wrong_1
  · exact wrong_2
  · exact wrong_3
  · exact wrong_4
  · exact wrong_5
  · exact wrong_6
  · exact wrong_7
  · exact wrong_8
  · exact wrong_9
  · exact wrong_10
  · exact wrong_11
  · exact wrong_12
  · exact wrong_13
theorem wrong_parR {l : List UInt8} (h : l ∈ wrongL) : parR l = (zeroO, 4) := by
  unfold parR
  rw [parO_C, wrong_all l h]
theorem wrong_len : ∀ l ∈ wrongL, l.length ≤ 20 := by decide
def exR1 : Rs := ⟨13, 0, 0, 0, 0, ⟨#[]⟩, 0, 0, 0, 0, 0, 0, []⟩
def exR2 : Rs := ⟨0, 2, 0, 0, 0, ⟨#[]⟩, 0, 0, 0, 1, 1, 2, [⟨1, 3, ⟨#[]⟩⟩]⟩
def exR3 : Rs := ⟨13, 1, 0, 0, 0, ⟨#[]⟩, 0, 0, 0, 0, 0, 0, []⟩
theorem exR1_R : resR exR1 = ([101, 114, 114, 111, 114, 32, 49, 51], 0) := by kernel_rfl
theorem exR2_R : resR exR2 = ([111, 107, 32, 50, 32, 48, 32, 48, 32, 48, 32, 43, 32, 48, 32, 48, 32, 48, 32, 49, 32, 49, 32, 50, 32, 61, 51], 0) := by kernel_rfl
theorem exR3_R : resR exR3 = ([], 2) := by kernel_rfl
theorem good0_R : parR [105, 110, 115, 101, 114, 116, 32, 48, 32, 43] = (⟨1, 0, 0, 0, 0, 0, ⟨#[]⟩⟩, 0) := by unfold parR; rw [parO_C, good_0]
theorem good1_R : parR [115, 101, 116, 32, 52, 50, 57, 52, 57, 54, 55, 50, 57, 53, 32, 54, 53, 53, 51, 53, 32, 50, 53, 53] = (⟨3, 0, 65535, 0, 4294967295, 255, ⟨#[]⟩⟩, 0) := by unfold parR; rw [parO_C, good_1]
def exC : Cf := ⟨16, 1, 1, 0, 1, 1, 1, ⟨#[97]⟩⟩
def exOp : Ov := ⟨16, 0, 0, 0, 0, 0, ⟨#[]⟩⟩
def exX : Rd := ⟨exC, [[exOp]], [0, 0, 1], 1⟩
theorem ex_valid : validB [97] = true := by
  rw [validB_iff]
  have h : okRune [97] (annN (([97] : List UInt8).getD 0 0)) := ⟨by decide, by decide, fun i h1 h2 => by
    have h3 : annN (([97] : List UInt8).getD 0 0) = 1 := by decide
    omega, by kernel_rfl⟩
  exact VL.step (vstep_yes h) (by show VL (([97] : List UInt8).drop 1); exact VL.nil)
theorem ex_cfg : cfgE exC = 0 := by
  unfold cfgE
  rw [if_pos (by decide), if_neg (by decide)]
  show (if validB [97] = true then (0 : Int) else 11) = 0
  rw [if_pos ex_valid]
theorem ex_sc : scE exC ([[exOp]].map pgOf) [0, 0, 1] = 0 := by
  unfold scE
  rw [ex_cfg]
  kernel_rfl
theorem ex_sc2 : scE exC (([] : List (List Ov)).map pgOf) [] = 2 := by
  unfold scE
  rw [ex_cfg]
  kernel_rfl
theorem ex_fmtL : fmtL exC ([[exOp]].map pgOf) [0, 0, 1] = exA := by kernel_rfl
theorem ex_fmt (o : Option Addr) : fmtR exC [⟨o, 1, 1, [exOp]⟩] [0, 0, 1] = (exA, 0) := by
  have h1 : scE exC [⟨o, 1, 1, [exOp]⟩] [0, 0, 1] = 0 := by
    rw [scE_lists (by intro s hs; rw [List.mem_singleton.1 hs]; rfl)]
    exact ex_sc
  have h2 : fmtL exC [⟨o, 1, 1, [exOp]⟩] [0, 0, 1] = exA := by
    rw [fmtL_lists]
    exact ex_fmtL
  unfold fmtR
  rw [if_neg (fun k => k h1), h2, if_neg (by decide)]
theorem ex_p0 : prsR exA = (exX, 0, 0) := by
  have hf : foldP zeroRd 0 (segs exA) = (exX, 5, true) := by
    rw [foldP_C]
    kernel_rfl
  unfold prsR
  rw [if_neg (by decide), if_neg (by decide), hf]
  show (if scE exC ([[exOp]].map pgOf) [0, 0, 1] = 0 then _ else _) = _
  rw [if_pos ex_sc]
theorem ex_p2 : prsR [99, 111, 110, 102, 105, 103, 32, 49, 54, 32, 49, 32, 49, 32, 48, 32, 49, 32, 49, 32, 49, 32, 43, 54, 49, 10] = (zeroRd, 0, 2) := by
  have hf : foldP zeroRd 0 (segs [99, 111, 110, 102, 105, 103, 32, 49, 54, 32, 49, 32, 49, 32, 48, 32, 49, 32, 49, 32, 49, 32, 43, 54, 49, 10]) = (⟨exC, [], [], -1⟩, 1, true) := by
    rw [foldP_C]
    kernel_rfl
  unfold prsR
  rw [if_neg (by decide), if_neg (by decide), hf]
  show (if scE exC (([] : List (List Ov)).map pgOf) [] = 0 then _ else (zeroRd, 0, scE exC (([] : List (List Ov)).map pgOf) [])) = _
  rw [ex_sc2]
  rfl
theorem ex_p3 {l : List UInt8} (h1 : l.length ≤ 1000) (h2 : l ≠ []) (h : (foldC zeroRd 0 (segs l)).2 = (6, false)) : prsR l = (zeroRd, 6, 4) := by
  unfold prsR
  rw [if_neg (by omega), if_neg h2, foldP_C]
  rcases hf : foldC zeroRd 0 (segs l) with ⟨x, n, b⟩
  rw [hf] at h
  have h : (n, b) = (6, false) := h
  injection h with h3 h4
  subst h3; subst h4
  rfl
theorem isR_blk {α : Type} {f : α → List Value} {u : World} {b n : Nat} {l : List α} {T : TypeId} {fr : Nat × Nat} (h : u.heap[b]? = some (.cells (flatR f l).toArray T fr)) (hl : l.length = n) : IsR f u (some ⟨b, 0, none⟩) n l :=
  ⟨hl, fun _ => ⟨b, 0, rfl, block_lt h, fun j v hj => by rw [Nat.zero_add, block_cell h]; exact (List.getElem?_toArray ..).trans hj⟩⟩
set_option maxRecDepth 100000 in
set_option maxHeartbeats 16000000 in
theorem examples_law (w : World) (htab : Tab w) :
    Calls Tryd.prog 11 #[] w fun e w' => e = .returned (.bool true) ∧ Below w.heap.size w w' := by
  have HT := Lib.hid htab
  have H1 := Lib.hid (show ∀ u, Tab u → Calls Tryd.prog 21 #[.agg #[.int .u8 1, .int .i64 0, .int .i64 1, .int .i64 0, .int .u32 0, .int .u8 0, .string ⟨#[97, 98]⟩]] u fun e w' => e = .returned (.tuple #[.string ⟨#[105, 110, 115, 101, 114, 116, 32, 49, 32, 43, 54, 49, 54, 50]⟩, .int .i64 0]) ∧ Below u.heap.size u w' from fun u hu => by
    have h := opT_any exO1 u ⟨⟨by decide, by decide⟩, ⟨by decide, by decide⟩, ⟨by decide, by decide⟩⟩ (by decide) hu
    rw [exO1_R] at h
    exact h)
  have H2 := Lib.hid (show ∀ u, Tab u → Calls Tryd.prog 21 #[.agg #[.int .u8 2, .int .i64 0, .int .i64 (-1), .int .i64 0, .int .u32 0, .int .u8 0, .string ⟨#[]⟩]] u fun e w' => e = .returned (.tuple #[.string ⟨#[]⟩, .int .i64 2]) ∧ Below u.heap.size u w' from fun u hu => by
    have h := opT_any exO2 u ⟨⟨by decide, by decide⟩, ⟨by decide, by decide⟩, ⟨by decide, by decide⟩⟩ (by decide) hu
    rw [exO2_R] at h
    exact h)
  have H3 := Lib.hid (show ∀ u, Calls Tryd.prog 23 #[.string ⟨#[105, 110, 115, 101, 114, 116, 32, 48, 32, 43]⟩] u fun e w' => e = .returned (.tuple #[.agg #[.int .u8 1, .int .i64 0, .int .i64 0, .int .i64 0, .int .u32 0, .int .u8 0, .string ⟨#[]⟩], .int .i64 0]) ∧ Below u.heap.size u w' from fun u => by
    have h := parseOp_any ⟨#[105, 110, 115, 101, 114, 116, 32, 48, 32, 43]⟩ u (by decide)
    rw [show (⟨#[105, 110, 115, 101, 114, 116, 32, 48, 32, 43]⟩ : ByteArray).data.toList = [105, 110, 115, 101, 114, 116, 32, 48, 32, 43] from rfl, good0_R] at h
    exact h)
  have H4 := Lib.hid (show ∀ u, Calls Tryd.prog 23 #[.string ⟨#[115, 101, 116, 32, 52, 50, 57, 52, 57, 54, 55, 50, 57, 53, 32, 54, 53, 53, 51, 53, 32, 50, 53, 53]⟩] u fun e w' => e = .returned (.tuple #[.agg #[.int .u8 3, .int .i64 0, .int .i64 65535, .int .i64 0, .int .u32 4294967295, .int .u8 255, .string ⟨#[]⟩], .int .i64 0]) ∧ Below u.heap.size u w' from fun u => by
    have h := parseOp_any ⟨#[115, 101, 116, 32, 52, 50, 57, 52, 57, 54, 55, 50, 57, 53, 32, 54, 53, 53, 51, 53, 32, 50, 53, 53]⟩ u (by decide)
    rw [show (⟨#[115, 101, 116, 32, 52, 50, 57, 52, 57, 54, 55, 50, 57, 53, 32, 54, 53, 53, 51, 53, 32, 50, 53, 53]⟩ : ByteArray).data.toList = [115, 101, 116, 32, 52, 50, 57, 52, 57, 54, 55, 50, 57, 53, 32, 54, 53, 53, 51, 53, 32, 50, 53, 53] from rfl, good1_R] at h
    exact h)
  have H5 := Lib.hid (show ∀ u, Tab u → Calls Tryd.prog 12 #[.agg #[.int .i64 13, .int .i64 0, .int .i64 0, .int .i64 0, .int .u8 0, .string ⟨#[]⟩, .int .i64 0, .int .i64 0, .int .i64 0, .int .u8 0, .int .i64 0, .int .i64 0, .slice none 0 0]] u fun e w' => e = .returned (.tuple #[.string ⟨#[101, 114, 114, 111, 114, 32, 49, 51]⟩, .int .i64 0]) ∧ Below u.heap.size u w' from fun u hu => by
    have h := textResult_any exR1 none 0 0 u (IsR.nil _ _ _) (by decide) hu (by decide) ⟨by decide, by decide⟩ ⟨by decide, by decide⟩
    rw [exR1_R] at h
    exact h)
  have H7 := Lib.hid (show ∀ u, Tab u → Calls Tryd.prog 12 #[.agg #[.int .i64 13, .int .i64 1, .int .i64 0, .int .i64 0, .int .u8 0, .string ⟨#[]⟩, .int .i64 0, .int .i64 0, .int .i64 0, .int .u8 0, .int .i64 0, .int .i64 0, .slice none 0 0]] u fun e w' => e = .returned (.tuple #[.string ⟨#[]⟩, .int .i64 2]) ∧ Below u.heap.size u w' from fun u hu => by
    have h := textResult_any exR3 none 0 0 u (IsR.nil _ _ _) (by decide) hu (by decide) ⟨by decide, by decide⟩ ⟨by decide, by decide⟩
    rw [exR3_R] at h
    exact h)
  have H6 := Lib.hid (show ∀ u b, Tab u → IsR fP u (some ⟨b, 0, none⟩) 1 [⟨1, 3, ⟨#[]⟩⟩] → Calls Tryd.prog 12 #[.agg #[.int .i64 0, .int .i64 2, .int .i64 0, .int .i64 0, .int .u8 0, .string ⟨#[]⟩, .int .i64 0, .int .i64 0, .int .i64 0, .int .u8 1, .int .i64 1, .int .i64 2, .slice (some ⟨b, 0, none⟩) 1 1]] u fun e w' => e = .returned (.tuple #[.string ⟨#[111, 107, 32, 50, 32, 48, 32, 48, 32, 48, 32, 43, 32, 48, 32, 48, 32, 48, 32, 49, 32, 49, 32, 50, 32, 61, 51]⟩, .int .i64 0]) ∧ Below u.heap.size u w' from fun u b hu hr => by
    have h := textResult_any exR2 (some ⟨b, 0, none⟩) 1 1 u hr (by decide) hu (by decide) ⟨by decide, by decide⟩ ⟨by decide, by decide⟩
    rw [exR2_R] at h
    exact h)
  have G1 := Lib.hid (show ∀ u : World, Calls Tryd.prog 18 #[.string ⟨#[]⟩] u fun e w' => Below u.heap.size u w' ∧ ∃ po1 pc1 qo1 qc1, e = .returned (.tuple #[.agg #[.int .i64 0, .int .u64 0, .int .i64 0, .int .i64 0, .int .i64 0, .int .i64 0, .int .i64 0, .string ⟨#[]⟩, .slice po1 0 pc1, .slice qo1 0 qc1], .int .i64 1, .int .i64 4]) from fun u => (prs_call (S := ⟨#[]⟩) (x := zeroRd) (k := 1) (er := 4) (by rfl) rfl rfl u).mono fun e w' ⟨h1, po1, pc1, qo1, qc1, ss1, _, _, _, _, _, h2⟩ => ⟨h1, po1, pc1, qo1, qc1, h2⟩)
  have G2 := Lib.hid (show ∀ u : World, Calls Tryd.prog 18 #[.string ⟨#[99, 111, 110, 102, 105, 103, 32, 49, 54, 32, 49, 32, 49, 32, 48, 32, 49, 32, 49, 32, 49, 32, 43, 54, 49, 10]⟩] u fun e w' => Below u.heap.size u w' ∧ ∃ po1 pc1 qo1 qc1, e = .returned (.tuple #[.agg #[.int .i64 0, .int .u64 0, .int .i64 0, .int .i64 0, .int .i64 0, .int .i64 0, .int .i64 0, .string ⟨#[]⟩, .slice po1 0 pc1, .slice qo1 0 qc1], .int .i64 0, .int .i64 2]) from fun u => (prs_call (S := ⟨#[99, 111, 110, 102, 105, 103, 32, 49, 54, 32, 49, 32, 49, 32, 48, 32, 49, 32, 49, 32, 49, 32, 43, 54, 49, 10]⟩) (x := zeroRd) (k := 0) (er := 2) ex_p2 rfl rfl u).mono fun e w' ⟨h1, po1, pc1, qo1, qc1, ss1, _, _, _, _, _, h2⟩ => ⟨h1, po1, pc1, qo1, qc1, h2⟩)
  have G3 := Lib.hid (show ∀ u : World, Calls Tryd.prog 18 #[.string ⟨#[99, 111, 110, 102, 105, 103, 32, 49, 54, 32, 49, 32, 49, 32, 48, 32, 49, 32, 49, 32, 49, 32, 43, 54, 49, 10, 99, 108, 105, 101, 110, 116, 32, 48, 10, 99, 108, 111, 115, 101, 10, 112, 105, 99, 107, 32, 48, 32, 50, 10, 112, 105, 99, 107, 32, 49, 32, 49, 10, 112, 105, 99, 107, 32, 49, 32, 49, 10]⟩] u fun e w' => Below u.heap.size u w' ∧ ∃ po1 pc1 qo1 qc1, e = .returned (.tuple #[.agg #[.int .i64 0, .int .u64 0, .int .i64 0, .int .i64 0, .int .i64 0, .int .i64 0, .int .i64 0, .string ⟨#[]⟩, .slice po1 0 pc1, .slice qo1 0 qc1], .int .i64 6, .int .i64 4]) from fun u => (prs_call (S := ⟨#[99, 111, 110, 102, 105, 103, 32, 49, 54, 32, 49, 32, 49, 32, 48, 32, 49, 32, 49, 32, 49, 32, 43, 54, 49, 10, 99, 108, 105, 101, 110, 116, 32, 48, 10, 99, 108, 111, 115, 101, 10, 112, 105, 99, 107, 32, 48, 32, 50, 10, 112, 105, 99, 107, 32, 49, 32, 49, 10, 112, 105, 99, 107, 32, 49, 32, 49, 10]⟩) (x := zeroRd) (k := 6) (er := 4) (ex_p3 (by decide) (by decide) ex_6) rfl rfl u).mono fun e w' ⟨h1, po1, pc1, qo1, qc1, ss1, _, _, _, _, _, h2⟩ => ⟨h1, po1, pc1, qo1, qc1, h2⟩)
  have G4 := Lib.hid (show ∀ u : World, Calls Tryd.prog 18 #[.string ⟨#[99, 111, 110, 102, 105, 103, 32, 49, 54, 32, 49, 32, 49, 32, 48, 32, 49, 32, 49, 32, 49, 32, 43, 54, 49, 10, 99, 108, 105, 101, 110, 116, 32, 48, 10, 99, 108, 111, 115, 101, 10, 112, 105, 99, 107, 32, 48, 32, 50, 10, 112, 105, 99, 107, 32, 49, 32, 49, 10, 99, 108, 111, 115, 101, 10]⟩] u fun e w' => Below u.heap.size u w' ∧ ∃ po1 pc1 qo1 qc1, e = .returned (.tuple #[.agg #[.int .i64 0, .int .u64 0, .int .i64 0, .int .i64 0, .int .i64 0, .int .i64 0, .int .i64 0, .string ⟨#[]⟩, .slice po1 0 pc1, .slice qo1 0 qc1], .int .i64 6, .int .i64 4]) from fun u => (prs_call (S := ⟨#[99, 111, 110, 102, 105, 103, 32, 49, 54, 32, 49, 32, 49, 32, 48, 32, 49, 32, 49, 32, 49, 32, 43, 54, 49, 10, 99, 108, 105, 101, 110, 116, 32, 48, 10, 99, 108, 111, 115, 101, 10, 112, 105, 99, 107, 32, 48, 32, 50, 10, 112, 105, 99, 107, 32, 49, 32, 49, 10, 99, 108, 111, 115, 101, 10]⟩) (x := zeroRd) (k := 6) (er := 4) (ex_p3 (by decide) (by decide) ex_7) rfl rfl u).mono fun e w' ⟨h1, po1, pc1, qo1, qc1, ss1, _, _, _, _, _, h2⟩ => ⟨h1, po1, pc1, qo1, qc1, h2⟩)
  have G5 := Lib.hid (show ∀ u : World, Calls Tryd.prog 18 #[.string ⟨#[99, 111, 110, 102, 105, 103, 32, 49, 54, 32, 49, 32, 49, 32, 48, 32, 49, 32, 49, 32, 49, 32, 43, 54, 49, 10, 99, 108, 105, 101, 110, 116, 32, 48, 10, 99, 108, 111, 115, 101, 10, 112, 105, 99, 107, 32, 48, 32, 50, 10, 112, 105, 99, 107, 32, 49, 32, 49, 10, 112, 105, 99, 107, 32, 48, 32, 49]⟩] u fun e w' => Below u.heap.size u w' ∧ ∃ po1 pc1 qo1 qc1, e = .returned (.tuple #[.agg #[.int .i64 0, .int .u64 0, .int .i64 0, .int .i64 0, .int .i64 0, .int .i64 0, .int .i64 0, .string ⟨#[]⟩, .slice po1 0 pc1, .slice qo1 0 qc1], .int .i64 6, .int .i64 4]) from fun u => (prs_call (S := ⟨#[99, 111, 110, 102, 105, 103, 32, 49, 54, 32, 49, 32, 49, 32, 48, 32, 49, 32, 49, 32, 49, 32, 43, 54, 49, 10, 99, 108, 105, 101, 110, 116, 32, 48, 10, 99, 108, 111, 115, 101, 10, 112, 105, 99, 107, 32, 48, 32, 50, 10, 112, 105, 99, 107, 32, 49, 32, 49, 10, 112, 105, 99, 107, 32, 48, 32, 49]⟩) (x := zeroRd) (k := 6) (er := 4) (ex_p3 (by decide) (by decide) ex_8) rfl rfl u).mono fun e w' ⟨h1, po1, pc1, qo1, qc1, ss1, _, _, _, _, _, h2⟩ => ⟨h1, po1, pc1, qo1, qc1, h2⟩)
  have G0 := Lib.hid (show ∀ u : World, Calls Tryd.prog 18 #[.string ⟨#[99, 111, 110, 102, 105, 103, 32, 49, 54, 32, 49, 32, 49, 32, 48, 32, 49, 32, 49, 32, 49, 32, 43, 54, 49, 10, 99, 108, 105, 101, 110, 116, 32, 48, 10, 99, 108, 111, 115, 101, 10, 112, 105, 99, 107, 32, 48, 32, 50, 10, 112, 105, 99, 107, 32, 49, 32, 49, 10]⟩] u fun e w' => Below u.heap.size u w' ∧ ∃ po pc qo qc ss1, IsPg w' po 1 ss1 ∧ IsR fI w' qo 3 [0, 0, 1] ∧ ss1.map (·.l) = [[exOp]] ∧ e = .returned (.tuple #[.agg #[.int .i64 16, .int .u64 1, .int .i64 1, .int .i64 0, .int .i64 1, .int .i64 1, .int .i64 1, .string ⟨#[97]⟩, .slice po 1 pc, .slice qo 3 qc], .int .i64 0, .int .i64 0]) from fun u => (prs_call (S := ⟨#[99, 111, 110, 102, 105, 103, 32, 49, 54, 32, 49, 32, 49, 32, 48, 32, 49, 32, 49, 32, 49, 32, 43, 54, 49, 10, 99, 108, 105, 101, 110, 116, 32, 48, 10, 99, 108, 111, 115, 101, 10, 112, 105, 99, 107, 32, 48, 32, 50, 10, 112, 105, 99, 107, 32, 49, 32, 49, 10]⟩) (x := exX) (k := 0) (er := 0) ex_p0 rfl rfl u).mono fun e w' ⟨h1, po, pc, qo, qc, ss1, h3, h4, h5, _, _, h2⟩ => ⟨h1, po, pc, qo, qc, ss1, h3, h4, h5, h2⟩)
  have GF := Lib.hid (show ∀ (u : World) (o : Option Addr) (po qo : Option Addr), Tab u → IsPg u po 1 [⟨o, 1, 1, [exOp]⟩] → IsR fI u qo 3 [0, 0, 1] → Calls Tryd.prog 16 #[.agg #[.int .i64 16, .int .u64 1, .int .i64 1, .int .i64 0, .int .i64 1, .int .i64 1, .int .i64 1, .string ⟨#[97]⟩, .slice po 1 1, .slice qo 3 3]] u fun e w' => e = .returned (.tuple #[.string ⟨#[99, 111, 110, 102, 105, 103, 32, 49, 54, 32, 49, 32, 49, 32, 48, 32, 49, 32, 49, 32, 49, 32, 43, 54, 49, 10, 99, 108, 105, 101, 110, 116, 32, 48, 10, 99, 108, 111, 115, 101, 10, 112, 105, 99, 107, 32, 48, 32, 50, 10, 112, 105, 99, 107, 32, 49, 32, 49, 10]⟩, .int .i64 0]) ∧ Below u.heap.size u w' from fun u o po qo hu hp hq => by
    have h := formatT_any exC po 1 1 qo 3 3 [⟨o, 1, 1, [exOp]⟩] [0, 0, 1] u hp hq (by decide) (fun s hs x hx => by rw [List.mem_singleton.1 hs] at hx; rw [List.mem_singleton.1 hx]; decide) (by decide) (by decide) (fun s hs x hx => by rw [List.mem_singleton.1 hs] at hx; rw [List.mem_singleton.1 hx]; exact ⟨⟨by decide, by decide⟩, ⟨by decide, by decide⟩, ⟨by decide, by decide⟩⟩) hu (by decide)
    rw [ex_fmt] at h
    exact h)
  have HB0 := Lib.hid (Below.refl w.heap.size w)
  clear htab
  go_enter Tryd.func11, Tryd.ntmps11
  go_wp2_with fail
  refine (H1.out _ HT.out).mono ?_; rintro e w1 ⟨rfl, hb1⟩
  have HB1 := Lib.hid hb1
  clear hb1 HB0
  go_wp2_with fail
  refine (H2.out _ (Tab.below HT.out HB1.out)).mono ?_; rintro e w2 ⟨rfl, hb2⟩
  have HB2 := Lib.hid (below_two HB1.out hb2)
  clear hb2 HB1
  have HBA := Lib.hid (show Below w.heap.size w (w2.alloc (.cells #[.string ⟨#[108, 101, 110, 32, 51, 48, 48]⟩, .string ⟨#[108, 101, 110, 32, 48, 51]⟩, .string ⟨#[105, 110, 115, 101, 114, 116, 32, 48, 32, 43, 54]⟩, .string ⟨#[105, 110, 115, 101, 114, 116, 32, 48]⟩, .string ⟨#[105, 110, 115, 101, 114, 116, 32, 48, 32, 43, 32]⟩, .string ⟨#[32, 108, 101, 110, 32, 48]⟩, .string ⟨#[108, 101, 110, 32, 32, 48]⟩, .string ⟨#[108, 101, 110]⟩, .string ⟨#[99, 108, 111, 115, 101, 32, 48]⟩, .string ⟨#[]⟩, .string ⟨#[67, 108, 111, 115, 101]⟩, .string ⟨#[105, 110, 115, 101, 114, 116, 32, 48, 32, 43, 54, 65]⟩, .string ⟨#[112, 105, 99, 107, 32, 48, 32, 49]⟩, .string ⟨#[115, 101, 116, 32, 49, 32, 50, 32, 50, 53, 54]⟩] 9 (0, 0))) from HB2.out.alloc HB2.out.size _)
  have HBK := Lib.hid (show (w2.alloc (.cells #[.string ⟨#[108, 101, 110, 32, 51, 48, 48]⟩, .string ⟨#[108, 101, 110, 32, 48, 51]⟩, .string ⟨#[105, 110, 115, 101, 114, 116, 32, 48, 32, 43, 54]⟩, .string ⟨#[105, 110, 115, 101, 114, 116, 32, 48]⟩, .string ⟨#[105, 110, 115, 101, 114, 116, 32, 48, 32, 43, 32]⟩, .string ⟨#[32, 108, 101, 110, 32, 48]⟩, .string ⟨#[108, 101, 110, 32, 32, 48]⟩, .string ⟨#[108, 101, 110]⟩, .string ⟨#[99, 108, 111, 115, 101, 32, 48]⟩, .string ⟨#[]⟩, .string ⟨#[67, 108, 111, 115, 101]⟩, .string ⟨#[105, 110, 115, 101, 114, 116, 32, 48, 32, 43, 54, 65]⟩, .string ⟨#[112, 105, 99, 107, 32, 48, 32, 49]⟩, .string ⟨#[115, 101, 116, 32, 49, 32, 50, 32, 50, 53, 54]⟩] 9 (0, 0))).heap[w2.heap.size]? = some (.cells (wrongL.map fun x => Value.string ⟨x.toArray⟩).toArray 9 (0, 0)) from block_new w2 _)
  have hz2 : w2.heap.size < (w2.alloc (.cells #[.string ⟨#[108, 101, 110, 32, 51, 48, 48]⟩, .string ⟨#[108, 101, 110, 32, 48, 51]⟩, .string ⟨#[105, 110, 115, 101, 114, 116, 32, 48, 32, 43, 54]⟩, .string ⟨#[105, 110, 115, 101, 114, 116, 32, 48]⟩, .string ⟨#[105, 110, 115, 101, 114, 116, 32, 48, 32, 43, 32]⟩, .string ⟨#[32, 108, 101, 110, 32, 48]⟩, .string ⟨#[108, 101, 110, 32, 32, 48]⟩, .string ⟨#[108, 101, 110]⟩, .string ⟨#[99, 108, 111, 115, 101, 32, 48]⟩, .string ⟨#[]⟩, .string ⟨#[67, 108, 111, 115, 101]⟩, .string ⟨#[105, 110, 115, 101, 114, 116, 32, 48, 32, 43, 54, 65]⟩, .string ⟨#[112, 105, 99, 107, 32, 48, 32, 49]⟩, .string ⟨#[115, 101, 116, 32, 49, 32, 50, 32, 50, 53, 54]⟩] 9 (0, 0))).heap.size := by simp
  have HPO := Lib.hid (show ∀ (wd : List UInt8), wd ∈ wrongL → ∀ u, Calls Tryd.prog 23 #[.string ⟨wd.toArray⟩] u fun e w' => e = .returned (.tuple #[.agg #[.int .u8 0, .int .i64 0, .int .i64 0, .int .i64 0, .int .u32 0, .int .u8 0, .string ⟨#[]⟩], .int .i64 4]) ∧ Below u.heap.size u w' from fun wd hwd u => by
    have h := parseOp_any ⟨wd.toArray⟩ u (by have := wrong_len wd hwd; show wd.toArray.size ≤ _; rw [List.size_toArray]; omega)
    rw [show (⟨wd.toArray⟩ : ByteArray).data.toList = wd from List.toList_toArray .., wrong_parR hwd] at h
    exact h)
  go_wp2_with fail
  generalize w2.alloc (.cells #[.string ⟨#[108, 101, 110, 32, 51, 48, 48]⟩, .string ⟨#[108, 101, 110, 32, 48, 51]⟩, .string ⟨#[105, 110, 115, 101, 114, 116, 32, 48, 32, 43, 54]⟩, .string ⟨#[105, 110, 115, 101, 114, 116, 32, 48]⟩, .string ⟨#[105, 110, 115, 101, 114, 116, 32, 48, 32, 43, 32]⟩, .string ⟨#[32, 108, 101, 110, 32, 48]⟩, .string ⟨#[108, 101, 110, 32, 32, 48]⟩, .string ⟨#[108, 101, 110]⟩, .string ⟨#[99, 108, 111, 115, 101, 32, 48]⟩, .string ⟨#[]⟩, .string ⟨#[67, 108, 111, 115, 101]⟩, .string ⟨#[105, 110, 115, 101, 114, 116, 32, 48, 32, 43, 54, 65]⟩, .string ⟨#[112, 105, 99, 107, 32, 48, 32, 49]⟩, .string ⟨#[115, 101, 116, 32, 49, 32, 50, 32, 50, 53, 54]⟩] 9 (0, 0)) = w3 at *
  have HZ2 := Lib.hid hz2
  clear hz2
  go_loopw [6] (fun s6 wr => ∃ i : Nat, i ≤ 14 ∧ s6 = .int .i64 i ∧ Below w3.heap.size w3 wr) (fun s6 _ => 14 - (intOf s6).toNat)
  case atStart => exact ⟨0, Nat.zero_le _, rfl, Below.refl _ _⟩
  case round =>
    obtain ⟨i, hi, rfl, hbr⟩ := hrel
    have HBR := Lib.hid hbr
    by_cases hlt : i < 14
    · have hil : (i : Int) < 14 := by omega
      have hi0 : (0 : Int) ≤ (i : Int) := by omega
      have hiw : i < wrongL.length := hlt
      have hc : wr.cell? ⟨w2.heap.size, i, none⟩ = some (.string ⟨(wrongL[i]'hiw).toArray⟩) := by
        have h5 := block_below hbr HBK.out HZ2.out
        rw [block_cell h5 i, List.getElem?_toArray, List.getElem?_map, List.getElem?_eq_getElem hiw]
        rfl
      have HPI := Lib.hid (HPO.out _ (List.getElem_mem hiw) wr)
      generalize wrongL[i]'hiw = wd at *
      clear hbr hlt
      go_wp2_with fail
      refine (HPI.out).mono ?_; rintro e w4 ⟨rfl, hb4⟩
      have HB4 := Lib.hid ((below_two HBR.out hb4).alloc (below_two HBR.out hb4).size (.cells #[.int .u8 0, .int .i64 0, .int .i64 0, .int .i64 0, .int .u32 0, .int .u8 0, .string ⟨#[]⟩] 51))
      clear hb4 hc HPI HBR
      go_wp2_with fail
      go_roundw
      case rel => exact ⟨i + 1, by omega, by go_num, HB4.out⟩
      case measure => (simp [intOf] <;> omega)
    · obtain rfl : i = 14 := by omega
      have hil : ¬ (((14 : Nat) : Int) < 14) := by omega
      have HBW := Lib.hid (below_two HBA.out HBR.out)
      clear hbr hlt HBR HPO HBK
      go_wp2_with fail
      refine (H3.out _).mono ?_; rintro e w5 ⟨rfl, hb5⟩
      have HB5 := Lib.hid (below_two HBW.out hb5)
      have HX5 := Lib.hid (block_new w5 (.cells #[.int .u8 1, .int .i64 0, .int .i64 0, .int .i64 0, .int .u32 0, .int .u8 0, .string ⟨#[]⟩] 51))
      have HB6 := Lib.hid (HB5.out.alloc HB5.out.size (.cells #[.int .u8 1, .int .i64 0, .int .i64 0, .int .i64 0, .int .u32 0, .int .u8 0, .string ⟨#[]⟩] 51))
      clear hb5 HBW
      go_wp2_with fail
      refine (H4.out _).mono ?_; rintro e w6 ⟨rfl, hb6⟩
      have HB7 := Lib.hid (below_two HB6.out hb6)
      have HX6 := Lib.hid (block_below hb6 HX5.out (by simp))
      have HX7 := Lib.hid (block_alloc HX6.out (.cells #[.int .u8 3, .int .i64 0, .int .i64 65535, .int .i64 0, .int .u32 4294967295, .int .u8 255, .string ⟨#[]⟩] 51))
      have HB8 := Lib.hid (HB7.out.alloc HB7.out.size (.cells #[.int .u8 3, .int .i64 0, .int .i64 65535, .int .i64 0, .int .u32 4294967295, .int .u8 255, .string ⟨#[]⟩] 51))
      have hz6 : w5.heap.size < w6.heap.size := block_lt HX6.out
      clear hb6
      have q0 := block_cell HX7.out 0
      have q1 := block_cell HX7.out 1
      have q2 := block_cell HX7.out 2
      have q3 := block_cell HX7.out 3
      have q4 := block_cell HX7.out 4
      have q5 := block_cell HX7.out 5
      have q6 := block_cell HX7.out 6
      simp at q0 q1 q2 q3 q4 q5 q6
      go_wp2_with fail
      refine (H5.out _ (Tab.below HT.out HB8.out)).mono ?_; rintro e w8 ⟨rfl, hb8⟩
      have HB9 := Lib.hid (below_two HB8.out hb8)
      clear hb8 q0 q1 q2 q3 q4 q5 q6 HX5 HX6 HX7 HB5 HB6 HB7 HB8 hz6
      have HBP := Lib.hid (HB9.out.alloc HB9.out.size (.cells #[.int .u8 1, .int .i64 3, .string ⟨#[]⟩] 31))
      have HRW := Lib.hid (show IsR fP (w8.alloc (.cells #[.int .u8 1, .int .i64 3, .string ⟨#[]⟩] 31)) (some ⟨w8.heap.size, 0, none⟩) 1 [⟨1, 3, ⟨#[]⟩⟩] from ⟨rfl, fun _ => ⟨w8.heap.size, 0, rfl, by simp, fun j u hj => by
        rw [Nat.zero_add, block_cell (block_new w8 _)]
        exact (List.getElem?_toArray ..).trans hj⟩⟩)
      have H6x := Lib.hid (H6.out _ w8.heap.size (Tab.below HT.out HBP.out) HRW.out)
      go_wp2_with fail
      refine (H6x.out).mono ?_; rintro e w9 ⟨rfl, hb9⟩
      have HB10 := Lib.hid (below_two HBP.out hb9)
      clear hb9 HRW H6x H6 HB9 HBP
      go_wp2_with fail
      refine (H7.out _ (Tab.below HT.out HB10.out)).mono ?_; rintro e w10 ⟨rfl, hb10⟩
      have HB11 := Lib.hid (below_two HB10.out hb10)
      clear hb10 HB10 H7 H5 H4 H3 H2 H1
      have HB12 := Lib.hid (show Below w10.heap.size w10 ((((w10.alloc (.cells #[.int .u8 16, .int .i64 0, .int .i64 0, .int .i64 0, .int .u32 0, .int .u8 0, .string ⟨#[]⟩] 51)).alloc (.cells #[.slice (some ⟨w10.heap.size, 0, none⟩) 1 1] 60)).alloc (.cells #[.int .i64 0, .int .i64 0, .int .i64 1] 3)).alloc (.cells #[.int .i64 16, .int .u64 1, .int .i64 1, .int .i64 0, .int .i64 1, .int .i64 1, .int .i64 1, .string ⟨#[97]⟩, .slice (some ⟨w10.heap.size + 1, 0, none⟩) 1 1, .slice (some ⟨w10.heap.size + 1 + 1, 0, none⟩) 3 3] 42)) from ((((Below.refl _ w10).alloc (Nat.le_refl _) _).alloc (by simp) _).alloc (by simp; omega) _).alloc (by simp; omega) _)
      have HB13 := Lib.hid (below_two HB11.out HB12.out)
      have HPG := Lib.hid (show IsPg ((((w10.alloc (.cells #[.int .u8 16, .int .i64 0, .int .i64 0, .int .i64 0, .int .u32 0, .int .u8 0, .string ⟨#[]⟩] 51)).alloc (.cells #[.slice (some ⟨w10.heap.size, 0, none⟩) 1 1] 60)).alloc (.cells #[.int .i64 0, .int .i64 0, .int .i64 1] 3)).alloc (.cells #[.int .i64 16, .int .u64 1, .int .i64 1, .int .i64 0, .int .i64 1, .int .i64 1, .int .i64 1, .string ⟨#[97]⟩, .slice (some ⟨w10.heap.size + 1, 0, none⟩) 1 1, .slice (some ⟨w10.heap.size + 1 + 1, 0, none⟩) 3 3] 42)) (some ⟨w10.heap.size + 1, 0, none⟩) 1 [⟨some ⟨w10.heap.size, 0, none⟩, 1, 1, [exOp]⟩] from ⟨isR_blk (T := 60) (fr := (0, 0)) (at_old (at_old (at_new (by simp)))) rfl, fun s hs => by
        rw [List.mem_singleton.1 hs]
        exact isR_blk (T := 51) (fr := (0, 0)) (at_old (at_old (at_old (at_new rfl)))) rfl⟩)
      have HQG := Lib.hid (show IsR fI ((((w10.alloc (.cells #[.int .u8 16, .int .i64 0, .int .i64 0, .int .i64 0, .int .u32 0, .int .u8 0, .string ⟨#[]⟩] 51)).alloc (.cells #[.slice (some ⟨w10.heap.size, 0, none⟩) 1 1] 60)).alloc (.cells #[.int .i64 0, .int .i64 0, .int .i64 1] 3)).alloc (.cells #[.int .i64 16, .int .u64 1, .int .i64 1, .int .i64 0, .int .i64 1, .int .i64 1, .int .i64 1, .string ⟨#[97]⟩, .slice (some ⟨w10.heap.size + 1, 0, none⟩) 1 1, .slice (some ⟨w10.heap.size + 1 + 1, 0, none⟩) 3 3] 42)) (some ⟨w10.heap.size + 1 + 1, 0, none⟩) 3 [0, 0, 1] from isR_blk (T := 3) (fr := (0, 0)) (at_old (at_new (by simp))) rfl)
      have HDX := Lib.hid (show ((((w10.alloc (.cells #[.int .u8 16, .int .i64 0, .int .i64 0, .int .i64 0, .int .u32 0, .int .u8 0, .string ⟨#[]⟩] 51)).alloc (.cells #[.slice (some ⟨w10.heap.size, 0, none⟩) 1 1] 60)).alloc (.cells #[.int .i64 0, .int .i64 0, .int .i64 1] 3)).alloc (.cells #[.int .i64 16, .int .u64 1, .int .i64 1, .int .i64 0, .int .i64 1, .int .i64 1, .int .i64 1, .string ⟨#[97]⟩, .slice (some ⟨w10.heap.size + 1, 0, none⟩) 1 1, .slice (some ⟨w10.heap.size + 1 + 1, 0, none⟩) 3 3] 42)).heap[w10.heap.size + 1 + 1 + 1]? = some (.cells #[.int .i64 16, .int .u64 1, .int .i64 1, .int .i64 0, .int .i64 1, .int .i64 1, .int .i64 1, .string ⟨#[97]⟩, .slice (some ⟨w10.heap.size + 1, 0, none⟩) 1 1, .slice (some ⟨w10.heap.size + 1 + 1, 0, none⟩) 3 3] 42 (0, 0)) from at_new (by simp))
      have HFX := Lib.hid (GF.out _ _ _ _ (Tab.below HT.out HB13.out) HPG.out HQG.out)
      go_wp2_with fail
      generalize ((((w10.alloc (.cells #[.int .u8 16, .int .i64 0, .int .i64 0, .int .i64 0, .int .u32 0, .int .u8 0, .string ⟨#[]⟩] 51)).alloc (.cells #[.slice (some ⟨w10.heap.size, 0, none⟩) 1 1] 60)).alloc (.cells #[.int .i64 0, .int .i64 0, .int .i64 1] 3)).alloc (.cells #[.int .i64 16, .int .u64 1, .int .i64 1, .int .i64 0, .int .i64 1, .int .i64 1, .int .i64 1, .string ⟨#[97]⟩, .slice (some ⟨w10.heap.size + 1, 0, none⟩) 1 1, .slice (some ⟨w10.heap.size + 1 + 1, 0, none⟩) 3 3] 42)) = w12 at *
      refine (HFX.out).mono ?_; rintro e w13 ⟨rfl, hb13⟩
      have HB14 := Lib.hid (below_two HB13.out hb13)
      have HX14 := Lib.hid (block_below hb13 HDX.out (block_lt HDX.out))
      have HPG2 := Lib.hid (HPG.out.later hb13)
      have HQG2 := Lib.hid (HQG.out.later hb13)
      clear hb13 HFX HPG HQG HDX GF
      go_wp2_with fail
      refine (G0.out _).mono ?_; rintro e w14 ⟨hb14, po, pc, qo, qc, ss1, hpp, hqq, hss, rfl⟩
      have HBT := Lib.hid ((Below.refl w14.heap.size w14).alloc (Nat.le_refl _) (.cells #[.int .i64 16, .int .u64 1, .int .i64 1, .int .i64 0, .int .i64 1, .int .i64 1, .int .i64 1, .string ⟨#[97]⟩, .slice po 1 pc, .slice qo 3 qc] 42))
      have HBU := Lib.hid (below_two hb14 HBT.out)
      have HB15 := Lib.hid (below_two HB14.out HBU.out)
      have HX15 := Lib.hid (block_below HBU.out HX14.out (block_lt HX14.out))
      have HEQ := Lib.hid (eqScript_true exC po (some ⟨w10.heap.size + 1, 0, none⟩) 1 pc 1 qo (some ⟨w10.heap.size + 1 + 1, 0, none⟩) 3 qc 3 ss1 [⟨some ⟨w10.heap.size, 0, none⟩, 1, 1, [exOp]⟩] [0, 0, 1] _ (hpp.later HBT.out) (HPG2.out.later HBU.out) hss (hqq.later HBT.out) (HQG2.out.later HBU.out) (by decide) (fun s hs => by
        have h5 : s.l ∈ [[exOp]] := by rw [← hss]; exact List.mem_map_of_mem hs
        rw [List.mem_singleton.1 h5]; decide) (by decide))
      have hz14 : w10.heap.size + 1 + 1 + 1 < w14.heap.size := Nat.lt_of_lt_of_le (block_lt HX14.out) hb14.size
      unfold exC at HEQ
      simp only at HEQ
      clear hb14 hpp hqq hss
      have q0 := block_cell HX15.out 0
      have q1 := block_cell HX15.out 1
      have q2 := block_cell HX15.out 2
      have q3 := block_cell HX15.out 3
      have q4 := block_cell HX15.out 4
      have q5 := block_cell HX15.out 5
      have q6 := block_cell HX15.out 6
      have q7 := block_cell HX15.out 7
      have q8 := block_cell HX15.out 8
      have q9 := block_cell HX15.out 9
      simp at q0 q1 q2 q3 q4 q5 q6 q7 q8 q9
      go_wp2_with fail
      refine (HEQ.out).mono ?_; rintro e w16 ⟨rfl, hb16⟩
      have HB16 := Lib.hid (below_two HB15.out hb16)
      clear hb16 HEQ HPG2 HQG2 HX14 HX15 hz14 q0 q1 q2 q3 q4 q5 q6 q7 q8 q9
      go_wp2_with fail
      refine (G1.out _).mono ?_; rintro e v1 ⟨hb1, po1, pc1, qo1, qc1, rfl⟩
      have HV1 := Lib.hid (below_two HB16.out hb1)
      have HW1 := Lib.hid (HV1.out.alloc HV1.out.size (.cells #[.int .i64 0, .int .u64 0, .int .i64 0, .int .i64 0, .int .i64 0, .int .i64 0, .int .i64 0, .string ⟨#[]⟩, .slice po1 0 pc1, .slice qo1 0 qc1] 42))
      clear hb1 HV1
      go_wp2_with fail
      refine (G2.out _).mono ?_; rintro e v2 ⟨hb2, po1, pc1, qo1, qc1, rfl⟩
      have HV2 := Lib.hid (below_two HW1.out hb2)
      have HW2 := Lib.hid (HV2.out.alloc HV2.out.size (.cells #[.int .i64 0, .int .u64 0, .int .i64 0, .int .i64 0, .int .i64 0, .int .i64 0, .int .i64 0, .string ⟨#[]⟩, .slice po1 0 pc1, .slice qo1 0 qc1] 42))
      clear hb2 HV2
      go_wp2_with fail
      refine (G3.out _).mono ?_; rintro e v3 ⟨hb3, po1, pc1, qo1, qc1, rfl⟩
      have HV3 := Lib.hid (below_two HW2.out hb3)
      have HW3 := Lib.hid (HV3.out.alloc HV3.out.size (.cells #[.int .i64 0, .int .u64 0, .int .i64 0, .int .i64 0, .int .i64 0, .int .i64 0, .int .i64 0, .string ⟨#[]⟩, .slice po1 0 pc1, .slice qo1 0 qc1] 42))
      clear hb3 HV3
      go_wp2_with fail
      refine (G4.out _).mono ?_; rintro e v4 ⟨hb4, po1, pc1, qo1, qc1, rfl⟩
      have HV4 := Lib.hid (below_two HW3.out hb4)
      have HW4 := Lib.hid (HV4.out.alloc HV4.out.size (.cells #[.int .i64 0, .int .u64 0, .int .i64 0, .int .i64 0, .int .i64 0, .int .i64 0, .int .i64 0, .string ⟨#[]⟩, .slice po1 0 pc1, .slice qo1 0 qc1] 42))
      clear hb4 HV4
      go_wp2_with fail
      refine (G5.out _).mono ?_; rintro e v5 ⟨hb5, po1, pc1, qo1, qc1, rfl⟩
      have HV5 := Lib.hid (below_two HW4.out hb5)
      clear hb5
      go_wp2_with fail
      go_ret
      exact ⟨rfl, HV5.out⟩
end Go.Proofs.YtdfkbahlngijcaaDoor

