/- Deltas: the chapter's examples: known. -/
import Derived.Test.YtkocknhpnmkicaaDoorDv
import Derived.Test.YtkocknhpnmkicaaDoorDe
namespace Go.Proofs.YtkocknhpnmkicaaDoor
open Go.RowKit
set_option linter.unusedVariables false

def kD : List Pc := [⟨1, 1, ⟨#[]⟩⟩, ⟨1, 2, ⟨#[]⟩⟩, ⟨3, 1, ⟨#[]⟩⟩, ⟨2, 0, ⟨#[97]⟩⟩, ⟨3, 2, ⟨#[]⟩⟩, ⟨2, 0, ⟨#[98]⟩⟩]
def kN : List Pc := [⟨1, 3, ⟨#[]⟩⟩, ⟨2, 0, ⟨#[97, 98]⟩⟩, ⟨3, 3, ⟨#[]⟩⟩]
def kT : ByteArray := ⟨#[61, 51, 32, 43, 54, 49, 54, 50, 32, 45, 51]⟩
def kB : ByteArray := ⟨#[61, 48, 51]⟩
theorem k_check : checkP kD = 0 := by decide +kernel
theorem k_lengths : lengthsP kD = (6, 5, 0) := by decide +kernel
theorem k_norm : normL kD = kN := by decide +kernel
theorem k_checkN : checkP kN = 0 := by decide +kernel
theorem k_dec : Lib.decDigits 3 = [51] := by rw [decDigits_small (by decide)]; decide
theorem k_text : txtP kN = [61, 51, 32, 43, 54, 49, 54, 50, 32, 45, 51] := by
  have h1 : pcT ⟨1, 3, ⟨#[]⟩⟩ = [61, 51] := by
    show 61 :: Lib.decDigits 3 = _
    rw [k_dec]
  have h2 : pcT ⟨3, 3, ⟨#[]⟩⟩ = [45, 51] := by
    show 45 :: Lib.decDigits 3 = _
    rw [k_dec]
  unfold txtP
  rw [if_pos k_checkN]
  show joinW [pcT ⟨1, 3, ⟨#[]⟩⟩, pcT ⟨2, 0, ⟨#[97, 98]⟩⟩, pcT ⟨3, 3, ⟨#[]⟩⟩] = _
  rw [h1, h2]
  decide +kernel
theorem k_parse : parseR kT = (kN, 0) := by decide +kernel
theorem k_bad : parseR kB = ([], 4) := by decide +kernel
theorem k_id : idL 4 = [⟨1, 4, ⟨#[]⟩⟩] ∧ idE 4 = 0 := by decide +kernel
theorem k_arg : checkP [⟨1, 0, ⟨#[]⟩⟩] = 2 := by decide +kernel
theorem k_normal : normalB kN = true ∧ normalB kD = false := by decide +kernel
theorem k_row (w : World) (l : List Pc) (cs : Array Value) (hc : cs.toList = flatR fP l) (hl : 0 < l.length) : IsR fP (w.alloc (.cells cs 38)) (some ⟨w.heap.size, 0, none⟩) l.length l :=
  ⟨rfl, fun _ => ⟨w.heap.size, 0, rfl, by simp, fun j u hj => by
    rw [block_cell (block_new w _), Nat.zero_add, ← Array.getElem?_toList, hc]
    exact hj⟩⟩
theorem block_lt_cell {w : World} {b i : Nat} {v : Value} (h : w.cell? ⟨b, i, none⟩ = some v) : b < w.heap.size := by
  rcases Nat.lt_or_ge b w.heap.size with h1 | h1
  · exact h1
  · simp [World.cell?, Array.getElem?_eq_none h1] at h

set_option maxRecDepth 100000 in
set_option maxHeartbeats 8000000 in
theorem known_any (w : World) (ht : Tab w) : Calls Tryd.prog 22 #[] w fun e w' => e = .returned (.bool true) ∧ Below w.heap.size w w' := by
  have HT := Lib.hid ht
  have HD0 := Lib.hid (k_row w kD #[.int .u8 1, .int .i64 1, .string ⟨#[]⟩, .int .u8 1, .int .i64 2, .string ⟨#[]⟩, .int .u8 3, .int .i64 1, .string ⟨#[]⟩, .int .u8 2, .int .i64 0, .string ⟨#[97]⟩, .int .u8 3, .int .i64 2, .string ⟨#[]⟩, .int .u8 2, .int .i64 0, .string ⟨#[98]⟩] rfl (by decide))
  have HB0 := Lib.hid ((Below.refl w.heap.size w).alloc (Nat.le_refl _) (.cells #[.int .u8 1, .int .i64 1, .string ⟨#[]⟩, .int .u8 1, .int .i64 2, .string ⟨#[]⟩, .int .u8 3, .int .i64 1, .string ⟨#[]⟩, .int .u8 2, .int .i64 0, .string ⟨#[97]⟩, .int .u8 3, .int .i64 2, .string ⟨#[]⟩, .int .u8 2, .int .i64 0, .string ⟨#[98]⟩] 38))
  clear ht
  have HC1 := Lib.hid (k_norm ▸ k_check ▸ normalize_any (some ⟨w.heap.size, 0, none⟩) 6 6 kD _ HD0.out (by decide))
  go_enter Tryd.func22, Tryd.ntmps22
  go_wp2_with fail
  refine (HC1.out).mono ?_; rintro e w1 ⟨v1, rfl, hown1, hb1⟩
  obtain ⟨ao1, cap1, rfl, hr1, -, hg1⟩ := IsR.owned (f := fP) (s := 3) fP_len (l := kN) (n := 3) rfl hown1
  obtain ⟨g1, rfl, -, -⟩ := hg1 (by decide)
  have HB1 := Lib.hid (below_two HB0.out hb1)
  have HD1 := Lib.hid (HD0.out.later hb1)
  have HN1 := Lib.hid hr1
  have HC2 := Lib.hid (k_lengths ▸ lengths_any (some ⟨w.heap.size, 0, none⟩) 6 6 kD w1 HD1.out (by decide))
  clear hown1 hb1 hr1 hg1 HC1
  go_wp2_with fail
  refine (HC2.out).mono ?_; rintro e w2 ⟨rfl, hb2⟩
  have HB2 := Lib.hid (below_two HB1.out hb2)
  have HD2 := Lib.hid (HD1.out.later hb2)
  have HN2 := Lib.hid (HN1.out.later hb2)
  have HC3 := Lib.hid (k_text ▸ k_checkN ▸ text_any (some ⟨g1, 0, none⟩) 3 cap1 kN w2 HN2.out (by decide) (HT.out.below HB2.out))
  clear hb2 HC2
  go_wp2_with fail
  refine (HC3.out).mono ?_; rintro e w3 ⟨rfl, hb3⟩
  have HB3 := Lib.hid (below_two HB2.out hb3)
  have HD3 := Lib.hid (HD2.out.later hb3)
  have HN3 := Lib.hid (HN2.out.later hb3)
  have HC4 := Lib.hid (show Calls Tryd.prog 29 #[.string ⟨#[61, 51, 32, 43, 54, 49, 54, 50, 32, 45, 51]⟩] w3 (Rowed w3 kN 0) from by have h := parse_any kT w3 (by decide); rw [k_parse] at h; exact h)
  clear hb3 HC3
  go_wp2_with fail
  refine (HC4.out).mono ?_; rintro e w4 ⟨v4, rfl, hown4, hb4⟩
  obtain ⟨ao4, cap4, rfl, hr4, -, -⟩ := IsR.owned (f := fP) (s := 3) fP_len (l := kN) (n := 3) rfl hown4
  have HB4 := Lib.hid (below_two HB3.out hb4)
  have HD4 := Lib.hid (HD3.out.later hb4)
  have HN4 := Lib.hid (HN3.out.later hb4)
  have HP4 := Lib.hid hr4
  have HC5 := Lib.hid (show Calls Tryd.prog 29 #[.string ⟨#[61, 48, 51]⟩] w4 (Rowed w4 [] 4) from by have h := parse_any kB w4 (by decide); rw [k_bad] at h; exact h)
  clear hown4 hb4 hr4 HC4
  go_wp2_with fail
  refine (HC5.out).mono ?_; rintro e w5 ⟨v5, rfl, hown5, hb5⟩
  have HB5 := Lib.hid (below_two HB4.out hb5)
  have HD5 := Lib.hid (HD4.out.later hb5)
  have HN5 := Lib.hid (HN4.out.later hb5)
  have HP5 := Lib.hid (HP4.out.later hb5)
  have HC6 := Lib.hid (show Calls Tryd.prog 25 #[.int .i64 4] w5 (Rowed w5 [⟨1, 4, ⟨#[]⟩⟩] 0) from by have h := identity_any 4 w5; rw [k_id.1, k_id.2] at h; exact h)
  clear hown5 hb5 HC5
  go_wp2_with fail
  refine (HC6.out).mono ?_; rintro e w6 ⟨v6, rfl, hown6, hb6⟩
  obtain ⟨ao6, cap6, rfl, hr6, -, hg6⟩ := IsR.owned (f := fP) (s := 3) fP_len (l := [⟨1, 4, ⟨#[]⟩⟩]) (n := 1) rfl hown6
  obtain ⟨g6, rfl, -, -⟩ := hg6 (by decide)
  have HB6 := Lib.hid (below_two HB5.out hb6)
  have HD6 := Lib.hid (HD5.out.later hb6)
  have HN6 := Lib.hid (HN5.out.later hb6)
  have HP6 := Lib.hid (HP5.out.later hb6)
  have HI6 := Lib.hid hr6
  have HS := Lib.hid (show Calls Tryd.prog 21 #[.slice ao4 3 cap4, .slice (some ⟨g1, 0, none⟩) 3 cap1] w6 fun e w' => e = .returned (.bool true) ∧ Below w6.heap.size w6 w' from by have h := refSame_any ao4 (some ⟨g1, 0, none⟩) 3 cap4 3 cap1 kN kN w6 HP6.out HN6.out (by decide); rw [show sameL kN kN = true from decide_eq_true rfl] at h; exact h)
  obtain ⟨_, _, e1, _, hc1⟩ := HN6.out.pc (Below.refl _ _) (j := 1) (by decide)
  injection e1 with e1
  injection e1 with e1 e2
  subst e1 e2
  obtain ⟨d0, d1, d2⟩ := hc1 (by decide)
  obtain ⟨_, _, e1, _, hc2⟩ := HI6.out.pc (Below.refl _ _) (j := 0) (by decide)
  injection e1 with e1
  injection e1 with e1 e2
  subst e1 e2
  obtain ⟨f0, f1, f2⟩ := hc2 (by decide)
  have D0 : w6.cell? ⟨g1, 3, none⟩ = some (.int .u8 2) := d0
  have D1 : w6.cell? ⟨g1, 4, none⟩ = some (.int .i64 0) := d1
  have D2 : w6.cell? ⟨g1, 5, none⟩ = some (.string ⟨#[97, 98]⟩) := d2
  have F1 : w6.cell? ⟨g6, 1, none⟩ = some (.int .i64 4) := f1
  have HF1 := Lib.hid F1
  have HFB := Lib.hid (block_lt_cell F1)
  clear hown6 hb6 hr6 hg6 hc1 hc2 d0 d1 d2 f0 f1 f2 HC6
  go_wp2_with fail
  refine (HS.out).mono ?_; rintro e w7 ⟨rfl, hb7⟩
  have F7 : w7.cell? ⟨g6, 1, none⟩ = some (.int .i64 4) := (hb7.cell (p := ⟨g6, 1, none⟩) HFB.out).trans HF1.out
  have HB7 := Lib.hid (below_two HB6.out hb7)
  have HD7 := Lib.hid (HD6.out.later hb7)
  have HN7 := Lib.hid (HN6.out.later hb7)
  have HA7 := Lib.hid ((Below.refl w7.heap.size w7).alloc (Nat.le_refl _) (.cells #[.int .u8 1, .int .i64 0, .string ⟨#[]⟩] 38))
  have HR7 := Lib.hid (k_row w7 [⟨1, 0, ⟨#[]⟩⟩] #[.int .u8 1, .int .i64 0, .string ⟨#[]⟩] rfl (by decide))
  have HC8 := Lib.hid (show Calls Tryd.prog 17 #[.slice (some ⟨w7.heap.size, 0, none⟩) 1 1] (w7.alloc (.cells #[.int .u8 1, .int .i64 0, .string ⟨#[]⟩] 38)) _ from by have h := check_any (some ⟨w7.heap.size, 0, none⟩) 1 1 [⟨1, 0, ⟨#[]⟩⟩] _ HR7.out (by decide); rw [k_arg] at h; exact h)
  clear hb7 HS D0 D1 D2 F1
  go_wp2_with fail
  refine (HC8.out).mono ?_; rintro e w8 ⟨rfl, hb8⟩
  have hb78 : Below w7.heap.size w7 w8 := below_two HA7.out hb8
  have HB8 := Lib.hid (below_two HB7.out hb78)
  have HD8 := Lib.hid (HD7.out.later hb78)
  have HN8 := Lib.hid (HN7.out.later hb78)
  have HC9 := Lib.hid (show Calls Tryd.prog 19 #[.slice (some ⟨g1, 0, none⟩) 3 cap1] w8 fun e w' => e = .returned (.bool true) ∧ Below w8.heap.size w8 w' from by have h := normal_any (some ⟨g1, 0, none⟩) 3 cap1 kN w8 HN8.out (by decide); rw [k_normal.1] at h; exact h)
  clear hb8 hb78 HC8 F7
  go_wp2_with fail
  refine (HC9.out).mono ?_; rintro e w9 ⟨rfl, hb9⟩
  have HB9 := Lib.hid (below_two HB8.out hb9)
  have HD9 := Lib.hid (HD8.out.later hb9)
  have HC10 := Lib.hid (show Calls Tryd.prog 19 #[.slice (some ⟨w.heap.size, 0, none⟩) 6 6] w9 fun e w' => e = .returned (.bool false) ∧ Below w9.heap.size w9 w' from by have h := normal_any (some ⟨w.heap.size, 0, none⟩) 6 6 kD w9 HD9.out (by decide); rw [k_normal.2] at h; exact h)
  clear hb9 HC9
  go_wp2_with fail
  refine (HC10.out).mono ?_; rintro e w10 ⟨rfl, hb10⟩
  have HB10 := Lib.hid (below_two HB9.out hb10)
  clear hb10
  go_wp2_with fail
  go_ret
  exact ⟨rfl, HB10.out⟩
end Go.Proofs.YtkocknhpnmkicaaDoor
