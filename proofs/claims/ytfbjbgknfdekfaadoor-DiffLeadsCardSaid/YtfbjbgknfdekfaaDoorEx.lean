/- Diff: the chapter's examples: known. -/
import Derived.Test.YtfbjbgknfdekfaaDoorEv
import Derived.Test.YtfbjbgknfdekfaaDoorEh
namespace Go.Proofs.YtfbjbgknfdekfaaDoor
open Go.RowKit
set_option linter.unusedVariables false

def kA : ByteArray := ⟨#[97, 98, 99, 100]⟩
def kX : ByteArray := ⟨#[97, 98, 120, 100]⟩
def kE : ByteArray := ⟨#[195, 169]⟩
def kF : ByteArray := ⟨#[195, 168]⟩
def kG : ByteArray := ⟨#[97, 10, 98, 10]⟩
def kH : ByteArray := ⟨#[98, 10]⟩
def kB : List Pc := [⟨1, 2, ⟨#[]⟩⟩, ⟨2, 0, ⟨#[120]⟩⟩, ⟨3, 1, ⟨#[]⟩⟩, ⟨1, 1, ⟨#[]⟩⟩]
def kL : List Pc := [⟨3, 2, ⟨#[]⟩⟩, ⟨1, 2, ⟨#[]⟩⟩]
theorem k_com : comP kA kX = 2 ∧ comS kA kX = 1 := by decide +kernel
theorem k_com2 : comP kE kF = 0 ∧ comS kE kF = 0 := by decide +kernel
theorem k_bet : betR kA kX = (kB, 0) := by decide +kernel
theorem k_rows : rowsL kG.data.toList = [[97, 10], [98, 10]] ∧ rowsL kH.data.toList = [[98, 10]] := by decide +kernel
theorem k_scr : scrF [[97, 10], [98, 10]] [[98, 10]] = [delP [97, 10], keepP [98, 10]] := by
  simp [scrF, bst]
theorem k_form : formP [delP [97, 10], keepP [98, 10]] = kL := by decide +kernel
theorem k_cost : checkP kL = 0 ∧ costP kL = 2 := by decide +kernel
set_option maxRecDepth 100000 in
set_option maxHeartbeats 8000000 in
theorem known_any (w : World) : Calls Tryd.prog 13 #[] w fun e w' => e = .returned (.bool true) ∧ Below w.heap.size w w' := by
  have HC1 := Lib.hid (show Calls Tryd.prog 11 #[.string ⟨#[97, 98, 99, 100]⟩, .string ⟨#[97, 98, 120, 100]⟩] w fun e w' => e = .returned (.tuple #[.int .i64 2, .int .i64 1]) ∧ Below w.heap.size w w' from by
    have h := common_any kA kX w (by decide) (by decide)
    rw [k_com.1, k_com.2] at h
    exact h)
  have HC2 := Lib.hid (fun u : World => show Calls Tryd.prog 14 #[.string ⟨#[97, 98, 99, 100]⟩, .string ⟨#[97, 98, 120, 100]⟩] u (Rowed u kB 0) from by
    have h := between_any kA kX u (by decide) (by decide)
    rw [k_bet] at h
    exact h)
  have HC3 := Lib.hid (fun u : World => show Calls Tryd.prog 17 #[.string ⟨#[97, 10, 98, 10]⟩, .string ⟨#[98, 10]⟩] u (Rowed u kL 0) from by
    have h := linesD_any kG kH u (by decide) (by decide) (by rw [k_rows.1]; decide) (by rw [k_rows.2]; decide)
    rw [k_rows.1, k_rows.2] at h
    refine h.mono fun e w' h => ?_
    have := h.2
    rw [k_scr, k_form] at this
    exact this)
  have HC5 := Lib.hid (fun u : World => show Calls Tryd.prog 11 #[.string ⟨#[195, 169]⟩, .string ⟨#[195, 168]⟩] u fun e w' => e = .returned (.tuple #[.int .i64 0, .int .i64 0]) ∧ Below u.heap.size u w' from by
    have h := common_any kE kF u (by decide) (by decide)
    rw [k_com2.1, k_com2.2] at h
    exact h)
  go_enter Tryd.func13, Tryd.ntmps13
  go_wp2_with fail
  refine (HC1.out).mono ?_; rintro e w1 ⟨rfl, hb1⟩
  have HB1 := Lib.hid hb1
  clear hb1 HC1
  go_wp2_with fail
  refine (HC2.out w1).mono ?_; rintro e w2 ⟨v2, rfl, hown2, hb2⟩
  obtain ⟨ao2, cap2, rfl, hr2, -, hg2⟩ := IsR.owned (f := fP) (s := 3) fP_len (l := kB) (n := 4) rfl hown2
  obtain ⟨g2, rfl, -, -⟩ := hg2 (by decide)
  have HB2 := Lib.hid (below_two HB1.out hb2)
  have HD2 := Lib.hid hr2
  clear hown2 hb2 hr2 hg2 HC2
  go_wp2_with fail
  refine (HC3.out w2).mono ?_; rintro e w3 ⟨v3, rfl, hown3, hb3⟩
  obtain ⟨ao3, cap3, rfl, hr3, -, hg3⟩ := IsR.owned (f := fP) (s := 3) fP_len (l := kL) (n := 2) rfl hown3
  obtain ⟨g3, rfl, -, -⟩ := hg3 (by decide)
  have HB3 := Lib.hid (below_two HB2.out hb3)
  have HD3 := Lib.hid (HD2.out.later hb3)
  have HL3 := Lib.hid hr3
  have HC4 := Lib.hid (show Calls Tryd.prog 24 #[.slice (some ⟨g3, 0, none⟩) 2 cap3] w3 fun e w' => e = .returned (.tuple #[.int .i64 2, .int .i64 0]) ∧ Below w3.heap.size w3 w' from by
    have h := cost_any (some ⟨g3, 0, none⟩) 2 cap3 kL w3 HL3.out (by decide)
    rw [k_cost.1, k_cost.2] at h
    exact h)
  clear hown3 hb3 hr3 hg3 HC3
  go_wp2_with fail
  refine (HC4.out).mono ?_; rintro e w4 ⟨rfl, hb4⟩
  have HB4 := Lib.hid (below_two HB3.out hb4)
  have HD4 := Lib.hid (HD3.out.later hb4)
  have HL4 := Lib.hid (HL3.out.later hb4)
  clear hb4 HC4
  go_wp2_with fail
  refine (HC5.out w4).mono ?_; rintro e w5 ⟨rfl, hb5⟩
  have HB5 := Lib.hid (below_two HB4.out hb5)
  have HD5 := Lib.hid (HD4.out.later hb5)
  have HL5 := Lib.hid (HL4.out.later hb5)
  clear hb5 HC5
  obtain ⟨_, _, e1, _, hc1⟩ := HD5.out.pc (Below.refl _ _) (j := 1) (by decide)
  injection e1 with e1
  injection e1 with e1 e2
  subst e1 e2
  obtain ⟨d0, d1, d2⟩ := hc1 (by decide)
  obtain ⟨_, _, e1, _, hc2⟩ := HL5.out.pc (Below.refl _ _) (j := 0) (by decide)
  injection e1 with e1
  injection e1 with e1 e2
  subst e1 e2
  obtain ⟨f0, f1, f2⟩ := hc2 (by decide)
  have D2 : w5.cell? ⟨g2, 5, none⟩ = some (.string ⟨#[120]⟩) := d2
  have F0 : w5.cell? ⟨g3, 0, none⟩ = some (.int .u8 3) := f0
  have F1 : w5.cell? ⟨g3, 1, none⟩ = some (.int .i64 2) := f1
  have F2 : w5.cell? ⟨g3, 2, none⟩ = some (.string ⟨#[]⟩) := f2
  clear hc1 hc2 d0 d1 d2 f0 f1 f2
  go_wp2_with fail
  go_ret
  exact ⟨rfl, HB5.out⟩
end Go.Proofs.YtfbjbgknfdekfaaDoor
