/- The arena: handle of a deed; play. -/
import Derived.Test.YtfgkbnnojogjpaaQl
namespace Go.Proofs.Ytfgkbnnojogjpaa
open Go.RowKit
set_option linter.unusedVariables false

theorem node_any (b0 : Nat) (L : List Kn) (vA : Value) (d : De) (w : World) (hd : DeOK b0 w d) (hA : AllK b0 w vA L) (hLL : L.length ≤ 1000) :
    Calls Try.prog 24 #[deV d, vA] w fun e w' => NodeR b0 w (nodeD L d) e w' := by
  have h1 := Int.emod_nonneg d.k (show (8 : Int) ≠ 0 by decide)
  have h2 := Int.emod_lt_of_pos d.k (show (0 : Int) < 8 by decide)
  rcases (show d.k % 8 = 0 ∨ d.k % 8 = 1 ∨ d.k % 8 = 2 ∨ d.k % 8 = 3 ∨ d.k % 8 = 4 ∨ d.k % 8 = 5 ∨ d.k % 8 = 6 ∨ d.k % 8 = 7 by omega) with h | h | h | h | h | h | h | h
  · by_cases ht : d.t.size = 0
    · exact node_leaf0e b0 L vA d w hd hA h ht
    · exact node_leaf0s b0 L vA d w hd hA h ht
  · by_cases ht : d.t.size = 0
    · exact node_leaf1e b0 L vA d w hd hA h ht
    · exact node_leaf1s b0 L vA d w hd hA h ht
  · exact node_inner2 b0 L vA d w hd hA h hLL
  · exact node_inner3 b0 L vA d w hd hA h hLL
  · exact node_raw b0 L vA d w hd hA h
  · exact node_no5 b0 L vA d w hd hA h
  · exact node_no6 b0 L vA d w hd hA h
  · exact node_no7 b0 L vA d w hd hA h

/-- the handle that a deed names -/
def hD (L : List Kn) (d : De) : Int := if d.k % 8 = 7 ∨ L.length = 0 ∨ d.l.length = 0 then d.h else (pickK L (d.l.getD 0 0)).h
theorem hD_in {b0 : Nat} {w : World} {L : List Kn} {d : De} (hd : DeOK b0 w d) (hA : ∀ k ∈ L, KnOK b0 w k) : 0 ≤ hD L d ∧ hD L d ≤ 18446744073709551615 := by
  unfold hD
  split
  · exact hd.2.2
  · rename_i h
    obtain ⟨j, hj, -, e⟩ := pick_in (show 0 < L.length by omega) (d.l.getD 0 0)
    rw [e hj]
    exact (hA _ (List.getElem_mem hj)).2.2
def HandR (w : World) (L : List Kn) (d : De) (e : Ending) (w' : World) : Prop := e = .returned (.int .u64 (hD L d)) ∧ Below w.heap.size w w'

set_option maxRecDepth 100000 in
set_option maxHeartbeats 400000 in
theorem hand7 (b0 : Nat) (L : List Kn) (vA : Value) (d : De) (w : World) (hd : DeOK b0 w d) (hA : AllK b0 w vA L) (hLL : L.length ≤ 1000) (ha : d.k % 8 = 7) :
    Calls Try.prog 20 #[deV d, vA] w fun e w' => HandR w L d e w' := by
  have HR := Lib.hid (show hD L d = d.h from if_pos (.inl ha))
  obtain ⟨aA, cA, rfl, hat⟩ := hA.form
  have HB := Lib.hid ((Below.refl w.heap.size w).alloc (Nat.le_refl _) (.cells #[.int .i64 d.k, .string d.t, .slice d.la d.l.length d.lc, .int .i64 d.x.h, .string d.x.text, .slice d.xa d.x.kids.length d.xc, .int .u64 d.h] 48))
  have HM := Lib.hid (mod8 ha)
  clear hd hA ha hat
  unfold deV
  go_enter Try.func20, Try.ntmps20
  go_wp2_with fail
  refine (HM.out _).mono ?_; rintro e w1 ⟨rfl, rfl⟩
  go_wp2_with fail
  go_ret
  exact ⟨by rw [HR.out]; rfl, HB.out⟩

set_option maxRecDepth 100000 in
set_option maxHeartbeats 400000 in
theorem handL (b0 : Nat) (L : List Kn) (vA : Value) (d : De) (w : World) (hd : DeOK b0 w d) (hA : AllK b0 w vA L) (hLL : L.length ≤ 1000) (ha : d.k % 8 ≠ 7) (h1 : L.length = 0) :
    Calls Try.prog 20 #[deV d, vA] w fun e w' => HandR w L d e w' := by
  have HR := Lib.hid (show hD L d = d.h from if_pos (.inr (.inl h1)))
  obtain ⟨aA, cA, rfl, hat⟩ := hA.form
  have HB := Lib.hid ((Below.refl w.heap.size w).alloc (Nat.le_refl _) (.cells #[.int .i64 d.k, .string d.t, .slice d.la d.l.length d.lc, .int .i64 d.x.h, .string d.x.text, .slice d.xa d.x.kids.length d.xc, .int .u64 d.h] 48))
  have HM := Lib.hid (mod8 (n := d.k) rfl)
  have ha2 : (d.k % 8 == 7) = false := by simpa using ha
  have hL0 : ((L.length : Int) == 0) = true := by simp [h1]
  clear hd hA ha hat h1
  unfold deV
  go_enter Try.func20, Try.ntmps20
  go_wp2_with fail
  refine (HM.out _).mono ?_; rintro e w1 ⟨rfl, rfl⟩
  go_wp2_with fail
  go_ret
  exact ⟨by rw [HR.out]; rfl, HB.out⟩

set_option maxRecDepth 100000 in
set_option maxHeartbeats 400000 in
theorem handI (b0 : Nat) (L : List Kn) (vA : Value) (d : De) (w : World) (hd : DeOK b0 w d) (hA : AllK b0 w vA L) (hLL : L.length ≤ 1000) (ha : d.k % 8 ≠ 7) (h1 : L.length ≠ 0) (h2 : d.l.length = 0) :
    Calls Try.prog 20 #[deV d, vA] w fun e w' => HandR w L d e w' := by
  have HR := Lib.hid (show hD L d = d.h from if_pos (.inr (.inr h2)))
  obtain ⟨aA, cA, rfl, hat⟩ := hA.form
  have HB := Lib.hid ((Below.refl w.heap.size w).alloc (Nat.le_refl _) (.cells #[.int .i64 d.k, .string d.t, .slice d.la d.l.length d.lc, .int .i64 d.x.h, .string d.x.text, .slice d.xa d.x.kids.length d.xc, .int .u64 d.h] 48))
  have HM := Lib.hid (mod8 (n := d.k) rfl)
  have ha2 : (d.k % 8 == 7) = false := by simpa using ha
  have hL0 : ((L.length : Int) == 0) = false := by rw [beq_eq_false_iff_ne]; omega
  have hL1 : ((d.l.length : Int) == 0) = true := by simp [h2]
  clear hd hA ha hat h1 h2
  unfold deV
  go_enter Try.func20, Try.ntmps20
  go_wp2_with fail
  refine (HM.out _).mono ?_; rintro e w1 ⟨rfl, rfl⟩
  go_wp2_with fail
  go_ret
  exact ⟨by rw [HR.out]; rfl, HB.out⟩

set_option maxRecDepth 100000 in
set_option maxHeartbeats 400000 in
theorem handP (b0 : Nat) (L : List Kn) (vA : Value) (d : De) (w : World) (hd : DeOK b0 w d) (hA : AllK b0 w vA L) (hLL : L.length ≤ 1000) (ha : d.k % 8 ≠ 7) (h1 : L.length ≠ 0) (h2 : d.l.length ≠ 0) :
    Calls Try.prog 20 #[deV d, vA] w fun e w' => HandR w L d e w' := by
  have HR := Lib.hid (show hD L d = (pickK L (d.l.getD 0 0)).h from if_neg (by rintro (h | h | h) <;> contradiction))
  obtain ⟨aA, cA, rfl, hat⟩ := hA.form
  have HB := Lib.hid ((Below.refl w.heap.size w).alloc (Nat.le_refl _) (.cells #[.int .i64 d.k, .string d.t, .slice d.la d.l.length d.lc, .int .i64 d.x.h, .string d.x.text, .slice d.xa d.x.kids.length d.xc, .int .u64 d.h] 48))
  have HM := Lib.hid (mod8 (n := d.k) rfl)
  have ha2 : (d.k % 8 == 7) = false := by simpa using ha
  have hL0 : ((L.length : Int) == 0) = false := by rw [beq_eq_false_iff_ne]; omega
  have hL1 : ((d.l.length : Int) == 0) = false := by rw [beq_eq_false_iff_ne]; omega
  have h2p : 0 < d.l.length := by omega
  obtain ⟨j, hj, hjm, hpk⟩ := pick_in (show 0 < L.length by omega) (d.l.getD 0 0)
  have hE := hpk hj
  obtain ⟨b, rfl, hbw, ⟨e0, -⟩, hfz⟩ := hat j hj
  rw [← hE] at e0
  obtain ⟨lb, lo, hla, hlb, hlc⟩ := hd.1.2 h2p
  have hlk := hlc 0 (.int .i64 (d.l.getD 0 0)) (by have := flatR_at fI_len d.l 0 0 h2p (by decide); rw [Nat.mul_one, Nat.add_zero] at this; rw [this, List.getD_eq_getElem?_getD, List.getElem?_eq_getElem h2p]; rfl)
  have hlk2 := hlk
  rw [Nat.add_zero] at hlk2
  have HMJ := Lib.hid (mod13_as (d.l.getD 0 0) L.length j (by omega) (by omega) hjm)
  have hj2 : (j : Int) < (L.length : Int) := by omega
  rw [hla] at HB
  clear hd hA ha hat h1 h2 hE hpk hjm hlk hlc hfz
  generalize d.l.getD 0 0 = d0 at *
  generalize pickK L d0 = pk at *
  unfold deV
  rw [hla]
  clear hla
  go_enter Try.func20, Try.ntmps20
  go_wp2_with fail
  refine (HM.out _).mono ?_; rintro e w1 ⟨rfl, rfl⟩
  go_wp2_with fail
  refine (HMJ.out _).mono ?_; rintro e w1 ⟨rfl, rfl⟩
  go_wp2_with fail
  go_ret
  exact ⟨by rw [HR.out]; rfl, HB.out⟩

theorem hand_any (b0 : Nat) (L : List Kn) (vA : Value) (d : De) (w : World) (hd : DeOK b0 w d) (hA : AllK b0 w vA L) (hLL : L.length ≤ 1000) :
    Calls Try.prog 20 #[deV d, vA] w fun e w' => HandR w L d e w' := by
  by_cases h1 : d.k % 8 = 7
  · exact hand7 b0 L vA d w hd hA hLL h1
  · by_cases h2 : L.length = 0
    · exact handL b0 L vA d w hd hA hLL h1 h2
    · by_cases h3 : d.l.length = 0
      · exact handI b0 L vA d w hd hA hLL h1 h2 h3
      · exact handP b0 L vA d w hd hA hLL h1 h2 h3
end Go.Proofs.Ytfgkbnnojogjpaa
