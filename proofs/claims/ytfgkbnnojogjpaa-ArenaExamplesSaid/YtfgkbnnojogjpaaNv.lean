/- The contracts of sum, Check and Measure. The contracts of the reference's formed, Check and Measure. The contracts of the reference's Check, Measure and inner. The contracts of EqualKids and slices.Equal, EqualNode and Equal. The contract of CopyKids. The contract of slices.Clone. The contracts of checked, Leaf and Inner. The contract of put. The contracts of CopyNode, of the reference's Leaf and Inner, of Inner, of x3 and is. -/
import Derived.Test.YtfgkbnnojogjpaaNe
import Derived.Maps.AppendAt
namespace Go.Proofs.Ytfgkbnnojogjpaa
open Go.RowKit

theorem box_later {w w1 : World} {O : Obj} (hb : Below (w.alloc O).heap.size (w.alloc O) w1) : Below w.heap.size w w1 ∧ w1.heap[w.heap.size]? = some O :=
  ⟨below_step ((Below.refl _ _).alloc (Nat.le_refl _) _) hb, block_below hb (block_new w _) (by simp)⟩
theorem box2_later {w w1 : World} {O O' : Obj} (hb : Below ((w.alloc O).alloc O').heap.size ((w.alloc O).alloc O') w1) : Below w.heap.size w w1 ∧ w1.heap[w.heap.size]? = some O ∧ w1.heap[w.heap.size + 1]? = some O' :=
  ⟨below_step (((Below.refl _ _).alloc (Nat.le_refl _) _).alloc (by simp) _) hb, block_below hb (block_alloc (block_new w _) _) (by simp; omega), block_below hb (block_new' _ _ _ (by simp)) (by simp)⟩

theorem IsKs.box {w : World} {ao : Option Addr} {n : Nat} {l : List Kid} (h : IsKs w ao n l) (O : Obj) : IsKs (w.alloc O) ao n l := h.later ((Below.refl _ _).alloc (Nat.le_refl _) _)

theorem formed_yes (x : Nd) (ao : Option Addr) (n c : Nat) (w : World) (hk : IsKs w ao n x.kids) (hf : formedP x) :
    Calls Try.prog 47 #[aggN x.h x.text ao n c] w fun e w' => e = .returned (.bool true) ∧ Below w.heap.size w w' := by
  have := formed_any x ao n c w hk
  rwa [decide_eq_true hf] at this
theorem formed_no (x : Nd) (ao : Option Addr) (n c : Nat) (w : World) (hk : IsKs w ao n x.kids) (hf : ¬ formedP x) :
    Calls Try.prog 47 #[aggN x.h x.text ao n c] w fun e w' => e = .returned (.bool false) ∧ Below w.heap.size w w' := by
  have := formed_any x ao n c w hk
  rwa [decide_eq_false hf] at this

set_option maxRecDepth 100000 in
set_option maxHeartbeats 2000000 in
theorem sum_leaf (t : ByteArray) (ao : Option Addr) (n c : Nat) (w : World) (ht : t.size ≤ maxLen) :
    Calls Try.prog 48 #[aggN 0 t ao n c] w fun e w' => e = .returned (aggM (ofT t)) ∧ Below w.heap.size w w' := by
  unfold aggN
  go_enter Try.func48, Try.ntmps48
  go_wp2_with fail
  refine (of_any t _ ht).mono ?_; rintro e w1 ⟨rfl, hb⟩
  obtain ⟨hbw, hb0, hb1⟩ := box2_later hb
  (have q0 := block_cell hb1 0; have q1 := block_cell hb1 1; have q2 := block_cell hb1 2; have f0 := block_free hb1 0; have f1 := block_free hb1 1; have f2 := block_free hb1 2; have hz := block_lt hb1; simp at q0 q1 q2)
  have HB1 := Lib.hid hb1
  have HBW := Lib.hid hbw
  clear hb hb0 hb1 hbw
  go_wp2_with fail
  have hb0 := block_setCell (block_setCell (block_setCell HB1.out 0 (.int .i64 (ofT t).1)) 1 (.int .i64 (ofT t).2.1)) 2 (.int .i64 (ofT t).2.2)
  exact bodyPost_ret (res3 Try.results48 (Try.isAgg62 _) (Try.sizeOf62 _) rfl hb0) rfl ⟨rfl, ((HBW.out.setCell (by simp) _).setCell (by simp) _).setCell (by simp) _⟩

theorem formed_cases {x : Nd} (hf : formedP x) : (x.h = 0 ∧ 1 ≤ x.text.size ∧ x.text.size ≤ 16 ∧ x.kids = []) ∨ (x.h ≠ 0 ∧ 1 ≤ x.h ∧ x.h ≤ 16 ∧ x.text = ⟨#[]⟩ ∧ 2 ≤ x.kids.length ∧ x.kids.length ≤ 4 ∧ ∀ k ∈ x.kids, kidOK (x.h - 1).toNat k) := by
  rcases hf with ⟨h1, h2, h3, h4⟩ | ⟨h1, h2, h3, h4, h5, h6⟩
  · exact .inl ⟨h1, h2, h3, List.length_eq_zero_iff.1 h4⟩
  · refine .inr ⟨by omega, h1, h2, ?_, h4, h5, h6⟩
    obtain ⟨h, t, l⟩ := x
    cases t
    simpa [ByteArray.size] using h3

theorem sum_any (x : Nd) (ao : Option Addr) (n c : Nat) (w : World) (hk : IsKs w ao n x.kids) (hf : formedP x) :
    Calls Try.prog 48 #[aggN x.h x.text ao n c] w fun e w' => e = .returned (aggM (sumN x)) ∧ Below w.heap.size w w' := by
  obtain ⟨hl, _, hc⟩ := hk
  rcases formed_cases hf with ⟨h1, h2, h3, h4⟩ | ⟨h0, h1, h2, h3, h4, h5, h6⟩
  · have e : sumN x = ofT x.text := if_pos h1
    rw [e, h1]
    exact sum_leaf x.text ao n c w (by unfold maxLen; omega)
  · have e : sumN x = sumM (x.kids.map (·.2)) := if_neg h0
    rw [e]
    obtain ⟨b, off, rfl, hc'⟩ := hc (by omega)
    exact sum_inner x.h x.text x.kids b off n c w hl h0 (by omega) (cellK_lt (hc' 0 (by omega))) hc'

theorem run_field_bytes (a b c : Int) (w : World) : (Instr.field 62 (.agg #[.int .i64 a, .int .i64 b, .int .i64 c]) 0).run Try.prog w = .ok (.int .i64 a) w := by kernel_rfl
theorem checkN_bad {x : Nd} (hf : ¬ formedP x) : checkN x = 23 := if_pos hf
theorem checkN_long {x : Nd} (hf : formedP x) (hs : 65536 < (sumN x).1) : checkN x = 5 := by unfold checkN; rw [if_neg (fun h => h hf), if_pos hs]
theorem checkN_ok {x : Nd} (hf : formedP x) (hs : ¬ 65536 < (sumN x).1) : checkN x = 0 := by unfold checkN; rw [if_neg (fun h => h hf), if_neg hs]
theorem checkN_zero {x : Nd} (h : checkN x = 0) : formedP x ∧ (sumN x).1 ≤ 65536 := by
  by_cases hf : formedP x
  · by_cases hs : 65536 < (sumN x).1
    · rw [checkN_long hf hs] at h; exact absurd h (by decide)
    · exact ⟨hf, by omega⟩
  · rw [checkN_bad hf] at h; exact absurd h (by decide)

set_option maxRecDepth 100000 in
set_option maxHeartbeats 2000000 in
theorem check_any (x : Nd) (ao : Option Addr) (n c : Nat) (w : World) (hk : IsKs w ao n x.kids) :
    Calls Try.prog 22 #[aggN x.h x.text ao n c] w fun e w' => e = .returned (.int .i64 (checkN x)) ∧ Below w.heap.size w w' := by
  have HK := Lib.hid hk
  clear hk
  by_cases hf : formedP x
  · by_cases hs : 65536 < (sumN x).1
    · rw [checkN_long hf hs]
      have HF := Lib.hid hf
      clear hf
      unfold aggN
      go_enter Try.func22, Try.ntmps22
      go_wp2_with fail
      refine (formed_yes x ao n c _ (HK.out.box _) HF.out).mono ?_; rintro e w1 ⟨rfl, hb⟩
      obtain ⟨hbw, hb0⟩ := box_later hb
      (have q0 := block_cell hb0 0; have q1 := block_cell hb0 1; have q2 := block_cell hb0 2; have f0 := block_free hb0 0; have f1 := block_free hb0 1; have f2 := block_free hb0 2; have hz := block_lt hb0; simp at q0 q1 q2)
      have HBW := Lib.hid hbw
      clear hb hbw hb0
      go_wp2_with fail
      refine (sum_any x ao n c _ (HK.out.later HBW.out) HF.out).mono ?_; rintro e w2 ⟨rfl, hb⟩
      unfold aggM
      have hfl := run_field_bytes (sumN x).1 (sumN x).2.1 (sumN x).2.2
      go_wp2_with fail
      go_ret
      exact ⟨rfl, below_step HBW.out hb⟩
    · rw [checkN_ok hf hs]
      have HF := Lib.hid hf
      clear hf
      unfold aggN
      go_enter Try.func22, Try.ntmps22
      go_wp2_with fail
      refine (formed_yes x ao n c _ (HK.out.box _) HF.out).mono ?_; rintro e w1 ⟨rfl, hb⟩
      obtain ⟨hbw, hb0⟩ := box_later hb
      (have q0 := block_cell hb0 0; have q1 := block_cell hb0 1; have q2 := block_cell hb0 2; have f0 := block_free hb0 0; have f1 := block_free hb0 1; have f2 := block_free hb0 2; have hz := block_lt hb0; simp at q0 q1 q2)
      have HBW := Lib.hid hbw
      clear hb hbw hb0
      go_wp2_with fail
      refine (sum_any x ao n c _ (HK.out.later HBW.out) HF.out).mono ?_; rintro e w2 ⟨rfl, hb⟩
      unfold aggM
      have hfl := run_field_bytes (sumN x).1 (sumN x).2.1 (sumN x).2.2
      go_wp2_with fail
      go_ret
      exact ⟨rfl, below_step HBW.out hb⟩
  · rw [checkN_bad hf]
    have HF := Lib.hid hf
    clear hf
    unfold aggN
    go_enter Try.func22, Try.ntmps22
    go_wp2_with fail
    refine (formed_no x ao n c _ (HK.out.box _) HF.out).mono ?_; rintro e w1 ⟨rfl, hb⟩
    obtain ⟨hbw, _⟩ := box_later hb
    go_wp2_with fail
    go_ret
    exact ⟨rfl, hbw⟩

/-- what both Measures return -/
def measN (x : Nd) : Trip := if checkN x = 0 then sumN x else (0, 0, 0)

set_option maxRecDepth 100000 in
set_option maxHeartbeats 2000000 in
theorem measure_any (x : Nd) (ao : Option Addr) (n c : Nat) (w : World) (hk : IsKs w ao n x.kids) :
    Calls Try.prog 23 #[aggN x.h x.text ao n c] w fun e w' => e = .returned (.tuple #[aggM (measN x), .int .i64 (checkN x)]) ∧ Below w.heap.size w w' := by
  have HK := Lib.hid hk
  clear hk
  by_cases hc : checkN x = 0
  · have e : measN x = sumN x := if_pos hc
    have HF := Lib.hid (checkN_zero hc).1
    rw [e, hc]
    have HC := Lib.hid hc
    clear e hc
    unfold aggN
    go_enter Try.func23, Try.ntmps23
    go_wp2_with fail
    refine (check_any x ao n c _ ((HK.out.box _).box _)).mono ?_; rintro e w1 ⟨rfl, hb⟩
    rw [HC.out]
    obtain ⟨hbw, hb0, hb1⟩ := box2_later hb
    (have q0 := block_cell hb0 0; have q1 := block_cell hb0 1; have q2 := block_cell hb0 2; have f0 := block_free hb0 0; have f1 := block_free hb0 1; have f2 := block_free hb0 2; have hz := block_lt hb0; simp at q0 q1 q2)
    have HB1 := Lib.hid hb1
    have HBW := Lib.hid hbw
    clear hb hb0 hb1 hbw
    go_wp2_with fail
    refine (sum_any x ao n c _ (HK.out.later HBW.out) HF.out).mono ?_; rintro e w2 ⟨rfl, hb⟩
    unfold aggM
    have hb1 := block_below hb HB1.out (block_lt HB1.out)
    (have q0 := block_cell hb1 0; have q1 := block_cell hb1 1; have q2 := block_cell hb1 2; have f0 := block_free hb1 0; have f1 := block_free hb1 1; have f2 := block_free hb1 2; have hz := block_lt hb1; simp at q0 q1 q2)
    have HB2 := Lib.hid hb1
    have HB := Lib.hid hb
    clear hb hb1
    go_wp2_with fail
    have hb0 := block_setCell (block_setCell (block_setCell HB2.out 0 (.int .i64 (sumN x).1)) 1 (.int .i64 (sumN x).2.1)) 2 (.int .i64 (sumN x).2.2)
    exact bodyPost_ret (res3_tmp Try.results23 (Try.isAgg62 _) (Try.sizeOf62 _) rfl hb0) rfl ⟨rfl, (((below_step HBW.out HB.out).setCell (by simp) _).setCell (by simp) _).setCell (by simp) _⟩
  · have e : measN x = (0, 0, 0) := if_neg hc
    rw [e]
    have hc' : (checkN x == 0) = false := by simpa using hc
    clear e hc
    unfold aggN
    go_enter Try.func23, Try.ntmps23
    go_wp2_with fail
    refine (check_any x ao n c _ ((HK.out.box _).box _)).mono ?_; rintro e w1 ⟨rfl, hb⟩
    obtain ⟨hbw, hb0, hb1⟩ := box2_later hb
    (have q0 := block_cell hb1 0; have q1 := block_cell hb1 1; have q2 := block_cell hb1 2; have f0 := block_free hb1 0; have f1 := block_free hb1 1; have f2 := block_free hb1 2; have hz := block_lt hb1; simp at q0 q1 q2)
    have HB1 := Lib.hid hb1
    have HBW := Lib.hid hbw
    clear hb hb0 hb1 hbw
    go_wp2_with fail
    have hb0 := block_setCell (block_setCell (block_setCell HB1.out 0 (.int .i64 0)) 1 (.int .i64 0)) 2 (.int .i64 0)
    exact bodyPost_ret (res3_tmp Try.results23 (Try.isAgg62 _) (Try.sizeOf62 _) rfl hb0) rfl ⟨rfl, ((HBW.out.setCell (by simp) _).setCell (by simp) _).setCell (by simp) _⟩
end Go.Proofs.Ytfgkbnnojogjpaa

namespace Go.Proofs.Ytfgkbnnojogjpaa
open Go.RowKit

set_option maxRecDepth 100000 in
set_option maxHeartbeats 1000000 in
theorem refFormed_leaf (t : ByteArray) (l : List Kid) (ao : Option Addr) (n c : Nat) (w : World) (hl : l.length = n) :
    Calls Try.prog 70 #[aggN 0 t ao n c] w fun e w' => e = .returned (.bool (decide (formedP ⟨0, t, l⟩))) ∧ Below w.heap.size w w' := by
  unfold aggN
  by_cases c1 : (1 : Int) ≤ (t.size : Int)
  · by_cases c2 : (t.size : Int) ≤ 16
    · by_cases c3 : n = 0
      · subst c3
        have e : decide (formedP ⟨0, t, l⟩) = true := decide_eq_true ((formedP_leaf t l).2 ⟨by omega, by omega, hl⟩)
        rw [e]
        clear e
        go_enter Try.func70, Try.ntmps70
        go_wp2_with fail
        go_ret
        exact ⟨rfl, by go_grown⟩
      · have c3' : ((n : Int) == 0) = false := by simpa using c3
        have e : decide (formedP ⟨0, t, l⟩) = false := decide_eq_false fun h => c3 (hl ▸ ((formedP_leaf t l).1 h).2.2)
        rw [e]
        clear e c3 hl
        go_enter Try.func70, Try.ntmps70
        go_wp2_with fail
        go_ret
        exact ⟨rfl, by go_grown⟩
    · have e : decide (formedP ⟨0, t, l⟩) = false := decide_eq_false fun h => by have := (formedP_leaf t l).1 h; omega
      rw [e]
      clear e hl
      go_enter Try.func70, Try.ntmps70
      go_wp2_with fail
      go_ret
      exact ⟨rfl, by go_grown⟩
  · have e : decide (formedP ⟨0, t, l⟩) = false := decide_eq_false fun h => by have := (formedP_leaf t l).1 h; omega
    rw [e]
    clear e hl
    go_enter Try.func70, Try.ntmps70
    go_wp2_with fail
    go_ret
    exact ⟨rfl, by go_grown⟩

set_option maxRecDepth 100000 in
set_option maxHeartbeats 1000000 in
theorem refFormed_bad (h : Int) (t : ByteArray) (ao : Option Addr) (n c : Nat) (w : World) (h0 : h ≠ 0) (hx : ¬ (1 ≤ h ∧ h ≤ 16 ∧ t = ⟨#[]⟩ ∧ 2 ≤ n ∧ n ≤ 4)) :
    Calls Try.prog 70 #[aggN h t ao n c] w fun e w' => e = .returned (.bool false) ∧ Below w.heap.size w w' := by
  unfold aggN
  have h0' : (h == 0) = false := by simpa using h0
  by_cases c1 : h < 0
  · go_enter Try.func70, Try.ntmps70
    go_wp2_with fail
    go_ret
    exact ⟨rfl, by go_grown⟩
  by_cases c2 : 16 < h
  · go_enter Try.func70, Try.ntmps70
    go_wp2_with fail
    go_ret
    exact ⟨rfl, by go_grown⟩
  by_cases c3 : t = ⟨#[]⟩
  · subst c3
    by_cases c4 : (n : Int) < 2
    · clear hx
      go_enter Try.func70, Try.ntmps70
      go_wp2_with fail
      go_ret
      exact ⟨rfl, by go_grown⟩
    · have c5 : (4 : Int) < n := by
        rcases Int.lt_or_le 4 n with h | h
        · exact h
        · exact absurd ⟨by omega, by omega, rfl, by omega, by omega⟩ hx
      clear hx
      go_enter Try.func70, Try.ntmps70
      go_wp2_with fail
      go_ret
      exact ⟨rfl, by go_grown⟩
  · have c3' : t.toList.isEmpty = false := by
      rw [ByteArray.toList_eq]
      rcases h : t.data.toList with _ | _
      · exact absurd (by cases t; simp at h; simp [h]) c3
      · rfl
    clear hx c3
    go_enter Try.func70, Try.ntmps70
    go_wp2_with fail
    go_ret
    exact ⟨rfl, by go_grown⟩


theorem refKid_yes (h : Int) (m : Nat) (x : Kid) (w : World) (hh : h = ((m + 1 : Nat) : Int)) (hm : m ≤ 15) (u0 : 0 ≤ x.1) (u1 : x.1 ≤ 18446744073709551615) (hk : kidOK m x) :
    Calls Try.prog 85 #[.int .i64 h, aggK x] w fun e w' => e = .returned (.bool true) ∧ Below w.heap.size w w' := by
  have := refKid_any m x w hm u0 u1
  rw [hh]
  rwa [decide_eq_true hk] at this
theorem refKid_no (h : Int) (m : Nat) (x : Kid) (w : World) (hh : h = ((m + 1 : Nat) : Int)) (hm : m ≤ 15) (u0 : 0 ≤ x.1) (u1 : x.1 ≤ 18446744073709551615) (hk : ¬ kidOK m x) :
    Calls Try.prog 85 #[.int .i64 h, aggK x] w fun e w' => e = .returned (.bool false) ∧ Below w.heap.size w w' := by
  have := refKid_any m x w hm u0 u1
  rw [hh]
  rwa [decide_eq_false hk] at this

set_option maxRecDepth 100000 in
set_option maxHeartbeats 2000000 in
theorem refFormed_inner (m : Nat) (l : List Kid) (b off n c : Nat) (w : World) (hl : l.length = n) (hm : m ≤ 15) (hn : 2 ≤ n ∧ n ≤ 4) (hu : ∀ x ∈ l, 0 ≤ x.1 ∧ x.1 ≤ 18446744073709551615) (hk : ∀ k (h : k < l.length), cellK w b (off + k * 4) l[k]) :
    Calls Try.prog 70 #[aggN ((m + 1 : Nat) : Int) ⟨#[]⟩ (some ⟨b, off, none⟩) n c] w fun e w' => e = .returned (.bool (decide (∀ x ∈ l, kidOK m x))) ∧ Below w.heap.size w w' := by
  unfold aggN
  have hbw : b < w.heap.size := cellK_lt (hk 0 (by omega))
  have h0 : (((m + 1 : Nat) : Int) == 0) = false := by simp; omega
  have h1 : ¬ ((m + 1 : Nat) : Int) < 0 := by omega
  have h2 : ¬ (16 : Int) < ((m + 1 : Nat) : Int) := by omega
  have h3 : ¬ (n : Int) < 2 := by omega
  have h4 : ¬ (4 : Int) < (n : Int) := by omega
  have HK := Lib.hid hk
  have HU := Lib.hid hu
  have HL := Lib.hid hl
  clear hk hu hl
  go_enter Try.func70, Try.ntmps70
  go_wp2_with fail
  go_loopw [3] (fun i wr => ∃ k : Nat, k ≤ n ∧ i = .int .i64 k ∧ Below w.heap.size w wr ∧ wr.heap[w.heap.size]? = some (.cells #[.int .i64 ((m + 1 : Nat) : Int), .string ⟨#[]⟩, .slice (some ⟨b, off, none⟩) n c] 36 (0, 0)) ∧ ∀ j (hj : j < l.length), j < k → kidOK m l[j]) (fun i _ => n - (intOf i).toNat)
  case atStart => exact ⟨0, Nat.zero_le _, rfl, by go_grown, block_new _ _, fun _ _ h => absurd h (Nat.not_lt_zero _)⟩
  case round =>
    obtain ⟨k, hkn, rfl, hbr, hb0, hall⟩ := hrel
    have HALL := Lib.hid hall
    have HBR := Lib.hid hbr
    have HB0 := Lib.hid hb0
    (have q0 := block_cell hb0 0; have q1 := block_cell hb0 1; have q2 := block_cell hb0 2; have f0 := block_free hb0 0; have f1 := block_free hb0 1; have f2 := block_free hb0 2; have hz := block_lt hb0; simp at q0 q1 q2)
    have hz0 := block_lt hb0
    clear hall hb0
    by_cases hlt : k < n
    · have hkl : k < l.length := by rw [HL.out]; exact hlt
      have hcell := cellK_below (HK.out k hkl) hbr hbw
      have hbr' : b < wr.heap.size := cellK_lt hcell
      obtain ⟨u0, u1⟩ := HU.out l[k] (List.getElem_mem hkl)
      have HCELL := Lib.hid hcell
      clear hbr hcell
      by_cases hg : kidOK m l[k]
      · have HG0 := Lib.hid hg
        clear hg
        go_wp2_with fail
        refine wp_region_mild (by kernel_rfl) (by kernel_rfl) ?_
        intro X _ f hf hg
        have d0 : ∀ x, (f x).cell? ⟨w.heap.size, 0, none⟩ = some (.int .i64 ((m + 1 : Nat) : Int)) := fun x => block_cell (block_below (hf x) HB0.out hz0) 0
        have d2 : ∀ x, (f x).cell? ⟨w.heap.size, 2, none⟩ = some (.slice (some ⟨b, off, none⟩) n c) := fun x => block_cell (block_below (hf x) HB0.out hz0) 2
        have c0 := fun x => (cellK_below HCELL.out (hf x) hbr').1
        have c1 := fun x => (cellK_below HCELL.out (hf x) hbr').2.1
        have c2 := fun x => (cellK_below HCELL.out (hf x) hbr').2.2.1
        have c3 := fun x => (cellK_below HCELL.out (hf x) hbr').2.2.2
        have HF := Lib.hid hf
        have HG := Lib.hid hg
        clear hf hg
        repeat (go_big_quiet_step (first
          | (go_at_call 85; exact Calls_mild HG.out (refKid_yes _ m l[k] _ (by push_cast; rfl) hm u0 u1 HG0.out))))
        refine wpQuiet_nil ?_
        rintro _ ⟨y, rfl⟩
        have hy := HF.out y
        have HY := Lib.hid hy
        clear hy HF HG d0 d2 c0 c1 c2 c3
        go_wp2_with fail
        go_roundw
        case rel =>
          refine ⟨k + 1, by omega, by go_num, below_step HBR.out HY.out, block_below HY.out HB0.out hz0, fun j hj hjk => ?_⟩
          rcases Nat.lt_or_ge j k with h | h
          · exact HALL.out j hj h
          · obtain rfl : j = k := by omega
            exact HG0.out
        case measure => simp [intOf]; omega
      · have e : decide (∀ x ∈ l, kidOK m x) = false := decide_eq_false fun h => hg (h l[k] (List.getElem_mem hkl))
        have HE := Lib.hid e
        have HG0 := Lib.hid hg
        clear hg e
        go_wp2_with fail
        refine wp_region_mild (by kernel_rfl) (by kernel_rfl) ?_
        intro X _ f hf hg
        have d0 : ∀ x, (f x).cell? ⟨w.heap.size, 0, none⟩ = some (.int .i64 ((m + 1 : Nat) : Int)) := fun x => block_cell (block_below (hf x) HB0.out hz0) 0
        have d2 : ∀ x, (f x).cell? ⟨w.heap.size, 2, none⟩ = some (.slice (some ⟨b, off, none⟩) n c) := fun x => block_cell (block_below (hf x) HB0.out hz0) 2
        have c0 := fun x => (cellK_below HCELL.out (hf x) hbr').1
        have c1 := fun x => (cellK_below HCELL.out (hf x) hbr').2.1
        have c2 := fun x => (cellK_below HCELL.out (hf x) hbr').2.2.1
        have c3 := fun x => (cellK_below HCELL.out (hf x) hbr').2.2.2
        have HF := Lib.hid hf
        have HG := Lib.hid hg
        clear hf hg
        repeat (go_big_quiet_step (first
          | (go_at_call 85; exact Calls_mild HG.out (refKid_no _ m l[k] _ (by push_cast; rfl) hm u0 u1 HG0.out))))
        refine wpQuiet_nil ?_
        rintro _ ⟨y, rfl⟩
        have hy := HF.out y
        have HY := Lib.hid hy
        clear hy HF HG d0 d2 c0 c1 c2 c3
        go_wp2_with fail
        go_ret
        exact ⟨congrArg (fun b => Ending.returned (.bool b)) HE.out.symm, below_step HBR.out HY.out⟩
    · have e : decide (∀ x ∈ l, kidOK m x) = true := decide_eq_true fun x hx => by
        obtain ⟨j, hj, rfl⟩ := List.getElem_of_mem hx
        exact HALL.out j hj (by have := HL.out; omega)
      have HE := Lib.hid e
      clear e hbr
      go_wp2_with fail
      go_ret
      exact ⟨congrArg (fun b => Ending.returned (.bool b)) HE.out.symm, HBR.out⟩

theorem refFormed_any (x : Nd) (ao : Option Addr) (n c : Nat) (w : World) (hk : IsKs w ao n x.kids) :
    Calls Try.prog 70 #[aggN x.h x.text ao n c] w fun e w' => e = .returned (.bool (decide (formedP x))) ∧ Below w.heap.size w w' := by
  obtain ⟨h, t, l⟩ := x
  obtain ⟨hl, hu, hc⟩ := hk
  simp only at hl hu hc ⊢
  by_cases h0 : h = 0
  · subst h0
    exact refFormed_leaf t l ao n c w hl
  · by_cases hx : 1 ≤ h ∧ h ≤ 16 ∧ t = ⟨#[]⟩ ∧ 2 ≤ n ∧ n ≤ 4
    · obtain ⟨h1, h2, rfl, h4⟩ := hx
      obtain ⟨m, rfl⟩ : ∃ m : Nat, h = ((m + 1 : Nat) : Int) := ⟨(h - 1).toNat, by omega⟩
      obtain ⟨b, off, rfl, hc'⟩ := hc (by omega)
      have := refFormed_inner m l b off n c w hl (by omega) h4 hu hc'
      have e : decide (formedP ⟨((m + 1 : Nat) : Int), ⟨#[]⟩, l⟩) = decide (∀ x ∈ l, kidOK m x) := by
        refine decide_eq_decide.2 ⟨?_, fun h => Or.inr ⟨h1, h2, rfl, ?_, ?_, ?_⟩⟩
        · rintro (⟨h, _⟩ | ⟨_, _, _, _, _, h⟩)
          · exact absurd h h0
          · have e : (((m + 1 : Nat) : Int) - 1).toNat = m := by omega
            rw [← e]; exact h
        · simp only; omega
        · simp only; omega
        · have e : (((m + 1 : Nat) : Int) - 1).toNat = m := by omega
          simp only; rw [e]; exact h
      rw [e]; exact this
    · have e : decide (formedP ⟨h, t, l⟩) = false := by
        refine decide_eq_false ?_
        rintro (⟨h, _⟩ | ⟨h1, h2, h3, h4, h5, _⟩)
        · exact h0 h
        · refine hx ⟨h1, h2, ?_, ?_, ?_⟩
          · cases t; simpa [ByteArray.size] using h3
          · simp only at h4; omega
          · simp only at h5; omega
      rw [e]; exact refFormed_bad h t ao n c w h0 hx

end Go.Proofs.Ytfgkbnnojogjpaa

namespace Go.Proofs.Ytfgkbnnojogjpaa
open Go.RowKit

theorem refFormed_yes (x : Nd) (ao : Option Addr) (n c : Nat) (w : World) (hk : IsKs w ao n x.kids) (hf : formedP x) :
    Calls Try.prog 70 #[aggN x.h x.text ao n c] w fun e w' => e = .returned (.bool true) ∧ Below w.heap.size w w' := by
  have := refFormed_any x ao n c w hk
  rwa [decide_eq_true hf] at this
theorem refFormed_no (x : Nd) (ao : Option Addr) (n c : Nat) (w : World) (hk : IsKs w ao n x.kids) (hf : ¬ formedP x) :
    Calls Try.prog 70 #[aggN x.h x.text ao n c] w fun e w' => e = .returned (.bool false) ∧ Below w.heap.size w w' := by
  have := refFormed_any x ao n c w hk
  rwa [decide_eq_false hf] at this

theorem sumN_leaf {x : Nd} (h : x.h = 0) : sumN x = ofT x.text := if_pos h
theorem sumN_inner {x : Nd} (h : x.h ≠ 0) : sumN x = sumM (x.kids.map (·.2)) := if_neg h
theorem long_iff {x : Nd} {n : Nat} (hf : formedP x) (hl : x.kids.length = n) : 65536 < (sumM (msTo x.kids n)).1 ↔ 65536 < (sumN x).1 := by
  rcases formed_cases hf with ⟨h1, h2, h3, h4⟩ | ⟨h0, h1, h2, h3, h4, h5, h6⟩
  · rw [sumN_leaf h1, h4]
    unfold msTo ofT
    simp [sumM]
    omega
  · rw [sumN_inner h0, ← hl, msTo_end]

theorem formed_len {x : Nd} (hf : formedP x) : x.kids.length ≤ 4 := by
  rcases formed_cases hf with ⟨h1, h2, h3, h4⟩ | ⟨h0, h1, h2, h3, h4, h5, h6⟩
  · rw [h4]; simp
  · exact h5
set_option maxRecDepth 100000 in
set_option maxHeartbeats 2000000 in
theorem refCheck_any (x : Nd) (ao : Option Addr) (n c : Nat) (w : World) (hk : IsKs w ao n x.kids) :
    Calls Try.prog 51 #[aggN x.h x.text ao n c] w fun e w' => e = .returned (.int .i64 (checkN x)) ∧ Below w.heap.size w w' := by
  have hl := hk.1
  have HK := Lib.hid hk
  clear hk
  by_cases hf : formedP x
  · have hn := formed_len hf
    rw [hl] at hn
    by_cases hs : 65536 < (sumM (msTo x.kids n)).1
    · rw [checkN_long hf ((long_iff hf hl).1 hs)]
      have HF := Lib.hid hf
      clear hf hl
      unfold aggN
      go_enter Try.func51, Try.ntmps51
      go_wp2_with fail
      refine (refFormed_yes x ao n c _ (HK.out.box _) HF.out).mono ?_; rintro e w1 ⟨rfl, hb⟩
      obtain ⟨hbw, hb0⟩ := box_later hb
      (have q0 := block_cell hb0 0; have q1 := block_cell hb0 1; have q2 := block_cell hb0 2; have f0 := block_free hb0 0; have f1 := block_free hb0 1; have f2 := block_free hb0 2; have hz := block_lt hb0; simp at q0 q1 q2)
      have HBW := Lib.hid hbw
      clear hb hbw hb0
      go_wp2_with fail
      refine (refSum_any x.h x.text x.kids ao n c n _ (HK.out.later HBW.out) (Nat.le_refl _) (by omega)).mono ?_; rintro e w2 ⟨rfl, hb⟩
      unfold aggM
      have hfl := run_field_bytes (sumM (msTo x.kids n)).1 (sumM (msTo x.kids n)).2.1 (sumM (msTo x.kids n)).2.2
      go_wp2_with fail
      go_ret
      exact ⟨rfl, below_step HBW.out hb⟩
    · rw [checkN_ok hf (fun h => hs ((long_iff hf hl).2 h))]
      have HF := Lib.hid hf
      clear hf hl
      unfold aggN
      go_enter Try.func51, Try.ntmps51
      go_wp2_with fail
      refine (refFormed_yes x ao n c _ (HK.out.box _) HF.out).mono ?_; rintro e w1 ⟨rfl, hb⟩
      obtain ⟨hbw, hb0⟩ := box_later hb
      (have q0 := block_cell hb0 0; have q1 := block_cell hb0 1; have q2 := block_cell hb0 2; have f0 := block_free hb0 0; have f1 := block_free hb0 1; have f2 := block_free hb0 2; have hz := block_lt hb0; simp at q0 q1 q2)
      have HBW := Lib.hid hbw
      clear hb hbw hb0
      go_wp2_with fail
      refine (refSum_any x.h x.text x.kids ao n c n _ (HK.out.later HBW.out) (Nat.le_refl _) (by omega)).mono ?_; rintro e w2 ⟨rfl, hb⟩
      unfold aggM
      have hfl := run_field_bytes (sumM (msTo x.kids n)).1 (sumM (msTo x.kids n)).2.1 (sumM (msTo x.kids n)).2.2
      go_wp2_with fail
      go_ret
      exact ⟨rfl, below_step HBW.out hb⟩
  · rw [checkN_bad hf]
    have HF := Lib.hid hf
    clear hf hl
    unfold aggN
    go_enter Try.func51, Try.ntmps51
    go_wp2_with fail
    refine (refFormed_no x ao n c _ (HK.out.box _) HF.out).mono ?_; rintro e w1 ⟨rfl, hb⟩
    obtain ⟨hbw, _⟩ := box_later hb
    go_wp2_with fail
    go_ret
    exact ⟨rfl, hbw⟩

set_option maxRecDepth 100000 in
set_option maxHeartbeats 2000000 in
theorem refMeasure_any (x : Nd) (ao : Option Addr) (n c : Nat) (w : World) (hk : IsKs w ao n x.kids) :
    Calls Try.prog 49 #[aggN x.h x.text ao n c] w fun e w' => e = .returned (.tuple #[aggM (measN x), .int .i64 (checkN x)]) ∧ Below w.heap.size w w' := by
  have hl := hk.1
  have HL := Lib.hid hl
  have HK := Lib.hid hk
  clear hk hl
  by_cases hc : checkN x = 0
  · have e : measN x = sumN x := if_pos hc
    have HF := Lib.hid (checkN_zero hc).1
    rw [e, hc]
    have HC := Lib.hid hc
    clear e hc
    by_cases hh : x.h = 0
    · rw [sumN_leaf hh]
      have HS : x.text.size ≤ maxLen := by
        rcases formed_cases HF.out with ⟨h1, h2, h3, h4⟩ | ⟨h0, _⟩
        · unfold maxLen; omega
        · exact absurd hh h0
      have HH := Lib.hid hh
      clear hh
      unfold aggN
      go_enter Try.func49, Try.ntmps49
      go_wp2_with fail
      refine (refCheck_any x ao n c _ ((HK.out.box _).box _)).mono ?_; rintro e w1 ⟨rfl, hb⟩
      rw [HC.out]
      have hh := HH.out
      obtain ⟨hbw, hb0, hb1⟩ := box2_later hb
      (have q0 := block_cell hb0 0; have q1 := block_cell hb0 1; have q2 := block_cell hb0 2; have f0 := block_free hb0 0; have f1 := block_free hb0 1; have f2 := block_free hb0 2; have hz := block_lt hb0; simp at q0 q1 q2)
      have HB1 := Lib.hid hb1
      have HBW := Lib.hid hbw
      clear hb hb0 hb1 hbw
      go_wp2_with fail
      refine (refOf_any x.text _ HS).mono ?_; rintro e w2 ⟨rfl, hb⟩
      try unfold aggM
      have hb1 := block_below hb HB1.out (block_lt HB1.out)
      (have q0 := block_cell hb1 0; have q1 := block_cell hb1 1; have q2 := block_cell hb1 2; have f0 := block_free hb1 0; have f1 := block_free hb1 1; have f2 := block_free hb1 2; have hz := block_lt hb1; simp at q0 q1 q2)
      have HB2 := Lib.hid hb1
      have HB := Lib.hid hb
      clear hb hb1
      go_wp2_with fail
      have hb0 := block_setCell (block_setCell (block_setCell HB2.out 0 (.int .i64 (ofT x.text).1)) 1 (.int .i64 (ofT x.text).2.1)) 2 (.int .i64 (ofT x.text).2.2)
      exact bodyPost_ret (res3_tmp Try.results49 (Try.isAgg62 _) (Try.sizeOf62 _) rfl hb0) rfl ⟨rfl, (((below_step HBW.out HB.out).setCell (by simp) _).setCell (by simp) _).setCell (by simp) _⟩
    · rw [sumN_inner hh]
      have hh' : (x.h == 0) = false := by simpa using hh
      have hn : n ≤ 4 := by have := formed_len HF.out; have := HL.out; omega
      have HE := Lib.hid (show msTo x.kids n = x.kids.map (·.2) by rw [← HL.out, msTo_end])
      clear hh
      unfold aggN
      go_enter Try.func49, Try.ntmps49
      go_wp2_with fail
      refine (refCheck_any x ao n c _ ((HK.out.box _).box _)).mono ?_; rintro e w1 ⟨rfl, hb⟩
      rw [HC.out]
      obtain ⟨hbw, hb0, hb1⟩ := box2_later hb
      (have q0 := block_cell hb0 0; have q1 := block_cell hb0 1; have q2 := block_cell hb0 2; have f0 := block_free hb0 0; have f1 := block_free hb0 1; have f2 := block_free hb0 2; have hz := block_lt hb0; simp at q0 q1 q2)
      have HB1 := Lib.hid hb1
      have HBW := Lib.hid hbw
      clear hb hb0 hb1 hbw
      go_wp2_with fail
      refine (refSum_any x.h x.text x.kids ao n c n _ (HK.out.later HBW.out) (Nat.le_refl _) (by omega)).mono ?_; rintro e w2 ⟨rfl, hb⟩; rw [HE.out]
      try unfold aggM
      have hb1 := block_below hb HB1.out (block_lt HB1.out)
      (have q0 := block_cell hb1 0; have q1 := block_cell hb1 1; have q2 := block_cell hb1 2; have f0 := block_free hb1 0; have f1 := block_free hb1 1; have f2 := block_free hb1 2; have hz := block_lt hb1; simp at q0 q1 q2)
      have HB2 := Lib.hid hb1
      have HB := Lib.hid hb
      clear hb hb1
      go_wp2_with fail
      have hb0 := block_setCell (block_setCell (block_setCell HB2.out 0 (.int .i64 (sumM (x.kids.map (·.2))).1)) 1 (.int .i64 (sumM (x.kids.map (·.2))).2.1)) 2 (.int .i64 (sumM (x.kids.map (·.2))).2.2)
      exact bodyPost_ret (res3_tmp Try.results49 (Try.isAgg62 _) (Try.sizeOf62 _) rfl hb0) rfl ⟨rfl, (((below_step HBW.out HB.out).setCell (by simp) _).setCell (by simp) _).setCell (by simp) _⟩
  · have e : measN x = (0, 0, 0) := if_neg hc
    rw [e]
    have hc' : (checkN x == 0) = false := by simpa using hc
    clear e hc
    unfold aggN
    go_enter Try.func49, Try.ntmps49
    go_wp2_with fail
    refine (refCheck_any x ao n c _ ((HK.out.box _).box _)).mono ?_; rintro e w1 ⟨rfl, hb⟩
    obtain ⟨hbw, hb0, hb1⟩ := box2_later hb
    (have q0 := block_cell hb1 0; have q1 := block_cell hb1 1; have q2 := block_cell hb1 2; have f0 := block_free hb1 0; have f1 := block_free hb1 1; have f2 := block_free hb1 2; have hz := block_lt hb1; simp at q0 q1 q2)
    have HB1 := Lib.hid hb1
    have HBW := Lib.hid hbw
    clear hb hb0 hb1 hbw
    go_wp2_with fail
    have hb0 := block_setCell (block_setCell (block_setCell HB1.out 0 (.int .i64 0)) 1 (.int .i64 0)) 2 (.int .i64 0)
    exact bodyPost_ret (res3_tmp Try.results49 (Try.isAgg62 _) (Try.sizeOf62 _) rfl hb0) rfl ⟨rfl, ((HBW.out.setCell (by simp) _).setCell (by simp) _).setCell (by simp) _⟩

/-- what the reference's inner returns -/
def innerN (x : Nd) : Trip × Int := if checkN x = 0 ∧ x.h = 0 then ((0, 0, 0), 8) else (measN x, checkN x)

end Go.Proofs.Ytfgkbnnojogjpaa

namespace Go.Proofs.Ytfgkbnnojogjpaa
open Go.RowKit

instance : DecidableEq Nd := fun x y => decidable_of_iff (x.h = y.h ∧ x.text = y.text ∧ x.kids = y.kids) ⟨fun h => by cases x; cases y; simp_all, fun h => by rw [h]; exact ⟨rfl, rfl, rfl⟩⟩
set_option maxRecDepth 100000 in
set_option maxHeartbeats 2000000 in
theorem equalKids_any (l l' : List Kid) (a a' : Option Addr) (n n' c c' : Nat) (w : World) (h : IsKs w a n l) (h' : IsKs w a' n' l') (hn63 : n ≤ 9223372036854775807) :
    Calls Try.prog 54 #[.slice a n c, .slice a' n' c'] w fun e w' => e = .returned (.bool (decide (l = l'))) ∧ Below w.heap.size w w' := by
  have H := Lib.hid h
  have H' := Lib.hid h'
  clear h h'
  by_cases hn : n = n'
  · subst hn
    go_enter Try.func54, Try.ntmps54
    go_wp2_with fail
    go_loopw [5] (fun i wr => ∃ k : Nat, k ≤ n ∧ i = .int .i64 k ∧ Below w.heap.size w wr ∧ l.take k = l'.take k) (fun i _ => n - (intOf i).toNat)
    case atStart => exact ⟨0, Nat.zero_le _, rfl, Below.refl _ _, rfl⟩
    case round =>
      obtain ⟨k, hk, rfl, hbr, ht⟩ := hrel
      by_cases hlt : k < n
      · obtain ⟨hl1, _, hc1⟩ := H.out
        obtain ⟨hl2, _, hc2⟩ := H'.out
        obtain ⟨b1, o1, rfl, hcell1⟩ := hc1 (by omega)
        obtain ⟨b2, o2, rfl, hcell2⟩ := hc2 (by omega)
        have hkl1 : k < l.length := by omega
        have hkl2 : k < l'.length := by omega
        obtain ⟨p0, p1, p2, p3⟩ := cellK_below (hcell1 k hkl1) hbr (cellK_lt (hcell1 k hkl1))
        obtain ⟨q0, q1, q2, q3⟩ := cellK_below (hcell2 k hkl2) hbr (cellK_lt (hcell2 k hkl2))
        have hk0 : (0 : Int) ≤ (k : Int) := by omega
        have hk1 : (k : Int) < (n : Int) := by omega
        have HBR := Lib.hid hbr
        have HT := Lib.hid ht
        by_cases he : l[k] = l'[k]
        · rw [← he] at q0 q1 q2 q3
          have ht2 : l.take (k + 1) = l'.take (k + 1) := by rw [List.take_succ_eq_append_getElem hkl1, List.take_succ_eq_append_getElem hkl2, ht, he]
          have HT2 := Lib.hid ht2
          clear hl1 hc1 hl2 hc2 hcell1 hcell2 hbr ht he ht2
          go_wp2_with fail
          go_quiet (fail)
          go_wp2_with fail
          go_roundw
          case rel => exact ⟨k + 1, by omega, by go_num, below_drewN HBR.out _, HT2.out⟩
          case measure => simp [intOf]; omega
        · have e : decide (l = l') = false := decide_eq_false fun h => he (by subst h; rfl)
          have HE := Lib.hid e
          clear hl1 hc1 hl2 hc2 hcell1 hcell2 hbr ht e
          by_cases e1 : l[k].1 = l'[k].1
          · rw [← e1] at q0
            by_cases e2 : l[k].2.1 = l'[k].2.1
            · rw [← e2] at q1
              by_cases e3 : l[k].2.2.1 = l'[k].2.2.1
              · rw [← e3] at q2
                have hne : (l[k].2.2.2 == l'[k].2.2.2) = false := by simpa using fun e4 => he (Prod.ext e1 (Prod.ext e2 (Prod.ext e3 e4)))
                clear he e1 e2 e3
                go_wp2_with fail
                go_quiet (fail)
                go_wp2_with fail
                go_ret
                exact ⟨congrArg (fun b => Ending.returned (.bool b)) HE.out.symm, below_drewN HBR.out _⟩
              · have hne : (l[k].2.2.1 == l'[k].2.2.1) = false := by simpa using e3
                clear he e1 e2 e3
                go_wp2_with fail
                go_quiet (fail)
                go_wp2_with fail
                go_ret
                exact ⟨congrArg (fun b => Ending.returned (.bool b)) HE.out.symm, below_drewN HBR.out _⟩
            · have hne : (l[k].2.1 == l'[k].2.1) = false := by simpa using e2
              clear he e1 e2
              go_wp2_with fail
              go_quiet (fail)
              go_wp2_with fail
              go_ret
              exact ⟨congrArg (fun b => Ending.returned (.bool b)) HE.out.symm, below_drewN HBR.out _⟩
          · have hne : (l[k].1 == l'[k].1) = false := by simpa using e1
            clear he e1
            go_wp2_with fail
            go_quiet (fail)
            go_wp2_with fail
            go_ret
            exact ⟨congrArg (fun b => Ending.returned (.bool b)) HE.out.symm, below_drewN HBR.out _⟩
      · have e : decide (l = l') = true := decide_eq_true (by
          have h1 := H.out.1
          have h2 := H'.out.1
          rwa [List.take_of_length_le (by omega), List.take_of_length_le (by omega)] at ht)
        have HE := Lib.hid e
        have HBR := Lib.hid hbr
        clear hbr ht e
        go_wp2_with fail
        go_ret
        exact ⟨congrArg (fun b => Ending.returned (.bool b)) HE.out.symm, HBR.out⟩
  · have e : decide (l = l') = false := decide_eq_false fun h => hn (by rw [← H.out.1, ← H'.out.1, h])
    have HE := Lib.hid e
    have hn' : ((n : Int) == (n' : Int)) = false := by rw [Bool.eq_false_iff]; intro h; rw [beq_iff_eq] at h; exact hn (by omega)
    clear e hn
    go_enter Try.func54, Try.ntmps54
    go_wp2_with fail
    go_ret
    exact ⟨congrArg (fun b => Ending.returned (.bool b)) HE.out.symm, by go_grown⟩

set_option maxRecDepth 100000 in
set_option maxHeartbeats 2000000 in
theorem equalNode_any (x y : Nd) (a a' : Option Addr) (n n' c c' : Nat) (w : World) (h : IsKs w a n x.kids) (h' : IsKs w a' n' y.kids) (hn63 : n ≤ 9223372036854775807) :
    Calls Try.prog 27 #[aggN x.h x.text a n c, aggN y.h y.text a' n' c'] w fun e w' => e = .returned (.bool (decide (x = y))) ∧ Below w.heap.size w w' := by
  have H := Lib.hid h
  have H' := Lib.hid h'
  clear h h'
  unfold aggN
  by_cases h1 : x.h = y.h
  · by_cases h2 : x.text = y.text
    · have e : decide (x = y) = decide (x.kids = y.kids) := decide_eq_decide.2 ⟨fun h => by rw [h], fun h => by cases x; cases y; simp_all⟩
      have HE := Lib.hid e
      rw [← h1, ← h2]
      clear e h1 h2
      go_enter Try.func27, Try.ntmps27
      go_wp2_with fail
      refine (equalKids_any x.kids y.kids a a' n n' c c' _ ((H.out.box _).box _) ((H'.out.box _).box _) hn63).mono ?_; rintro e w1 ⟨rfl, hb⟩
      have HB := Lib.hid (box2_later hb).1
      clear hb
      go_wp2_with fail
      go_ret
      exact ⟨congrArg (fun b => Ending.returned (.bool b)) HE.out.symm, HB.out⟩
    · have e : decide (x = y) = false := decide_eq_false fun h => h2 (by rw [h])
      have HE := Lib.hid e
      have h2' : (x.text.toList == y.text.toList) = false := by
        rw [Bool.eq_false_iff]
        intro h
        rw [beq_iff_eq, ByteArray.toList_eq, ByteArray.toList_eq] at h
        refine h2 ?_
        rcases hx : x.text with ⟨⟨d⟩⟩
        rcases hy : y.text with ⟨⟨d'⟩⟩
        rw [hx, hy] at h
        simp only at h
        rw [h]
      rw [← h1]
      clear e h1 h2
      go_enter Try.func27, Try.ntmps27
      go_wp2_with fail
      go_ret
      exact ⟨congrArg (fun b => Ending.returned (.bool b)) HE.out.symm, by go_grown⟩
  · have e : decide (x = y) = false := decide_eq_false fun h => h1 (by rw [h])
    have HE := Lib.hid e
    have h1' : (x.h == y.h) = false := by simpa using h1
    clear e h1
    go_enter Try.func27, Try.ntmps27
    go_wp2_with fail
    go_ret
    exact ⟨congrArg (fun b => Ending.returned (.bool b)) HE.out.symm, by go_grown⟩

end Go.Proofs.Ytfgkbnnojogjpaa

namespace Go.Proofs.Ytfgkbnnojogjpaa
open Go.RowKit

def fK (x : Kid) : List Value := [.int .u64 x.1, .int .i64 x.2.1, .int .i64 x.2.2.1, .int .i64 x.2.2.2]
theorem fK_len (x : Kid) : (fK x).length = 4 := rfl
theorem fK_one (l : List Kid) : ∀ u ∈ flatR fK l, u.oneCell' = true := flatR_all (by
  intro x u hu
  simp only [fK, List.mem_cons, List.not_mem_nil, or_false] at hu
  rcases hu with rfl | rfl | rfl | rfl <;> rfl) l
theorem IsR.ks {w : World} {a : Option Addr} {n : Nat} {l : List Kid} (h : IsR fK w a n l) (hr : ∀ x ∈ l, 0 ≤ x.1 ∧ x.1 ≤ 18446744073709551615) : IsKs w a n l := by
  obtain ⟨h1, h2⟩ := h
  refine ⟨h1, hr, fun hn => ?_⟩
  obtain ⟨b, off, e, _, h3⟩ := h2 hn
  refine ⟨b, off, e, fun k hk => ?_⟩
  have f : ∀ i u, i < 4 → (fK l[k])[i]? = some u → w.cell? ⟨b, off + k * 4 + i, none⟩ = some u := fun i u hi hu => by
    rw [Nat.add_assoc]
    exact h3 _ _ ((flatR_at fK_len l k i hk hi).trans hu)
  exact ⟨f 0 _ (by omega) rfl, f 1 _ (by omega) rfl, f 2 _ (by omega) rfl, f 3 _ (by omega) rfl⟩

theorem infoK : (Try.prog.info? 64).map (fun i => (i.zero, i.size, i.bytes)) = some (some (.agg #[.int .u64 0, .int .i64 0, .int .i64 0, .int .i64 0]), 4, 32) := by kernel_rfl

/-- the value is a slice of its own memory, from block base on, and reads as the children l -/
def OwnKs (base : Nat) (w : World) (v : Value) (n : Nat) (l : List Kid) : Prop :=
  l.length = n ∧ (∀ x ∈ l, 0 ≤ x.1 ∧ x.1 ≤ 18446744073709551615) ∧ w.ownsRow base 64 4 v n (flatR fK l)
theorem OwnKs.ks {base : Nat} {w : World} {v : Value} {n : Nat} {l : List Kid} (h : OwnKs base w v n l) :
    ∃ ao cap, v = .slice ao n cap ∧ IsKs w ao n l ∧ (ao = none → n = 0 ∧ cap = 0) ∧ (0 < n → ∃ g, ao = some ⟨g, 0, none⟩ ∧ base ≤ g ∧ g < w.heap.size) := by
  obtain ⟨h1, h2, h3⟩ := h
  obtain ⟨ao, cap, e, hr, h4, h5⟩ := IsR.owned fK_len h1 h3
  exact ⟨ao, cap, e, hr.ks h2, h4, h5⟩

set_option maxRecDepth 100000 in
set_option maxHeartbeats 2000000 in
theorem copyKids_any (l : List Kid) (ao : Option Addr) (n c : Nat) (w : World) (hk : IsKs w ao n l) (hreach : n * 32 ≤ 140737488351232) :
    Calls Try.prog 50 #[.slice ao n c] w fun e w' => ∃ v, e = .returned v ∧ OwnKs w.heap.size w' v n l ∧ Below w.heap.size w w' := by
  obtain ⟨i0, hi, hz0, hz1, hz2⟩ := info_parts infoK
  have HK := Lib.hid hk
  have hn63 : n ≤ 9223372036854775807 := by omega
  clear hk
  go_enter Try.func50, Try.ntmps50
  go_wp2_with fail
  go_loopw [3, 4] (fun v i wr => ∃ k : Nat, k ≤ n ∧ i = .int .i64 k ∧ Below w.heap.size w wr ∧ wr.ownsRow w.heap.size 64 4 v k (flatR fK (l.take k))) (fun _ i _ => n - (intOf i).toNat)
  case atStart => exact ⟨0, Nat.zero_le _, rfl, by go_grown, World.ownsRow_nil _ _ _ _⟩
  case round =>
    obtain ⟨k, hkn, rfl, hbr, hown⟩ := hrel
    have hsz := hbr.size
    by_cases hlt : k < n
    · obtain ⟨hl, hu, hc⟩ := HK.out
      obtain ⟨b, off, rfl, hcell⟩ := hc (by omega)
      have hkl : k < l.length := by omega
      obtain ⟨m0, m1, m2, m3⟩ := cellK_below (hcell k hkl) hbr (cellK_lt (hcell k hkl))
      have HBR := Lib.hid hbr
      have HO : ∀ A, (wr.alloc A).ownsRow w.heap.size 64 4 _ k (flatR fK (l.take k)) := fun A => hown.alloc A
      have HOW := Lib.hid hown
      have HHO := Lib.hid HO
      have HN : IsR fK (wr.alloc (.cells #[.int .u64 l[k].1, .int .i64 l[k].2.1, .int .i64 l[k].2.2.1, .int .i64 l[k].2.2.2] 64)) (some ⟨wr.heap.size, 0, none⟩) 1 [l[k]] :=
        ⟨rfl, fun _ => ⟨_, _, rfl, by simp, fun j u hj => by
          rw [block_cell (block_new _ _), Nat.zero_add, ← hj, flatR_one]
          exact (Array.getElem?_toList).symm⟩⟩
      have HHN := Lib.hid HN
      have HLEN := Lib.hid (show (flatR fK (l.take k)).length = k * 4 by rw [flatR_len fK_len]; simp; omega)
      have HTAKE := Lib.hid (List.take_succ_eq_append_getElem hkl)
      clear hl hu hc hcell hbr hown HO HN
      go_wp2_with (at_builtin; refine wpList_append_own _ rfl _ _ 34 rfl w.heap.size 64 i0 (.agg #[.int .u64 0, .int .i64 0, .int .i64 0, .int .i64 0]) 4 32 Try.underlying34 hi hz0 hz1 hz2 rfl (by decide) _ k (flatR fK (l.take k)) rfl (HHO.out _) ⟨wr.heap.size, 0, none⟩ 1 _ (flatR fK [l[k]]) rfl rfl (HHN.out.news (by decide)) (fK_one _) ?c3 ?c4 ?c5 ?_)
      case c3 => unfold maxLen; omega
      case c4 => omega
      case c5 => simp; omega
      intro v' w1 hown1 hgrow _
      rw [← flatR_app, ← HTAKE.out] at hown1
      have hlow := HOW.out.lt
      have hbel : Below w.heap.size w w1 := (HBR.out.alloc HBR.out.size _).grown hgrow (by simp; omega) (fun j hj => by have := hlow j hj; omega)
      have HBEL := Lib.hid hbel
      have HOWN1 := Lib.hid hown1
      clear hown1 hgrow hlow hbel
      go_wp2_with fail
      go_roundw
      case rel => exact ⟨k + 1, by omega, by go_num, HBEL.out, HOWN1.out⟩
      case measure => simp [intOf]; omega
    · obtain rfl : n = k := by omega
      obtain ⟨hl, hu, _⟩ := HK.out
      have hv : OwnKs w.heap.size wr u3 n l := ⟨hl, hu, by rw [List.take_of_length_le (by omega)] at hown; exact hown⟩
      have HV := Lib.hid hv
      have HBR := Lib.hid hbr
      clear hl hu hv hbr hown
      go_wp2_with fail
      go_ret
      exact ⟨_, rfl, HV.out, HBR.out⟩
end Go.Proofs.Ytfgkbnnojogjpaa

namespace Go.Proofs.Ytfgkbnnojogjpaa
open Go.RowKit

theorem IsKs.row {w : World} {a : Option Addr} {n : Nat} {l : List Kid} (h : IsKs w a n l) : IsR fK w a n l := by
  obtain ⟨h1, _, h2⟩ := h
  refine ⟨h1, fun hn => ?_⟩
  obtain ⟨b, off, e, h3⟩ := h2 hn
  refine ⟨b, off, e, cellK_lt (h3 0 (by omega)), fun j u hj => ?_⟩
  have hlen := (List.getElem?_eq_some_iff.1 hj).1
  rw [flatR_len fK_len] at hlen
  have hk : j / 4 < l.length := by omega
  have ej : j / 4 * 4 + j % 4 = j := by omega
  have hj2 := flatR_at fK_len l (j / 4) (j % 4) hk (by omega)
  rw [ej, hj] at hj2
  obtain ⟨c0, c1, c2, c3⟩ := h3 (j / 4) hk
  have eo : off + j = off + j / 4 * 4 + j % 4 := by omega
  rw [eo]
  rcases (show j % 4 = 0 ∨ j % 4 = 1 ∨ j % 4 = 2 ∨ j % 4 = 3 by omega) with e | e | e | e
  · rw [e] at hj2 ⊢; exact c0.trans hj2.symm
  · rw [e] at hj2 ⊢; exact c1.trans hj2.symm
  · rw [e] at hj2 ⊢; exact c2.trans hj2.symm
  · rw [e] at hj2 ⊢; exact c3.trans hj2.symm
theorem IsR.newsAll {α : Type} {f : α → List Value} {w : World} {ad : Addr} {n : Nat} {l : List α} (h : IsR f w (some ad) n l) : ∀ j u, (flatR f l)[j]? = some u → w.cell? (ad.add j) = some u := by
  rcases Nat.eq_zero_or_pos n with e | e
  · obtain rfl : l = [] := List.length_eq_zero_iff.1 (h.1.trans e)
    intro j u hj
    simp [flatR] at hj
  · exact h.news e
theorem own_empty {w : World} {base b : Nat} {e : TypeId} {size : Nat} (hb : base ≤ b) (h : w.heap[b]? = some (.cells #[] e (0, 0))) : w.ownsRow base e size (.slice (some ⟨b, 0, none⟩) 0 0) 0 [] :=
  ⟨by simp, .inr ⟨b, 0, #[], rfl, hb, h, Nat.le_refl _, Nat.zero_le _, by simp, by simp⟩⟩

theorem run_nil_none (w : World) : (binOp .eql 34 (.slice none 0 0) (.slice none 0 0)).run Try.prog w = .ok (.bool true) w := by kernel_rfl
theorem run_nil_some (ad : Addr) (n c : Nat) (w : World) : (binOp .eql 34 (.slice (some ad) n c) (.slice none 0 0)).run Try.prog w = .ok (.bool false) w := by kernel_rfl
set_option maxRecDepth 100000 in
set_option maxHeartbeats 2000000 in
theorem clone_any (l : List Kid) (ao : Option Addr) (n c : Nat) (w : World) (hk : IsKs w ao n l) (hno : ao = none → c = 0) (hreach : n * 32 ≤ 140737488351232) :
    Calls Try.prog 43 #[.slice ao n c] w fun e w' => ∃ v, e = .returned v ∧ OwnKs w.heap.size w' v n l ∧ Below w.heap.size w w' := by
  cases ao with
  | none =>
    have hn : n = 0 := by
      rcases Nat.eq_zero_or_pos n with e | e
      · exact e
      · obtain ⟨b, off, e, _⟩ := hk.2.2 e
        simp at e
    have hc := hno rfl
    subst hn hc
    have hl : l = [] := List.length_eq_zero_iff.1 hk.1
    subst hl
    clear hk
    have hnil := run_nil_none
    go_enter Try.func43, Try.ntmps43
    go_wp2_with fail
    go_ret
    exact ⟨_, rfl, ⟨rfl, by simp, World.ownsRow_nil _ _ _ _⟩, Below.refl _ _⟩
  | some ad =>
    obtain ⟨i0, hi, hz0, hz1, hz2⟩ := info_parts infoK
    have HO : (w.alloc (.cells #[] 64)).ownsRow w.heap.size 64 4 (.slice (some ⟨w.heap.size, 0, none⟩) 0 0) 0 (flatR fK []) := own_empty (Nat.le_refl _) (block_new _ _)
    have HN : IsR fK (w.alloc (.cells #[] 64)) (some ad) n l := (hk.row).later ((Below.refl _ _).alloc (Nat.le_refl _) _)
    have HHO := Lib.hid HO
    have HHN := Lib.hid HN
    have HK := Lib.hid hk
    have HLEN := Lib.hid (show (flatR fK l).length = n * 4 by rw [flatR_len fK_len, hk.1])
    clear HO HN hk
    have hnil := run_nil_some ad n c
    go_enter Try.func43, Try.ntmps43
    go_wp2_with (at_builtin; refine wpList_append_own _ rfl _ _ 34 rfl w.heap.size 64 i0 (.agg #[.int .u64 0, .int .i64 0, .int .i64 0, .int .i64 0]) 4 32 Try.underlying34 hi hz0 hz1 hz2 rfl (by decide) _ 0 (flatR fK []) rfl HHO.out ad n _ (flatR fK l) rfl HLEN.out HHN.out.newsAll (fK_one _) ?c3 ?c4 ?c5 ?_)
    case c3 => unfold maxLen; omega
    case c4 => omega
    case c5 => simp
    intro v' w1 hown1 hgrow _
    have hown : OwnKs w.heap.size w1 v' n l := ⟨HK.out.1, HK.out.2.1, by simpa [flatR] using hown1⟩
    have hbel : Below w.heap.size w w1 := ((Below.refl _ _).alloc (Nat.le_refl _) _).grown hgrow (by simp) (fun j hj => by simp [Value.ownBlock] at hj; omega)
    have HOWN := Lib.hid hown
    have HBEL := Lib.hid hbel
    clear hown1 hgrow hown hbel
    go_wp2_with fail
    go_ret
    exact ⟨_, rfl, HOWN.out, HBEL.out⟩
end Go.Proofs.Ytfgkbnnojogjpaa

namespace Go.Proofs.Ytfgkbnnojogjpaa
open Go.RowKit

/-- the value is a node with children in its own memory -/
def OwnN (base : Nat) (w : World) (v : Value) (x : Nd) : Prop := ∃ s, v = .agg #[.int .i64 x.h, .string x.text, s] ∧ OwnKs base w s x.kids.length x.kids
def noN : Nd := ⟨0, ⟨#[]⟩, []⟩
def resN (x : Nd) : Nd := if checkN x = 0 then x else noN
theorem ownN_none (base : Nat) (w : World) : OwnN base w (.agg #[.int .i64 0, .string ⟨#[]⟩, .slice none 0 0]) noN :=
  ⟨_, rfl, rfl, by intro x hx; exact absurd hx (by simp [noN]), World.ownsRow_nil _ _ _ _⟩

theorem OwnKs.le {base base' : Nat} {w : World} {v : Value} {n : Nat} {l : List Kid} (h : OwnKs base w v n l) (hb : base' ≤ base) : OwnKs base' w v n l := by
  obtain ⟨h1, h2, hl, h3⟩ := h
  refine ⟨h1, h2, hl, ?_⟩
  rcases h3 with h3 | ⟨g, cap, cur, e, hb', rest⟩
  · exact .inl h3
  · exact .inr ⟨g, cap, cur, e, by omega, rest⟩
theorem OwnKs.setCell {base : Nat} {w : World} {v : Value} {n : Nat} {l : List Kid} (h : OwnKs base w v n l) {a : Addr} (ha : a.block < base) (u : Value) : OwnKs base (w.setCell a u) v n l :=
  ⟨h.1, h.2.1, ownsRow_setCell_below h.2.2 ha u⟩

end Go.Proofs.Ytfgkbnnojogjpaa

namespace Go.Proofs.Ytfgkbnnojogjpaa
open Go.RowKit

/-- the m low bytes of v, the most significant one first -/
def be : Nat → Nat → List UInt8
  | 0, _ => []
  | m + 1, v => UInt8.ofNat (v / 256 ^ m % 256) :: be m v
def encB (b : UInt8) : Value := .int .u8 b.toNat
theorem encB_one (l : List UInt8) : ∀ u ∈ l.map encB, u.oneCell' = true := by
  intro u hu
  rw [List.mem_map] at hu
  obtain ⟨b, _, rfl⟩ := hu
  rfl
theorem byte_be (v j : Nat) : encB (UInt8.ofNat (v / 256 ^ j % 256)) = .int .u8 ((v : Int) / 2 ^ (8 * j) % 256) := by
  unfold encB
  have e : (UInt8.ofNat (v / 256 ^ j % 256)).toNat = v / 256 ^ j % 256 := by
    rw [UInt8.toNat_ofNat']
    exact Nat.mod_eq_of_lt (Nat.mod_lt _ (by decide))
  rw [e]
  congr 1
  have e2 : (2 : Int) ^ (8 * j) = ((256 ^ j : Nat) : Int) := by
    have : (2 : Nat) ^ (8 * j) = 256 ^ j := by rw [Nat.pow_mul]
    rw [← this]
    exact (Int.natCast_pow 2 (8 * j)).symm
  rw [e2, ← Int.natCast_ediv]
  exact Int.natCast_emod _ 256
theorem infoB : (Try.prog.info? 5).map (fun i => (i.zero, i.size, i.bytes)) = some (some (.int .u8 0), 1, 1) := by kernel_rfl

end Go.Proofs.Ytfgkbnnojogjpaa

namespace Go.Proofs.Ytfgkbnnojogjpaa
open Go.RowKit

theorem OwnKs.later {base : Nat} {w w' : World} {v : Value} {n : Nat} {l : List Kid} (h : OwnKs base w v n l) (hb : Below w.heap.size w w') : OwnKs base w' v n l := by
  obtain ⟨h1, h2, h3, h4⟩ := h
  refine ⟨h1, h2, h3, ?_⟩
  rcases h4 with h4 | ⟨g, cap, cur, hv, hg, hh, r⟩
  · exact Or.inl h4
  · exact Or.inr ⟨g, cap, cur, hv, hg, block_below hb hh (block_lt hh), r⟩
theorem Stab_ownKs (base n : Nat) (l : List Kid) (_ : True) : Stab (fun v u => OwnKs base u v n l) := fun _ _ _ h hb => h.later hb

set_option maxRecDepth 100000 in
set_option maxHeartbeats 2000000 in
theorem copyNode_any (x : Nd) (ao : Option Addr) (n c : Nat) (w : World) (hk : IsKs w ao n x.kids) (hreach : n * 32 ≤ 140737488351232) :
    Calls Try.prog 25 #[aggN x.h x.text ao n c] w fun e w' => ∃ v, e = .returned v ∧ OwnN w.heap.size w' v x ∧ Below w.heap.size w w' := by
  have hl := hk.1
  have HK := Lib.hid hk
  have HL := Lib.hid hl
  clear hl hk
  unfold aggN
  go_enter Try.func25, Try.ntmps25
  go_wp2_with fail
  have HB0 := Lib.hid (block_alloc (block_new w (.cells #[.int .i64 x.h, .string x.text, .slice ao n c] 36)) (.cells #[.int .i64 0, .string ⟨#[]⟩, .slice none 0 0] 36))
  have HB1 := Lib.hid (block_new' (w.alloc (.cells #[.int .i64 x.h, .string x.text, .slice ao n c] 36)) (.cells #[.int .i64 0, .string ⟨#[]⟩, .slice none 0 0] 36) (w.heap.size + 1) (by simp))
  refine wp_region_plan [.make, .make, .make, .make, .make, .make, .make, .make, .write 0] [0, 1, 2, 3, 4, 5, 6, 7] 1 (fun _ _ u => ∃ s, u.heap[w.heap.size + 1]? = some (.cells #[.int .i64 x.h, .string x.text, s] 36 (0, 0)) ∧ OwnKs (w.heap.size + 1 + 1) u s n x.kids ∧ Below w.heap.size w u) (by kernel_rfl) (by decide) (by kernel_rfl) (by kernel_rfl) (by kernel_rfl) (by kernel_rfl) (fun p vs vs' u h hE => hE) ?_
  simp only [fill, Act.put, List.setIfInBounds_toArray, List.set_cons_zero, List.set_cons_succ, Nat.zero_add, Nat.reduceAdd, List.zip_cons_cons, List.zip_nil_right]
  apply OpsIs.eq
  · intro vs u hb hd
    clear hd
    go_wp2_with fail
    exact ⟨rfl, _, rfl, Below.refl _ _, rfl⟩
  apply OpsIs.eq
  · intro vs u hb hd
    have e0 := hd ⟨0, .data⟩ (by simp) (by decide)
    simp at e0
    clear hd
    simp only [e0]
    have q := block_below hb HB0.out (block_lt HB0.out)
    have p0 := block_cell q 0
    have p1 := block_cell q 1
    have p2 := block_cell q 2
    simp at p0 p1 p2
    clear q
    go_wp2_with fail
    exact ⟨rfl, _, rfl, Below.refl _ _, rfl⟩
  apply OpsIs.eq
  · intro vs u hb hd
    clear hd
    go_wp2_with fail
    exact ⟨rfl, _, rfl, Below.refl _ _, rfl⟩
  apply OpsIs.eq
  · intro vs u hb hd
    have e2 := hd ⟨2, .data⟩ (by simp) (by decide)
    simp at e2
    clear hd
    simp only [e2]
    have q := block_below hb HB0.out (block_lt HB0.out)
    have p0 := block_cell q 0
    have p1 := block_cell q 1
    have p2 := block_cell q 2
    simp at p0 p1 p2
    clear q
    go_wp2_with fail
    exact ⟨rfl, _, rfl, Below.refl _ _, rfl⟩
  apply OpsIs.eq
  · intro vs u hb hd
    clear hd
    go_wp2_with fail
    exact ⟨rfl, _, rfl, Below.refl _ _, rfl⟩
  apply OpsIs.eq
  · intro vs u hb hd
    have e4 := hd ⟨4, .data⟩ (by simp) (by decide)
    simp at e4
    clear hd
    simp only [e4]
    have q := block_below hb HB0.out (block_lt HB0.out)
    have p0 := block_cell q 0
    have p1 := block_cell q 1
    have p2 := block_cell q 2
    simp at p0 p1 p2
    clear q
    go_wp2_with fail
    exact ⟨rfl, _, rfl, Below.refl _ _, rfl⟩
  refine OpsIs.step (fun v u => ∃ a c', v = .slice a n c' ∧ OwnKs (w.heap.size + 1 + 1) u (.slice a n c') n x.kids) (by rintro v u u' ⟨a, c', e, h⟩ hb; exact ⟨a, c', e, h.later hb⟩) ?_ ?_
  · intro vs u hb hd
    have e5 := hd ⟨5, .data⟩ (by simp) (by decide)
    simp at e5
    clear hd
    simp only [e5]
    have hk := HK.out.later ((((Below.refl _ _).alloc (Nat.le_refl _) _).alloc (by simp) _).trans (hb.mono (by simp; omega)))
    have HKK := Lib.hid hk
    clear hk
    go_wp2_with fail
    refine (copyKids_any x.kids ao n c _ HKK.out hreach).mono ?_; rintro e w1 ⟨v, rfl, hv, hb1⟩
    obtain ⟨a6, c6, rfl, _⟩ := hv.ks
    go_wp2_with fail
    exact ⟨rfl, _, rfl, hb1, _, _, rfl, hv.le (by have := hb.size; simp at this; omega)⟩
  refine OpsIs.step (fun v u => ∃ a c', v = .agg #[.int .i64 x.h, .string x.text, .slice a n c'] ∧ OwnKs (w.heap.size + 1 + 1) u (.slice a n c') n x.kids) (by rintro v u u' ⟨a, c', e, h⟩ hb; exact ⟨a, c', e, h.later hb⟩) ?_ ?_
  · intro vs u hb hd
    have e1 := hd ⟨1, .data⟩ (by simp) (by decide)
    simp at e1
    have e3 := hd ⟨3, .data⟩ (by simp) (by decide)
    simp at e3
    obtain ⟨a6, c6, e6, h6⟩ := hd ⟨6, .data⟩ (by simp) (by decide)
    clear hd
    simp only [e1, e3, e6]
    go_wp2_with fail
    exact ⟨rfl, _, rfl, Below.refl _ _, _, _, rfl, h6⟩
  refine OpsIs.first ?_ ?_
  · intro vs u hb hdis hd
    obtain ⟨ao7, cap7, ev, hs7⟩ := hd 7 (by simp)
    clear hd
    simp only [ev]
    have q := block_below hb HB1.out (block_lt HB1.out)
    have p0 := block_cell q 0
    have p1 := block_cell q 1
    have p2 := block_cell q 2
    have g0 := block_free q 0
    have g1 := block_free q 1
    have g2 := block_free q 2
    simp at p0 p1 p2
    have HQ := Lib.hid q
    have HS7 := Lib.hid hs7
    clear q hs7
    go_wp2_with fail
    exact ⟨rfl, undef, rfl, _, block_setCell (block_setCell (block_setCell HQ.out 0 _) 1 _) 2 _, (((HS7.out.setCell (by simp) _).setCell (by simp) _).setCell (by simp) _), (((below_step ((((Below.refl _ _).alloc (Nat.le_refl _) _).alloc (by simp) _)) hb).setCell (by simp) _).setCell (by simp) _).setCell (by simp) _⟩
  refine OpsIs.done ?_
  intro vs u hE hS
  clear hS
  obtain ⟨s, hb0, hs, hbe⟩ := hE
  have HB := Lib.hid hb0
  have HS := Lib.hid hs
  have HBE := Lib.hid hbe
  clear hb0 hs hbe
  go_wp2_with fail
  have hb0 := HB.out
  have hs := HS.out
  have hbe := HBE.out
  exact bodyPost_ret (res3 Try.results25 (Try.isAgg36 _) (Try.sizeOf36 _) rfl hb0) rfl ⟨_, rfl, ⟨s, rfl, by rw [HL.out]; exact hs.le (by omega)⟩, hbe⟩

/-- the node of the chapter's examples -/
def x3N : Nd := ⟨1, ⟨#[]⟩, [(65536, 9, 8, 1), (65537, 8, 0, 0), (65538, 10, 10, 2)]⟩
end Go.Proofs.Ytfgkbnnojogjpaa

