/- The contracts of the reference's formed, Check and Measure. -/
import Derived.Test.YtbodacjhhkjdfaaNf
namespace Go.Proofs.Ytbodacjhhkjdfaa
open Go.RowKit

set_option maxRecDepth 100000 in
set_option maxHeartbeats 1000000 in
theorem refFormed_leaf (t : ByteArray) (l : List Kid) (ao : Option Addr) (n c : Nat) (w : World) (hl : l.length = n) :
    Calls Try.prog 48 #[aggN 0 t ao n c] w fun e w' => e = .returned (.bool (decide (formedP ⟨0, t, l⟩))) ∧ Below w.heap.size w w' := by
  unfold aggN
  by_cases c1 : (1 : Int) ≤ (t.size : Int)
  · by_cases c2 : (t.size : Int) ≤ 16
    · by_cases c3 : n = 0
      · subst c3
        have e : decide (formedP ⟨0, t, l⟩) = true := decide_eq_true ((formedP_leaf t l).2 ⟨by omega, by omega, hl⟩)
        rw [e]
        clear e
        go_enter Try.func48, Try.ntmps48
        go_wp2_with fail
        go_ret
        exact ⟨rfl, by go_grown⟩
      · have c3' : ((n : Int) == 0) = false := by simpa using c3
        have e : decide (formedP ⟨0, t, l⟩) = false := decide_eq_false fun h => c3 (hl ▸ ((formedP_leaf t l).1 h).2.2)
        rw [e]
        clear e c3 hl
        go_enter Try.func48, Try.ntmps48
        go_wp2_with fail
        go_ret
        exact ⟨rfl, by go_grown⟩
    · have e : decide (formedP ⟨0, t, l⟩) = false := decide_eq_false fun h => by have := (formedP_leaf t l).1 h; omega
      rw [e]
      clear e hl
      go_enter Try.func48, Try.ntmps48
      go_wp2_with fail
      go_ret
      exact ⟨rfl, by go_grown⟩
  · have e : decide (formedP ⟨0, t, l⟩) = false := decide_eq_false fun h => by have := (formedP_leaf t l).1 h; omega
    rw [e]
    clear e hl
    go_enter Try.func48, Try.ntmps48
    go_wp2_with fail
    go_ret
    exact ⟨rfl, by go_grown⟩

set_option maxRecDepth 100000 in
set_option maxHeartbeats 1000000 in
theorem refFormed_bad (h : Int) (t : ByteArray) (ao : Option Addr) (n c : Nat) (w : World) (h0 : h ≠ 0) (hx : ¬ (1 ≤ h ∧ h ≤ 16 ∧ t = ⟨#[]⟩ ∧ 2 ≤ n ∧ n ≤ 4)) :
    Calls Try.prog 48 #[aggN h t ao n c] w fun e w' => e = .returned (.bool false) ∧ Below w.heap.size w w' := by
  unfold aggN
  have h0' : (h == 0) = false := by simpa using h0
  by_cases c1 : h < 0
  · go_enter Try.func48, Try.ntmps48
    go_wp2_with fail
    go_ret
    exact ⟨rfl, by go_grown⟩
  by_cases c2 : 16 < h
  · go_enter Try.func48, Try.ntmps48
    go_wp2_with fail
    go_ret
    exact ⟨rfl, by go_grown⟩
  by_cases c3 : t = ⟨#[]⟩
  · subst c3
    by_cases c4 : (n : Int) < 2
    · clear hx
      go_enter Try.func48, Try.ntmps48
      go_wp2_with fail
      go_ret
      exact ⟨rfl, by go_grown⟩
    · have c5 : (4 : Int) < n := by
        rcases Int.lt_or_le 4 n with h | h
        · exact h
        · exact absurd ⟨by omega, by omega, rfl, by omega, by omega⟩ hx
      clear hx
      go_enter Try.func48, Try.ntmps48
      go_wp2_with fail
      go_ret
      exact ⟨rfl, by go_grown⟩
  · have c3' : t.toList.isEmpty = false := by
      rw [ByteArray.toList_eq]
      rcases h : t.data.toList with _ | _
      · exact absurd (by cases t; simp at h; simp [h]) c3
      · rfl
    clear hx c3
    go_enter Try.func48, Try.ntmps48
    go_wp2_with fail
    go_ret
    exact ⟨rfl, by go_grown⟩


theorem refKid_yes (h : Int) (m : Nat) (x : Kid) (w : World) (hh : h = ((m + 1 : Nat) : Int)) (hm : m ≤ 15) (u0 : 0 ≤ x.1) (u1 : x.1 ≤ 18446744073709551615) (hk : kidOK m x) :
    Calls Try.prog 71 #[.int .i64 h, aggK x] w fun e w' => e = .returned (.bool true) ∧ Below w.heap.size w w' := by
  have := refKid_any m x w hm u0 u1
  rw [hh]
  rwa [decide_eq_true hk] at this
theorem refKid_no (h : Int) (m : Nat) (x : Kid) (w : World) (hh : h = ((m + 1 : Nat) : Int)) (hm : m ≤ 15) (u0 : 0 ≤ x.1) (u1 : x.1 ≤ 18446744073709551615) (hk : ¬ kidOK m x) :
    Calls Try.prog 71 #[.int .i64 h, aggK x] w fun e w' => e = .returned (.bool false) ∧ Below w.heap.size w w' := by
  have := refKid_any m x w hm u0 u1
  rw [hh]
  rwa [decide_eq_false hk] at this

set_option maxRecDepth 100000 in
set_option maxHeartbeats 2000000 in
theorem refFormed_inner (m : Nat) (l : List Kid) (b off n c : Nat) (w : World) (hl : l.length = n) (hm : m ≤ 15) (hn : 2 ≤ n ∧ n ≤ 4) (hu : ∀ x ∈ l, 0 ≤ x.1 ∧ x.1 ≤ 18446744073709551615) (hk : ∀ k (h : k < l.length), cellK w b (off + k * 4) l[k]) :
    Calls Try.prog 48 #[aggN ((m + 1 : Nat) : Int) ⟨#[]⟩ (some ⟨b, off, none⟩) n c] w fun e w' => e = .returned (.bool (decide (∀ x ∈ l, kidOK m x))) ∧ Below w.heap.size w w' := by
  unfold aggN
  have hbw : b < w.heap.size := cellK_lt (hk 0 (by omega))
  have h0 : (((m + 1 : Nat) : Int) == 0) = false := by simp; omega
  have h1 : ¬ ((m + 1 : Nat) : Int) < 0 := by omega
  have h2 : ¬ (16 : Int) < ((m + 1 : Nat) : Int) := by omega
  have h3 : ¬ (n : Int) < 2 := by omega
  have h4 : ¬ (4 : Int) < (n : Int) := by omega
  have HK := Lib.hid hk
  have HU := Lib.hid hu
  have HL := Lib.hid hl
  clear hk hu hl
  go_enter Try.func48, Try.ntmps48
  go_wp2_with fail
  go_loopw [3] (fun i wr => ∃ k : Nat, k ≤ n ∧ i = .int .i64 k ∧ Below w.heap.size w wr ∧ wr.heap[w.heap.size]? = some (.cells #[.int .i64 ((m + 1 : Nat) : Int), .string ⟨#[]⟩, .slice (some ⟨b, off, none⟩) n c] 24 (0, 0)) ∧ ∀ j (hj : j < l.length), j < k → kidOK m l[j]) (fun i _ => n - (intOf i).toNat)
  case atStart => exact ⟨0, Nat.zero_le _, rfl, by go_grown, block_new _ _, fun _ _ h => absurd h (Nat.not_lt_zero _)⟩
  case round =>
    obtain ⟨k, hkn, rfl, hbr, hb0, hall⟩ := hrel
    have HALL := Lib.hid hall
    have HBR := Lib.hid hbr
    have HB0 := Lib.hid hb0
    (have q0 := block_cell hb0 0; have q1 := block_cell hb0 1; have q2 := block_cell hb0 2; have f0 := block_free hb0 0; have f1 := block_free hb0 1; have f2 := block_free hb0 2; have hz := block_lt hb0; simp at q0 q1 q2)
    have hz0 := block_lt hb0
    clear hall hb0
    by_cases hlt : k < n
    · have hkl : k < l.length := by rw [HL.out]; exact hlt
      have hcell := cellK_below (HK.out k hkl) hbr hbw
      have hbr' : b < wr.heap.size := cellK_lt hcell
      obtain ⟨u0, u1⟩ := HU.out l[k] (List.getElem_mem hkl)
      have HCELL := Lib.hid hcell
      clear hbr hcell
      by_cases hg : kidOK m l[k]
      · have HG0 := Lib.hid hg
        clear hg
        go_wp2_with fail
        refine wp_region_mild (by kernel_rfl) (by kernel_rfl) ?_
        intro X _ f hf hg
        have d0 : ∀ x, (f x).cell? ⟨w.heap.size, 0, none⟩ = some (.int .i64 ((m + 1 : Nat) : Int)) := fun x => block_cell (block_below (hf x) HB0.out hz0) 0
        have d2 : ∀ x, (f x).cell? ⟨w.heap.size, 2, none⟩ = some (.slice (some ⟨b, off, none⟩) n c) := fun x => block_cell (block_below (hf x) HB0.out hz0) 2
        have c0 := fun x => (cellK_below HCELL.out (hf x) hbr').1
        have c1 := fun x => (cellK_below HCELL.out (hf x) hbr').2.1
        have c2 := fun x => (cellK_below HCELL.out (hf x) hbr').2.2.1
        have c3 := fun x => (cellK_below HCELL.out (hf x) hbr').2.2.2
        have HF := Lib.hid hf
        have HG := Lib.hid hg
        clear hf hg
        repeat (go_big_quiet_step (first
          | (go_at_call 71; exact Calls_mild HG.out (refKid_yes _ m l[k] _ (by push_cast; rfl) hm u0 u1 HG0.out))))
        refine wpQuiet_nil ?_
        rintro _ ⟨y, rfl⟩
        have hy := HF.out y
        have HY := Lib.hid hy
        clear hy HF HG d0 d2 c0 c1 c2 c3
        go_wp2_with fail
        go_roundw
        case rel =>
          refine ⟨k + 1, by omega, by go_num, below_step HBR.out HY.out, block_below HY.out HB0.out hz0, fun j hj hjk => ?_⟩
          rcases Nat.lt_or_ge j k with h | h
          · exact HALL.out j hj h
          · obtain rfl : j = k := by omega
            exact HG0.out
        case measure => simp [intOf]; omega
      · have e : decide (∀ x ∈ l, kidOK m x) = false := decide_eq_false fun h => hg (h l[k] (List.getElem_mem hkl))
        have HE := Lib.hid e
        have HG0 := Lib.hid hg
        clear hg e
        go_wp2_with fail
        refine wp_region_mild (by kernel_rfl) (by kernel_rfl) ?_
        intro X _ f hf hg
        have d0 : ∀ x, (f x).cell? ⟨w.heap.size, 0, none⟩ = some (.int .i64 ((m + 1 : Nat) : Int)) := fun x => block_cell (block_below (hf x) HB0.out hz0) 0
        have d2 : ∀ x, (f x).cell? ⟨w.heap.size, 2, none⟩ = some (.slice (some ⟨b, off, none⟩) n c) := fun x => block_cell (block_below (hf x) HB0.out hz0) 2
        have c0 := fun x => (cellK_below HCELL.out (hf x) hbr').1
        have c1 := fun x => (cellK_below HCELL.out (hf x) hbr').2.1
        have c2 := fun x => (cellK_below HCELL.out (hf x) hbr').2.2.1
        have c3 := fun x => (cellK_below HCELL.out (hf x) hbr').2.2.2
        have HF := Lib.hid hf
        have HG := Lib.hid hg
        clear hf hg
        repeat (go_big_quiet_step (first
          | (go_at_call 71; exact Calls_mild HG.out (refKid_no _ m l[k] _ (by push_cast; rfl) hm u0 u1 HG0.out))))
        refine wpQuiet_nil ?_
        rintro _ ⟨y, rfl⟩
        have hy := HF.out y
        have HY := Lib.hid hy
        clear hy HF HG d0 d2 c0 c1 c2 c3
        go_wp2_with fail
        go_ret
        exact ⟨congrArg (fun b => Ending.returned (.bool b)) HE.out.symm, below_step HBR.out HY.out⟩
    · have e : decide (∀ x ∈ l, kidOK m x) = true := decide_eq_true fun x hx => by
        obtain ⟨j, hj, rfl⟩ := List.getElem_of_mem hx
        exact HALL.out j hj (by have := HL.out; omega)
      have HE := Lib.hid e
      clear e hbr
      go_wp2_with fail
      go_ret
      exact ⟨congrArg (fun b => Ending.returned (.bool b)) HE.out.symm, HBR.out⟩

theorem refFormed_any (x : Nd) (ao : Option Addr) (n c : Nat) (w : World) (hk : IsKs w ao n x.kids) :
    Calls Try.prog 48 #[aggN x.h x.text ao n c] w fun e w' => e = .returned (.bool (decide (formedP x))) ∧ Below w.heap.size w w' := by
  obtain ⟨h, t, l⟩ := x
  obtain ⟨hl, hu, hc⟩ := hk
  simp only at hl hu hc ⊢
  by_cases h0 : h = 0
  · subst h0
    exact refFormed_leaf t l ao n c w hl
  · by_cases hx : 1 ≤ h ∧ h ≤ 16 ∧ t = ⟨#[]⟩ ∧ 2 ≤ n ∧ n ≤ 4
    · obtain ⟨h1, h2, rfl, h4⟩ := hx
      obtain ⟨m, rfl⟩ : ∃ m : Nat, h = ((m + 1 : Nat) : Int) := ⟨(h - 1).toNat, by omega⟩
      obtain ⟨b, off, rfl, hc'⟩ := hc (by omega)
      have := refFormed_inner m l b off n c w hl (by omega) h4 hu hc'
      have e : decide (formedP ⟨((m + 1 : Nat) : Int), ⟨#[]⟩, l⟩) = decide (∀ x ∈ l, kidOK m x) := by
        refine decide_eq_decide.2 ⟨?_, fun h => Or.inr ⟨h1, h2, rfl, ?_, ?_, ?_⟩⟩
        · rintro (⟨h, _⟩ | ⟨_, _, _, _, _, h⟩)
          · exact absurd h h0
          · have e : (((m + 1 : Nat) : Int) - 1).toNat = m := by omega
            rw [← e]; exact h
        · simp only; omega
        · simp only; omega
        · have e : (((m + 1 : Nat) : Int) - 1).toNat = m := by omega
          simp only; rw [e]; exact h
      rw [e]; exact this
    · have e : decide (formedP ⟨h, t, l⟩) = false := by
        refine decide_eq_false ?_
        rintro (⟨h, _⟩ | ⟨h1, h2, h3, h4, h5, _⟩)
        · exact h0 h
        · refine hx ⟨h1, h2, ?_, ?_, ?_⟩
          · cases t; simpa [ByteArray.size] using h3
          · simp only at h4; omega
          · simp only at h5; omega
      rw [e]; exact refFormed_bad h t ao n c w h0 hx

end Go.Proofs.Ytbodacjhhkjdfaa
