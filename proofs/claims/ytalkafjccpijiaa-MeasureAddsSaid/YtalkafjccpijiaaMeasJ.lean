/- The contract of Add of quarto/measure and of the reference: any measures. -/
import Derived.Test.YtalkafjccpijiaaMeasF
namespace Go.Proofs.Ytalkafjccpijiaa
open Go.RowKit

abbrev Trip := Int × Int × Int
/-- the sum of measures, component by component, as int adds -/
def addM (x y : Trip) : Trip := (wrap64 (x.1 + y.1), wrap64 (x.2.1 + y.2.1), wrap64 (x.2.2 + y.2.2))
def sumTo (l : List Trip) (k : Nat) : Trip := (l.take k).foldl addM (0, 0, 0)
def sumM (l : List Trip) : Trip := l.foldl addM (0, 0, 0)
def aggM (x : Trip) : Value := .agg #[.int .i64 x.1, .int .i64 x.2.1, .int .i64 x.2.2]

theorem sumTo_end (l : List Trip) : sumTo l l.length = sumM l := by unfold sumTo sumM; rw [List.take_length]
theorem sumTo_succ (l : List Trip) (k : Nat) (h : k < l.length) : sumTo l (k + 1) = addM (sumTo l k) l[k] := by
  unfold sumTo
  rw [List.take_succ_eq_append_getElem h, List.foldl_append]; rfl

/-- the slice value (a, n) reads as the measures l -/
def IsMs (w : World) (a : Option Addr) (n : Nat) (l : List Trip) : Prop :=
  l.length = n ∧ (0 < n → ∃ b off, a = some ⟨b, off, none⟩ ∧ ∀ k (h : k < l.length), w.cell? ⟨b, off + k * 3, none⟩ = some (.int .i64 l[k].1) ∧
    w.cell? ⟨b, off + k * 3 + 1, none⟩ = some (.int .i64 l[k].2.1) ∧ w.cell? ⟨b, off + k * 3 + 2, none⟩ = some (.int .i64 l[k].2.2))

theorem run_index3 (x y z : Value) : (∀ w, (Instr.index 39 (.agg #[x, y, z]) (.int .i64 0)).run Try.prog w = .ok x w) ∧ (∀ w, (Instr.index 39 (.agg #[x, y, z]) (.int .i64 1)).run Try.prog w = .ok y w) ∧
    (∀ w, (Instr.index 39 (.agg #[x, y, z]) (.int .i64 2)).run Try.prog w = .ok z w) := by
  refine ⟨fun _ => by kernel_rfl, fun _ => by kernel_rfl, fun _ => by kernel_rfl⟩

set_option maxRecDepth 100000 in
set_option maxHeartbeats 1000000 in
theorem add_some (b off n c : Nat) (l : List Trip) (w : World) (hl : l.length = n) (hn : n ≤ 9223372036854775807)
    (hcell : ∀ k (h : k < l.length), w.cell? ⟨b, off + k * 3, none⟩ = some (.int .i64 l[k].1) ∧
    w.cell? ⟨b, off + k * 3 + 1, none⟩ = some (.int .i64 l[k].2.1) ∧ w.cell? ⟨b, off + k * 3 + 2, none⟩ = some (.int .i64 l[k].2.2)) (hbs : b < w.heap.size) :
    Calls Try.prog 22 #[.slice (some ⟨b, off, none⟩) n c] w fun e w' => e = .returned (aggM (sumM l)) ∧ Below w.heap.size w w' := by
  have HCELL := Lib.hid hcell
  clear hcell
  go_enter Try.func22, Try.ntmps22
  go_wp2_with fail
  go_loopw [10] (fun i wr => ∃ k : Nat, k ≤ n ∧ i = .int .i64 k ∧ Below w.heap.size w wr ∧ wr.heap[w.heap.size]? = some (.cells #[.int .i64 0, .int .i64 0, .int .i64 0] 23 (0, 0)) ∧
      wr.heap[w.heap.size + 1]? = some (.cells #[.int .i64 (sumTo l k).1, .int .i64 (sumTo l k).2.1, .int .i64 (sumTo l k).2.2] 40 (0, 0))) (fun i _ => n - (intOf i).toNat)
  case atStart => exact ⟨0, Nat.zero_le _, rfl, ((Below.refl _ _).alloc (Nat.le_refl _) _).alloc (by simp) _, block_alloc (block_new w _) _, block_new' _ _ _ (by simp)⟩
  case round =>
    obtain ⟨k, hk, rfl, hbr, hb0, hb1⟩ := hrel
    by_cases hlt : k < n
    · have hkl : k < l.length := by omega
      obtain ⟨m0, m1, m2⟩ := HCELL.out k hkl
      rw [← hbr.cell (p := ⟨b, off + k * 3, none⟩) hbs] at m0
      rw [← hbr.cell (p := ⟨b, off + k * 3 + 1, none⟩) hbs] at m1
      rw [← hbr.cell (p := ⟨b, off + k * 3 + 2, none⟩) hbs] at m2
      have hsu := sumTo_succ l k hkl
      have HSU := Lib.hid hsu
      clear hsu
      have q0 := block_cell hb1 0
      have q1 := block_cell hb1 1
      have q2 := block_cell hb1 2
      have f0 := block_free hb1 0
      have f1 := block_free hb1 1
      have f2 := block_free hb1 2
      have hsz := block_lt hb1
      obtain ⟨i0, i1, i2⟩ := run_index3 (.int .i64 l[k].1) (.int .i64 l[k].2.1) (.int .i64 l[k].2.2)
      have HB0 := Lib.hid hb0
      have HB1 := Lib.hid hb1
      clear hb0 hb1
      simp at q0 q1 q2
      go_wp2_with fail
      refine wp_loop_rounds 4 ?_
      rw [rounds_succ]
      go_wp2_with fail
      rw [rounds_succ]
      go_wp2_with fail
      rw [rounds_succ]
      go_wp2_with fail
      rw [rounds_succ]
      go_wp2_with fail
      go_roundw
      case rel =>
        refine ⟨k + 1, by omega, by go_num, (((hbr.setCell (by simp) _).setCell (by simp) _).setCell (by simp) _).alloc (by simp [World.setCell]; omega) _, ?_, ?_⟩
        · exact block_alloc (block_setCell_other (block_setCell_other (block_setCell_other HB0.out (by simp) _) (by simp) _) (by simp) _) _
        · rw [HSU.out]
          exact block_alloc (block_setCell (block_setCell (block_setCell HB1.out 0 _) 1 _) 2 _) _
      case measure => simp [intOf]; omega
    · have hkn : k = l.length := by omega
      have hse : sumTo l k = sumM l := by rw [hkn]; exact sumTo_end l
      have HSE := Lib.hid hse
      clear hse hkn
      have q0 := block_cell hb1 0
      have q1 := block_cell hb1 1
      have q2 := block_cell hb1 2
      have hsz := block_lt hb1
      have HB0 := Lib.hid hb0
      have HB1 := Lib.hid hb1
      clear hb0 hb1
      simp at q0 q1 q2
      go_wp2_with fail
      refine (measured_any _ _ _ _).mono ?_
      rintro e w1 ⟨rfl, hb⟩
      obtain ⟨hc, hf⟩ := bcell hb
      have hz : w.heap.size < w1.heap.size := by have := hb.size; omega
      have g0 := hc w.heap.size 0 (by omega)
      have g1 := hc w.heap.size 1 (by omega)
      have g2 := hc w.heap.size 2 (by omega)
      have e0 := hf w.heap.size 0 (by omega)
      have e1 := hf w.heap.size 1 (by omega)
      have e2 := hf w.heap.size 2 (by omega)
      rw [block_cell HB0.out] at g0 g1 g2
      rw [block_free HB0.out] at e0 e1 e2
      simp at g0 g1 g2
      clear hc hf
      go_wp2_with fail
      have hb0 := block_setCell (block_setCell (block_setCell (block_below hb HB0.out (by omega)) 0 (.int .i64 (sumTo l k).1)) 1 (.int .i64 (sumTo l k).2.1)) 2 (.int .i64 (sumTo l k).2.2)
      exact bodyPost_ret (res3 Try.results22 (Try.isAgg23 _) (Try.sizeOf23 _) rfl hb0) rfl ⟨by rw [HSE.out]; rfl, (((below_step hbr hb).setCell (by simp) _).setCell (by simp) _).setCell (by simp) _⟩

set_option maxRecDepth 100000 in
set_option maxHeartbeats 1000000 in
theorem add_zero (a : Option Addr) (c : Nat) (w : World) :
    Calls Try.prog 22 #[.slice a 0 c] w fun e w' => e = .returned (aggM (sumM [])) ∧ Below w.heap.size w w' := by
  go_enter Try.func22, Try.ntmps22
  go_wp2_with fail
  refine wp_loop_rounds 1 ?_
  rw [rounds_succ]
  go_wp2_with fail
  refine (measured_any _ _ _ _).mono ?_
  rintro e w1 ⟨rfl, hb⟩
  obtain ⟨hc, hf⟩ := bcell hb
  have hz : w.heap.size + 1 < w1.heap.size := by have := hb.size; simp at this; omega
  go_wp2
  have hb0 := block_setCell (block_setCell (block_setCell (block_below hb (block_alloc (block_new w _) _) (by simp; omega)) 0 (.int .i64 0)) 1 (.int .i64 0)) 2 (.int .i64 0)
  exact bodyPost_ret (res3 Try.results22 (Try.isAgg23 _) (Try.sizeOf23 _) rfl hb0) rfl ⟨rfl, (((Below.refl _ _).alloc (Nat.le_refl _) _).alloc (by simp) _).trans (hb.mono (by simp; omega)) |>.setCell (by simp) _ |>.setCell (by simp) _ |>.setCell (by simp) _⟩

theorem add_any (a : Option Addr) (n c : Nat) (l : List Trip) (w : World) (hn : n ≤ 9223372036854775807) (h : IsMs w a n l) :
    Calls Try.prog 22 #[.slice a n c] w fun e w' => e = .returned (aggM (sumM l)) ∧ Below w.heap.size w w' := by
  obtain ⟨hl, h⟩ := h
  rcases Nat.eq_zero_or_pos n with e | e
  · subst e
    obtain rfl : l = [] := List.length_eq_zero_iff.1 hl
    exact add_zero a c w
  · obtain ⟨b, off, rfl, hc⟩ := h e
    refine add_some b off n c l w hl hn hc ?_
    have := (hc 0 (by omega)).1
    rcases Nat.lt_or_ge b w.heap.size with hb | hb
    · exact hb
    · simp [World.cell?, Array.getElem?_eq_none hb] at this

set_option maxRecDepth 100000 in
set_option maxHeartbeats 1000000 in
theorem refAdd_some (b off n c : Nat) (l : List Trip) (w : World) (hl : l.length = n) (hn : n ≤ 9223372036854775807)
    (hcell : ∀ k (h : k < l.length), w.cell? ⟨b, off + k * 3, none⟩ = some (.int .i64 l[k].1) ∧
    w.cell? ⟨b, off + k * 3 + 1, none⟩ = some (.int .i64 l[k].2.1) ∧ w.cell? ⟨b, off + k * 3 + 2, none⟩ = some (.int .i64 l[k].2.2)) (hbs : b < w.heap.size) :
    Calls Try.prog 23 #[.slice (some ⟨b, off, none⟩) n c] w fun e w' => e = .returned (aggM (sumM l)) ∧ Below w.heap.size w w' := by
  have HCELL := Lib.hid hcell
  clear hcell
  go_enter Try.func23, Try.ntmps23
  go_wp2_with fail
  go_loopw [4] (fun i wr => ∃ k : Nat, k ≤ n ∧ i = .int .i64 k ∧ Below w.heap.size w wr ∧ wr.heap[w.heap.size]? = some (.cells #[.int .i64 0, .int .i64 0, .int .i64 0] 23 (0, 0)) ∧
      wr.heap[w.heap.size + 1]? = some (.cells #[.int .i64 (sumTo l k).1, .int .i64 (sumTo l k).2.1, .int .i64 (sumTo l k).2.2] 23 (0, 0))) (fun i _ => n - (intOf i).toNat)
  case atStart => exact ⟨0, Nat.zero_le _, rfl, ((Below.refl _ _).alloc (Nat.le_refl _) _).alloc (by simp) _, block_alloc (block_new w _) _, block_new' _ _ _ (by simp)⟩
  case round =>
    obtain ⟨k, hk, rfl, hbr, hb0, hb1⟩ := hrel
    by_cases hlt : k < n
    · have hkl : k < l.length := by omega
      obtain ⟨m0, m1, m2⟩ := HCELL.out k hkl
      rw [← hbr.cell (p := ⟨b, off + k * 3, none⟩) hbs] at m0
      rw [← hbr.cell (p := ⟨b, off + k * 3 + 1, none⟩) hbs] at m1
      rw [← hbr.cell (p := ⟨b, off + k * 3 + 2, none⟩) hbs] at m2
      have hne : b ≠ w.heap.size + 1 := by omega
      have hsu := sumTo_succ l k hkl
      have HSU := Lib.hid hsu
      clear hsu
      have q0 := block_cell hb1 0
      have q1 := block_cell hb1 1
      have q2 := block_cell hb1 2
      have f0 := block_free hb1 0
      have f1 := block_free hb1 1
      have f2 := block_free hb1 2
      have hsz := block_lt hb1
      have HB0 := Lib.hid hb0
      have HB1 := Lib.hid hb1
      clear hb0 hb1
      simp at q0 q1 q2
      have hk0 : (0 : Int) ≤ (k : Int) := by omega
      have hk1 : (k : Int) < (n : Int) := by omega
      go_wp2_with fail
      go_region
      go_wp2_with fail
      go_region
      go_wp2_with fail
      go_region
      go_wp2_with fail
      go_roundw
      case rel =>
        refine ⟨k + 1, by omega, by go_num, ?_, ?_, ?_⟩
        · repeat (refine Below.drew ?_)
          exact ((hbr.setCell (by simp) _).setCell (by simp) _).setCell (by simp) _
        · exact block_setCell_other (block_setCell_other (block_setCell_other HB0.out (by simp) _) (by simp) _) (by simp) _
        · rw [HSU.out]
          exact block_setCell (block_setCell (block_setCell HB1.out 0 _) 1 _) 2 _
      case measure => simp [intOf]; omega
    · have hkn : k = l.length := by omega
      have hse : sumTo l k = sumM l := by rw [hkn]; exact sumTo_end l
      have HSE := Lib.hid hse
      clear hse hkn
      have q0 := block_cell hb1 0
      have q1 := block_cell hb1 1
      have q2 := block_cell hb1 2
      have r0 := block_cell hb0 0
      have r1 := block_cell hb0 1
      have r2 := block_cell hb0 2
      have f0 := block_free hb0 0
      have f1 := block_free hb0 1
      have f2 := block_free hb0 2
      have hsz := block_lt hb1
      have HB0 := Lib.hid hb0
      have HB1 := Lib.hid hb1
      clear hb0 hb1
      simp at q0 q1 q2 r0 r1 r2
      go_wp2_with fail
      have hb0 := block_setCell (block_setCell (block_setCell HB0.out 0 (.int .i64 (sumTo l k).1)) 1 (.int .i64 (sumTo l k).2.1)) 2 (.int .i64 (sumTo l k).2.2)
      exact bodyPost_ret (res3 Try.results23 (Try.isAgg23 _) (Try.sizeOf23 _) rfl hb0) rfl ⟨by rw [HSE.out]; rfl, ((hbr.setCell (by simp) _).setCell (by simp) _).setCell (by simp) _⟩

set_option maxRecDepth 100000 in
set_option maxHeartbeats 1000000 in
theorem refAdd_zero (a : Option Addr) (c : Nat) (w : World) :
    Calls Try.prog 23 #[.slice a 0 c] w fun e w' => e = .returned (aggM (sumM [])) ∧ Below w.heap.size w w' := by
  go_enter Try.func23, Try.ntmps23
  go_wp2_with fail
  refine wp_loop_rounds 1 ?_
  rw [rounds_succ]
  go_wp2_with fail
  exact bodyPost_ret (v := aggM (sumM [])) (by simp [results, Try.results23, go_sem, aggM, sumM]) rfl ⟨rfl, by go_grown⟩

theorem refAdd_any (a : Option Addr) (n c : Nat) (l : List Trip) (w : World) (hn : n ≤ 9223372036854775807) (h : IsMs w a n l) :
    Calls Try.prog 23 #[.slice a n c] w fun e w' => e = .returned (aggM (sumM l)) ∧ Below w.heap.size w w' := by
  obtain ⟨hl, h⟩ := h
  rcases Nat.eq_zero_or_pos n with e | e
  · subst e
    obtain rfl : l = [] := List.length_eq_zero_iff.1 hl
    exact refAdd_zero a c w
  · obtain ⟨b, off, rfl, hc⟩ := h e
    refine refAdd_some b off n c l w hl hn hc ?_
    have := (hc 0 (by omega)).1
    rcases Nat.lt_or_ge b w.heap.size with hb | hb
    · exact hb
    · simp [World.cell?, Array.getElem?_eq_none hb] at this

end Go.Proofs.Ytalkafjccpijiaa
