/- Contracts of quarto/measure and of the references of layers 1 and 2, as the layer node calls them. -/
import Derived.Test.YtbodacjhhkjdfaaMeas
import Derived.Test.YtbodacjhhkjdfaaLibB
namespace Go.Proofs.Ytbodacjhhkjdfaa
open Go.RowKit

theorem cntTo_step (p : UInt8 → Bool) (s : ByteArray) (k : Nat) (h : k < s.size) : cntTo p s (k + 1) = cntTo p s k + (if p s[k] then 1 else 0) := by
  rcases hp : p s[k] with _ | _
  · rw [cntTo_no p s k h hp]; simp
  · rw [cntTo_yes p s k h hp]; simp
theorem cntTo_mono (p : UInt8 → Bool) (s : ByteArray) {j k : Nat} (h : j ≤ k) : cntTo p s j ≤ cntTo p s k := by
  unfold cntTo
  exact (List.take_sublist_take_left h).countP_le
theorem cntTo_cnt (p : UInt8 → Bool) (s : ByteArray) (k : Nat) : cntTo p s k ≤ cnt p s := by
  unfold cntTo cnt
  exact (List.take_sublist _ _).countP_le
theorem cntTo_lt (p : UInt8 → Bool) (s : ByteArray) {j k : Nat} (h : j < k) (hj : j < s.size) (hp : p s[j] = true) : cntTo p s j < cntTo p s k := by
  have h1 := cntTo_yes p s j hj hp
  have h2 := cntTo_mono p s (show j + 1 ≤ k from h)
  omega
theorem cntTo_lt_cnt (p : UInt8 → Bool) (s : ByteArray) {j : Nat} (hj : j < s.size) (hp : p s[j] = true) : cntTo p s j < cnt p s := by
  have h1 := cntTo_yes p s j hj hp
  have h2 := cntTo_cnt p s (j + 1)
  omega
theorem cntTo_zero (p : UInt8 → Bool) (s : ByteArray) : cntTo p s 0 = 0 := rfl
theorem cnt_le (p : UInt8 → Bool) (s : ByteArray) : cnt p s ≤ s.size := by
  unfold cnt
  exact Nat.le_trans List.countP_le_length (by simp)

set_option maxHeartbeats 400000 in
theorem measured_any (a b c : Int) (w : World) :
    Calls Try.prog 66 #[.agg #[.int .i64 a, .int .i64 b, .int .i64 c]] w fun e w' => e = .returned (.agg #[.int .i64 a, .int .i64 b, .int .i64 c]) ∧ Below w.heap.size w w' := by
  have heq := fun w => run_equalIn_arr3 (P := Try.prog) w 9998 (k := .i64) a b c 0 0 0 Try.underlying74 Try.underlying3 (Try.sizeOf3 w) (Try.isAgg3 w)
  by_cases h : a = 0 ∧ b = 0 ∧ c = 0
  · obtain ⟨rfl, rfl, rfl⟩ := h
    go_enter Try.func66, Try.ntmps66
    go_wp2
    exact bodyPost_ret (v := .agg #[.int .i64 0, .int .i64 0, .int .i64 0]) (by simp [results, Try.results66, go_sem]) rfl ⟨rfl, by go_grown⟩
  · have hb : (a == 0 && b == 0 && c == 0) = false := by
      rw [Bool.eq_false_iff]; simp; intro h1 h2 h3; exact h ⟨h1, h2, h3⟩
    clear h
    go_enter Try.func66, Try.ntmps66
    go_wp2
    exact bodyPost_ret (v := .agg #[.int .i64 a, .int .i64 b, .int .i64 c]) (by simp [results, Try.results66, go_sem]) rfl ⟨rfl, by go_grown⟩

theorem cntA (s : ByteArray) : cnt isA s = s.size := by
  unfold cnt
  have : ∀ l : List UInt8, l.countP isA = l.length := fun l => by
    rw [List.countP_eq_length]; intro a _; rfl
  rw [this]
  simp

set_option maxHeartbeats 400000 in
theorem of_any (s : ByteArray) (w : World) (hs : s.size ≤ maxLen) :
    Calls Try.prog 32 #[.string s] w fun e w' => e = .returned (.agg #[.int .i64 (s.size : Int), .int .i64 ((cnt isB s : Nat) : Int), .int .i64 ((cnt isF s : Nat) : Int)]) ∧ Below w.heap.size w w' := by
  have i0 : ∀ w, (Instr.index 77 (.agg #[.func (.func 62) #[] #[], .func (.func 63) #[] #[], .func (.func 64) #[] #[]]) (.int .i64 0)).run Try.prog w = .ok (.func (.func 62) #[] #[]) w := fun _ => by kernel_rfl
  have i1 : ∀ w, (Instr.index 77 (.agg #[.func (.func 62) #[] #[], .func (.func 63) #[] #[], .func (.func 64) #[] #[]]) (.int .i64 1)).run Try.prog w = .ok (.func (.func 63) #[] #[]) w := fun _ => by kernel_rfl
  have i2 : ∀ w, (Instr.index 77 (.agg #[.func (.func 62) #[] #[], .func (.func 63) #[] #[], .func (.func 64) #[] #[]]) (.int .i64 2)).run Try.prog w = .ok (.func (.func 64) #[] #[]) w := fun _ => by kernel_rfl
  go_enter Try.func32, Try.ntmps32
  go_wp2
  refine wp_loop_rounds 4 ?_
  rw [rounds_succ]
  go_wp2_with (go_at_call 65; refine (countA_any _ _ hs).mono ?_; rintro e w' ⟨rfl, rfl⟩)
  rw [rounds_succ]
  go_wp2_with (go_at_call 65; refine (countB_any _ _ hs).mono ?_; rintro e w' ⟨rfl, rfl⟩)
  rw [rounds_succ]
  go_wp2_with (go_at_call 65; refine (countF_any _ _ hs).mono ?_; rintro e w' ⟨rfl, rfl⟩)
  rw [rounds_succ]
  go_wp2_with fail
  refine (measured_any _ _ _ _).mono ?_
  rintro e w1 ⟨rfl, hb⟩
  obtain ⟨hc, hf⟩ := bcell hb
  have hz : w.heap.size + 1 < w1.heap.size := by have := hb.size; simp at this; omega
  go_wp2
  have hb0 := block_setCell (block_setCell (block_setCell (block_below hb (block_alloc (block_new w _) _) (by simp; omega)) 0 (.int .i64 ((cnt isA s : Nat) : Int))) 1 (.int .i64 ((cnt isB s : Nat) : Int))) 2 (.int .i64 ((cnt isF s : Nat) : Int))
  exact bodyPost_ret (res3 Try.results32 (Try.isAgg27 _) (Try.sizeOf27 _) rfl hb0) rfl ⟨by rw [cntA], (((Below.refl _ _).alloc (Nat.le_refl _) _).alloc (by simp) _).trans (hb.mono (by simp; omega)) |>.setCell (by simp) _ |>.setCell (by simp) _ |>.setCell (by simp) _⟩

theorem isC_eq (b : UInt8) : (decide ((128 : Int) ≤ (b.toNat : Int)) && decide ((b.toNat : Int) < 192)) = !isB b := by
  unfold isB
  by_cases h1 : (b.toNat : Int) < 128
  · rw [decide_eq_true h1, decide_eq_false (by omega)]; rfl
  · by_cases h2 : (191 : Int) < (b.toNat : Int)
    · rw [decide_eq_false h1, decide_eq_true h2, decide_eq_false (show ¬ (b.toNat : Int) < 192 by omega), Bool.and_false]; rfl
    · rw [decide_eq_false h1, decide_eq_false h2, decide_eq_true (show (b.toNat : Int) < 192 by omega), decide_eq_true (by omega)]; rfl

set_option maxHeartbeats 400000 in
theorem cont_any (b : UInt8) (w : World) :
    Calls Try.prog 73 #[.int .u8 b.toNat] w fun e w' => e = .returned (.bool (!isB b)) ∧ w = w' := by
  rw [← isC_eq]
  by_cases h : (128 : Int) ≤ (b.toNat : Int)
  · rw [decide_eq_true h, Bool.true_and]
    go_enter Try.func73, Try.ntmps73
    go_wp2
    go_ret
    exact ⟨rfl, rfl⟩
  · rw [decide_eq_false h, Bool.false_and]
    go_enter Try.func73, Try.ntmps73
    go_wp2
    go_ret
    exact ⟨rfl, rfl⟩

set_option maxHeartbeats 400000 in
theorem refCount_any (s : ByteArray) (w : World) (hs : s.size ≤ maxLen) :
    Calls Try.prog 69 #[.string s] w fun e w' => e = .returned (.int .i64 ((cnt isB s : Nat) : Int)) ∧ w = w' := by
  unfold maxLen at hs
  go_enter Try.func69, Try.ntmps69
  go_wp2
  go_loop [3, 4] (fun n i => ∃ k : Nat, k ≤ s.size ∧ i = .int .i64 k ∧ n = .int .i64 ((cntTo isB s k : Nat) : Int)) (fun _ i => s.size - (intOf i).toNat)
  case atStart => exact ⟨0, Nat.zero_le _, rfl, rfl⟩
  case round =>
    obtain ⟨k, hk, rfl, rfl⟩ := hrel
    have hl := cntTo_le isB s k
    by_cases hlt : k < s.size
    · rcases hp : isB s[k] with _ | _
      · have HC := Lib.hid (cntTo_no isB s k hlt hp)
        go_wp2_with (go_at_call 73; refine (cont_any _ _).mono ?_; rintro e w' ⟨rfl, rfl⟩)
        all_goals
          go_round
          case rel => exact ⟨k + 1, by omega, by go_num, by rw [HC.out]⟩
          case measure => simp [intOf]; omega
      · have HC := Lib.hid (cntTo_yes isB s k hlt hp)
        go_wp2_with (go_at_call 73; refine (cont_any _ _).mono ?_; rintro e w' ⟨rfl, rfl⟩)
        all_goals
          go_round
          case rel => exact ⟨k + 1, by omega, by go_num, by rw [HC.out]; go_num⟩
          case measure => simp [intOf]; omega
    · have HT := Lib.hid (cntTo_end isB s k hlt)
      go_wp2
      go_ret
      rw [HT.out]
      exact ⟨rfl, rfl⟩

set_option maxHeartbeats 400000 in
theorem refOf_any (s : ByteArray) (w : World) (hs : s.size ≤ maxLen) :
    Calls Try.prog 45 #[.string s] w fun e w' => e = .returned (.agg #[.int .i64 (s.size : Int), .int .i64 ((cnt isB s : Nat) : Int), .int .i64 ((cnt isF s : Nat) : Int)]) ∧ Below w.heap.size w w' := by
  have hs' : s.size ≤ 9223372036854775807 := hs
  go_enter Try.func45, Try.ntmps45
  go_wp2_with (go_at_call 69; refine (refCount_any _ _ hs).mono ?_; rintro e w' ⟨rfl, rfl⟩)
  go_loopw [4] (fun i wr => ∃ k : Nat, k ≤ s.size ∧ i = .int .i64 k ∧ wr = (w.alloc (.cells #[.int .i64 0, .int .i64 0, .int .i64 0] 27)).alloc (.cells #[.int .i64 (s.size : Int), .int .i64 ((cnt isB s : Nat) : Int), .int .i64 ((cntTo isF s k : Nat) : Int)] 27)) (fun i _ => s.size - (intOf i).toNat)
  case atStart => exact ⟨0, Nat.zero_le _, rfl, rfl⟩
  case round =>
    obtain ⟨k, hk, rfl, rfl⟩ := hrel
    have hl := cntTo_le isF s k
    by_cases hlt : k < s.size
    · rcases hp : isF s[k] with _ | _
      · have HC := Lib.hid (cntTo_no isF s k hlt hp)
        unfold isF at hp
        go_wp2
        all_goals
          go_roundw
          case rel => exact ⟨k + 1, by omega, by go_num, by rw [HC.out]⟩
          case measure => simp [intOf]; omega
      · have HC := Lib.hid (cntTo_yes isF s k hlt hp)
        unfold isF at hp
        go_wp2
        all_goals
          go_roundw
          case rel => exact ⟨k + 1, by omega, by go_num, by rw [HC.out]; rfl⟩
          case measure => simp [intOf]; omega
    · have HT := Lib.hid (cntTo_end isF s k hlt)
      go_wp2
      exact bodyPost_ret (v := .agg #[.int .i64 (s.size : Int), .int .i64 ((cnt isB s : Nat) : Int), .int .i64 ((cntTo isF s k : Nat) : Int)]) (by simp [results, Try.results45, go_sem]) rfl ⟨by rw [HT.out], by go_grown⟩

theorem lines_le_runes (s : ByteArray) : cnt isF s ≤ cnt isB s := by
  unfold cnt
  refine List.countP_mono_left fun b _ hb => ?_
  unfold isF at hb
  unfold isB
  have h : (b.toNat : Int) = 10 := by simpa using hb
  rw [decide_eq_true (show (b.toNat : Int) < 128 by omega)]
  rfl

abbrev Trip := Int × Int × Int
/-- the sum of measures, component by component, as int adds -/
def addM (x y : Trip) : Trip := (wrap64 (x.1 + y.1), wrap64 (x.2.1 + y.2.1), wrap64 (x.2.2 + y.2.2))
def sumTo (l : List Trip) (k : Nat) : Trip := (l.take k).foldl addM (0, 0, 0)
def sumM (l : List Trip) : Trip := l.foldl addM (0, 0, 0)
def aggM (x : Trip) : Value := .agg #[.int .i64 x.1, .int .i64 x.2.1, .int .i64 x.2.2]

theorem sumTo_end (l : List Trip) : sumTo l l.length = sumM l := by unfold sumTo sumM; rw [List.take_length]
theorem sumTo_succ (l : List Trip) (k : Nat) (h : k < l.length) : sumTo l (k + 1) = addM (sumTo l k) l[k] := by
  unfold sumTo
  rw [List.take_succ_eq_append_getElem h, List.foldl_append]; rfl

/-- the slice value (a, n) reads as the measures l -/
def IsMs (w : World) (a : Option Addr) (n : Nat) (l : List Trip) : Prop :=
  l.length = n ∧ (0 < n → ∃ b off, a = some ⟨b, off, none⟩ ∧ ∀ k (h : k < l.length), w.cell? ⟨b, off + k * 3, none⟩ = some (.int .i64 l[k].1) ∧
    w.cell? ⟨b, off + k * 3 + 1, none⟩ = some (.int .i64 l[k].2.1) ∧ w.cell? ⟨b, off + k * 3 + 2, none⟩ = some (.int .i64 l[k].2.2))

theorem run_index3 (x y z : Value) : (∀ w, (Instr.index 68 (.agg #[x, y, z]) (.int .i64 0)).run Try.prog w = .ok x w) ∧ (∀ w, (Instr.index 68 (.agg #[x, y, z]) (.int .i64 1)).run Try.prog w = .ok y w) ∧
    (∀ w, (Instr.index 68 (.agg #[x, y, z]) (.int .i64 2)).run Try.prog w = .ok z w) := by
  refine ⟨fun _ => by kernel_rfl, fun _ => by kernel_rfl, fun _ => by kernel_rfl⟩

set_option maxRecDepth 100000 in
set_option maxHeartbeats 1000000 in
theorem add_some (b off n c : Nat) (l : List Trip) (w : World) (hl : l.length = n) (hn : n ≤ 9223372036854775807)
    (hcell : ∀ k (h : k < l.length), w.cell? ⟨b, off + k * 3, none⟩ = some (.int .i64 l[k].1) ∧
    w.cell? ⟨b, off + k * 3 + 1, none⟩ = some (.int .i64 l[k].2.1) ∧ w.cell? ⟨b, off + k * 3 + 2, none⟩ = some (.int .i64 l[k].2.2)) (hbs : b < w.heap.size) :
    Calls Try.prog 33 #[.slice (some ⟨b, off, none⟩) n c] w fun e w' => e = .returned (aggM (sumM l)) ∧ Below w.heap.size w w' := by
  have HCELL := Lib.hid hcell
  clear hcell
  go_enter Try.func33, Try.ntmps33
  go_wp2_with fail
  go_loopw [10] (fun i wr => ∃ k : Nat, k ≤ n ∧ i = .int .i64 k ∧ Below w.heap.size w wr ∧ wr.heap[w.heap.size]? = some (.cells #[.int .i64 0, .int .i64 0, .int .i64 0] 27 (0, 0)) ∧
      wr.heap[w.heap.size + 1]? = some (.cells #[.int .i64 (sumTo l k).1, .int .i64 (sumTo l k).2.1, .int .i64 (sumTo l k).2.2] 74 (0, 0))) (fun i _ => n - (intOf i).toNat)
  case atStart => exact ⟨0, Nat.zero_le _, rfl, ((Below.refl _ _).alloc (Nat.le_refl _) _).alloc (by simp) _, block_alloc (block_new w _) _, block_new' _ _ _ (by simp)⟩
  case round =>
    obtain ⟨k, hk, rfl, hbr, hb0, hb1⟩ := hrel
    by_cases hlt : k < n
    · have hkl : k < l.length := by omega
      obtain ⟨m0, m1, m2⟩ := HCELL.out k hkl
      rw [← hbr.cell (p := ⟨b, off + k * 3, none⟩) hbs] at m0
      rw [← hbr.cell (p := ⟨b, off + k * 3 + 1, none⟩) hbs] at m1
      rw [← hbr.cell (p := ⟨b, off + k * 3 + 2, none⟩) hbs] at m2
      have hsu := sumTo_succ l k hkl
      have HSU := Lib.hid hsu
      clear hsu
      have q0 := block_cell hb1 0
      have q1 := block_cell hb1 1
      have q2 := block_cell hb1 2
      have f0 := block_free hb1 0
      have f1 := block_free hb1 1
      have f2 := block_free hb1 2
      have hsz := block_lt hb1
      obtain ⟨i0, i1, i2⟩ := run_index3 (.int .i64 l[k].1) (.int .i64 l[k].2.1) (.int .i64 l[k].2.2)
      have HB0 := Lib.hid hb0
      have HB1 := Lib.hid hb1
      clear hb0 hb1
      simp at q0 q1 q2
      go_wp2_with fail
      refine wp_loop_rounds 4 ?_
      rw [rounds_succ]
      go_wp2_with fail
      rw [rounds_succ]
      go_wp2_with fail
      rw [rounds_succ]
      go_wp2_with fail
      rw [rounds_succ]
      go_wp2_with fail
      go_roundw
      case rel =>
        refine ⟨k + 1, by omega, by go_num, (((hbr.setCell (by simp) _).setCell (by simp) _).setCell (by simp) _).alloc (by simp [World.setCell]; omega) _, ?_, ?_⟩
        · exact block_alloc (block_setCell_other (block_setCell_other (block_setCell_other HB0.out (by simp) _) (by simp) _) (by simp) _) _
        · rw [HSU.out]
          exact block_alloc (block_setCell (block_setCell (block_setCell HB1.out 0 _) 1 _) 2 _) _
      case measure => simp [intOf]; omega
    · have hkn : k = l.length := by omega
      have hse : sumTo l k = sumM l := by rw [hkn]; exact sumTo_end l
      have HSE := Lib.hid hse
      clear hse hkn
      have q0 := block_cell hb1 0
      have q1 := block_cell hb1 1
      have q2 := block_cell hb1 2
      have hsz := block_lt hb1
      have HB0 := Lib.hid hb0
      have HB1 := Lib.hid hb1
      clear hb0 hb1
      simp at q0 q1 q2
      go_wp2_with fail
      refine (measured_any _ _ _ _).mono ?_
      rintro e w1 ⟨rfl, hb⟩
      obtain ⟨hc, hf⟩ := bcell hb
      have hz : w.heap.size < w1.heap.size := by have := hb.size; omega
      have g0 := hc w.heap.size 0 (by omega)
      have g1 := hc w.heap.size 1 (by omega)
      have g2 := hc w.heap.size 2 (by omega)
      have e0 := hf w.heap.size 0 (by omega)
      have e1 := hf w.heap.size 1 (by omega)
      have e2 := hf w.heap.size 2 (by omega)
      rw [block_cell HB0.out] at g0 g1 g2
      rw [block_free HB0.out] at e0 e1 e2
      simp at g0 g1 g2
      clear hc hf
      go_wp2_with fail
      have hb0 := block_setCell (block_setCell (block_setCell (block_below hb HB0.out (by omega)) 0 (.int .i64 (sumTo l k).1)) 1 (.int .i64 (sumTo l k).2.1)) 2 (.int .i64 (sumTo l k).2.2)
      exact bodyPost_ret (res3 Try.results33 (Try.isAgg27 _) (Try.sizeOf27 _) rfl hb0) rfl ⟨by rw [HSE.out]; rfl, (((below_step hbr hb).setCell (by simp) _).setCell (by simp) _).setCell (by simp) _⟩

set_option maxRecDepth 100000 in
set_option maxHeartbeats 1000000 in
theorem add_zero (a : Option Addr) (c : Nat) (w : World) :
    Calls Try.prog 33 #[.slice a 0 c] w fun e w' => e = .returned (aggM (sumM [])) ∧ Below w.heap.size w w' := by
  go_enter Try.func33, Try.ntmps33
  go_wp2_with fail
  refine wp_loop_rounds 1 ?_
  rw [rounds_succ]
  go_wp2_with fail
  refine (measured_any _ _ _ _).mono ?_
  rintro e w1 ⟨rfl, hb⟩
  obtain ⟨hc, hf⟩ := bcell hb
  have hz : w.heap.size + 1 < w1.heap.size := by have := hb.size; simp at this; omega
  go_wp2
  have hb0 := block_setCell (block_setCell (block_setCell (block_below hb (block_alloc (block_new w _) _) (by simp; omega)) 0 (.int .i64 0)) 1 (.int .i64 0)) 2 (.int .i64 0)
  exact bodyPost_ret (res3 Try.results33 (Try.isAgg27 _) (Try.sizeOf27 _) rfl hb0) rfl ⟨rfl, (((Below.refl _ _).alloc (Nat.le_refl _) _).alloc (by simp) _).trans (hb.mono (by simp; omega)) |>.setCell (by simp) _ |>.setCell (by simp) _ |>.setCell (by simp) _⟩

theorem add_any (a : Option Addr) (n c : Nat) (l : List Trip) (w : World) (hn : n ≤ 9223372036854775807) (h : IsMs w a n l) :
    Calls Try.prog 33 #[.slice a n c] w fun e w' => e = .returned (aggM (sumM l)) ∧ Below w.heap.size w w' := by
  obtain ⟨hl, h⟩ := h
  rcases Nat.eq_zero_or_pos n with e | e
  · subst e
    obtain rfl : l = [] := List.length_eq_zero_iff.1 hl
    exact add_zero a c w
  · obtain ⟨b, off, rfl, hc⟩ := h e
    refine add_some b off n c l w hl hn hc ?_
    have := (hc 0 (by omega)).1
    rcases Nat.lt_or_ge b w.heap.size with hb | hb
    · exact hb
    · simp [World.cell?, Array.getElem?_eq_none hb] at this

end Go.Proofs.Ytbodacjhhkjdfaa
