/- The freelist: Gen of both sides. -/
import Derived.Test.YtpcpjmgkdbgopaaDoorFi
namespace Go.Proofs.YtpcpjmgkdbgopaaDoor
open Go.RowKit

/-- what Gen returns -/
def genL (x : FL) (i : Int) : Int × Int := if i < 0 ∨ (x.n : Int) ≤ i then (0, 3) else if x.st i.toNat = 2 then (0, 7) else ((x.gn i.toNat : Int), 0)
theorem genV_out {x : FL} {i : Int} (h : i < 0 ∨ (x.n : Int) ≤ i) : genL x i = (0, 3) := if_pos h
theorem genV_gone {x : FL} {k : Nat} (h : k < x.n) (h2 : x.st k = 2) : genL x k = (0, 7) := by
  unfold genL; rw [if_neg (by omega), Int.toNat_natCast, if_pos h2]
theorem genV_in {x : FL} {k : Nat} (h : k < x.n) (h2 : x.st k ≠ 2) : genL x k = ((x.gn k : Int), 0) := by
  unfold genL; rw [if_neg (by omega), Int.toNat_natCast, if_neg h2]

set_option maxRecDepth 100000 in
set_option maxHeartbeats 2000000 in
theorem genL_none (i : Int) (w : World) :
    Calls Tryd.prog 23 #[.pointer none, .int .i64 i] w fun e w' => e = .returned (.tuple #[.int .u64 0, .int .i64 1]) ∧ w = w' := by
  go_enter Tryd.func23, Tryd.ntmps23
  go_wp2_with fail
  go_ret2
  exact ⟨rfl, rfl⟩

set_option maxRecDepth 100000 in
set_option maxHeartbeats 2000000 in
theorem genL_low (b : LB) (x : FL) (i : Int) (h : i < 0) (w : World) (hl : IsL w b x) :
    Calls Tryd.prog 23 #[.pointer (some ⟨b.p, 0, none⟩), .int .i64 i] w fun e w' => e = .returned (.tuple #[.int .u64 0, .int .i64 3]) ∧ w = w' := by
  obtain ⟨l0, l1, l2, l3⟩ := hl
  (have q0 := block_cell l0 0; have q1 := block_cell l0 1; have q2 := block_cell l0 2; have q3 := block_cell l0 3; have f0 := block_free l0 0; have f1 := block_free l0 1; have f2 := block_free l0 2; have f3 := block_free l0 3; have hz := block_lt l0; simp at q0 q1 q2 q3)
  clear l0 l1 l2 l3
  go_enter Tryd.func23, Tryd.ntmps23
  go_wp2_with fail
  go_ret2
  exact ⟨rfl, rfl⟩

set_option maxRecDepth 100000 in
set_option maxHeartbeats 2000000 in
theorem genL_high (b : LB) (x : FL) (i : Int) (h0 : 0 ≤ i) (h : (x.n : Int) ≤ i) (w : World) (hl : IsL w b x) :
    Calls Tryd.prog 23 #[.pointer (some ⟨b.p, 0, none⟩), .int .i64 i] w fun e w' => e = .returned (.tuple #[.int .u64 0, .int .i64 3]) ∧ w = w' := by
  obtain ⟨l0, l1, l2, l3⟩ := hl
  (have q0 := block_cell l0 0; have q1 := block_cell l0 1; have q2 := block_cell l0 2; have q3 := block_cell l0 3; have f0 := block_free l0 0; have f1 := block_free l0 1; have f2 := block_free l0 2; have f3 := block_free l0 3; have hz := block_lt l0; simp at q0 q1 q2 q3)
  clear l0 l1 l2 l3
  go_enter Tryd.func23, Tryd.ntmps23
  go_wp2_with fail
  go_ret2
  exact ⟨rfl, rfl⟩

set_option maxRecDepth 100000 in
set_option maxHeartbeats 2000000 in
theorem genL_gone (b : LB) (x : FL) (k : Nat) (h : k < x.n) (h2 : x.st k = 2) (w : World) (hl : IsL w b x) :
    Calls Tryd.prog 23 #[.pointer (some ⟨b.p, 0, none⟩), .int .i64 k] w fun e w' => e = .returned (.tuple #[.int .u64 0, .int .i64 7]) ∧ w = w' := by
  obtain ⟨l0, l1, l2, l3⟩ := hl
  have c2 := l2.cell h
  simp only [encS] at c2
  rw [h2] at c2
  have hi : (k : Int) < (x.n : Int) := by omega
  (have q0 := block_cell l0 0; have q1 := block_cell l0 1; have q2 := block_cell l0 2; have q3 := block_cell l0 3; have f0 := block_free l0 0; have f1 := block_free l0 1; have f2 := block_free l0 2; have f3 := block_free l0 3; have hz := block_lt l0; simp at q0 q1 q2 q3)
  clear l0 l1 l2 l3 h2
  go_enter Tryd.func23, Tryd.ntmps23
  go_wp2_with fail
  go_ret2
  exact ⟨rfl, rfl⟩

set_option maxRecDepth 100000 in
set_option maxHeartbeats 2000000 in
theorem genL_in (b : LB) (x : FL) (k : Nat) (h : k < x.n) (h2 : x.st k ≠ 2) (w : World) (hl : IsL w b x) :
    Calls Tryd.prog 23 #[.pointer (some ⟨b.p, 0, none⟩), .int .i64 k] w fun e w' => e = .returned (.tuple #[.int .u64 (x.gn k : Int), .int .i64 0]) ∧ w = w' := by
  obtain ⟨l0, l1, l2, l3⟩ := hl
  have c2 := l2.cell h
  have c3 := l3.cell h
  simp only [encS, encU] at c2 c3
  have hi : (k : Int) < (x.n : Int) := by omega
  have hd : ((x.st k : Int) == 2) = false := by simp; omega
  (have q0 := block_cell l0 0; have q1 := block_cell l0 1; have q2 := block_cell l0 2; have q3 := block_cell l0 3; have f0 := block_free l0 0; have f1 := block_free l0 1; have f2 := block_free l0 2; have f3 := block_free l0 3; have hz := block_lt l0; simp at q0 q1 q2 q3)
  clear l0 l1 l2 l3 h2
  go_enter Tryd.func23, Tryd.ntmps23
  go_wp2_with fail
  go_ret2
  exact ⟨rfl, rfl⟩

theorem genL_any (b : LB) (x : FL) (i : Int) (w : World) (hl : IsL w b x) :
    Calls Tryd.prog 23 #[.pointer (some ⟨b.p, 0, none⟩), .int .i64 i] w fun e w' => e = .returned (.tuple #[.int .u64 (genL x i).1, .int .i64 (genL x i).2]) ∧ w = w' := by
  by_cases c1 : i < 0
  · rw [genV_out (.inl c1)]; exact genL_low b x i c1 w hl
  · by_cases c2 : (x.n : Int) ≤ i
    · rw [genV_out (.inr c2)]; exact genL_high b x i (by omega) c2 w hl
    · obtain ⟨k, rfl⟩ := Int.eq_ofNat_of_zero_le (show 0 ≤ i by omega)
      have hk : k < x.n := by omega
      by_cases c3 : x.st k = 2
      · rw [show genL x ((k : Nat) : Int) = (0, 7) from genV_gone hk c3]; exact genL_gone b x k hk c3 w hl
      · rw [show genL x ((k : Nat) : Int) = ((x.gn k : Int), 0) from genV_in hk c3]; exact genL_in b x k hk c3 w hl

set_option maxRecDepth 100000 in
set_option maxHeartbeats 2000000 in
theorem refGenL_none (i : Int) (w : World) :
    Calls Tryd.prog 37 #[.pointer none, .int .i64 i] w fun e w' => e = .returned (.tuple #[.int .u64 0, .int .i64 1]) ∧ w = w' := by
  go_enter Tryd.func37, Tryd.ntmps37
  go_wp2_with fail
  go_ret2
  exact ⟨rfl, rfl⟩

set_option maxRecDepth 100000 in
set_option maxHeartbeats 2000000 in
theorem refGenL_low (b : YB) (x : FL) (i : Int) (h : i < 0) (w : World) (hl : IsY w b x) :
    Calls Tryd.prog 37 #[.pointer (some ⟨b.p, 0, none⟩), .int .i64 i] w fun e w' => e = .returned (.tuple #[.int .u64 0, .int .i64 3]) ∧ w = w' := by
  obtain ⟨l0, l1, l2, l3, -⟩ := hl
  (have q0 := block_cell l0 0; have q1 := block_cell l0 1; have q2 := block_cell l0 2; have q3 := block_cell l0 3; have f0 := block_free l0 0; have f1 := block_free l0 1; have f2 := block_free l0 2; have f3 := block_free l0 3; have hz := block_lt l0; simp at q0 q1 q2 q3)
  clear l0 l1 l2 l3
  go_enter Tryd.func37, Tryd.ntmps37
  go_wp2_with fail
  go_ret2
  exact ⟨rfl, rfl⟩

set_option maxRecDepth 100000 in
set_option maxHeartbeats 2000000 in
theorem refGenL_high (b : YB) (x : FL) (i : Int) (h0 : 0 ≤ i) (h : (x.n : Int) ≤ i) (w : World) (hl : IsY w b x) :
    Calls Tryd.prog 37 #[.pointer (some ⟨b.p, 0, none⟩), .int .i64 i] w fun e w' => e = .returned (.tuple #[.int .u64 0, .int .i64 3]) ∧ w = w' := by
  obtain ⟨l0, l1, l2, l3, -⟩ := hl
  (have q0 := block_cell l0 0; have q1 := block_cell l0 1; have q2 := block_cell l0 2; have q3 := block_cell l0 3; have f0 := block_free l0 0; have f1 := block_free l0 1; have f2 := block_free l0 2; have f3 := block_free l0 3; have hz := block_lt l0; simp at q0 q1 q2 q3)
  clear l0 l1 l2 l3
  go_enter Tryd.func37, Tryd.ntmps37
  go_wp2_with fail
  go_ret2
  exact ⟨rfl, rfl⟩

set_option maxRecDepth 100000 in
set_option maxHeartbeats 2000000 in
theorem refGenL_gone (b : YB) (x : FL) (k : Nat) (h : k < x.n) (h2 : x.st k = 2) (w : World) (hl : IsY w b x) :
    Calls Tryd.prog 37 #[.pointer (some ⟨b.p, 0, none⟩), .int .i64 k] w fun e w' => e = .returned (.tuple #[.int .u64 0, .int .i64 7]) ∧ w = w' := by
  obtain ⟨l0, l1, l2, l3, -⟩ := hl
  have c2 := l2.cell h
  simp only [encI] at c2
  rw [h2] at c2
  have hi : (k : Int) < (x.n : Int) := by omega
  (have q0 := block_cell l0 0; have q1 := block_cell l0 1; have q2 := block_cell l0 2; have q3 := block_cell l0 3; have f0 := block_free l0 0; have f1 := block_free l0 1; have f2 := block_free l0 2; have f3 := block_free l0 3; have hz := block_lt l0; simp at q0 q1 q2 q3)
  clear l0 l1 l2 l3 h2
  go_enter Tryd.func37, Tryd.ntmps37
  go_wp2_with fail
  go_ret2
  exact ⟨rfl, rfl⟩

set_option maxRecDepth 100000 in
set_option maxHeartbeats 2000000 in
theorem refGenL_in (b : YB) (x : FL) (k : Nat) (h : k < x.n) (h2 : x.st k ≠ 2) (w : World) (hl : IsY w b x) :
    Calls Tryd.prog 37 #[.pointer (some ⟨b.p, 0, none⟩), .int .i64 k] w fun e w' => e = .returned (.tuple #[.int .u64 (x.gn k : Int), .int .i64 0]) ∧ w = w' := by
  obtain ⟨l0, l1, l2, l3, -⟩ := hl
  have c2 := l2.cell h
  have c3 := l3.cell h
  simp only [encI, encU] at c2 c3
  have hi : (k : Int) < (x.n : Int) := by omega
  have hd : ((x.st k : Int) == 2) = false := by simp; omega
  (have q0 := block_cell l0 0; have q1 := block_cell l0 1; have q2 := block_cell l0 2; have q3 := block_cell l0 3; have f0 := block_free l0 0; have f1 := block_free l0 1; have f2 := block_free l0 2; have f3 := block_free l0 3; have hz := block_lt l0; simp at q0 q1 q2 q3)
  clear l0 l1 l2 l3 h2
  go_enter Tryd.func37, Tryd.ntmps37
  go_wp2_with fail
  go_ret2
  exact ⟨rfl, rfl⟩

theorem refGenL_any (b : YB) (x : FL) (i : Int) (w : World) (hl : IsY w b x) :
    Calls Tryd.prog 37 #[.pointer (some ⟨b.p, 0, none⟩), .int .i64 i] w fun e w' => e = .returned (.tuple #[.int .u64 (genL x i).1, .int .i64 (genL x i).2]) ∧ w = w' := by
  by_cases c1 : i < 0
  · rw [genV_out (.inl c1)]; exact refGenL_low b x i c1 w hl
  · by_cases c2 : (x.n : Int) ≤ i
    · rw [genV_out (.inr c2)]; exact refGenL_high b x i (by omega) c2 w hl
    · obtain ⟨k, rfl⟩ := Int.eq_ofNat_of_zero_le (show 0 ≤ i by omega)
      have hk : k < x.n := by omega
      by_cases c3 : x.st k = 2
      · rw [show genL x ((k : Nat) : Int) = (0, 7) from genV_gone hk c3]; exact refGenL_gone b x k hk c3 w hl
      · rw [show genL x ((k : Nat) : Int) = ((x.gn k : Int), 0) from genV_in hk c3]; exact refGenL_in b x k hk c3 w hl
end Go.Proofs.YtpcpjmgkdbgopaaDoor
