/- The arena: New (both sides), Live, Handles of the program. -/
import Derived.Test.YtfgkbnnojogjpaaQb
namespace Go.Proofs.Ytfgkbnnojogjpaa
open Go.RowKit

def newA (n g : Nat) : AS := ⟨newL n g, [], 0, 0, 0⟩
theorem newA_inv {n g : Nat} (h1 : 1 ≤ n) (h2 : n ≤ 16384) (h3 : 1 ≤ g) (h4 : g ≤ 4294967295) : AInv (newA n g) where
  f := newL_inv h1 h2 h3 h4
  nd := List.nodup_nil
  liv := fun h => by
    constructor
    · intro hl
      have : (0 : Nat) = 1 := hl.2.2.1
      omega
    · intro hh; exact absurd hh (by simp [newA, AS.keys])
  ok := fun p hp => absurd hp (by simp [newA])
/-- the blocks lie at b0 or above -/
def PB.ge (B : PB) (b0 : Nat) : Prop := ∀ q, B.own q → b0 ≤ q
/-- what New returns, where the numbers are in range -/
def NewA (w : World) (n g : Nat) (e : Ending) (w' : World) : Prop :=
  ∃ B : PB, e = .returned (.tuple #[.pointer (some ⟨B.p, 0, none⟩), .int .i64 0]) ∧ IsA w' B (newA n g) ∧ Below w.heap.size w w' ∧ B.ge w.heap.size

theorem mk_map (w : World) : (Instr.makeMap 86 none).run Try.prog w = .ok (.map (some w.heap.size)) (w.alloc (.map #[] 0)) := by
  simp [Instr.makeMap, Result.andThen]
theorem newA_isA {w w1 : World} {b : LB} {n g : Nat} (hl : IsL w1 b (newL n g)) (hb : Below w.heap.size w w1) (hg : b.ge w.heap.size) (w2 : World)
    (hw : w2 = (w1.alloc (.map #[] 0)).alloc (.cells #[.int .i64 n, .pointer (some ⟨b.p, 0, none⟩), .map (some w1.heap.size), .int .i64 0, .int .i64 0, .int .i64 0] 88)) :
    NewA w n g (.returned (.tuple #[.pointer (some ⟨w1.heap.size + 1, 0, none⟩), .int .i64 0])) w2 := by
  subst hw
  have hb2 := ((Below.refl w1.heap.size w1).alloc (Nat.le_refl _) (.map #[] 0)).alloc (by simp) (.cells #[.int .i64 n, .pointer (some ⟨b.p, 0, none⟩), .map (some w1.heap.size), .int .i64 0, .int .i64 0, .int .i64 0] 88)
  refine ⟨⟨b, w1.heap.size + 1, w1.heap.size⟩, rfl, ⟨block_new' _ _ _ (by simp), hl.below hb2 (Nat.le_refl _), #[], 0, block_alloc (block_new w1 _) _, rfl, fun i hi => absurd hi (Nat.not_lt_zero _)⟩, below_two hb hb2, ?_⟩
  have := hb.size
  rintro q (rfl | rfl | rfl | rfl | rfl | rfl)
  · show w.heap.size ≤ w1.heap.size + 1; omega
  · exact this
  · exact hg.1
  · exact hg.2.1
  · exact hg.2.2.1
  · exact hg.2.2.2

set_option maxRecDepth 100000 in
set_option maxHeartbeats 2000000 in
theorem newA_bad (n g : Int) (w : World) (h : ¬ newOK n g) :
    Calls Try.prog 10 #[.int .i64 n, .int .u64 g] w fun e w' => e = .returned (.tuple #[.pointer none, .int .i64 3]) ∧ w = w' := by
  have c1 : Calls Try.prog 39 #[.int .i64 n, .int .u64 g] w fun e w' => e = .returned (.tuple #[.pointer none, .int .i64 3]) ∧ w = w' := by
    unfold newOK at h
    by_cases e : n < 1 ∨ 16384 < n
    · exact new_n n g w e
    · exact new_g n g w (by omega) (by omega) (by omega)
  have C1 := Lib.hid c1
  clear c1 h
  go_enter Try.func10, Try.ntmps10
  go_wp2_with fail
  refine C1.out.mono ?_; rintro e w1 ⟨rfl, rfl⟩
  go_wp2_with fail
  go_ret2
  exact ⟨rfl, rfl⟩

set_option maxRecDepth 100000 in
set_option maxHeartbeats 2000000 in
theorem newA_ok (n g : Nat) (w : World) (h1 : 1 ≤ n) (h2 : n ≤ 16384) (h3 : 1 ≤ g) (h4 : g ≤ 4294967295) :
    Calls Try.prog 10 #[.int .i64 n, .int .u64 g] w fun e w' => NewA w n g e w' := by
  have hmm := mk_map
  go_enter Try.func10, Try.ntmps10
  go_wp2_with fail
  refine (new_ok n g w h1 h2 h3 h4).mono ?_; rintro e w1 hh
  obtain ⟨b, rfl, hl, hb, hge⟩ := hh
  have HL := Lib.hid hl
  have HB := Lib.hid hb
  have HG := Lib.hid (show b.ge w.heap.size from hge)
  clear hl hb hge
  go_wp2_with fail
  go_ret2
  exact newA_isA HL.out HB.out HG.out _ rfl

set_option maxRecDepth 100000 in
set_option maxHeartbeats 2000000 in
theorem refNewA_bad (n g : Int) (w : World) (h : ¬ newOK n g) :
    Calls Try.prog 11 #[.int .i64 n, .int .u64 g] w fun e w' => e = .returned (.tuple #[.pointer none, .int .i64 3]) ∧ w = w' := by
  have c1 : Calls Try.prog 40 #[.int .i64 n, .int .u64 g] w fun e w' => e = .returned (.tuple #[.pointer none, .int .i64 3]) ∧ w = w' := by
    unfold newOK at h
    by_cases e : n < 1 ∨ 16384 < n
    · exact refNew_n n g w e
    · exact refNew_g n g w (by omega) (by omega) (by omega)
  have C1 := Lib.hid c1
  clear c1 h
  go_enter Try.func11, Try.ntmps11
  go_wp2_with fail
  refine C1.out.mono ?_; rintro e w1 ⟨rfl, rfl⟩
  go_wp2_with fail
  go_ret2
  exact ⟨rfl, rfl⟩

set_option maxRecDepth 100000 in
set_option maxHeartbeats 2000000 in
theorem refNewA_ok (n g : Nat) (w : World) (h1 : 1 ≤ n) (h2 : n ≤ 16384) (h3 : 1 ≤ g) (h4 : g ≤ 4294967295) :
    Calls Try.prog 11 #[.int .i64 n, .int .u64 g] w fun e w' => ∃ p, e = .returned (.tuple #[.pointer (some ⟨p, 0, none⟩), .int .i64 0]) ∧ Below w.heap.size w w' := by
  go_enter Try.func11, Try.ntmps11
  go_wp2_with fail
  refine (refNew_ok n g w h1 h2 h3 h4).mono ?_; rintro e w1 hh
  obtain ⟨b, rfl, hl, hb, -⟩ := hh
  have HB := Lib.hid hb
  clear hl hb
  go_wp2_with fail
  go_ret2
  exact ⟨_, rfl, HB.out.alloc HB.out.size _⟩

set_option maxRecDepth 100000 in
set_option maxHeartbeats 2000000 in
theorem liveA_any (B : PB) (A : AS) (h : Int) (w : World) (h0 : 0 ≤ h) (h1 : h ≤ 18446744073709551615) (ha : IsA w B A) :
    Calls Try.prog 33 #[.pointer (some ⟨B.p, 0, none⟩), .int .u64 h] w fun e w' => e = .returned (.bool (decide (liveL A.x h))) ∧ ∃ n, w' = w.drewN n := by
  have HL := Lib.hid (live_any B.lb A.x h w h0 h1 ha.2.1)
  have hp := ha.1
  (have q0 := block_cell hp 0; have q1 := block_cell hp 1; have q2 := block_cell hp 2; have q3 := block_cell hp 3; have q4 := block_cell hp 4; have q5 := block_cell hp 5; have f0 := block_free hp 0; have f1 := block_free hp 1; have f2 := block_free hp 2; have f3 := block_free hp 3; have f4 := block_free hp 4; have f5 := block_free hp 5; have hz := block_lt hp; simp at q0 q1 q2 q3 q4 q5)
  clear hp ha
  go_enter Try.func33, Try.ntmps33
  go_wp2_with fail
  refine HL.out.mono ?_; rintro e w1 ⟨rfl, n, rfl⟩
  go_wp2_with fail
  go_ret
  exact ⟨rfl, _, rfl⟩

set_option maxRecDepth 100000 in
set_option maxHeartbeats 2000000 in
theorem handlesA_any (B : PB) (A : AS) (w : World) (ha : IsA w B A) (hf : FInv A.x) :
    Calls Try.prog 18 #[.pointer (some ⟨B.p, 0, none⟩)] w fun e w' => NewHs w A.x e w' := by
  have HL := Lib.hid (handles_any B.lb A.x w ha.2.1 hf)
  have hp := ha.1
  (have q0 := block_cell hp 0; have q1 := block_cell hp 1; have q2 := block_cell hp 2; have q3 := block_cell hp 3; have q4 := block_cell hp 4; have q5 := block_cell hp 5; have f0 := block_free hp 0; have f1 := block_free hp 1; have f2 := block_free hp 2; have f3 := block_free hp 3; have f4 := block_free hp 4; have f5 := block_free hp 5; have hz := block_lt hp; simp at q0 q1 q2 q3 q4 q5)
  clear hp ha
  go_enter Try.func18, Try.ntmps18
  go_wp2_with fail
  refine HL.out.mono ?_; rintro e w1 hh
  obtain ⟨v, rfl, ho, hb⟩ := hh
  have HO := Lib.hid ho
  have HB := Lib.hid hb
  clear ho hb
  go_wp2_with fail
  go_ret
  exact ⟨_, rfl, HO.out, HB.out⟩
end Go.Proofs.Ytfgkbnnojogjpaa
