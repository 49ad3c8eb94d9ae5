/- The freelist: slices of integers as functions; EqualInts, EqualHandles. -/
import Derived.Test.YtpcpjmgkdbgopaaDoorFj
namespace Go.Proofs.YtpcpjmgkdbgopaaDoor
open Go.RowKit

theorem drew2 (w : World) (m n : Nat) : ∃ k, (w.drewN m).drewN n = w.drewN k := ⟨m + n, by simp only [World.drewN, Nat.add_assoc]⟩
/-- the slice v has n elements, f 0, f 1, .. -/
def Sl (w : World) (v : Value) (n : Nat) (f : Nat → Value) : Prop :=
  ∃ (ao : Option Addr) (c : Nat), v = .slice ao n c ∧ (0 < n → ∃ b o, ao = some ⟨b, o, none⟩ ∧ ∀ i, i < n → w.cell? ⟨b, o + i, none⟩ = some (f i))
theorem Sl.drewN {w : World} {v : Value} {n : Nat} {f : Nat → Value} (h : Sl w v n f) (m : Nat) : Sl (w.drewN m) v n f := h

def EqTo (n : Nat) (f g : Nat → Int) : Prop := ∀ i, i < n → f i = g i
instance (n : Nat) (f g : Nat → Int) : Decidable (EqTo n f g) := Nat.decidableBallLT n fun i _ => f i = g i

set_option maxRecDepth 100000 in
set_option maxHeartbeats 2000000 in
theorem equalInts_len (w : World) (v v' : Value) (n n' : Nat) (f g : Nat → Value) (h : Sl w v n f) (h' : Sl w v' n' g) (hne : n ≠ n') :
    Calls Tryd.prog 20 #[v, v'] w fun e w' => e = .returned (.bool false) ∧ ∃ m, w' = w.drewN m := by
  obtain ⟨ao, c, rfl, -⟩ := h
  obtain ⟨ao', c', rfl, -⟩ := h'
  have hd : ((n : Int) == (n' : Int)) = false := by simp; omega
  have hd2 : ((n : Int) != (n' : Int)) = true := by simp; omega
  clear hne
  go_enter Tryd.func20, Tryd.ntmps20
  go_wp2_with fail
  go_ret
  exact ⟨rfl, 0, rfl⟩

set_option maxRecDepth 100000 in
set_option maxHeartbeats 2000000 in
theorem equalInts_same (w : World) (v v' : Value) (n : Nat) (f g : Nat → Int) (h : Sl w v n (fun i => .int .i64 (f i))) (h' : Sl w v' n (fun i => .int .i64 (g i))) (hn : n ≤ 9223372036854775807) :
    Calls Tryd.prog 20 #[v, v'] w fun e w' => e = .returned (.bool (decide (EqTo n f g))) ∧ ∃ m, w' = w.drewN m := by
  obtain ⟨ao, c, rfl, hc⟩ := h
  obtain ⟨ao', c', rfl, hc'⟩ := h'
  have HC := Lib.hid hc
  have HC' := Lib.hid hc'
  clear hc hc'
  go_enter Tryd.func20, Tryd.ntmps20
  go_wp2_with fail
  go_loopw [5] (fun i wr => ∃ k : Nat, k ≤ n ∧ i = .int .i64 k ∧ EqTo k f g ∧ ∃ m, wr = w.drewN m) (fun i _ => n - (intOf i).toNat)
  case atStart => exact ⟨0, Nat.zero_le _, rfl, fun i hi => absurd hi (Nat.not_lt_zero _), 0, rfl⟩
  case round =>
    obtain ⟨k, hk, rfl, heq, m, rfl⟩ := hrel
    have HEQ := Lib.hid heq
    clear heq
    by_cases hlt : k < n
    · obtain ⟨b, o, rfl, hcell⟩ := HC.out (by omega)
      obtain ⟨b', o', rfl, hcell'⟩ := HC'.out (by omega)
      have q := hcell k hlt
      have q' := hcell' k hlt
      have hk1 : (k : Int) < (n : Int) := by omega
      clear hcell hcell'
      by_cases he : f k = g k
      · rw [← he] at q'
        have heq2 : EqTo (k + 1) f g := fun i hi => by
          by_cases e : i = k
          · rw [e]; exact he
          · exact HEQ.out i (by omega)
        have HEQ2 := Lib.hid heq2
        clear heq2 he
        go_wp2_with fail
        go_quiet (fail)
        go_wp2_with fail
        go_roundw
        case rel => exact ⟨k + 1, by omega, by go_num, HEQ2.out, _, rfl⟩
        case measure => simp [intOf]; omega
      · have e : decide (EqTo n f g) = false := decide_eq_false fun h => he (h k hlt)
        have HE := Lib.hid e
        have hne : (f k == g k) = false := by simpa using he
        have hne2 : (f k != g k) = true := by simpa using he
        clear e he
        go_wp2_with fail
        go_quiet (fail)
        go_wp2_with fail
        go_ret
        exact ⟨congrArg (fun b => Ending.returned (.bool b)) HE.out.symm, drew2 _ _ _⟩
    · obtain rfl : k = n := by omega
      have e : decide (EqTo k f g) = true := decide_eq_true HEQ.out
      have HE := Lib.hid e
      clear e
      go_wp2_with fail
      go_ret
      exact ⟨congrArg (fun b => Ending.returned (.bool b)) HE.out.symm, _, rfl⟩

theorem equalInts_any (w : World) (v v' : Value) (n n' : Nat) (f g : Nat → Int) (h : Sl w v n (fun i => .int .i64 (f i))) (h' : Sl w v' n' (fun i => .int .i64 (g i))) (hn : n ≤ 9223372036854775807) :
    Calls Tryd.prog 20 #[v, v'] w fun e w' => e = .returned (.bool (decide (n = n' ∧ EqTo n f g))) ∧ ∃ m, w' = w.drewN m := by
  by_cases e : n = n'
  · subst e
    have := equalInts_same w v v' n f g h h' hn
    rwa [show decide (EqTo n f g) = decide (n = n ∧ EqTo n f g) from decide_eq_decide.2 ⟨fun h => ⟨rfl, h⟩, fun h => h.2⟩] at this
  · rw [show decide (n = n' ∧ EqTo n f g) = false from decide_eq_false fun h => e h.1]
    exact equalInts_len w v v' n n' _ _ h h' e

set_option maxRecDepth 100000 in
set_option maxHeartbeats 2000000 in
theorem equalHandles_len (w : World) (v v' : Value) (n n' : Nat) (f g : Nat → Value) (h : Sl w v n f) (h' : Sl w v' n' g) (hne : n ≠ n') :
    Calls Tryd.prog 38 #[v, v'] w fun e w' => e = .returned (.bool false) ∧ ∃ m, w' = w.drewN m := by
  obtain ⟨ao, c, rfl, -⟩ := h
  obtain ⟨ao', c', rfl, -⟩ := h'
  have hd : ((n : Int) == (n' : Int)) = false := by simp; omega
  have hd2 : ((n : Int) != (n' : Int)) = true := by simp; omega
  clear hne
  go_enter Tryd.func38, Tryd.ntmps38
  go_wp2_with fail
  go_ret
  exact ⟨rfl, 0, rfl⟩

set_option maxRecDepth 100000 in
set_option maxHeartbeats 2000000 in
theorem equalHandles_same (w : World) (v v' : Value) (n : Nat) (f g : Nat → Int) (h : Sl w v n (fun i => .int .u64 (f i))) (h' : Sl w v' n (fun i => .int .u64 (g i))) (hn : n ≤ 9223372036854775807) :
    Calls Tryd.prog 38 #[v, v'] w fun e w' => e = .returned (.bool (decide (EqTo n f g))) ∧ ∃ m, w' = w.drewN m := by
  obtain ⟨ao, c, rfl, hc⟩ := h
  obtain ⟨ao', c', rfl, hc'⟩ := h'
  have HC := Lib.hid hc
  have HC' := Lib.hid hc'
  clear hc hc'
  go_enter Tryd.func38, Tryd.ntmps38
  go_wp2_with fail
  go_loopw [5] (fun i wr => ∃ k : Nat, k ≤ n ∧ i = .int .i64 k ∧ EqTo k f g ∧ ∃ m, wr = w.drewN m) (fun i _ => n - (intOf i).toNat)
  case atStart => exact ⟨0, Nat.zero_le _, rfl, fun i hi => absurd hi (Nat.not_lt_zero _), 0, rfl⟩
  case round =>
    obtain ⟨k, hk, rfl, heq, m, rfl⟩ := hrel
    have HEQ := Lib.hid heq
    clear heq
    by_cases hlt : k < n
    · obtain ⟨b, o, rfl, hcell⟩ := HC.out (by omega)
      obtain ⟨b', o', rfl, hcell'⟩ := HC'.out (by omega)
      have q := hcell k hlt
      have q' := hcell' k hlt
      have hk1 : (k : Int) < (n : Int) := by omega
      clear hcell hcell'
      by_cases he : f k = g k
      · rw [← he] at q'
        have heq2 : EqTo (k + 1) f g := fun i hi => by
          by_cases e : i = k
          · rw [e]; exact he
          · exact HEQ.out i (by omega)
        have HEQ2 := Lib.hid heq2
        clear heq2 he
        go_wp2_with fail
        go_quiet (fail)
        go_wp2_with fail
        go_roundw
        case rel => exact ⟨k + 1, by omega, by go_num, HEQ2.out, _, rfl⟩
        case measure => simp [intOf]; omega
      · have e : decide (EqTo n f g) = false := decide_eq_false fun h => he (h k hlt)
        have HE := Lib.hid e
        have hne : (f k == g k) = false := by simpa using he
        have hne2 : (f k != g k) = true := by simpa using he
        clear e he
        go_wp2_with fail
        go_quiet (fail)
        go_wp2_with fail
        go_ret
        exact ⟨congrArg (fun b => Ending.returned (.bool b)) HE.out.symm, drew2 _ _ _⟩
    · obtain rfl : k = n := by omega
      have e : decide (EqTo k f g) = true := decide_eq_true HEQ.out
      have HE := Lib.hid e
      clear e
      go_wp2_with fail
      go_ret
      exact ⟨congrArg (fun b => Ending.returned (.bool b)) HE.out.symm, _, rfl⟩

theorem equalHandles_any (w : World) (v v' : Value) (n n' : Nat) (f g : Nat → Int) (h : Sl w v n (fun i => .int .u64 (f i))) (h' : Sl w v' n' (fun i => .int .u64 (g i))) (hn : n ≤ 9223372036854775807) :
    Calls Tryd.prog 38 #[v, v'] w fun e w' => e = .returned (.bool (decide (n = n' ∧ EqTo n f g))) ∧ ∃ m, w' = w.drewN m := by
  by_cases e : n = n'
  · subst e
    have := equalHandles_same w v v' n f g h h' hn
    rwa [show decide (EqTo n f g) = decide (n = n ∧ EqTo n f g) from decide_eq_decide.2 ⟨fun h => ⟨rfl, h⟩, fun h => h.2⟩] at this
  · rw [show decide (n = n' ∧ EqTo n f g) = false from decide_eq_false fun h => e h.1]
    exact equalHandles_len w v v' n n' _ _ h h' e
end Go.Proofs.YtpcpjmgkdbgopaaDoor
