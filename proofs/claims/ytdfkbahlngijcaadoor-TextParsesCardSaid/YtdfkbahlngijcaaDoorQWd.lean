/- Text: strings.SplitAfterSeq, strings.CutSuffix at a line feed, text.numbers: their walks. (printed by slim.py.) -/
import Derived.Test.YtdfkbahlngijcaaDoorQWc
namespace Go.Proofs.YtdfkbahlngijcaaDoor
open Go.RowKit
set_option linter.unusedVariables false

def seqW (s : ByteArray) (w : World) : World := ((w.alloc (.cells #[.string s] 9)).alloc (.cells #[.string ⟨#[10]⟩] 9)).alloc (.cells #[.int .i64 1] 3)
def seqV (b : Nat) : Value := .func (.func 102) #[] #[.pointer (some ⟨b + 1, 0, none⟩), .pointer (some ⟨b, 0, none⟩), .pointer (some ⟨b + 2, 0, none⟩)]
set_option maxRecDepth 100000 in
set_option maxHeartbeats 2000000 in
theorem splitSeq_any (s : ByteArray) (w : World) : Calls Tryd.prog 77 #[.string s, .string ⟨#[10]⟩, .int .i64 1] w fun e w' => e = .returned (seqV w.heap.size) ∧ seqW s w = w' := by
  have hmf : ∀ (fn : Fn) (first cap : Array Value) (w : World), (Instr.makeFunc fn first cap).run Tryd.prog w = .ok (.func fn first cap) w := fun _ _ _ _ => rfl
  unfold seqW seqV
  go_enter Tryd.func77, Tryd.ntmps77
  go_wp2_with fail
  go_ret
  exact ⟨rfl, rfl⟩
set_option maxRecDepth 100000 in
set_option maxHeartbeats 2000000 in
theorem splitAfterSeq_any (s : ByteArray) (w : World) : Calls Tryd.prog 42 #[.string s, .string ⟨#[10]⟩] w fun e w' => e = .returned (seqV w.heap.size) ∧ seqW s w = w' := by
  have HS := Lib.hid (splitSeq_any s w)
  generalize seqW s w = w2 at *
  generalize seqV w.heap.size = v at *
  go_enter Tryd.func42, Tryd.ntmps42
  go_wp2_with fail
  refine (HS.out).mono ?_; rintro e w3 ⟨rfl, rfl⟩
  go_wp2_with fail
  go_ret
  exact ⟨rfl, rfl⟩
theorem ext_back (l : List UInt8) (c : UInt8) : (⟨(l ++ [c]).toArray⟩ : ByteArray).extract l.length (l.length + 1) = ⟨#[c]⟩ := by
  rw [ext_list, List.take_of_length_le (by simp), List.drop_left]
theorem ext_front (l : List UInt8) (c : UInt8) : (⟨(l ++ [c]).toArray⟩ : ByteArray).extract 0 l.length = ⟨l.toArray⟩ := by
  rw [ext_list, List.drop_zero, List.take_left]
theorem one_is (c : UInt8) : ((⟨#[c]⟩ : ByteArray).toList == [10]) = decide (c = 10) := by
  rw [ByteArray.toList_eq]
  show ([c] == [10]) = _
  by_cases h : c = 10
  · subst h; rfl
  · rw [decide_eq_false h, beq_eq_false_iff_ne]
    exact fun e => h (by injection e)
set_option maxRecDepth 100000 in
set_option maxHeartbeats 4000000 in
theorem hasSuffix_any (l : List UInt8) (c : UInt8) (w : World) (hl : l.length ≤ 100000000) : Calls Tryd.prog 105 #[.string ⟨(l ++ [c]).toArray⟩, .string ⟨#[10]⟩] w fun e w' => e = .returned (.bool (decide (c = 10))) ∧ w = w' := by
  have HE := Lib.hid (show ((⟨(l ++ [c]).toArray⟩ : ByteArray).extract l.length (l.length + 1)).toList = (⟨#[c]⟩ : ByteArray).toList by rw [ext_back])
  have hsz : (⟨(l ++ [c]).toArray⟩ : ByteArray).size = l.length + 1 := by show (l ++ [c]).toArray.size = _; simp
  have HV := Lib.hid (one_is c)
  generalize hS : (⟨(l ++ [c]).toArray⟩ : ByteArray) = S at *
  clear hS
  go_enter Tryd.func105, Tryd.ntmps105
  go_wp2_with fail
  go_ret
  exact ⟨by rw [← HV.out, ← HE.out] <;> rfl, rfl⟩
set_option maxRecDepth 100000 in
set_option maxHeartbeats 4000000 in
theorem cutSuf_any (l : List UInt8) (c : UInt8) (w : World) (hl : l.length ≤ 100000000) : Calls Tryd.prog 78 #[.string ⟨(l ++ [c]).toArray⟩, .string ⟨#[10]⟩] w fun e w' => e = .returned (.tuple #[.string ⟨(if c = 10 then l else l ++ [c]).toArray⟩, .bool (decide (c = 10))]) ∧ w = w' := by
  have HH := Lib.hid (hasSuffix_any l c w hl)
  have HF := Lib.hid (ext_front l c)
  have hsz : (⟨(l ++ [c]).toArray⟩ : ByteArray).size = l.length + 1 := by show (l ++ [c]).toArray.size = _; simp
  generalize hS : (⟨(l ++ [c]).toArray⟩ : ByteArray) = S at *
  have HS := Lib.hid hS
  clear hS
  by_cases h : c = 10
  · rw [decide_eq_true h] at HH ⊢
    rw [if_pos h]
    clear h
    go_enter Tryd.func78, Tryd.ntmps78
    go_wp2_with fail
    refine (HH.out).mono ?_; rintro e w1 ⟨rfl, rfl⟩
    go_wp2_with fail
    go_ret2
    exact ⟨by rw [← HF.out] <;> rfl, rfl⟩
  · rw [decide_eq_false h] at HH ⊢
    rw [if_neg h, HS.out]
    clear h
    go_enter Tryd.func78, Tryd.ntmps78
    go_wp2_with fail
    refine (HH.out).mono ?_; rintro e w1 ⟨rfl, rfl⟩
    go_wp2_with fail
    go_ret2
    exact ⟨rfl, rfl⟩
set_option maxRecDepth 100000 in
set_option maxHeartbeats 4000000 in
theorem cutSuffix_any (l : List UInt8) (c : UInt8) (w : World) (hl : l.length ≤ 100000000) : Calls Tryd.prog 43 #[.string ⟨(l ++ [c]).toArray⟩, .string ⟨#[10]⟩] w fun e w' => e = .returned (.tuple #[.string ⟨(if c = 10 then l else l ++ [c]).toArray⟩, .bool (decide (c = 10))]) ∧ w = w' := by
  have HH := Lib.hid (cutSuf_any l c w hl)
  generalize (if c = 10 then l else l ++ [c]) = r at *
  generalize (l ++ [c]) = q at *
  go_enter Tryd.func43, Tryd.ntmps43
  go_wp2_with fail
  refine (HH.out).mono ?_; rintro e w1 ⟨rfl, rfl⟩
  go_wp2_with fail
  go_ret2
  exact ⟨rfl, rfl⟩
end Go.Proofs.YtdfkbahlngijcaaDoor

