/- Text: text.words. -/
import Derived.Test.YtdfkbahlngijcaaDoorSk
namespace Go.Proofs.YtdfkbahlngijcaaDoor
open Go.RowKit
set_option linter.unusedVariables false

/-- the words of a kind: its name and the letters of its fields -/
def wordsL : Nat → List UInt8
  | 1 => [105, 110, 115, 101, 114, 116, 32, 97, 116]
  | 2 => [100, 101, 108, 101, 116, 101, 32, 97, 110]
  | 3 => [115, 101, 116, 32, 105, 97, 103]
  | 4 => [100, 114, 111, 112, 32, 105]
  | 5 => [97, 99, 113, 117, 105, 114, 101, 32]
  | 6 => [108, 101, 110, 32, 115]
  | 7 => [114, 101, 97, 100, 32, 115, 97, 110]
  | 8 => [114, 117, 110, 101, 32, 115, 110]
  | 9 => [108, 105, 110, 101, 32, 115, 110]
  | 10 => [109, 97, 114, 107, 32, 115, 105]
  | 11 => [115, 101, 101, 107, 32, 115, 97]
  | 12 => [110, 101, 120, 116, 32, 115, 110]
  | 13 => [114, 101, 108, 101, 97, 115, 101, 32, 115]
  | 14 => [115, 117, 98, 115, 99, 114, 105, 98, 101, 32]
  | 15 => [114, 101, 99, 101, 105, 118, 101, 32]
  | 16 => [99, 108, 111, 115, 101, 32]
  | _ => []
def wordsS (k : Nat) : ByteArray := ⟨(wordsL k).toArray⟩
def wordsA : Array Value := #[.string ⟨#[105, 110, 115, 101, 114, 116, 32, 97, 116]⟩, .string ⟨#[100, 101, 108, 101, 116, 101, 32, 97, 110]⟩, .string ⟨#[115, 101, 116, 32, 105, 97, 103]⟩, .string ⟨#[100, 114, 111, 112, 32, 105]⟩, .string ⟨#[97, 99, 113, 117, 105, 114, 101, 32]⟩, .string ⟨#[108, 101, 110, 32, 115]⟩, .string ⟨#[114, 101, 97, 100, 32, 115, 97, 110]⟩, .string ⟨#[114, 117, 110, 101, 32, 115, 110]⟩, .string ⟨#[108, 105, 110, 101, 32, 115, 110]⟩, .string ⟨#[109, 97, 114, 107, 32, 115, 105]⟩, .string ⟨#[115, 101, 101, 107, 32, 115, 97]⟩, .string ⟨#[110, 101, 120, 116, 32, 115, 110]⟩, .string ⟨#[114, 101, 108, 101, 97, 115, 101, 32, 115]⟩, .string ⟨#[115, 117, 98, 115, 99, 114, 105, 98, 101, 32]⟩, .string ⟨#[114, 101, 99, 101, 105, 118, 101, 32]⟩, .string ⟨#[99, 108, 111, 115, 101, 32]⟩]
theorem wix1 (w : World) : (Instr.index 132 (.agg wordsA) (.int .u8 0)).run Tryd.prog w = .ok (.string (wordsS 1)) w := by kernel_rfl
set_option maxRecDepth 100000 in
set_option maxHeartbeats 16000000 in
theorem words_1 (w : World) : Calls Tryd.prog 54 #[.int .u8 1] w fun e w' => e = .returned (.string (wordsS 1)) ∧ w = w' := by
  have hix := wix1
  unfold wordsA at hix
  generalize wordsS 1 = S at *
  go_enter Tryd.func54, Tryd.ntmps54
  go_wp2_with fail
  go_ret
  exact ⟨rfl, rfl⟩
theorem wix2 (w : World) : (Instr.index 132 (.agg wordsA) (.int .u8 1)).run Tryd.prog w = .ok (.string (wordsS 2)) w := by kernel_rfl
set_option maxRecDepth 100000 in
set_option maxHeartbeats 16000000 in
theorem words_2 (w : World) : Calls Tryd.prog 54 #[.int .u8 2] w fun e w' => e = .returned (.string (wordsS 2)) ∧ w = w' := by
  have hix := wix2
  unfold wordsA at hix
  generalize wordsS 2 = S at *
  go_enter Tryd.func54, Tryd.ntmps54
  go_wp2_with fail
  go_ret
  exact ⟨rfl, rfl⟩
theorem wix3 (w : World) : (Instr.index 132 (.agg wordsA) (.int .u8 2)).run Tryd.prog w = .ok (.string (wordsS 3)) w := by kernel_rfl
set_option maxRecDepth 100000 in
set_option maxHeartbeats 16000000 in
theorem words_3 (w : World) : Calls Tryd.prog 54 #[.int .u8 3] w fun e w' => e = .returned (.string (wordsS 3)) ∧ w = w' := by
  have hix := wix3
  unfold wordsA at hix
  generalize wordsS 3 = S at *
  go_enter Tryd.func54, Tryd.ntmps54
  go_wp2_with fail
  go_ret
  exact ⟨rfl, rfl⟩
theorem wix4 (w : World) : (Instr.index 132 (.agg wordsA) (.int .u8 3)).run Tryd.prog w = .ok (.string (wordsS 4)) w := by kernel_rfl
set_option maxRecDepth 100000 in
set_option maxHeartbeats 16000000 in
theorem words_4 (w : World) : Calls Tryd.prog 54 #[.int .u8 4] w fun e w' => e = .returned (.string (wordsS 4)) ∧ w = w' := by
  have hix := wix4
  unfold wordsA at hix
  generalize wordsS 4 = S at *
  go_enter Tryd.func54, Tryd.ntmps54
  go_wp2_with fail
  go_ret
  exact ⟨rfl, rfl⟩
theorem wix5 (w : World) : (Instr.index 132 (.agg wordsA) (.int .u8 4)).run Tryd.prog w = .ok (.string (wordsS 5)) w := by kernel_rfl
set_option maxRecDepth 100000 in
set_option maxHeartbeats 16000000 in
theorem words_5 (w : World) : Calls Tryd.prog 54 #[.int .u8 5] w fun e w' => e = .returned (.string (wordsS 5)) ∧ w = w' := by
  have hix := wix5
  unfold wordsA at hix
  generalize wordsS 5 = S at *
  go_enter Tryd.func54, Tryd.ntmps54
  go_wp2_with fail
  go_ret
  exact ⟨rfl, rfl⟩
theorem wix6 (w : World) : (Instr.index 132 (.agg wordsA) (.int .u8 5)).run Tryd.prog w = .ok (.string (wordsS 6)) w := by kernel_rfl
set_option maxRecDepth 100000 in
set_option maxHeartbeats 16000000 in
theorem words_6 (w : World) : Calls Tryd.prog 54 #[.int .u8 6] w fun e w' => e = .returned (.string (wordsS 6)) ∧ w = w' := by
  have hix := wix6
  unfold wordsA at hix
  generalize wordsS 6 = S at *
  go_enter Tryd.func54, Tryd.ntmps54
  go_wp2_with fail
  go_ret
  exact ⟨rfl, rfl⟩
theorem wix7 (w : World) : (Instr.index 132 (.agg wordsA) (.int .u8 6)).run Tryd.prog w = .ok (.string (wordsS 7)) w := by kernel_rfl
set_option maxRecDepth 100000 in
set_option maxHeartbeats 16000000 in
theorem words_7 (w : World) : Calls Tryd.prog 54 #[.int .u8 7] w fun e w' => e = .returned (.string (wordsS 7)) ∧ w = w' := by
  have hix := wix7
  unfold wordsA at hix
  generalize wordsS 7 = S at *
  go_enter Tryd.func54, Tryd.ntmps54
  go_wp2_with fail
  go_ret
  exact ⟨rfl, rfl⟩
theorem wix8 (w : World) : (Instr.index 132 (.agg wordsA) (.int .u8 7)).run Tryd.prog w = .ok (.string (wordsS 8)) w := by kernel_rfl
set_option maxRecDepth 100000 in
set_option maxHeartbeats 16000000 in
theorem words_8 (w : World) : Calls Tryd.prog 54 #[.int .u8 8] w fun e w' => e = .returned (.string (wordsS 8)) ∧ w = w' := by
  have hix := wix8
  unfold wordsA at hix
  generalize wordsS 8 = S at *
  go_enter Tryd.func54, Tryd.ntmps54
  go_wp2_with fail
  go_ret
  exact ⟨rfl, rfl⟩
theorem wix9 (w : World) : (Instr.index 132 (.agg wordsA) (.int .u8 8)).run Tryd.prog w = .ok (.string (wordsS 9)) w := by kernel_rfl
set_option maxRecDepth 100000 in
set_option maxHeartbeats 16000000 in
theorem words_9 (w : World) : Calls Tryd.prog 54 #[.int .u8 9] w fun e w' => e = .returned (.string (wordsS 9)) ∧ w = w' := by
  have hix := wix9
  unfold wordsA at hix
  generalize wordsS 9 = S at *
  go_enter Tryd.func54, Tryd.ntmps54
  go_wp2_with fail
  go_ret
  exact ⟨rfl, rfl⟩
theorem wix10 (w : World) : (Instr.index 132 (.agg wordsA) (.int .u8 9)).run Tryd.prog w = .ok (.string (wordsS 10)) w := by kernel_rfl
set_option maxRecDepth 100000 in
set_option maxHeartbeats 16000000 in
theorem words_10 (w : World) : Calls Tryd.prog 54 #[.int .u8 10] w fun e w' => e = .returned (.string (wordsS 10)) ∧ w = w' := by
  have hix := wix10
  unfold wordsA at hix
  generalize wordsS 10 = S at *
  go_enter Tryd.func54, Tryd.ntmps54
  go_wp2_with fail
  go_ret
  exact ⟨rfl, rfl⟩
theorem wix11 (w : World) : (Instr.index 132 (.agg wordsA) (.int .u8 10)).run Tryd.prog w = .ok (.string (wordsS 11)) w := by kernel_rfl
set_option maxRecDepth 100000 in
set_option maxHeartbeats 16000000 in
theorem words_11 (w : World) : Calls Tryd.prog 54 #[.int .u8 11] w fun e w' => e = .returned (.string (wordsS 11)) ∧ w = w' := by
  have hix := wix11
  unfold wordsA at hix
  generalize wordsS 11 = S at *
  go_enter Tryd.func54, Tryd.ntmps54
  go_wp2_with fail
  go_ret
  exact ⟨rfl, rfl⟩
theorem wix12 (w : World) : (Instr.index 132 (.agg wordsA) (.int .u8 11)).run Tryd.prog w = .ok (.string (wordsS 12)) w := by kernel_rfl
set_option maxRecDepth 100000 in
set_option maxHeartbeats 16000000 in
theorem words_12 (w : World) : Calls Tryd.prog 54 #[.int .u8 12] w fun e w' => e = .returned (.string (wordsS 12)) ∧ w = w' := by
  have hix := wix12
  unfold wordsA at hix
  generalize wordsS 12 = S at *
  go_enter Tryd.func54, Tryd.ntmps54
  go_wp2_with fail
  go_ret
  exact ⟨rfl, rfl⟩
theorem wix13 (w : World) : (Instr.index 132 (.agg wordsA) (.int .u8 12)).run Tryd.prog w = .ok (.string (wordsS 13)) w := by kernel_rfl
set_option maxRecDepth 100000 in
set_option maxHeartbeats 16000000 in
theorem words_13 (w : World) : Calls Tryd.prog 54 #[.int .u8 13] w fun e w' => e = .returned (.string (wordsS 13)) ∧ w = w' := by
  have hix := wix13
  unfold wordsA at hix
  generalize wordsS 13 = S at *
  go_enter Tryd.func54, Tryd.ntmps54
  go_wp2_with fail
  go_ret
  exact ⟨rfl, rfl⟩
theorem wix14 (w : World) : (Instr.index 132 (.agg wordsA) (.int .u8 13)).run Tryd.prog w = .ok (.string (wordsS 14)) w := by kernel_rfl
set_option maxRecDepth 100000 in
set_option maxHeartbeats 16000000 in
theorem words_14 (w : World) : Calls Tryd.prog 54 #[.int .u8 14] w fun e w' => e = .returned (.string (wordsS 14)) ∧ w = w' := by
  have hix := wix14
  unfold wordsA at hix
  generalize wordsS 14 = S at *
  go_enter Tryd.func54, Tryd.ntmps54
  go_wp2_with fail
  go_ret
  exact ⟨rfl, rfl⟩
theorem wix15 (w : World) : (Instr.index 132 (.agg wordsA) (.int .u8 14)).run Tryd.prog w = .ok (.string (wordsS 15)) w := by kernel_rfl
set_option maxRecDepth 100000 in
set_option maxHeartbeats 16000000 in
theorem words_15 (w : World) : Calls Tryd.prog 54 #[.int .u8 15] w fun e w' => e = .returned (.string (wordsS 15)) ∧ w = w' := by
  have hix := wix15
  unfold wordsA at hix
  generalize wordsS 15 = S at *
  go_enter Tryd.func54, Tryd.ntmps54
  go_wp2_with fail
  go_ret
  exact ⟨rfl, rfl⟩
theorem wix16 (w : World) : (Instr.index 132 (.agg wordsA) (.int .u8 15)).run Tryd.prog w = .ok (.string (wordsS 16)) w := by kernel_rfl
set_option maxRecDepth 100000 in
set_option maxHeartbeats 16000000 in
theorem words_16 (w : World) : Calls Tryd.prog 54 #[.int .u8 16] w fun e w' => e = .returned (.string (wordsS 16)) ∧ w = w' := by
  have hix := wix16
  unfold wordsA at hix
  generalize wordsS 16 = S at *
  go_enter Tryd.func54, Tryd.ntmps54
  go_wp2_with fail
  go_ret
  exact ⟨rfl, rfl⟩
theorem words_any (k : Nat) (h1 : 1 ≤ k) (h2 : k ≤ 16) (w : World) : Calls Tryd.prog 54 #[.int .u8 k] w fun e w' => e = .returned (.string (wordsS k)) ∧ w = w' := by
  have h : k = 1 ∨ k = 2 ∨ k = 3 ∨ k = 4 ∨ k = 5 ∨ k = 6 ∨ k = 7 ∨ k = 8 ∨ k = 9 ∨ k = 10 ∨ k = 11 ∨ k = 12 ∨ k = 13 ∨ k = 14 ∨ k = 15 ∨ k = 16 := by omega
  rcases h with rfl | rfl | rfl | rfl | rfl | rfl | rfl | rfl | rfl | rfl | rfl | rfl | rfl | rfl | rfl | rfl
  · exact words_1 w
  · exact words_2 w
  · exact words_3 w
  · exact words_4 w
  · exact words_5 w
  · exact words_6 w
  · exact words_7 w
  · exact words_8 w
  · exact words_9 w
  · exact words_10 w
  · exact words_11 w
  · exact words_12 w
  · exact words_13 w
  · exact words_14 w
  · exact words_15 w
  · exact words_16 w
end Go.Proofs.YtdfkbahlngijcaaDoor
