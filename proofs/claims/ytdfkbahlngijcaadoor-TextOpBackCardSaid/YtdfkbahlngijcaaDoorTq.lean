/- Text: quote of the program, String of the reference. -/
import Derived.Test.YtdfkbahlngijcaaDoorTd
namespace Go.Proofs.YtdfkbahlngijcaaDoor
open Go.RowKit
set_option linter.unusedVariables false

set_option maxRecDepth 100000 in
set_option maxHeartbeats 8000000 in
theorem quote_any (t : ByteArray) (w : World) (ht : t.size ≤ 1000000000) :
    Calls Tryd.prog 29 #[.string t] w fun e w' => e = .returned (.string ⟨(quoteL t).toArray⟩) ∧ Below w.heap.size w w' := by
  obtain ⟨i0, hi0, hz0, hz1, hz2⟩ := info_parts infoU8
  have HB0 := Lib.hid ((Below.refl w.heap.size w).alloc (Nat.le_refl _) (.cells #[.int .u8 43] 5))
  have HO0 := Lib.hid (bytes_one w 43)
  go_enter Tryd.func29, Tryd.ntmps29
  go_wp2_with fail
  go_loopw [3, 4, 8] (fun vb vi s wr => ∃ (j : Nat), j ≤ t.size ∧ s = .int .i64 j ∧ wr.ownsRow w.heap.size 5 1 vb (2 * j + 1) (Lib.byteCells (43 :: hexL (t.data.toList.take j))) ∧ Below w.heap.size w wr) (fun _ _ s _ => t.size - (intOf s).toNat)
  case atStart => exact ⟨0, Nat.zero_le _, rfl, HO0.out, HB0.out⟩
  case round =>
    obtain ⟨j, hj, rfl, hown, hbr⟩ := hrel
    have HOWN := Lib.hid hown
    have HBR := Lib.hid hbr
    have hsz := hbr.size
    clear hown hbr HO0 HB0
    by_cases hlt : j < t.size
    · have hj1 : (j : Int) < (t.size : Int) := by omega
      have hj0 : (0 : Int) ≤ (j : Int) := by omega
      have hb := u8lt t[j]
      have hA := and15 _ hb
      have h1 : (0 : Int) ≤ (t[j].toNat : Int) / 16 := by omega
      have h2 : (t[j].toNat : Int) / 16 < 16 := by omega
      have h3 : (0 : Int) ≤ ((t[j].toNat % 16 : Nat) : Int) := by omega
      have h4 : ((t[j].toNat % 16 : Nat) : Int) < 16 := by omega
      go_wp2_with fail
      go_region_held3 (fun w' => True) (trivial) ((refine step_append_lies _ (by rfl) _ _ _ (by rfl) w.heap.size 5 i0 _ 1 1 Tryd.underlying73 hi0 hz0 hz1 hz2 rfl (by decide) _ (2 * j + 1) _ (by rfl) ((HOWN.out.alloc _).drew) ⟨wr.heap.size, 0, none⟩ 2 2 [_, _] (by rfl) (by rfl) (World.news_of_block (cs := #[_, _]) (t := 5) (fr := (0, 0)) (heap_alloc_new wr _)) (by simp [Value.oneCell']) (by omega) (by unfold maxLen; omega) (by omega) (by simp; omega) (wr.heap.size + 1) (by simp) ?_; intro gg cap w1 hown1 hgrow hat hlt'))
      all_goals
        have e1 : ((t[j].toNat : Int) / 16).toNat = t[j].toNat / 16 := by omega
        have e2 : ((t[j].toNat : Int) % 16).toNat = t[j].toNat % 16 := by omega
        have k1 := hexC (t[j].toNat / 16) (by omega)
        have k2 := hexC (t[j].toNat % 16) (by omega)
        simp only [e1, e2, k1, k2] at hown1
        have HO := Lib.hid (show w1.ownsRow w.heap.size 5 1 (.slice (some ⟨gg, 0, none⟩) (2 * j + 1 + 2) cap) (2 * (j + 1) + 1) (Lib.byteCells (43 :: hexL (t.data.toList.take (j + 1)))) by
          rw [show 2 * (j + 1) + 1 = 2 * j + 1 + 2 by omega, hexL_take t hlt, hex_step t]
          exact hown1)
        have HB := Lib.hid ((HBR.out.alloc hsz _).drew.grown hgrow (by simp; omega) fun q hq => (own_typ1 HOWN.out hq).1)
        clear hown1 hgrow hat hlt' e1 e2 k1 k2 HOWN HBR
        go_wp2_with fail
        go_roundw
        case rel => exact ⟨j + 1, by omega, by go_num, HO.out, HB.out⟩
        case measure => simp [intOf]; omega
    · obtain rfl : j = t.size := by omega
      obtain ⟨g, cap, rfl, hconv⟩ := own_str HOWN.out (by rw [quote_end, quote_len]) (by omega)
      rw [quote_end] at hconv
      clear HOWN
      go_wp2_with fail
      go_ret
      exact ⟨rfl, HBR.out⟩

set_option maxRecDepth 100000 in
set_option maxHeartbeats 8000000 in
theorem refString_any (t : ByteArray) (w : World) (ht : t.size ≤ 1000000000) :
    Calls Tryd.prog 33 #[.string t] w fun e w' => e = .returned (.string ⟨(quoteL t).toArray⟩) ∧ Below w.heap.size w w' := by
  obtain ⟨i0, hi0, hz0, hz1, hz2⟩ := info_parts infoU8
  have HB0 := Lib.hid ((Below.refl w.heap.size w).alloc (Nat.le_refl _) (.cells #[.int .u8 43] 5))
  have HO0 := Lib.hid (bytes_one w 43)
  go_enter Tryd.func33, Tryd.ntmps33
  go_wp2_with fail
  go_loopw [4, 5] (fun vb s wr => ∃ (j : Nat), j ≤ t.size ∧ s = .int .i64 j ∧ wr.ownsRow w.heap.size 5 1 vb (2 * j + 1) (Lib.byteCells (43 :: hexL (t.data.toList.take j))) ∧ Below w.heap.size w wr) (fun _ s _ => t.size - (intOf s).toNat)
  case atStart => exact ⟨0, Nat.zero_le _, rfl, HO0.out, HB0.out⟩
  case round =>
    obtain ⟨j, hj, rfl, hown, hbr⟩ := hrel
    have HOWN := Lib.hid hown
    have HBR := Lib.hid hbr
    have hsz := hbr.size
    clear hown hbr HO0 HB0
    by_cases hlt : j < t.size
    · have hj1 : (j : Int) < (t.size : Int) := by omega
      have hj0 : (0 : Int) ≤ (j : Int) := by omega
      have hb := u8lt t[j]
      have hW : IntKind.u8.wrap ((t[j].toNat : Int) / 16) = (t[j].toNat : Int) / 16 := wrap8 _ (by omega) (by omega)
      have hT : Int.tmod (t[j].toNat : Int) 16 = (t[j].toNat : Int) % 16 := Int.tmod_eq_emod_of_nonneg (by omega)
      have h5 : (0 : Int) ≤ (t[j].toNat : Int) % 16 := by omega
      have h6 : (t[j].toNat : Int) % 16 < 16 := by omega
      have h1 : (0 : Int) ≤ (t[j].toNat : Int) / 16 := by omega
      have h2 : (t[j].toNat : Int) / 16 < 16 := by omega
      have h3 : (0 : Int) ≤ ((t[j].toNat % 16 : Nat) : Int) := by omega
      have h4 : ((t[j].toNat % 16 : Nat) : Int) < 16 := by omega
      go_wp2_with fail
      go_region_held3 (fun w' => True) (trivial) ((refine step_append_lies _ (by rfl) _ _ _ (by rfl) w.heap.size 5 i0 _ 1 1 Tryd.underlying73 hi0 hz0 hz1 hz2 rfl (by decide) _ (2 * j + 1) _ (by rfl) ((HOWN.out.alloc _).drew) ⟨wr.heap.size, 0, none⟩ 2 2 [_, _] (by rfl) (by rfl) (World.news_of_block (cs := #[_, _]) (t := 5) (fr := (0, 0)) (heap_alloc_new wr _)) (by simp [Value.oneCell']) (by omega) (by unfold maxLen; omega) (by omega) (by simp; omega) (wr.heap.size + 1) (by simp) ?_; intro gg cap w1 hown1 hgrow hat hlt'))
      all_goals
        have e1 : ((t[j].toNat : Int) / 16).toNat = t[j].toNat / 16 := by omega
        have e2 : ((t[j].toNat : Int) % 16).toNat = t[j].toNat % 16 := by omega
        have k1 := hexC (t[j].toNat / 16) (by omega)
        have k2 := hexC (t[j].toNat % 16) (by omega)
        simp only [e1, e2, k1, k2] at hown1
        have HO := Lib.hid (show w1.ownsRow w.heap.size 5 1 (.slice (some ⟨gg, 0, none⟩) (2 * j + 1 + 2) cap) (2 * (j + 1) + 1) (Lib.byteCells (43 :: hexL (t.data.toList.take (j + 1)))) by
          rw [show 2 * (j + 1) + 1 = 2 * j + 1 + 2 by omega, hexL_take t hlt, hex_step t]
          exact hown1)
        have HB := Lib.hid ((HBR.out.alloc hsz _).drew.grown hgrow (by simp; omega) fun q hq => (own_typ1 HOWN.out hq).1)
        clear hown1 hgrow hat hlt' e1 e2 k1 k2 HOWN HBR
        go_wp2_with fail
        go_roundw
        case rel => exact ⟨j + 1, by omega, by go_num, HO.out, HB.out⟩
        case measure => simp [intOf]; omega
    · obtain rfl : j = t.size := by omega
      obtain ⟨g, cap, rfl, hconv⟩ := own_str HOWN.out (by rw [quote_end, quote_len]) (by omega)
      rw [quote_end] at hconv
      clear HOWN
      go_wp2_with fail
      go_ret
      exact ⟨rfl, HBR.out⟩
end Go.Proofs.YtdfkbahlngijcaaDoor
