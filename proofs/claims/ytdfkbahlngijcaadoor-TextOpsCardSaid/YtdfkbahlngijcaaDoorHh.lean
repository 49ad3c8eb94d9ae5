/- Diff: the program's Decode and Valid: their walks. -/
import Derived.Test.YtdfkbahlngijcaaDoorHg
namespace Go.Proofs.YtdfkbahlngijcaaDoor
open Go.RowKit
set_option linter.unusedVariables false

theorem ann_le (c : UInt8) : annN c ≤ 4 := by
  unfold annN
  repeat' split
  all_goals omega
/-- the rune so far, as the program reckons it -/
def rN (l : List UInt8) (n : Nat) : Nat → Int
  | 0 => 0
  | 1 => if 1 < n then bits BinOp.and IntKind.i64 (wrap64 ((l.getD 0 0).toNat : Int)) (127 / 2 ^ n) else wrap64 ((l.getD 0 0).toNat : Int)
  | i + 2 => bits BinOp.or IntKind.i64 (wrap64 (rN l n (i + 1) * 64)) (wrap64 (bits BinOp.and IntKind.u8 ((l.getD (i + 1) 0).toNat : Int) 63))
/-- the bytes behind the first one, below n, continue -/
def conts (l : List UInt8) (n : Nat) : Prop := ∀ j, 1 ≤ j → j < n → isC (l.getD j 0) = true
def okRune (l : List UInt8) (n : Nat) : Prop := n ≠ 0 ∧ n ≤ l.length ∧ conts l n ∧ lenR (rN l n n) = n
open Classical in
/-- how many bytes the first rune has -/
noncomputable def vstep (l : List UInt8) : Option Nat := if okRune l (annN (l.getD 0 0)) then some (annN (l.getD 0 0)) else none
theorem vstep_yes {l : List UInt8} (h : okRune l (annN (l.getD 0 0))) : vstep l = some (annN (l.getD 0 0)) := if_pos h
theorem vstep_no {l : List UInt8} (h : ¬ okRune l (annN (l.getD 0 0))) : vstep l = none := if_neg h
theorem getD_at (s : ByteArray) {i : Nat} (h : i < s.size) : s.data.toList.getD i 0 = s[i] := by
  rw [List.getD_eq_getElem?_getD, byte_at s h]
  rfl
theorem rN_next (l : List UInt8) (n : Nat) {i : Nat} (h : 1 ≤ i) : rN l n (i + 1) = bits BinOp.or IntKind.i64 (wrap64 (rN l n i * 64)) (wrap64 (bits BinOp.and IntKind.u8 ((l.getD i 0).toNat : Int) 63)) := by
  obtain ⟨k, rfl⟩ : ∃ k, i = k + 1 := ⟨i - 1, by omega⟩
  rfl
def DecPost (l : List UInt8) (w : World) (e : Ending) (w' : World) : Prop :=
  ((∃ (r : Int) (m : Nat), vstep l = some m ∧ e = .returned (.tuple #[.int .i64 r, .int .i64 m, .int .i64 0])) ∨ (vstep l = none ∧ e = .returned (.tuple #[.int .i64 0, .int .i64 0, .int .i64 11]))) ∧ w = w'
theorem dec_bad {l : List UInt8} {w : World} (h : vstep l = none) : DecPost l w (.returned (.tuple #[.int .i64 0, .int .i64 0, .int .i64 11])) w := ⟨.inr ⟨h, rfl⟩, rfl⟩
theorem dec_good {l : List UInt8} {w : World} {m : Nat} (r : Int) (h : vstep l = some m) : DecPost l w (.returned (.tuple #[.int .i64 r, .int .i64 m, .int .i64 0])) w := ⟨.inl ⟨r, m, h, rfl⟩, rfl⟩
set_option maxRecDepth 100000 in
set_option maxHeartbeats 8000000 in
theorem decode_any (s : ByteArray) (w : World) (h0 : 0 < s.size) (hs : s.size ≤ 1048576) : Calls Tryd.prog 110 #[.string s] w (DecPost s.data.toList w) := by
  have HA := Lib.hid (announced_any s[0] w)
  have hne := str_some (t := s) (by omega)
  have HG0 := Lib.hid (getD_at s h0)
  have HLL := Lib.hid (show s.data.toList.length = s.size from Array.length_toList ..)
  have h4 := ann_le s[0]
  have HV := Lib.hid (show ∀ n, n = annN s[0] → (okRune s.data.toList n → vstep s.data.toList = some n) ∧ (¬ okRune s.data.toList n → vstep s.data.toList = none) from fun n hn => by
    subst hn
    rw [← HG0.out]
    exact ⟨vstep_yes, vstep_no⟩)
  obtain ⟨n, hn⟩ : ∃ n, n = annN s[0] := ⟨_, rfl⟩
  have HVN := Lib.hid (HV.out n hn)
  rw [← hn] at HA h4
  clear HV hn
  have hs0 : (0 : Int) < (s.size : Int) := by omega
  have hn4 : (0 : Int) ≤ (n : Int) := by omega
  by_cases hz : n = 0
  · as_aux_lemma =>
    subst hz
    have HN := Lib.hid (HVN.out.2 fun h => h.1 rfl)
    go_enter Tryd.func110, Tryd.ntmps110
    go_wp2_with fail
    refine (HA.out).mono ?_; rintro e w1 ⟨rfl, rfl⟩
    go_wp2_with fail
    go_ret3
    exact dec_bad HN.out
  · have hn1 : ((n : Int) == 0) = false := by rw [beq_eq_false_iff_ne]; omega
    by_cases hb : s.size < n
    · as_aux_lemma =>
      have HN := Lib.hid (HVN.out.2 fun h => by have := h.2.1; rw [HLL.out] at this; omega)
      have hn5 : (s.size : Int) < (n : Int) := by omega
      have hn6 : decide (s.size < n) = true := decide_eq_true hb
      clear hb hz
      go_enter Tryd.func110, Tryd.ntmps110
      go_wp2_with fail
      refine (HA.out).mono ?_; rintro e w1 ⟨rfl, rfl⟩
      go_wp2_with fail
      go_ret3
      exact dec_bad HN.out
    · have hn2 : decide (s.size < n) = false := decide_eq_false (by omega)
      have hn5 : ¬ ((s.size : Int) < (n : Int)) := by omega
      have HBN := Lib.hid (show n ≤ s.size by omega)
      have HNZ := Lib.hid hz
      clear hz hb
      by_cases h1 : 1 < n
      · as_aux_lemma =>
        have hn3 : (1 : Int) < (n : Int) := by omega
        have HR1 := Lib.hid (show bits BinOp.and IntKind.i64 (wrap64 (s[0].toNat : Int)) (127 / 2 ^ n) = rN s.data.toList n 1 by
          show _ = (if 1 < n then bits BinOp.and IntKind.i64 (wrap64 ((s.data.toList.getD 0 0).toNat : Int)) (127 / 2 ^ n) else _)
          rw [if_pos h1, HG0.out])
        go_enter Tryd.func110, Tryd.ntmps110
        go_wp2_with fail
        refine (HA.out).mono ?_; rintro e w1 ⟨rfl, rfl⟩
        go_wp2_with fail
        go_loop [2, 6] (fun s2 s6 => ∃ (i : Nat) (r : Int), i ≤ n ∧ 1 ≤ i ∧ s6 = .int .i64 i ∧ s2 = .int .i64 r ∧ r = rN s.data.toList n i ∧ conts s.data.toList i) (fun _ s6 => n - (intOf s6).toNat)
        case atStart => exact ⟨1, _, by omega, Nat.le_refl _, rfl, rfl, HR1.out, fun j h1 h2 => absurd h2 (by omega)⟩
        case round =>
          obtain ⟨i, r, hi, hi1, rfl, rfl, hr, hct⟩ := hrel
          have HR := Lib.hid hr
          have HCT := Lib.hid hct
          clear hr hct
          by_cases hlt : i < n
          · have hlt' : (i : Int) < (n : Int) := by omega
            have his : i < s.size := by have := HBN.out; omega
            have his' : (i : Int) < (s.size : Int) := by omega
            have hi0 : (0 : Int) ≤ (i : Int) := by omega
            have HC := Lib.hid (continues_any s[i] w)
            have HGI := Lib.hid (getD_at s his)
            by_cases hc : isC s[i] = true
            · as_aux_lemma =>
              rw [hc] at HC
              have HCT2 := Lib.hid (show conts s.data.toList (i + 1) from fun j h1 h2 => by
                rcases Nat.lt_or_ge j i with h | h
                · exact HCT.out j h1 h
                · obtain rfl : j = i := by omega
                  rw [HGI.out]; exact hc)
              have HRN := Lib.hid (rN_next s.data.toList n hi1)
              clear hc
              go_wp2_with fail
              refine (HC.out).mono ?_; rintro e w1 ⟨rfl, rfl⟩
              go_wp2_with fail
              go_round
              case rel => exact ⟨i + 1, _, by omega, by omega, by go_num, rfl, (by rw [HRN.out, ← HR.out, HGI.out]), HCT2.out⟩
              case measure => (simp [intOf] <;> omega)
            · as_aux_lemma =>
              rw [Bool.eq_false_iff.2 hc] at HC
              have HN := Lib.hid (HVN.out.2 fun h => hc (by rw [← HGI.out]; exact h.2.2.1 i hi1 hlt))
              clear hc
              go_wp2_with fail
              refine (HC.out).mono ?_; rintro e w1 ⟨rfl, rfl⟩
              go_wp2_with fail
              go_ret3
              exact dec_bad HN.out
          · as_aux_lemma =>
            obtain rfl : i = n := by omega
            have HL := Lib.hid (length_any r w)
            have hge : ¬ ((i : Int) < (i : Int)) := by omega
            clear hlt
            by_cases hl : lenR r = i
            · have HN := Lib.hid (HVN.out.1 ⟨HNZ.out, by rw [HLL.out]; exact HBN.out, HCT.out, by rw [← HR.out]; exact hl⟩)
              rw [hl] at HL
              clear hl
              go_wp2_with fail
              refine (HL.out).mono ?_; rintro e w1 ⟨rfl, rfl⟩
              go_wp2_with fail
              go_ret3
              exact dec_good _ HN.out
            · have HN := Lib.hid (HVN.out.2 fun h => hl (by rw [HR.out]; exact h.2.2.2))
              generalize lenR r = z at *
              have hz1 : (z == (i : Int)) = false := by rw [beq_eq_false_iff_ne]; exact hl
              have hz2 : (z != (i : Int)) = true := by rw [bne_iff_ne]; exact hl
              clear hl
              go_wp2_with fail
              refine (HL.out).mono ?_; rintro e w1 ⟨rfl, rfl⟩
              go_wp2_with fail
              go_ret3
              exact dec_bad HN.out
      · as_aux_lemma =>
        obtain rfl : n = 1 := by have := HNZ.out; omega
        have HR1 := Lib.hid (show wrap64 (s[0].toNat : Int) = rN s.data.toList 1 1 by
          show _ = (if 1 < 1 then _ else wrap64 ((s.data.toList.getD 0 0).toNat : Int))
          rw [if_neg (by decide), HG0.out]; rfl)
        clear h1
        go_enter Tryd.func110, Tryd.ntmps110
        go_wp2_with fail
        refine (HA.out).mono ?_; rintro e w1 ⟨rfl, rfl⟩
        go_wp2_with fail
        go_loop [2, 6] (fun s2 s6 => ∃ (i : Nat) (r : Int), i ≤ 1 ∧ 1 ≤ i ∧ s6 = .int .i64 i ∧ s2 = .int .i64 r ∧ r = rN s.data.toList 1 i ∧ conts s.data.toList i) (fun _ s6 => 1 - (intOf s6).toNat)
        case atStart => exact ⟨1, _, by omega, Nat.le_refl _, rfl, rfl, HR1.out, fun j h1 h2 => absurd h2 (by omega)⟩
        case round =>
          obtain ⟨i, r, hi, hi1, rfl, rfl, hr, hct⟩ := hrel
          have HR := Lib.hid hr
          have HCT := Lib.hid hct
          clear hr hct
          by_cases hlt : i < 1
          · exact absurd hlt (by omega)
          · as_aux_lemma =>
            obtain rfl : i = 1 := by omega
            have HL := Lib.hid (length_any r w)
            have hge : ¬ (((1 : Nat) : Int) < ((1 : Nat) : Int)) := by omega
            clear hlt
            by_cases hl : lenR r = ((1 : Nat) : Int)
            · have HN := Lib.hid (HVN.out.1 ⟨HNZ.out, by rw [HLL.out]; exact HBN.out, HCT.out, by rw [← HR.out]; exact hl⟩)
              rw [hl] at HL
              clear hl
              go_wp2_with fail
              refine (HL.out).mono ?_; rintro e w1 ⟨rfl, rfl⟩
              go_wp2_with fail
              go_ret3
              exact dec_good _ HN.out
            · have HN := Lib.hid (HVN.out.2 fun h => hl (by rw [HR.out]; exact h.2.2.2))
              generalize lenR r = z at *
              have hz1 : (z == ((1 : Nat) : Int)) = false := by rw [beq_eq_false_iff_ne]; exact hl
              have hz2 : (z != ((1 : Nat) : Int)) = true := by rw [bne_iff_ne]; exact hl
              clear hl
              go_wp2_with fail
              refine (HL.out).mono ?_; rintro e w1 ⟨rfl, rfl⟩
              go_wp2_with fail
              go_ret3
              exact dec_bad HN.out
end Go.Proofs.YtdfkbahlngijcaaDoor
