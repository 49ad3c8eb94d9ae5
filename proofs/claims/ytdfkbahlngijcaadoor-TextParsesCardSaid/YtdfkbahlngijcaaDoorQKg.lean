/- Diff: common beginnings: plain model; boundaries of the program and of the reference. (printed by slim.py.) -/
import Derived.Test.YtdfkbahlngijcaaDoorQKb
namespace Go.Proofs.YtdfkbahlngijcaaDoor
open Go.RowKit
set_option linter.unusedVariables false

/-- a continuation byte -/
def isC (c : UInt8) : Bool := decide (128 ≤ c.toNat) && decide (c.toNat ≤ 191)
/-- how long the common beginning is -/
def pre : List UInt8 → List UInt8 → Nat
  | x :: a, y :: b => if x = y then pre a b + 1 else 0
  | [], _ => 0
  | _ :: _, [] => 0
/-- the greatest number up to n that f holds of, or 0 -/
def down (f : Nat → Bool) : Nat → Nat
  | 0 => 0
  | n + 1 => if f (n + 1) = true then n + 1 else down f n
set_option maxRecDepth 100000 in
set_option maxHeartbeats 2000000 in
theorem continues_any (c : UInt8) (w : World) : Calls Tryd.prog 129 #[.int .u8 c.toNat] w fun e w' => e = .returned (.bool (isC c)) ∧ w = w' := by
  have hb := u8lt c
  obtain ⟨n, hn⟩ : ∃ n, n = c.toNat := ⟨_, rfl⟩
  have HE := Lib.hid (show isC c = (decide (128 ≤ n) && decide (n ≤ 191)) by rw [hn]; rfl)
  rw [← hn] at hb ⊢
  clear hn
  by_cases h1 : 128 ≤ n
  · have h1' : (128 : Int) ≤ (n : Int) := by omega
    by_cases h2 : n ≤ 191
    · have h2' : (n : Int) ≤ 191 := by omega
      have HV := Lib.hid (show isC c = true by rw [HE.out]; simp [h1, h2])
      clear h1 h2
      go_enter Tryd.func129, Tryd.ntmps129
      go_wp2_with fail
      go_ret
      exact ⟨by rw [HV.out] <;> rfl, rfl⟩
    · have h2' : ¬ ((n : Int) ≤ 191) := by omega
      have h2d := decide_eq_false h2'
      have HV := Lib.hid (show isC c = false by rw [HE.out]; simp [h2])
      clear h1 h2
      go_enter Tryd.func129, Tryd.ntmps129
      go_wp2_with fail
      go_ret
      exact ⟨by rw [HV.out] <;> rfl, rfl⟩
  · have h1' : ¬ ((128 : Int) ≤ (n : Int)) := by omega
    have h1d := decide_eq_false h1'
    have HV := Lib.hid (show isC c = false by rw [HE.out]; simp [h1])
    clear h1
    go_enter Tryd.func129, Tryd.ntmps129
    go_wp2_with fail
    go_ret
    exact ⟨by rw [HV.out] <;> rfl, rfl⟩
set_option maxRecDepth 100000 in
set_option maxHeartbeats 2000000 in
theorem refCont_any (c : UInt8) (w : World) : Calls Tryd.prog 133 #[.int .u8 c.toNat] w fun e w' => e = .returned (.bool (isC c)) ∧ w = w' := by
  have hb := u8lt c
  obtain ⟨n, hn⟩ : ∃ n, n = c.toNat := ⟨_, rfl⟩
  have HE := Lib.hid (show isC c = (decide (128 ≤ n) && decide (n ≤ 191)) by rw [hn]; rfl)
  rw [← hn] at hb ⊢
  clear hn
  by_cases h1 : 128 ≤ n
  · have h1' : (128 : Int) ≤ (n : Int) := by omega
    by_cases h2 : n ≤ 191
    · have h2' : (n : Int) < 192 := by omega
      have HV := Lib.hid (show isC c = true by rw [HE.out]; simp [h1, h2])
      clear h1 h2
      go_enter Tryd.func133, Tryd.ntmps133
      go_wp2_with fail
      go_ret
      exact ⟨by rw [HV.out] <;> rfl, rfl⟩
    · have h2' : ¬ ((n : Int) < 192) := by omega
      have h2d := decide_eq_false h2'
      have HV := Lib.hid (show isC c = false by rw [HE.out]; simp [h2])
      clear h1 h2
      go_enter Tryd.func133, Tryd.ntmps133
      go_wp2_with fail
      go_ret
      exact ⟨by rw [HV.out] <;> rfl, rfl⟩
  · have h1' : ¬ ((128 : Int) ≤ (n : Int)) := by omega
    have h1d := decide_eq_false h1'
    have HV := Lib.hid (show isC c = false by rw [HE.out]; simp [h1])
    clear h1
    go_enter Tryd.func133, Tryd.ntmps133
    go_wp2_with fail
    go_ret
    exact ⟨by rw [HV.out] <;> rfl, rfl⟩

end Go.Proofs.YtdfkbahlngijcaaDoor

namespace Go.Proofs.YtdfkbahlngijcaaDoor
theorem byte_at (s : ByteArray) {i : Nat} (h : i < s.size) : s.data.toList[i]? = some s[i] := by
  rw [Array.getElem?_toList, Array.getElem?_eq_getElem (show i < s.data.size from h)]
  rfl
end Go.Proofs.YtdfkbahlngijcaaDoor

namespace Go.Proofs.YtdfkbahlngijcaaDoor
open Go.RowKit
set_option linter.unusedVariables false

def annN (c : UInt8) : Nat := if 244 < c.toNat then 0 else if 240 ≤ c.toNat then 4 else if 224 ≤ c.toNat then 3 else if 194 ≤ c.toNat then 2 else if c.toNat < 128 then 1 else 0
set_option maxRecDepth 100000 in
set_option maxHeartbeats 2000000 in
theorem announced_any (c : UInt8) (w : World) : Calls Tryd.prog 128 #[.int .u8 c.toNat] w fun e w' => e = .returned (.int .i64 (annN c)) ∧ w = w' := by
  obtain ⟨n, hn⟩ : ∃ n, n = annN c := ⟨_, rfl⟩
  have HN := Lib.hid hn
  unfold annN at hn
  generalize c.toNat = z at *
  rw [← HN.out]
  by_cases h1 : 244 < z
  · rw [if_pos h1] at hn
    subst hn
    have g1 : (244 : Int) < (z : Int) := by omega
    clear h1
    go_enter Tryd.func128, Tryd.ntmps128
    go_wp2_with fail
    go_ret
    exact ⟨rfl, rfl⟩
  · rw [if_neg h1] at hn
    have g1 : ¬ ((244 : Int) < (z : Int)) := by omega
    by_cases h2 : 240 ≤ z
    · rw [if_pos h2] at hn
      subst hn
      have g2 : (240 : Int) ≤ (z : Int) := by omega
      clear h1 h2
      go_enter Tryd.func128, Tryd.ntmps128
      go_wp2_with fail
      go_ret
      exact ⟨rfl, rfl⟩
    · rw [if_neg h2] at hn
      have g2 : ¬ ((240 : Int) ≤ (z : Int)) := by omega
      by_cases h3 : 224 ≤ z
      · rw [if_pos h3] at hn
        subst hn
        have g3 : (224 : Int) ≤ (z : Int) := by omega
        clear h1 h2 h3
        go_enter Tryd.func128, Tryd.ntmps128
        go_wp2_with fail
        go_ret
        exact ⟨rfl, rfl⟩
      · rw [if_neg h3] at hn
        have g3 : ¬ ((224 : Int) ≤ (z : Int)) := by omega
        by_cases h4 : 194 ≤ z
        · rw [if_pos h4] at hn
          subst hn
          have g4 : (194 : Int) ≤ (z : Int) := by omega
          clear h1 h2 h3 h4
          go_enter Tryd.func128, Tryd.ntmps128
          go_wp2_with fail
          go_ret
          exact ⟨rfl, rfl⟩
        · rw [if_neg h4] at hn
          have g4 : ¬ ((194 : Int) ≤ (z : Int)) := by omega
          by_cases h5 : z < 128
          · rw [if_pos h5] at hn
            subst hn
            have g5 : (z : Int) < (128 : Int) := by omega
            clear h1 h2 h3 h4 h5
            go_enter Tryd.func128, Tryd.ntmps128
            go_wp2_with fail
            go_ret
            exact ⟨rfl, rfl⟩
          · rw [if_neg h5] at hn
            subst hn
            have g5 : ¬ ((z : Int) < (128 : Int)) := by omega
            clear h1 h2 h3 h4 h5
            go_enter Tryd.func128, Tryd.ntmps128
            go_wp2_with fail
            go_ret
            exact ⟨rfl, rfl⟩
def lenR (r : Int) : Int := if r < 0 ∨ 1114111 < r ∨ (55296 ≤ r ∧ r ≤ 57343) then 0 else if r < 128 then 1 else if r < 2048 then 2 else if r < 65536 then 3 else 4
set_option maxRecDepth 100000 in
set_option maxHeartbeats 2000000 in
theorem length_any (r : Int) (w : World) : Calls Tryd.prog 130 #[.int .i64 r] w fun e w' => e = .returned (.int .i64 (lenR r)) ∧ w = w' := by
  obtain ⟨n, hn⟩ : ∃ n, n = lenR r := ⟨_, rfl⟩
  have HN := Lib.hid hn
  unfold lenR at hn
  rw [← HN.out]
  by_cases h1 : r < 0 ∨ 1114111 < r ∨ (55296 ≤ r ∧ r ≤ 57343)
  · rw [if_pos h1] at hn
    subst hn
    by_cases g1 : r < 0
    · clear h1
      go_enter Tryd.func130, Tryd.ntmps130
      go_wp2_with fail
      go_ret
      exact ⟨rfl, rfl⟩
    · by_cases g2 : 1114111 < r
      · clear h1
        go_enter Tryd.func130, Tryd.ntmps130
        go_wp2_with fail
        go_ret
        exact ⟨rfl, rfl⟩
      · have g3 : 55296 ≤ r := by omega
        have g4 : r ≤ 57343 := by omega
        clear h1
        go_enter Tryd.func130, Tryd.ntmps130
        go_wp2_with fail
        go_ret
        exact ⟨rfl, rfl⟩
  · rw [if_neg h1] at hn
    have g1 : ¬ (r < 0) := by omega
    have g2 : ¬ (1114111 < r) := by omega
    have HG : (¬ (55296 ≤ r)) ∨ (55296 ≤ r ∧ ¬ (r ≤ 57343)) := by omega
    by_cases h2 : r < 128
    · rw [if_pos h2] at hn
      subst hn
      have g3 : ¬ (55296 ≤ r) := by omega
      clear h1 HG
      go_enter Tryd.func130, Tryd.ntmps130
      go_wp2_with fail
      go_ret
      exact ⟨rfl, rfl⟩
    · rw [if_neg h2] at hn
      by_cases h3 : r < 2048
      · rw [if_pos h3] at hn
        subst hn
        have g3 : ¬ (55296 ≤ r) := by omega
        clear h1 HG
        go_enter Tryd.func130, Tryd.ntmps130
        go_wp2_with fail
        go_ret
        exact ⟨rfl, rfl⟩
      · rw [if_neg h3] at hn
        by_cases h4 : r < 65536
        · rw [if_pos h4] at hn
          subst hn
          rcases HG with g3 | ⟨g3, g4⟩
          · clear h1
            go_enter Tryd.func130, Tryd.ntmps130
            go_wp2_with fail
            go_ret
            exact ⟨rfl, rfl⟩
          · clear h1
            go_enter Tryd.func130, Tryd.ntmps130
            go_wp2_with fail
            go_ret
            exact ⟨rfl, rfl⟩
        · rw [if_neg h4] at hn
          subst hn
          have g3 : 55296 ≤ r := by omega
          have g4 : ¬ (r ≤ 57343) := by omega
          clear h1 HG
          go_enter Tryd.func130, Tryd.ntmps130
          go_wp2_with fail
          go_ret
          exact ⟨rfl, rfl⟩
end Go.Proofs.YtdfkbahlngijcaaDoor

namespace Go.Proofs.YtdfkbahlngijcaaDoor
open Go.RowKit
set_option linter.unusedVariables false

theorem ann_le (c : UInt8) : annN c ≤ 4 := by
  unfold annN
  repeat' split
  all_goals omega
/-- the rune so far, as the program reckons it -/
def rN (l : List UInt8) (n : Nat) : Nat → Int
  | 0 => 0
  | 1 => if 1 < n then bits BinOp.and IntKind.i64 (wrap64 ((l.getD 0 0).toNat : Int)) (127 / 2 ^ n) else wrap64 ((l.getD 0 0).toNat : Int)
  | i + 2 => bits BinOp.or IntKind.i64 (wrap64 (rN l n (i + 1) * 64)) (wrap64 (bits BinOp.and IntKind.u8 ((l.getD (i + 1) 0).toNat : Int) 63))
/-- the bytes behind the first one, below n, continue -/
def conts (l : List UInt8) (n : Nat) : Prop := ∀ j, 1 ≤ j → j < n → isC (l.getD j 0) = true
def okRune (l : List UInt8) (n : Nat) : Prop := n ≠ 0 ∧ n ≤ l.length ∧ conts l n ∧ lenR (rN l n n) = n
open Classical in
/-- how many bytes the first rune has -/
noncomputable def vstep (l : List UInt8) : Option Nat := if okRune l (annN (l.getD 0 0)) then some (annN (l.getD 0 0)) else none
theorem vstep_yes {l : List UInt8} (h : okRune l (annN (l.getD 0 0))) : vstep l = some (annN (l.getD 0 0)) := if_pos h
theorem vstep_no {l : List UInt8} (h : ¬ okRune l (annN (l.getD 0 0))) : vstep l = none := if_neg h
theorem getD_at (s : ByteArray) {i : Nat} (h : i < s.size) : s.data.toList.getD i 0 = s[i] := by
  rw [List.getD_eq_getElem?_getD, byte_at s h]
  rfl
theorem rN_next (l : List UInt8) (n : Nat) {i : Nat} (h : 1 ≤ i) : rN l n (i + 1) = bits BinOp.or IntKind.i64 (wrap64 (rN l n i * 64)) (wrap64 (bits BinOp.and IntKind.u8 ((l.getD i 0).toNat : Int) 63)) := by
  obtain ⟨k, rfl⟩ : ∃ k, i = k + 1 := ⟨i - 1, by omega⟩
  rfl
def DecPost (l : List UInt8) (w : World) (e : Ending) (w' : World) : Prop :=
  ((∃ (r : Int) (m : Nat), vstep l = some m ∧ e = .returned (.tuple #[.int .i64 r, .int .i64 m, .int .i64 0])) ∨ (vstep l = none ∧ e = .returned (.tuple #[.int .i64 0, .int .i64 0, .int .i64 11]))) ∧ w = w'
theorem dec_bad {l : List UInt8} {w : World} (h : vstep l = none) : DecPost l w (.returned (.tuple #[.int .i64 0, .int .i64 0, .int .i64 11])) w := ⟨.inr ⟨h, rfl⟩, rfl⟩
theorem dec_good {l : List UInt8} {w : World} {m : Nat} (r : Int) (h : vstep l = some m) : DecPost l w (.returned (.tuple #[.int .i64 r, .int .i64 m, .int .i64 0])) w := ⟨.inl ⟨r, m, h, rfl⟩, rfl⟩
set_option maxRecDepth 100000 in
set_option maxHeartbeats 8000000 in
theorem decode_any (s : ByteArray) (w : World) (h0 : 0 < s.size) (hs : s.size ≤ 1048576) : Calls Tryd.prog 110 #[.string s] w (DecPost s.data.toList w) := by
  have HA := Lib.hid (announced_any s[0] w)
  have hne := str_some (t := s) (by omega)
  have HG0 := Lib.hid (getD_at s h0)
  have HLL := Lib.hid (show s.data.toList.length = s.size from Array.length_toList ..)
  have h4 := ann_le s[0]
  have HV := Lib.hid (show ∀ n, n = annN s[0] → (okRune s.data.toList n → vstep s.data.toList = some n) ∧ (¬ okRune s.data.toList n → vstep s.data.toList = none) from fun n hn => by
    subst hn
    rw [← HG0.out]
    exact ⟨vstep_yes, vstep_no⟩)
  obtain ⟨n, hn⟩ : ∃ n, n = annN s[0] := ⟨_, rfl⟩
  have HVN := Lib.hid (HV.out n hn)
  rw [← hn] at HA h4
  clear HV hn
  have hs0 : (0 : Int) < (s.size : Int) := by omega
  have hn4 : (0 : Int) ≤ (n : Int) := by omega
  by_cases hz : n = 0
  · as_aux_lemma =>
    subst hz
    have HN := Lib.hid (HVN.out.2 fun h => h.1 rfl)
    go_enter Tryd.func110, Tryd.ntmps110
    go_wp2_with fail
    refine (HA.out).mono ?_; rintro e w1 ⟨rfl, rfl⟩
    go_wp2_with fail
    go_ret3
    exact dec_bad HN.out
  · have hn1 : ((n : Int) == 0) = false := by rw [beq_eq_false_iff_ne]; omega
    by_cases hb : s.size < n
    · as_aux_lemma =>
      have HN := Lib.hid (HVN.out.2 fun h => by have := h.2.1; rw [HLL.out] at this; omega)
      have hn5 : (s.size : Int) < (n : Int) := by omega
      have hn6 : decide (s.size < n) = true := decide_eq_true hb
      clear hb hz
      go_enter Tryd.func110, Tryd.ntmps110
      go_wp2_with fail
      refine (HA.out).mono ?_; rintro e w1 ⟨rfl, rfl⟩
      go_wp2_with fail
      go_ret3
      exact dec_bad HN.out
    · have hn2 : decide (s.size < n) = false := decide_eq_false (by omega)
      have hn5 : ¬ ((s.size : Int) < (n : Int)) := by omega
      have HBN := Lib.hid (show n ≤ s.size by omega)
      have HNZ := Lib.hid hz
      clear hz hb
      by_cases h1 : 1 < n
      · as_aux_lemma =>
        have hn3 : (1 : Int) < (n : Int) := by omega
        have HR1 := Lib.hid (show bits BinOp.and IntKind.i64 (wrap64 (s[0].toNat : Int)) (127 / 2 ^ n) = rN s.data.toList n 1 by
          show _ = (if 1 < n then bits BinOp.and IntKind.i64 (wrap64 ((s.data.toList.getD 0 0).toNat : Int)) (127 / 2 ^ n) else _)
          rw [if_pos h1, HG0.out])
        go_enter Tryd.func110, Tryd.ntmps110
        go_wp2_with fail
        refine (HA.out).mono ?_; rintro e w1 ⟨rfl, rfl⟩
        go_wp2_with fail
        go_loop [2, 6] (fun s2 s6 => ∃ (i : Nat) (r : Int), i ≤ n ∧ 1 ≤ i ∧ s6 = .int .i64 i ∧ s2 = .int .i64 r ∧ r = rN s.data.toList n i ∧ conts s.data.toList i) (fun _ s6 => n - (intOf s6).toNat)
        case atStart => exact ⟨1, _, by omega, Nat.le_refl _, rfl, rfl, HR1.out, fun j h1 h2 => absurd h2 (by omega)⟩
        case round =>
          obtain ⟨i, r, hi, hi1, rfl, rfl, hr, hct⟩ := hrel
          have HR := Lib.hid hr
          have HCT := Lib.hid hct
          clear hr hct
          by_cases hlt : i < n
          · have hlt' : (i : Int) < (n : Int) := by omega
            have his : i < s.size := by have := HBN.out; omega
            have his' : (i : Int) < (s.size : Int) := by omega
            have hi0 : (0 : Int) ≤ (i : Int) := by omega
            have HC := Lib.hid (continues_any s[i] w)
            have HGI := Lib.hid (getD_at s his)
            by_cases hc : isC s[i] = true
            · as_aux_lemma =>
              rw [hc] at HC
              have HCT2 := Lib.hid (show conts s.data.toList (i + 1) from fun j h1 h2 => by
                rcases Nat.lt_or_ge j i with h | h
                · exact HCT.out j h1 h
                · obtain rfl : j = i := by omega
                  rw [HGI.out]; exact hc)
              have HRN := Lib.hid (rN_next s.data.toList n hi1)
              clear hc
              go_wp2_with fail
              refine (HC.out).mono ?_; rintro e w1 ⟨rfl, rfl⟩
              go_wp2_with fail
              go_round
              case rel => exact ⟨i + 1, _, by omega, by omega, by go_num, rfl, (by rw [HRN.out, ← HR.out, HGI.out]), HCT2.out⟩
              case measure => (simp [intOf] <;> omega)
            · as_aux_lemma =>
              rw [Bool.eq_false_iff.2 hc] at HC
              have HN := Lib.hid (HVN.out.2 fun h => hc (by rw [← HGI.out]; exact h.2.2.1 i hi1 hlt))
              clear hc
              go_wp2_with fail
              refine (HC.out).mono ?_; rintro e w1 ⟨rfl, rfl⟩
              go_wp2_with fail
              go_ret3
              exact dec_bad HN.out
          · as_aux_lemma =>
            obtain rfl : i = n := by omega
            have HL := Lib.hid (length_any r w)
            have hge : ¬ ((i : Int) < (i : Int)) := by omega
            clear hlt
            by_cases hl : lenR r = i
            · have HN := Lib.hid (HVN.out.1 ⟨HNZ.out, by rw [HLL.out]; exact HBN.out, HCT.out, by rw [← HR.out]; exact hl⟩)
              rw [hl] at HL
              clear hl
              go_wp2_with fail
              refine (HL.out).mono ?_; rintro e w1 ⟨rfl, rfl⟩
              go_wp2_with fail
              go_ret3
              exact dec_good _ HN.out
            · have HN := Lib.hid (HVN.out.2 fun h => hl (by rw [HR.out]; exact h.2.2.2))
              generalize lenR r = z at *
              have hz1 : (z == (i : Int)) = false := by rw [beq_eq_false_iff_ne]; exact hl
              have hz2 : (z != (i : Int)) = true := by rw [bne_iff_ne]; exact hl
              clear hl
              go_wp2_with fail
              refine (HL.out).mono ?_; rintro e w1 ⟨rfl, rfl⟩
              go_wp2_with fail
              go_ret3
              exact dec_bad HN.out
      · as_aux_lemma =>
        obtain rfl : n = 1 := by have := HNZ.out; omega
        have HR1 := Lib.hid (show wrap64 (s[0].toNat : Int) = rN s.data.toList 1 1 by
          show _ = (if 1 < 1 then _ else wrap64 ((s.data.toList.getD 0 0).toNat : Int))
          rw [if_neg (by decide), HG0.out]; rfl)
        clear h1
        go_enter Tryd.func110, Tryd.ntmps110
        go_wp2_with fail
        refine (HA.out).mono ?_; rintro e w1 ⟨rfl, rfl⟩
        go_wp2_with fail
        go_loop [2, 6] (fun s2 s6 => ∃ (i : Nat) (r : Int), i ≤ 1 ∧ 1 ≤ i ∧ s6 = .int .i64 i ∧ s2 = .int .i64 r ∧ r = rN s.data.toList 1 i ∧ conts s.data.toList i) (fun _ s6 => 1 - (intOf s6).toNat)
        case atStart => exact ⟨1, _, by omega, Nat.le_refl _, rfl, rfl, HR1.out, fun j h1 h2 => absurd h2 (by omega)⟩
        case round =>
          obtain ⟨i, r, hi, hi1, rfl, rfl, hr, hct⟩ := hrel
          have HR := Lib.hid hr
          have HCT := Lib.hid hct
          clear hr hct
          by_cases hlt : i < 1
          · exact absurd hlt (by omega)
          · as_aux_lemma =>
            obtain rfl : i = 1 := by omega
            have HL := Lib.hid (length_any r w)
            have hge : ¬ (((1 : Nat) : Int) < ((1 : Nat) : Int)) := by omega
            clear hlt
            by_cases hl : lenR r = ((1 : Nat) : Int)
            · have HN := Lib.hid (HVN.out.1 ⟨HNZ.out, by rw [HLL.out]; exact HBN.out, HCT.out, by rw [← HR.out]; exact hl⟩)
              rw [hl] at HL
              clear hl
              go_wp2_with fail
              refine (HL.out).mono ?_; rintro e w1 ⟨rfl, rfl⟩
              go_wp2_with fail
              go_ret3
              exact dec_good _ HN.out
            · have HN := Lib.hid (HVN.out.2 fun h => hl (by rw [HR.out]; exact h.2.2.2))
              generalize lenR r = z at *
              have hz1 : (z == ((1 : Nat) : Int)) = false := by rw [beq_eq_false_iff_ne]; exact hl
              have hz2 : (z != ((1 : Nat) : Int)) = true := by rw [bne_iff_ne]; exact hl
              clear hl
              go_wp2_with fail
              refine (HL.out).mono ?_; rintro e w1 ⟨rfl, rfl⟩
              go_wp2_with fail
              go_ret3
              exact dec_bad HN.out
end Go.Proofs.YtdfkbahlngijcaaDoor

namespace Go.Proofs.YtdfkbahlngijcaaDoor
open Go.RowKit
set_option linter.unusedVariables false

inductive VL : List UInt8 → Prop
  | nil : VL []
  | step {l : List UInt8} {n : Nat} (h : vstep l = some n) (k : VL (l.drop n)) : VL l
theorem vstep_some {l : List UInt8} {n : Nat} (h : vstep l = some n) : n = annN (l.getD 0 0) ∧ okRune l n := by
  by_cases k : okRune l (annN (l.getD 0 0))
  · rw [vstep_yes k] at h
    injection h with h
    subst h
    exact ⟨rfl, k⟩
  · rw [vstep_no k] at h; cases h
theorem VL.next {l : List UInt8} {n : Nat} (h : vstep l = some n) : VL l ↔ VL (l.drop n) := by
  constructor
  · intro k
    cases k with
    | nil =>
      have := (vstep_some h).2.2.1
      simp at this
      exact absurd this (vstep_some h).2.1
    | step h2 k2 =>
      rw [h] at h2
      injection h2 with h2
      rw [h2]; exact k2
  · exact fun k => .step h k
theorem VL.none {l : List UInt8} (h : vstep l = Option.none) (h0 : l ≠ []) : ¬ VL l := by
  intro k
  cases k with
  | nil => exact h0 rfl
  | step h2 _ => rw [h] at h2; cases h2
theorem rN_congr {l l' : List UInt8} {n : Nat} (h : ∀ i, i < n → l'.getD i 0 = l.getD i 0) : ∀ i, i ≤ n → rN l' n i = rN l n i
  | 0, _ => rfl
  | 1, hi => by
    show (if 1 < n then _ else _) = (if 1 < n then _ else _)
    rw [h 0 (by omega)]
  | i + 2, hi => by
    rw [rN_next l' n (by omega), rN_next l n (by omega), rN_congr h (i + 1) (by omega), h (i + 1) (by omega)]
theorem vstep_take {l l' : List UInt8} {n : Nat} (h : vstep l = some n) (e : l'.take n = l.take n) : vstep l' = some n := by
  obtain ⟨h1, h2, h3, h4, h5⟩ := vstep_some h
  have hl : n ≤ l'.length := by
    have := congrArg List.length e
    rw [List.length_take, List.length_take] at this
    omega
  have hg : ∀ i, i < n → l'.getD i 0 = l.getD i 0 := fun i hi => by
    rw [List.getD_eq_getElem?_getD, List.getD_eq_getElem?_getD]
    have := congrArg (fun t => t[i]?) e
    simp only [List.getElem?_take_of_lt hi] at this
    rw [this]
  have h0 : n = annN (l'.getD 0 0) := by rw [hg 0 (by omega)]; exact h1
  have hok : okRune l' n := ⟨h2, hl, fun j a b => by rw [hg j b]; exact h4 j a b, by rw [rN_congr hg n (Nat.le_refl _)]; exact h5⟩
  rw [h0] at hok ⊢
  exact vstep_yes hok
def bndL (l : List UInt8) (p : Nat) : Prop := p = l.length ∨ (p < l.length ∧ isC (l.getD p 0) = false)
theorem getD_drop (l : List UInt8) (n i : Nat) : (l.drop n).getD i 0 = l.getD (n + i) 0 := by
  rw [List.getD_eq_getElem?_getD, List.getD_eq_getElem?_getD, List.getElem?_drop]
theorem VL.cut {l : List UInt8} (h : VL l) : ∀ p, bndL l p → VL (l.take p) ∧ VL (l.drop p) := by
  induction h with
  | nil => exact fun p _ => ⟨by rw [List.take_nil]; exact .nil, by rw [List.drop_nil]; exact .nil⟩
  | @step l n h1 h2 ih =>
    intro p hp
    obtain ⟨k1, k2, k3, k4, k5⟩ := vstep_some h1
    rcases Nat.eq_zero_or_pos p with e | e
    · subst e
      exact ⟨by rw [List.take_zero]; exact .nil, .step h1 h2⟩
    · rcases Nat.lt_or_ge p n with hpn | hpn
      · rcases hp with hp | ⟨_, hp⟩
        · omega
        · rw [k4 p (by omega) hpn] at hp; cases hp
      · have hb : bndL (l.drop n) (p - n) := by
          rcases hp with hp | ⟨hp1, hp2⟩
          · exact .inl (by rw [List.length_drop]; omega)
          · exact .inr ⟨by rw [List.length_drop]; omega, by rw [getD_drop, show n + (p - n) = p by omega]; exact hp2⟩
        obtain ⟨i1, i2⟩ := ih (p - n) hb
        refine ⟨.step (vstep_take h1 (by rw [List.take_take, Nat.min_eq_left hpn])) ?_, ?_⟩
        · rw [List.drop_take]
          exact i1
        · rw [List.drop_drop, show n + (p - n) = p by omega] at i2
          exact i2
open Classical in
noncomputable def validB (l : List UInt8) : Bool := decide (VL l)
open Classical in
theorem validB_iff {l : List UInt8} : validB l = true ↔ VL l := by unfold validB; exact decide_eq_true_iff
def strN : Value → Nat
  | .string t => t.size
  | _ => 0
theorem ext_drop (t : ByteArray) (m : Nat) : (t.extract m t.size).data.toList = t.data.toList.drop m := by
  rw [ByteArray.data_extract, Array.toList_extract]
  have hl : t.data.toList.length = t.size := Array.length_toList ..
  show (t.data.toList.drop m).take (t.size - m) = _
  rw [List.take_of_length_le]
  rw [List.length_drop, hl]
  exact Nat.le_refl _
set_option maxRecDepth 100000 in
set_option maxHeartbeats 4000000 in
theorem valid_str (s : ByteArray) (w : World) (hs : s.size ≤ 1048576) : Calls Tryd.prog 87 #[.string s] w fun e w' => e = .returned (.bool (validB s.data.toList)) ∧ w = w' := by
  go_enter Tryd.func87, Tryd.ntmps87
  go_wp2_with fail
  go_loop [0] (fun s0 => ∃ t : ByteArray, s0 = .string t ∧ t.size ≤ s.size ∧ (VL s.data.toList ↔ VL t.data.toList)) (fun s0 => strN s0)
  case atStart => exact ⟨s, rfl, Nat.le_refl _, Iff.rfl⟩
  case round =>
    obtain ⟨t, rfl, ht, hv⟩ := hrel
    have HV := Lib.hid hv
    clear hv
    by_cases h0 : t.size = 0
    · as_aux_lemma =>
      have HE := Lib.hid (show validB s.data.toList = true from validB_iff.2 (HV.out.2 (by rw [str_empty h0]; exact .nil)))
      obtain rfl := str_empty h0
      clear h0
      go_wp2_with fail
      go_ret
      exact ⟨by rw [HE.out] <;> rfl, rfl⟩
    · as_aux_lemma =>
      have hne := str_some h0
      have HD := Lib.hid (decode_any t w (by omega) (by omega))
      have HNE := Lib.hid (show t.data.toList ≠ [] from fun e => h0 (by have h := congrArg List.length e; rw [Array.length_toList] at h; exact h))
      have hp : 0 < t.size := by omega
      clear h0
      go_wp2_with fail
      refine (HD.out).mono ?_; rintro e w1 ⟨hd, rfl⟩
      rcases hd with ⟨r, m, hm, rfl⟩ | ⟨hm, rfl⟩
      · obtain ⟨-, k2, k3, -, -⟩ := vstep_some hm
        have k3' : m ≤ t.size := by rw [show t.data.toList.length = t.size from Array.length_toList ..] at k3; exact k3
        have hm0 : (0 : Int) ≤ (m : Int) := by omega
        have hm1 : (m : Int) ≤ (t.size : Int) := by omega
        have HN := Lib.hid (VL.next hm)
        have HSZ := Lib.hid (show (t.extract m t.size).size = t.size - m by rw [ByteArray.size_extract]; omega)
        have hm2 : 0 < m := by omega
        clear hm k2 k3
        go_wp2_with fail
        go_round
        case rel => exact ⟨t.extract m t.size, rfl, by rw [HSZ.out]; omega, by rw [HV.out, HN.out, ext_drop]⟩
        case measure =>
          show (t.extract m t.size).size < t.size
          rw [HSZ.out]; omega
      · have HE := Lib.hid (show validB s.data.toList = false from Bool.eq_false_iff.2 fun h => VL.none hm HNE.out (HV.out.1 (validB_iff.1 h)))
        clear hm
        go_wp2_with fail
        go_ret
        exact ⟨by rw [HE.out] <;> rfl, rfl⟩
end Go.Proofs.YtdfkbahlngijcaaDoor

