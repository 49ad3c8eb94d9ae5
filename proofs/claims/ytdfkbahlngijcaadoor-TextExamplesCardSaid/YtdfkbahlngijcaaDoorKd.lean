/- Text: the reference's Decode: plain law: it finds the same first rune as the program's. Text: the reference's Rune and Encode: their walks. Text: the reference's Decode and Valid: their walks. Text: quartoref29.Check: its walk. Text: results: Result of the program where Err is OK: its walk. Text: results: Result of the reference. Text: Uses of quartoref32, word of quartoref40: their walks. Text: Plain of quartoref39: its walk. -/
import Derived.Test.YtdfkbahlngijcaaDoorKc
import Derived.Test.YtdfkbahlngijcaaDoorKb
import Derived.Deep.DeepCutAuto
import Derived.Deep.CutBlock
import Derived.Test.YtdfkbahlngijcaaDoorKa
namespace Go.Proofs.YtdfkbahlngijcaaDoor
open Go.RowKit
set_option linter.unusedVariables false

theorem band_i64 (a b : Nat) (ha : a < 9223372036854775808) (hb : b < 9223372036854775808) : bits .and .i64 (a : Int) (b : Int) = ((a &&& b : Nat) : Int) := by
  have hx : a &&& b < 2 ^ 63 := Nat.and_lt_two_pow _ (by omega)
  have h1 : (BitVec.ofInt 64 (a : Int)).toNat = a := by
    rw [BitVec.ofInt_natCast, BitVec.toNat_ofNat]; exact Nat.mod_eq_of_lt (by omega)
  have h2 : (BitVec.ofInt 64 (b : Int)).toNat = b := by
    rw [BitVec.ofInt_natCast, BitVec.toNat_ofNat]; exact Nat.mod_eq_of_lt (by omega)
  show IntKind.i64.wrap ((BitVec.ofInt 64 (a : Int) &&& BitVec.ofInt 64 (b : Int)).toNat : Int) = _
  rw [BitVec.toNat_and, h1, h2, IntKind.wrap_i64]
  omega
theorem bor_i64 (a b : Nat) (ha : a < 9223372036854775808) (hb : b < 9223372036854775808) : bits .or .i64 (a : Int) (b : Int) = ((a ||| b : Nat) : Int) := by
  have hx : a ||| b < 2 ^ 63 := Nat.or_lt_two_pow (by omega) (by omega)
  have h1 : (BitVec.ofInt 64 (a : Int)).toNat = a := by
    rw [BitVec.ofInt_natCast, BitVec.toNat_ofNat]; exact Nat.mod_eq_of_lt (by omega)
  have h2 : (BitVec.ofInt 64 (b : Int)).toNat = b := by
    rw [BitVec.ofInt_natCast, BitVec.toNat_ofNat]; exact Nat.mod_eq_of_lt (by omega)
  show IntKind.i64.wrap ((BitVec.ofInt 64 (a : Int) ||| BitVec.ofInt 64 (b : Int)).toNat : Int) = _
  rw [BitVec.toNat_or, h1, h2, IntKind.wrap_i64]
  omega
theorem band_u8 (a b : Nat) (ha : a < 256) (hb : b < 256) : bits .and .u8 (a : Int) (b : Int) = ((a &&& b : Nat) : Int) := by
  have hx : a &&& b < 2 ^ 8 := Nat.and_lt_two_pow _ (by omega)
  have h1 : (BitVec.ofInt 8 (a : Int)).toNat = a := by
    rw [BitVec.ofInt_natCast, BitVec.toNat_ofNat]; exact Nat.mod_eq_of_lt (by omega)
  have h2 : (BitVec.ofInt 8 (b : Int)).toNat = b := by
    rw [BitVec.ofInt_natCast, BitVec.toNat_ofNat]; exact Nat.mod_eq_of_lt (by omega)
  show IntKind.u8.wrap ((BitVec.ofInt 8 (a : Int) &&& BitVec.ofInt 8 (b : Int)).toNat : Int) = _
  rw [BitVec.toNat_and, h1, h2, IntKind.wrap_u8]
  omega
theorem low63 (c : UInt8) : bits .and .u8 (c.toNat : Int) 63 = ((c.toNat % 64 : Nat) : Int) := by
  have h := c.toNat_lt
  have e := band_u8 c.toNat 63 (by omega) (by omega)
  rw [show (63 : Nat) = 2 ^ 6 - 1 from rfl, Nat.and_two_pow_sub_one_eq_mod] at e
  exact e
theorem join64 (r x : Nat) (hr : r < 72057594037927936) (hx : x < 64) : bits .or .i64 (wrap64 ((r : Int) * 64)) (wrap64 (x : Int)) = ((64 * r + x : Nat) : Int) := by
  rw [IntWalk.wrap64_in _ (by omega), IntWalk.wrap64_in _ (by omega), show ((r : Int) * 64) = ((64 * r : Nat) : Int) by omega, bor_i64 _ _ (by omega) (by omega)]
  have e := Nat.two_pow_add_eq_or_of_lt (i := 6) (b := x) (by omega) r
  rw [show 64 * r + x = 2 ^ 6 * r + x from rfl, e]
/-- the rune so far, as the reference reckons it -/
def rF (l : List UInt8) (n : Nat) : Nat → Nat
  | 0 => 0
  | 1 => (l.getD 0 0).toNat - (if n = 4 then 240 else if n = 3 then 224 else if n = 2 then 192 else 0)
  | i + 2 => 64 * rF l n (i + 1) + ((l.getD (i + 1) 0).toNat - 128)
theorem rF_next (l : List UInt8) (n : Nat) {i : Nat} (h : 1 ≤ i) : rF l n (i + 1) = 64 * rF l n i + ((l.getD i 0).toNat - 128) := by
  obtain ⟨k, rfl⟩ : ∃ k, i = k + 1 := ⟨i - 1, by omega⟩
  rfl
theorem rF_most (l : List UInt8) (n : Nat) : ∀ i, i ≤ 4 → rF l n i ≤ 67375167
  | 0, _ => Nat.zero_le _
  | i + 1, h => by
    have h0 : rF l n 1 ≤ 255 := by
      have := (l.getD 0 0).toNat_lt
      show _ - _ ≤ _
      omega
    have st : ∀ k, rF l n (k + 2) ≤ 64 * rF l n (k + 1) + 127 := fun k => by
      have := (l.getD (k + 1) 0).toNat_lt
      show 64 * rF l n (k + 1) + (_ - 128) ≤ _
      omega
    have h1 : rF l n 2 ≤ 64 * rF l n 1 + 127 := st 0
    have h2 : rF l n 3 ≤ 64 * rF l n 2 + 127 := st 1
    have h3 : rF l n 4 ≤ 64 * rF l n 3 + 127 := st 2
    rcases (by omega : i = 0 ∨ i = 1 ∨ i = 2 ∨ i = 3) with rfl | rfl | rfl | rfl
    · show rF l n 1 ≤ _; omega
    · show rF l n 2 ≤ _; omega
    · show rF l n 3 ≤ _; omega
    · show rF l n 4 ≤ _; omega
def annR (c : UInt8) : Nat := if 240 ≤ c.toNat then 4 else if 224 ≤ c.toNat then 3 else if 192 ≤ c.toNat then 2 else 1
theorem isC_iff (c : UInt8) : isC c = true ↔ 128 ≤ c.toNat ∧ c.toNat ≤ 191 := by unfold isC; simp
/-- both reckon alike -/
theorem rN_rF {l : List UInt8} {n : Nat} (hn : annN (l.getD 0 0) = n) (h0 : n ≠ 0) : ∀ i, 1 ≤ i → i ≤ n → conts l i → rN l n i = (rF l n i : Int)
  | 0, h, _, _ => absurd h (by omega)
  | 1, _, _, _ => by
    have hc := (l.getD 0 0).toNat_lt
    show (if 1 < n then bits BinOp.and IntKind.i64 (wrap64 ((l.getD 0 0).toNat : Int)) (127 / 2 ^ n) else wrap64 ((l.getD 0 0).toNat : Int)) = (((l.getD 0 0).toNat - (if n = 4 then 240 else if n = 3 then 224 else if n = 2 then 192 else 0) : Nat) : Int)
    unfold annN at hn
    generalize (l.getD 0 0).toNat = c at *
    rw [IntWalk.wrap64_in _ (by omega)]
    by_cases g1 : 244 < c
    · rw [if_pos g1] at hn; omega
    · rw [if_neg g1] at hn
      by_cases g2 : 240 ≤ c
      · rw [if_pos g2] at hn
        subst hn
        rw [if_pos (by decide), if_pos rfl, show ((127 : Int) / 2 ^ 4) = ((7 : Nat) : Int) by decide, band_i64 _ _ (by omega) (by omega), show (7 : Nat) = 2 ^ 3 - 1 from rfl, Nat.and_two_pow_sub_one_eq_mod]
        omega
      · rw [if_neg g2] at hn
        by_cases g3 : 224 ≤ c
        · rw [if_pos g3] at hn
          subst hn
          rw [if_pos (by decide), if_neg (by decide), if_pos rfl, show ((127 : Int) / 2 ^ 3) = ((15 : Nat) : Int) by decide, band_i64 _ _ (by omega) (by omega), show (15 : Nat) = 2 ^ 4 - 1 from rfl, Nat.and_two_pow_sub_one_eq_mod]
          omega
        · rw [if_neg g3] at hn
          by_cases g4 : 194 ≤ c
          · rw [if_pos g4] at hn
            subst hn
            rw [if_pos (by decide), if_neg (by decide), if_neg (by decide), if_pos rfl, show ((127 : Int) / 2 ^ 2) = ((31 : Nat) : Int) by decide, band_i64 _ _ (by omega) (by omega), show (31 : Nat) = 2 ^ 5 - 1 from rfl, Nat.and_two_pow_sub_one_eq_mod]
            omega
          · rw [if_neg g4] at hn
            by_cases g5 : c < 128
            · rw [if_pos g5] at hn
              subst hn
              rw [if_neg (by decide), if_neg (by decide), if_neg (by decide), if_neg (by decide)]
              omega
            · rw [if_neg g5] at hn; omega
  | i + 2, _, hi, hc => by
    have ih := rN_rF hn h0 (i + 1) (by omega) (by omega) (fun j a b => hc j a (by omega))
    have hk := (isC_iff _).1 (hc (i + 1) (by omega) (by omega))
    have hle : n ≤ 4 := by rw [← hn]; exact ann_le _
    have hm := rF_most l n (i + 1) (by omega)
    show bits BinOp.or IntKind.i64 (wrap64 (rN l n (i + 1) * 64)) (wrap64 (bits BinOp.and IntKind.u8 ((l.getD (i + 1) 0).toNat : Int) 63)) = ((64 * rF l n (i + 1) + ((l.getD (i + 1) 0).toNat - 128) : Nat) : Int)
    rw [ih, low63, join64 _ _ (by omega) (by omega)]
    omega
def isRune (r : Nat) : Prop := r ≤ 1114111 ∧ (r < 55296 ∨ 57343 < r)
def encR (r : Nat) : List UInt8 :=
  if r < 128 then [UInt8.ofNat r] else if r < 2048 then [UInt8.ofNat (192 + r / 64), UInt8.ofNat (128 + r % 64)]
  else if r < 65536 then [UInt8.ofNat (224 + r / 4096), UInt8.ofNat (128 + r / 64 % 64), UInt8.ofNat (128 + r % 64)]
  else [UInt8.ofNat (240 + r / 262144), UInt8.ofNat (128 + r / 4096 % 64), UInt8.ofNat (128 + r / 64 % 64), UInt8.ofNat (128 + r % 64)]
def okRef (l : List UInt8) (n : Nat) : Prop := n ≤ l.length ∧ conts l n ∧ isRune (rF l n n) ∧ encR (rF l n n) = l.take n
theorem u8_of {x : Nat} {c : UInt8} (h : x = c.toNat) : UInt8.ofNat x = c := by subst h; exact UInt8.ofNat_toNat
theorem lenR_is {r : Nat} {n : Nat} (h : lenR (r : Int) = n) (h0 : n ≠ 0) : isRune r := by
  unfold lenR at h
  by_cases k : (r : Int) < 0 ∨ 1114111 < (r : Int) ∨ (55296 ≤ (r : Int) ∧ (r : Int) ≤ 57343)
  · rw [if_pos k] at h; omega
  · exact ⟨by omega, by omega⟩
theorem lenR_of {r : Nat} (h : isRune r) : lenR (r : Int) = if r < 128 then 1 else if r < 2048 then 2 else if r < 65536 then 3 else 4 := by
  obtain ⟨h1, h2⟩ := h
  unfold lenR
  rw [if_neg (by omega)]
  by_cases k1 : r < 128
  · rw [if_pos k1, if_pos (by omega)]
  · rw [if_neg k1, if_neg (by omega)]
    by_cases k2 : r < 2048
    · rw [if_pos k2, if_pos (by omega)]
    · rw [if_neg k2, if_neg (by omega)]
      by_cases k3 : r < 65536
      · rw [if_pos k3, if_pos (by omega)]
      · rw [if_neg k3, if_neg (by omega)]
theorem encR_len (r : Nat) : ((encR r).length : Int) = if r < 128 then 1 else if r < 2048 then 2 else if r < 65536 then 3 else 4 := by
  unfold encR
  by_cases k1 : r < 128
  · rw [if_pos k1, if_pos k1]; rfl
  · rw [if_neg k1, if_neg k1]
    by_cases k2 : r < 2048
    · rw [if_pos k2, if_pos k2]; rfl
    · rw [if_neg k2, if_neg k2]
      by_cases k3 : r < 65536
      · rw [if_pos k3, if_pos k3]; rfl
      · rw [if_neg k3, if_neg k3]; rfl
/-- the reference's first rune is the program's -/
theorem ok_ref {l : List UInt8} (h0 : l ≠ []) (h : okRef l (annR (l.getD 0 0))) : vstep l = some (annR (l.getD 0 0)) := by
  obtain ⟨h1, h2, h3, h4⟩ := h
  have hlen : lenR (rF l (annR (l.getD 0 0)) (annR (l.getD 0 0)) : Int) = (annR (l.getD 0 0) : Nat) := by
    rw [lenR_of h3, ← encR_len, h4, List.length_take]
    omega
  have hann : annN (l.getD 0 0) = annR (l.getD 0 0) := by
    have hm : rF l (annR (l.getD 0 0)) (annR (l.getD 0 0)) ≤ 1114111 := h3.1
    have hl2 : lenR (rF l (annR (l.getD 0 0)) (annR (l.getD 0 0)) : Int) = _ := lenR_of h3
    rw [hlen] at hl2
    generalize hc : (l.getD 0 0) = c at *
    unfold annN annR at *
    by_cases g2 : 240 ≤ c.toNat
    · rw [if_pos g2] at *
      have e : rF l 4 4 = 64 * (64 * (64 * ((l.getD 0 0).toNat - 240) + ((l.getD 1 0).toNat - 128)) + ((l.getD 2 0).toNat - 128)) + ((l.getD 3 0).toNat - 128) := rfl
      rw [hc] at e
      rw [if_neg (by omega), if_pos g2]
    · rw [if_neg g2] at *
      rw [if_neg (by omega)]
      rw [if_neg g2]
      by_cases g3 : 224 ≤ c.toNat
      · rw [if_pos g3, if_pos g3]
      · rw [if_neg g3] at *
        rw [if_neg g3]
        by_cases g4 : 192 ≤ c.toNat
        · rw [if_pos g4] at *
          have e : rF l 2 2 = 64 * ((l.getD 0 0).toNat - 192) + ((l.getD 1 0).toNat - 128) := rfl
          rw [hc] at e
          have k := (isC_iff _).1 (h2 1 (by omega) (by omega))
          rw [if_pos]
          apply Classical.byContradiction
          intro hk
          rw [if_pos (by omega)] at hl2
          exact absurd hl2 (by decide)
        · rw [if_neg g4] at *
          have e : rF l 1 1 = (l.getD 0 0).toNat - 0 := rfl
          rw [hc] at e
          rw [if_neg (by omega), if_pos]
          apply Classical.byContradiction
          intro hk
          rw [if_neg (by omega)] at hl2
          by_cases k2 : rF l 1 1 < 2048
          · rw [if_pos k2] at hl2; exact absurd hl2 (by decide)
          · have := c.toNat_lt; omega
  have hne : annR (l.getD 0 0) ≠ 0 := by unfold annR; split <;> (try split) <;> (try split) <;> decide
  rw [← hann]
  exact vstep_yes ⟨by rw [hann]; exact hne, by rw [hann]; exact h1, by rw [hann]; exact h2, by rw [hann, rN_rF hann hne _ (by omega) (Nat.le_refl _) h2]; exact hlen⟩
theorem no_ref {l : List UInt8} (h0 : l ≠ []) (h : ¬ okRef l (annR (l.getD 0 0))) : vstep l = none := by
  refine vstep_no fun hok => h ?_
  obtain ⟨k0, k1, k2, k3⟩ := hok
  have hR := rN_rF rfl k0 _ (by omega) (Nat.le_refl _) k2
  rw [hR] at k3
  have hru := lenR_is k3 k0
  have k4 := k3
  rw [lenR_of hru] at k4
  have hann : annR (l.getD 0 0) = annN (l.getD 0 0) := by
    unfold annN at k0 ⊢
    unfold annR
    by_cases g1 : 244 < (l.getD 0 0).toNat
    · rw [if_pos g1] at k0; omega
    · rw [if_neg g1] at k0 ⊢
      by_cases g2 : 240 ≤ (l.getD 0 0).toNat
      · rw [if_pos g2, if_pos g2]
      · rw [if_neg g2] at k0 ⊢
        rw [if_neg g2]
        by_cases g3 : 224 ≤ (l.getD 0 0).toNat
        · rw [if_pos g3, if_pos g3]
        · rw [if_neg g3] at k0 ⊢
          rw [if_neg g3]
          by_cases g4 : 194 ≤ (l.getD 0 0).toNat
          · rw [if_pos g4, if_pos (by omega)]
          · rw [if_neg g4] at k0 ⊢
            by_cases g5 : (l.getD 0 0).toNat < 128
            · rw [if_pos g5, if_neg (by omega)]
            · rw [if_neg g5] at k0; omega
  rw [hann]
  refine ⟨k1, k2, hru, ?_⟩
  have hcls : annR (l.getD 0 0) = annN (l.getD 0 0) := hann
  generalize hn : annN (l.getD 0 0) = n at *
  have hn4 : n ≤ 4 := by rw [← hn]; exact ann_le _
  unfold annR at hcls
  rcases l with _ | ⟨c0, l⟩
  · exact absurd rfl h0
  have b0 := c0.toNat_lt
  have hc0 : (c0 :: l).getD 0 0 = c0 := rfl
  rw [hc0] at hcls
  rcases (by omega : n = 1 ∨ n = 2 ∨ n = 3 ∨ n = 4) with rfl | rfl | rfl | rfl
  · have e : rF (c0 :: l) 1 1 = c0.toNat - 0 := rfl
    rw [e] at k4 ⊢
    have hlt : c0.toNat - 0 < 128 := by
      apply Classical.byContradiction
      intro hk
      rw [if_neg hk, if_pos (by omega)] at k4
      exact absurd k4 (by decide)
    unfold encR
    rw [if_pos hlt]
    show [UInt8.ofNat (c0.toNat - 0)] = [c0]
    rw [u8_of (c := c0) (by omega)]
  · rcases l with _ | ⟨c1, l⟩
    · simp at k1
    have d1 := (isC_iff _).1 (k2 1 (by omega) (by omega))
    replace d1 : 128 ≤ c1.toNat ∧ c1.toNat ≤ 191 := d1
    have e : rF (c0 :: c1 :: l) 2 2 = 64 * (c0.toNat - 192) + (c1.toNat - 128) := rfl
    rw [e] at k4 ⊢
    have hc : 192 ≤ c0.toNat ∧ c0.toNat < 224 := by
      by_cases g1 : 240 ≤ c0.toNat
      · rw [if_pos g1] at hcls; omega
      · rw [if_neg g1] at hcls
        by_cases g2 : 224 ≤ c0.toNat
        · rw [if_pos g2] at hcls; omega
        · rw [if_neg g2] at hcls
          by_cases g3 : 192 ≤ c0.toNat
          · omega
          · rw [if_neg g3] at hcls; omega
    have hge : ¬ (64 * (c0.toNat - 192) + (c1.toNat - 128) < 128) := by
      intro hk
      rw [if_pos hk] at k4
      exact absurd k4 (by decide)
    unfold encR
    rw [if_neg hge, if_pos (by omega)]
    show _ = [c0, c1]
    rw [u8_of (c := c0) (by omega), u8_of (c := c1) (by omega)]
  · rcases l with _ | ⟨c1, l⟩
    · simp at k1
    rcases l with _ | ⟨c2, l⟩
    · simp at k1
    have d1 := (isC_iff _).1 (k2 1 (by omega) (by omega))
    replace d1 : 128 ≤ c1.toNat ∧ c1.toNat ≤ 191 := d1
    have d2 := (isC_iff _).1 (k2 2 (by omega) (by omega))
    replace d2 : 128 ≤ c2.toNat ∧ c2.toNat ≤ 191 := d2
    have e : rF (c0 :: c1 :: c2 :: l) 3 3 = 64 * (64 * (c0.toNat - 224) + (c1.toNat - 128)) + (c2.toNat - 128) := rfl
    rw [e] at k4 ⊢
    have hc : 224 ≤ c0.toNat ∧ c0.toNat < 240 := by
      by_cases g1 : 240 ≤ c0.toNat
      · rw [if_pos g1] at hcls; omega
      · rw [if_neg g1] at hcls
        by_cases g2 : 224 ≤ c0.toNat
        · omega
        · rw [if_neg g2] at hcls
          by_cases g3 : 192 ≤ c0.toNat
          · rw [if_pos g3] at hcls; omega
          · rw [if_neg g3] at hcls; omega
    have hge : ¬ (64 * (64 * (c0.toNat - 224) + (c1.toNat - 128)) + (c2.toNat - 128) < 2048) := by
      intro hk
      by_cases hk2 : 64 * (64 * (c0.toNat - 224) + (c1.toNat - 128)) + (c2.toNat - 128) < 128
      · rw [if_pos hk2] at k4; exact absurd k4 (by decide)
      · rw [if_neg hk2, if_pos hk] at k4; exact absurd k4 (by decide)
    unfold encR
    rw [if_neg (by omega), if_neg hge, if_pos (by omega)]
    show _ = [c0, c1, c2]
    rw [u8_of (c := c0) (by omega), u8_of (c := c1) (by omega), u8_of (c := c2) (by omega)]
  · rcases l with _ | ⟨c1, l⟩
    · simp at k1
    rcases l with _ | ⟨c2, l⟩
    · simp at k1
    rcases l with _ | ⟨c3, l⟩
    · simp at k1
    have d1 := (isC_iff _).1 (k2 1 (by omega) (by omega))
    replace d1 : 128 ≤ c1.toNat ∧ c1.toNat ≤ 191 := d1
    have d2 := (isC_iff _).1 (k2 2 (by omega) (by omega))
    replace d2 : 128 ≤ c2.toNat ∧ c2.toNat ≤ 191 := d2
    have d3 := (isC_iff _).1 (k2 3 (by omega) (by omega))
    replace d3 : 128 ≤ c3.toNat ∧ c3.toNat ≤ 191 := d3
    have e : rF (c0 :: c1 :: c2 :: c3 :: l) 4 4 = 64 * (64 * (64 * (c0.toNat - 240) + (c1.toNat - 128)) + (c2.toNat - 128)) + (c3.toNat - 128) := rfl
    have hru1 := hru.1
    rw [e] at k4 hru1 ⊢
    have hc : 240 ≤ c0.toNat := by
      by_cases g1 : 240 ≤ c0.toNat
      · exact g1
      · rw [if_neg g1] at hcls
        by_cases g2 : 224 ≤ c0.toNat
        · rw [if_pos g2] at hcls; omega
        · rw [if_neg g2] at hcls
          by_cases g3 : 192 ≤ c0.toNat
          · rw [if_pos g3] at hcls; omega
          · rw [if_neg g3] at hcls; omega
    generalize hr : 64 * (64 * (64 * (c0.toNat - 240) + (c1.toNat - 128)) + (c2.toNat - 128)) + (c3.toNat - 128) = r at *
    have hge : ¬ (r < 65536) := by
      intro hk
      by_cases hk2 : r < 128
      · rw [if_pos hk2] at k4; exact absurd k4 (by decide)
      · rw [if_neg hk2] at k4
        by_cases hk3 : r < 2048
        · rw [if_pos hk3] at k4; exact absurd k4 (by decide)
        · rw [if_neg hk3, if_pos hk] at k4; exact absurd k4 (by decide)
    unfold encR
    rw [if_neg (by omega), if_neg (by omega), if_neg hge]
    show _ = [c0, c1, c2, c3]
    rw [u8_of (c := c0) (by omega), u8_of (c := c1) (by omega), u8_of (c := c2) (by omega), u8_of (c := c3) (by omega)]
end Go.Proofs.YtdfkbahlngijcaaDoor

namespace Go.Proofs.YtdfkbahlngijcaaDoor
open Go.RowKit
set_option linter.unusedVariables false

instance (r : Nat) : Decidable (isRune r) := by unfold isRune; infer_instance
set_option maxRecDepth 100000 in
set_option maxHeartbeats 2000000 in
theorem refRune_any (r : Nat) (w : World) : Calls Tryd.prog 137 #[.int .i64 r] w fun e w' => e = .returned (.bool (decide (isRune r))) ∧ w = w' := by
  have h0 : (0 : Int) ≤ (r : Int) := by omega
  by_cases h1 : r ≤ 1114111
  · have g1 : (r : Int) ≤ 1114111 := by omega
    by_cases h2 : r < 55296
    · have g2 : (r : Int) < 55296 := by omega
      have HE := Lib.hid (show decide (isRune r) = true from decide_eq_true ⟨h1, .inl h2⟩)
      clear h1 h2
      go_enter Tryd.func137, Tryd.ntmps137
      go_wp2_with fail
      go_ret
      exact ⟨by rw [HE.out] <;> rfl, rfl⟩
    · have g2 : ¬ ((r : Int) < 55296) := by omega
      by_cases h3 : 57343 < r
      · have g3 : (57343 : Int) < (r : Int) := by omega
        have HE := Lib.hid (show decide (isRune r) = true from decide_eq_true ⟨h1, .inr h3⟩)
        clear h1 h2 h3
        go_enter Tryd.func137, Tryd.ntmps137
        go_wp2_with fail
        go_ret
        exact ⟨by rw [HE.out] <;> rfl, rfl⟩
      · have g3 : ¬ ((57343 : Int) < (r : Int)) := by omega
        have g3d := decide_eq_false g3
        have HE := Lib.hid (show decide (isRune r) = false from decide_eq_false (fun k => by rcases k.2 with k | k <;> omega))
        clear h1 h2 h3
        go_enter Tryd.func137, Tryd.ntmps137
        go_wp2_with fail
        go_ret
        exact ⟨by rw [HE.out] <;> rfl, rfl⟩
  · have g1 : ¬ ((r : Int) ≤ 1114111) := by omega
    have g1d := decide_eq_false g1
    have HE := Lib.hid (show decide (isRune r) = false from decide_eq_false (fun k => h1 k.1))
    clear h1
    go_enter Tryd.func137, Tryd.ntmps137
    go_wp2_with fail
    go_ret
    exact ⟨by rw [HE.out] <;> rfl, rfl⟩
theorem bytes_list (w : World) (l : List UInt8) (cs : Array Value) (n : Nat) (hcs : cs = (Lib.byteCells l).toArray) (hn : l.length = n) (h : 0 < n) (hm : n ≤ maxLen) :
    (w.alloc (.cells cs 5)).ownsRow w.heap.size 5 1 (.slice (some ⟨w.heap.size, 0, none⟩) n n) n (Lib.byteCells l) := by
  subst hcs
  subst hn
  refine ⟨by simp [Lib.byteCells], .inr ⟨w.heap.size, l.length, _, rfl, Nat.le_refl _, block_new _ _, Nat.le_refl _, hm, by simp [Lib.byteCells], ?_⟩⟩
  show List.take (l.length * 1) (Lib.byteCells l) = Lib.byteCells l
  rw [List.take_of_length_le]
  simp [Lib.byteCells]
set_option maxRecDepth 100000 in
set_option maxHeartbeats 2000000 in
theorem bytes_conv (w : World) (l : List UInt8) (cs : Array Value) (n : Nat) (hcs : cs = (Lib.byteCells l).toArray) (hn : l.length = n) (h : 0 < n) (hm : n ≤ maxLen) :
    (convert 73 9 (.slice (some ⟨w.heap.size, 0, none⟩) n n)).run Tryd.prog (w.alloc (.cells cs 5)) = .ok (.string ⟨l.toArray⟩) (w.alloc (.cells cs 5)) := by
  obtain ⟨g, cap, e, hconv⟩ := own_str (bytes_list w l cs n hcs hn h hm) hn h
  injection e with e1 e2 e3
  injection e1 with e1
  injection e1 with e1
  subst e1 e3
  exact hconv
theorem quoN (r k : Nat) : Int.tdiv (r : Int) (k : Int) = ((r / k : Nat) : Int) := by rw [Int.tdiv_eq_ediv_of_nonneg (by omega)]; rfl
theorem remN (r k : Nat) : Int.tmod (r : Int) (k : Int) = ((r % k : Nat) : Int) := by rw [Int.tmod_eq_emod_of_nonneg (by omega)]; rfl
theorem wrapC (a b : Nat) (h : a + b < 256) : IntKind.u8.wrap ((a : Int) + (b : Int)) = ((UInt8.ofNat (a + b)).toNat : Int) := by
  rw [wrap8 _ (by omega) (by omega), UInt8.toNat_ofNat_of_lt' (by show a + b < 256; omega)]
  omega
def EncP (r : Nat) (w : World) (e : Ending) (w' : World) : Prop := e = .returned (.tuple #[.string ⟨(if isRune r then encR r else []).toArray⟩, .int .i64 (if isRune r then 0 else 2)]) ∧ Below w.heap.size w w'
theorem encP_of {r : Nat} {w w' : World} {l : List UInt8} (h : isRune r) (hl : encR r = l) (hb : Below w.heap.size w w') : EncP r w (.returned (.tuple #[.string ⟨l.toArray⟩, .int .i64 0])) w' :=
  ⟨by rw [if_pos h, if_pos h, hl], hb⟩
theorem encP_no {r : Nat} {w : World} (h : ¬ isRune r) (w' : World) (hb : Below w.heap.size w w') : EncP r w (.returned (.tuple #[.string ⟨#[]⟩, .int .i64 2])) w' :=
  ⟨by rw [if_neg h, if_neg h], hb⟩
set_option maxRecDepth 100000 in
set_option maxHeartbeats 4000000 in
theorem refEncode_r (r : Nat) (w : World) (hr : r ≤ 67375167) : Calls Tryd.prog 134 #[.int .i64 r] w (EncP r w) := by
  have h0 : (0 : Int) ≤ (r : Int) := by omega
  have HRU := Lib.hid (refRune_any r w)
  have HB := Lib.hid (Below.refl w.heap.size w)
  by_cases hru : isRune r
  · rw [decide_eq_true hru] at HRU
    have HP := Lib.hid (fun (l : List UInt8) (w' : World) (hl : encR r = l) (hb : Below w.heap.size w w') => encP_of hru hl hb)
    have hmax := hru.1
    clear hru
    by_cases k1 : r < 128
    · have g1 : (r : Int) < 128 := by omega
      have HL := Lib.hid (show encR r = [UInt8.ofNat r] from if_pos k1)
      have hw : IntKind.u8.wrap (r : Int) = ((UInt8.ofNat r).toNat : Int) := by
        rw [wrap8 _ (by omega) (by omega), UInt8.toNat_ofNat_of_lt' (by show r < 256; omega)]
      generalize UInt8.ofNat r = c at *
      have hconv := bytes_conv w [c] #[.int .u8 (c.toNat : Int)] 1 rfl rfl (by decide) (by decide)
      clear k1
      go_enter Tryd.func134, Tryd.ntmps134
      go_wp2_with fail
      refine (HRU.out).mono ?_; rintro e w1 ⟨rfl, rfl⟩
      go_wp2_with fail
      go_ret2
      exact HP.out _ _ HL.out (HB.out.alloc (Nat.le_refl _) _)
    · have g1 : ¬ ((r : Int) < 128) := by omega
      by_cases k2 : r < 2048
      · have g2 : (r : Int) < 2048 := by omega
        have HL := Lib.hid (show encR r = [UInt8.ofNat (192 + r / 64), UInt8.ofNat (128 + r % 64)] by unfold encR; rw [if_neg k1, if_pos k2])
        obtain ⟨q1, hq1, e1⟩ : ∃ q : Nat, Int.tdiv (r : Int) 64 = (q : Int) ∧ q = r / 64 := ⟨_, quoN r 64, rfl⟩
        obtain ⟨q2, hq2, e2⟩ : ∃ q : Nat, Int.tmod (r : Int) 64 = (q : Int) ∧ q = r % 64 := ⟨_, remN r 64, rfl⟩
        rw [← e1, ← e2] at HL
        have l1 : q1 < 32 := by omega
        have l2 : q2 < 64 := by omega
        have hw1 : IntKind.u8.wrap (192 + (q1 : Int)) = _ := wrapC 192 q1 (by omega)
        have hw2 : IntKind.u8.wrap (128 + (q2 : Int)) = _ := wrapC 128 q2 (by omega)
        generalize UInt8.ofNat (192 + q1) = c1 at *
        generalize UInt8.ofNat (128 + q2) = c2 at *
        have hconv := bytes_conv w [c1, c2] #[.int .u8 (c1.toNat : Int), .int .u8 (c2.toNat : Int)] 2 rfl rfl (by decide) (by decide)
        clear k1 k2 e1 e2
        go_enter Tryd.func134, Tryd.ntmps134
        go_wp2_with fail
        refine (HRU.out).mono ?_; rintro e w1 ⟨rfl, rfl⟩
        go_wp2_with fail
        go_ret2
        exact HP.out _ _ HL.out (HB.out.alloc (Nat.le_refl _) _)
      · have g2 : ¬ ((r : Int) < 2048) := by omega
        by_cases k3 : r < 65536
        · have g3 : (r : Int) < 65536 := by omega
          have HL := Lib.hid (show encR r = [UInt8.ofNat (224 + r / 4096), UInt8.ofNat (128 + r / 64 % 64), UInt8.ofNat (128 + r % 64)] by unfold encR; rw [if_neg k1, if_neg k2, if_pos k3])
          obtain ⟨q1, hq1, e1⟩ : ∃ q : Nat, Int.tdiv (r : Int) 4096 = (q : Int) ∧ q = r / 4096 := ⟨_, quoN r 4096, rfl⟩
          obtain ⟨q2, hq2, e2⟩ : ∃ q : Nat, Int.tdiv (r : Int) 64 = (q : Int) ∧ q = r / 64 := ⟨_, quoN r 64, rfl⟩
          obtain ⟨q3, hq3, e3⟩ : ∃ q : Nat, Int.tmod (q2 : Int) 64 = (q : Int) ∧ q = q2 % 64 := ⟨_, remN q2 64, rfl⟩
          obtain ⟨q4, hq4, e4⟩ : ∃ q : Nat, Int.tmod (r : Int) 64 = (q : Int) ∧ q = r % 64 := ⟨_, remN r 64, rfl⟩
          rw [← e1, ← e2, ← e3, ← e4] at HL
          have l1 : q1 < 16 := by omega
          have l2 : q2 < 1024 := by omega
          have l3 : q3 < 64 := by omega
          have l4 : q4 < 64 := by omega
          have hw1 : IntKind.u8.wrap (224 + (q1 : Int)) = _ := wrapC 224 q1 (by omega)
          have hw2 : IntKind.u8.wrap (128 + (q3 : Int)) = _ := wrapC 128 q3 (by omega)
          have hw3 : IntKind.u8.wrap (128 + (q4 : Int)) = _ := wrapC 128 q4 (by omega)
          generalize UInt8.ofNat (224 + q1) = c1 at *
          generalize UInt8.ofNat (128 + q3) = c2 at *
          generalize UInt8.ofNat (128 + q4) = c3 at *
          have hconv := bytes_conv w [c1, c2, c3] #[.int .u8 (c1.toNat : Int), .int .u8 (c2.toNat : Int), .int .u8 (c3.toNat : Int)] 3 rfl rfl (by decide) (by decide)
          have g1d := decide_eq_false g1
          have g2d := decide_eq_false g2
          clear k1 k2 k3 e1 e2 e3 e4 g1 g2
          go_enter Tryd.func134, Tryd.ntmps134
          go_wp2_with fail
          refine (HRU.out).mono ?_; rintro e w1 ⟨rfl, rfl⟩
          go_wp2_with fail
          go_ret2
          exact HP.out _ _ HL.out (HB.out.alloc (Nat.le_refl _) _)
        · have g3 : ¬ ((r : Int) < 65536) := by omega
          have HL := Lib.hid (show encR r = [UInt8.ofNat (240 + r / 262144), UInt8.ofNat (128 + r / 4096 % 64), UInt8.ofNat (128 + r / 64 % 64), UInt8.ofNat (128 + r % 64)] by unfold encR; rw [if_neg k1, if_neg k2, if_neg k3])
          obtain ⟨q0, hq0, e0⟩ : ∃ q : Nat, Int.tdiv (r : Int) 262144 = (q : Int) ∧ q = r / 262144 := ⟨_, quoN r 262144, rfl⟩
          obtain ⟨q1, hq1, e1⟩ : ∃ q : Nat, Int.tdiv (r : Int) 4096 = (q : Int) ∧ q = r / 4096 := ⟨_, quoN r 4096, rfl⟩
          obtain ⟨q5, hq5, e5⟩ : ∃ q : Nat, Int.tmod (q1 : Int) 64 = (q : Int) ∧ q = q1 % 64 := ⟨_, remN q1 64, rfl⟩
          obtain ⟨q2, hq2, e2⟩ : ∃ q : Nat, Int.tdiv (r : Int) 64 = (q : Int) ∧ q = r / 64 := ⟨_, quoN r 64, rfl⟩
          obtain ⟨q3, hq3, e3⟩ : ∃ q : Nat, Int.tmod (q2 : Int) 64 = (q : Int) ∧ q = q2 % 64 := ⟨_, remN q2 64, rfl⟩
          obtain ⟨q4, hq4, e4⟩ : ∃ q : Nat, Int.tmod (r : Int) 64 = (q : Int) ∧ q = r % 64 := ⟨_, remN r 64, rfl⟩
          rw [← e0, ← e1, ← e5, ← e2, ← e3, ← e4] at HL
          have l0 : q0 < 5 := by omega
          have l1 : q1 < 1024 := by omega
          have l5 : q5 < 64 := by omega
          have l2 : q2 < 65536 := by omega
          have l3 : q3 < 64 := by omega
          have l4 : q4 < 64 := by omega
          have hw0 : IntKind.u8.wrap (240 + (q0 : Int)) = _ := wrapC 240 q0 (by omega)
          have hw1 : IntKind.u8.wrap (128 + (q5 : Int)) = _ := wrapC 128 q5 (by omega)
          have hw2 : IntKind.u8.wrap (128 + (q3 : Int)) = _ := wrapC 128 q3 (by omega)
          have hw3 : IntKind.u8.wrap (128 + (q4 : Int)) = _ := wrapC 128 q4 (by omega)
          generalize UInt8.ofNat (240 + q0) = c0 at *
          generalize UInt8.ofNat (128 + q5) = c1 at *
          generalize UInt8.ofNat (128 + q3) = c2 at *
          generalize UInt8.ofNat (128 + q4) = c3 at *
          have hconv := bytes_conv w [c0, c1, c2, c3] #[.int .u8 (c0.toNat : Int), .int .u8 (c1.toNat : Int), .int .u8 (c2.toNat : Int), .int .u8 (c3.toNat : Int)] 4 rfl rfl (by decide) (by decide)
          have g1d := decide_eq_false g1
          have g2d := decide_eq_false g2
          have g3d := decide_eq_false g3
          clear k1 k2 k3 e0 e1 e2 e3 e4 e5 g1 g2 g3
          go_enter Tryd.func134, Tryd.ntmps134
          go_wp2_with fail
          refine (HRU.out).mono ?_; rintro e w1 ⟨rfl, rfl⟩
          go_wp2_with fail
          go_ret2
          exact HP.out _ _ HL.out (HB.out.alloc (Nat.le_refl _) _)
  · rw [decide_eq_false hru] at HRU
    have HP := Lib.hid (encP_no hru w HB.out)
    clear hru
    go_enter Tryd.func134, Tryd.ntmps134
    go_wp2_with fail
    refine (HRU.out).mono ?_; rintro e w1 ⟨rfl, rfl⟩
    go_wp2_with fail
    go_ret2
    exact HP.out
end Go.Proofs.YtdfkbahlngijcaaDoor

namespace Go.Proofs.YtdfkbahlngijcaaDoor
open Go.RowKit
set_option linter.unusedVariables false

def DecRef (l : List UInt8) (w : World) (e : Ending) (w' : World) : Prop :=
  ((∃ (r : Int) (m : Nat), vstep l = some m ∧ e = .returned (.tuple #[.int .i64 r, .int .i64 m, .int .i64 0])) ∨ (vstep l = none ∧ e = .returned (.tuple #[.int .i64 0, .int .i64 0, .int .i64 11]))) ∧ Below w.heap.size w w'
theorem decR_bad {l : List UInt8} {w w' : World} (h : vstep l = none) (hb : Below w.heap.size w w') : DecRef l w (.returned (.tuple #[.int .i64 0, .int .i64 0, .int .i64 11])) w' := ⟨.inr ⟨h, rfl⟩, hb⟩
theorem decR_good {l : List UInt8} {w w' : World} {m : Nat} (r : Int) (h : vstep l = some m) (hb : Below w.heap.size w w') : DecRef l w (.returned (.tuple #[.int .i64 r, .int .i64 m, .int .i64 0])) w' := ⟨.inl ⟨r, m, h, rfl⟩, hb⟩
theorem ext_take (t : ByteArray) (n : Nat) : (t.extract 0 n).data.toList = t.data.toList.take n := by
  rw [ByteArray.data_extract, Array.toList_extract]
  simp [List.extract]
theorem bs_ne {t u : ByteArray} (h : t ≠ u) : (t == u) = false := by
  show (t.data == u.data) = false
  rw [beq_eq_false_iff_ne]
  exact fun e => h (ByteArray.ext e)
theorem bs_ne' {t u : ByteArray} (h : t ≠ u) : (t.toList == u.toList) = false := by
  rw [beq_eq_false_iff_ne, ByteArray.toList_eq, ByteArray.toList_eq]
  exact fun e => h (ByteArray.ext (Array.toList_inj.1 e))
set_option maxRecDepth 100000 in
set_option maxHeartbeats 8000000 in
theorem refDecode_any (s : ByteArray) (w : World) (h0 : 0 < s.size) (hs : s.size ≤ 1048576) : Calls Tryd.prog 120 #[.string s] w (DecRef s.data.toList w) := by
  have hne := str_some (t := s) (by omega)
  have HG0 := Lib.hid (getD_at s h0)
  have HLL := Lib.hid (show s.data.toList.length = s.size from Array.length_toList ..)
  have HNN := Lib.hid (show s.data.toList ≠ [] from fun e => by have h := congrArg List.length e; rw [Array.length_toList] at h; have : s.size = 0 := h; omega)
  have hb0 : (0 : Int) ≤ (s[0].toNat : Int) := by omega
  have hb1 : (s[0].toNat : Int) < 256 := by have := u8lt s[0]; omega
  obtain ⟨n, hn⟩ : ∃ n, n = annR s[0] := ⟨_, rfl⟩
  have HVY := Lib.hid (fun h : okRef s.data.toList n => (show vstep s.data.toList = some n by
    have := ok_ref (l := s.data.toList) HNN.out (by rw [HG0.out, ← hn]; exact h)
    rw [HG0.out, ← hn] at this; exact this))
  have HVN := Lib.hid (fun h : ¬ okRef s.data.toList n => (show vstep s.data.toList = none from no_ref (l := s.data.toList) HNN.out (by rw [HG0.out, ← hn]; exact h)))
  have HN := Lib.hid hn
  have hn1 : 1 ≤ n := by rw [hn]; unfold annR; split <;> (try split) <;> (try split) <;> decide
  have hn4 : n ≤ 4 := by rw [hn]; unfold annR; split <;> (try split) <;> (try split) <;> decide
  have hs0 : (0 : Int) < (s.size : Int) := by omega
  have HF1 := Lib.hid (show rF s.data.toList n 1 = s[0].toNat - (if n = 4 then 240 else if n = 3 then 224 else if n = 2 then 192 else 0) by rw [← HG0.out]; rfl)
  clear hn
  go_enter Tryd.func120, Tryd.ntmps120
  go_upto_block 0 with (fail)
  go_cut [5, 6] (fun v5 v6 wq => v5 = .int .i64 (rF s.data.toList n 1 : Nat) ∧ v6 = .int .i64 n ∧ w = wq)
  case first =>
    by_cases g1 : 240 ≤ s[0].toNat
    · have g1i : (240 : Int) ≤ (s[0].toNat : Int) := by omega
      have HA := Lib.hid (show n = 4 by rw [HN.out]; exact if_pos g1)
      go_wp2_with fail
      go_meet
      case rel => exact ⟨by rw [HF1.out, HA.out, if_pos rfl]; congr 1; omega, by rw [HA.out] <;> rfl, rfl⟩
    · have g1i : ¬ ((240 : Int) ≤ (s[0].toNat : Int)) := by omega
      by_cases g2 : 224 ≤ s[0].toNat
      · have g2i : (224 : Int) ≤ (s[0].toNat : Int) := by omega
        have HA := Lib.hid (show n = 3 by rw [HN.out]; unfold annR; rw [if_neg g1, if_pos g2])
        go_wp2_with fail
        go_meet
        case rel => exact ⟨by rw [HF1.out, HA.out, if_neg (by decide), if_pos rfl]; congr 1; omega, by rw [HA.out] <;> rfl, rfl⟩
      · have g2i : ¬ ((224 : Int) ≤ (s[0].toNat : Int)) := by omega
        by_cases g3 : 192 ≤ s[0].toNat
        · have g3i : (192 : Int) ≤ (s[0].toNat : Int) := by omega
          have HA := Lib.hid (show n = 2 by rw [HN.out]; unfold annR; rw [if_neg g1, if_neg g2, if_pos g3])
          go_wp2_with fail
          go_meet
          case rel => exact ⟨by rw [HF1.out, HA.out, if_neg (by decide), if_neg (by decide), if_pos rfl]; congr 1; omega, by rw [HA.out] <;> rfl, rfl⟩
        · have g3i : ¬ ((192 : Int) ≤ (s[0].toNat : Int)) := by omega
          have HA := Lib.hid (show n = 1 by rw [HN.out]; unfold annR; rw [if_neg g1, if_neg g2, if_neg g3])
          go_wp2_with fail
          go_meet
          case rel => exact ⟨by rw [HF1.out, HA.out, if_neg (by decide), if_neg (by decide), if_neg (by decide)]; congr 1, by rw [HA.out] <;> rfl, rfl⟩
  case rest =>
    obtain ⟨rfl, rfl, rfl⟩ := hcut
    clear hb0 hb1
    go_wp2_with fail
    go_loop [5, 7] (fun s5 s7 => ∃ (i r : Nat), i ≤ n ∧ 1 ≤ i ∧ s7 = .int .i64 i ∧ s5 = .int .i64 r ∧ r = rF s.data.toList n i ∧ conts s.data.toList i ∧ i ≤ s.size) (fun _ s7 => n - (intOf s7).toNat)
    case atStart => exact ⟨1, _, hn1, Nat.le_refl _, rfl, rfl, rfl, fun j h1 h2 => absurd h2 (by omega), by omega⟩
    case round =>
      obtain ⟨i, r, hi, hi1, rfl, rfl, hr, hct, his⟩ := hrel
      have HR := Lib.hid hr
      have HCT := Lib.hid hct
      have hrm : r ≤ 67375167 := by rw [hr]; exact rF_most _ _ _ (by omega)
      clear hr hct
      by_cases hlt : i < n
      · have hlt' : (i : Int) < (n : Int) := by omega
        have hi0 : (0 : Int) ≤ (i : Int) := by omega
        by_cases hsz : i < s.size
        · have hsz1 : ¬ ((s.size : Int) ≤ (i : Int)) := by omega
          have hsz2 : (i : Int) < (s.size : Int) := by omega
          have hszd := decide_eq_false hsz1
          have HC := Lib.hid (refCont_any s[i] w)
          have HGI := Lib.hid (getD_at s hsz)
          by_cases hc : isC s[i] = true
          · as_aux_lemma =>
            rw [hc] at HC
            have HCT2 := Lib.hid (show conts s.data.toList (i + 1) from fun j h1 h2 => by
              rcases Nat.lt_or_ge j i with h | h
              · exact HCT.out j h1 h
              · obtain rfl : j = i := by omega
                rw [HGI.out]; exact hc)
            have HRN := Lib.hid (rF_next s.data.toList n hi1)
            have hk := (isC_iff _).1 hc
            have hk1 : (128 : Int) ≤ (s[i].toNat : Int) := by omega
            have hk2 : (s[i].toNat : Int) ≤ 191 := by omega
            have hr0 : (0 : Int) ≤ (r : Int) := by omega
            have hr1 : (r : Int) ≤ 67375167 := by omega
            clear hc hk
            go_wp2_with fail
            refine (HC.out).mono ?_; rintro e w1 ⟨rfl, rfl⟩
            go_wp2_with fail
            go_round
            case rel => exact ⟨i + 1, 64 * r + (s[i].toNat - 128), by omega, by omega, by go_num, by congr 1; omega, (by rw [HRN.out, ← HR.out, HGI.out]), HCT2.out, by omega⟩
            case measure => (simp [intOf] <;> omega)
          · as_aux_lemma =>
            rw [Bool.eq_false_iff.2 hc] at HC
            have HN2 := Lib.hid (HVN.out fun h => hc (by rw [← HGI.out]; exact h.2.1 i hi1 hlt))
            clear hc
            go_wp2_with fail
            refine (HC.out).mono ?_; rintro e w1 ⟨rfl, rfl⟩
            go_wp2_with fail
            go_ret3
            exact decR_bad HN2.out (Below.refl _ _)
        · as_aux_lemma =>
          have hsz1 : (s.size : Int) ≤ (i : Int) := by omega
          have hszd := decide_eq_true hsz1
          have HN2 := Lib.hid (HVN.out fun h => by have := h.1; rw [HLL.out] at this; omega)
          clear hsz
          go_wp2_with fail
          go_ret3
          exact decR_bad HN2.out (Below.refl _ _)
      · obtain rfl : i = n := by omega
        have hge : ¬ ((i : Int) < (i : Int)) := by omega
        have hn0 : (0 : Int) ≤ (i : Int) := by omega
        have hns : (i : Int) ≤ (s.size : Int) := by omega
        have HEN := Lib.hid (refEncode_r r w hrm)
        have HTK := Lib.hid (ext_take s i)
        clear hlt
        by_cases hru : isRune r
        · by_cases heq : encR r = s.data.toList.take i
          · as_aux_lemma =>
            have HV := Lib.hid (HVY.out ⟨by rw [HLL.out]; exact his, HCT.out, by rw [← HR.out]; exact hru, by rw [← HR.out]; exact heq⟩)
            have hE : (⟨(encR r).toArray⟩ : ByteArray) = s.extract 0 i := by
              rw [heq, ← HTK.out]
            unfold EncP at HEN
            rw [if_pos hru, if_pos hru, hE] at HEN
            have hbb : (s.extract 0 i == s.extract 0 i) = true := by show ((s.extract 0 i).data == (s.extract 0 i).data) = true; simp
            have hbn : (s.extract 0 i != s.extract 0 i) = false := by show (!(s.extract 0 i == s.extract 0 i)) = false; rw [hbb]; rfl
            clear hru heq hE
            go_wp2_with fail
            refine (HEN.out).mono ?_; rintro e w1 ⟨rfl, hb⟩
            have HB1 := Lib.hid hb
            clear hb
            go_wp2_with fail
            go_ret3
            exact decR_good _ HV.out HB1.out
          · as_aux_lemma =>
            have HV := Lib.hid (HVN.out fun h => heq (by rw [HR.out]; exact h.2.2.2))
            have hE : (⟨(encR r).toArray⟩ : ByteArray) ≠ s.extract 0 i := fun e => heq (by rw [← HTK.out, ← e])
            unfold EncP at HEN
            rw [if_pos hru, if_pos hru] at HEN
            generalize (⟨(encR r).toArray⟩ : ByteArray) = t at *
            have hbb := bs_ne hE
            have hbn := bs_ne' hE
            clear hru heq
            go_wp2_with fail
            refine (HEN.out).mono ?_; rintro e w1 ⟨rfl, hb⟩
            have HB1 := Lib.hid hb
            clear hb
            go_wp2_with fail
            go_ret3
            exact decR_bad HV.out HB1.out
        · as_aux_lemma =>
          have HV := Lib.hid (HVN.out fun h => hru (by rw [HR.out]; exact h.2.2.1))
          unfold EncP at HEN
          rw [if_neg hru, if_neg hru] at HEN
          clear hru
          go_wp2_with fail
          refine (HEN.out).mono ?_; rintro e w1 ⟨rfl, hb⟩
          have HB1 := Lib.hid hb
          clear hb
          go_wp2_with fail
          go_ret3
          exact decR_bad HV.out HB1.out
set_option maxRecDepth 100000 in
set_option maxHeartbeats 4000000 in
theorem refValid_any (s : ByteArray) (w : World) (hs : s.size ≤ 1048576) : Calls Tryd.prog 101 #[.string s] w fun e w' => e = .returned (.bool (validB s.data.toList)) ∧ Below w.heap.size w w' := by
  have HLL := Lib.hid (show s.data.toList.length = s.size from Array.length_toList ..)
  go_enter Tryd.func101, Tryd.ntmps101
  go_wp2_with fail
  go_loopw [3] (fun s3 wr => ∃ i : Nat, s3 = .int .i64 i ∧ i ≤ s.size ∧ (VL s.data.toList ↔ VL (s.data.toList.drop i)) ∧ Below w.heap.size w wr) (fun s3 _ => s.size - (intOf s3).toNat)
  case atStart => exact ⟨0, rfl, Nat.zero_le _, Iff.rfl, Below.refl _ _⟩
  case round =>
    obtain ⟨i, rfl, hi, hv, hb⟩ := hrel
    have HV := Lib.hid hv
    have HB := Lib.hid hb
    clear hv hb
    by_cases h0 : i = s.size
    · as_aux_lemma =>
      have HE := Lib.hid (show validB s.data.toList = true from validB_iff.2 (HV.out.2 (by rw [h0, ← HLL.out, List.drop_length]; exact .nil)))
      have h0' : ¬ ((i : Int) < (s.size : Int)) := by omega
      clear h0
      go_wp2_with fail
      go_ret
      exact ⟨by rw [HE.out] <;> rfl, HB.out⟩
    · as_aux_lemma =>
      have h0' : (i : Int) < (s.size : Int) := by omega
      have hi0 : (0 : Int) ≤ (i : Int) := by omega
      have hi1 : (i : Int) ≤ (s.size : Int) := by omega
      have HX := Lib.hid (ext_drop s i)
      have HSZ := Lib.hid (show (s.extract i s.size).size = s.size - i by rw [ByteArray.size_extract]; omega)
      have HD := Lib.hid (refDecode_any (s.extract i s.size) wr (by rw [HSZ.out]; omega) (by rw [HSZ.out]; omega))
      rw [HX.out] at HD
      have HNE := Lib.hid (show s.data.toList.drop i ≠ [] from fun e => h0 (by have h := congrArg List.length e; rw [List.length_drop, HLL.out] at h; simp at h; omega))
      clear h0
      go_wp2_with fail
      refine (HD.out).mono ?_; rintro e w1 ⟨hd, hb1⟩
      have HB1 := Lib.hid (below_two HB.out hb1)
      clear hb1
      rcases hd with ⟨r, m, hm, rfl⟩ | ⟨hm, rfl⟩
      · obtain ⟨-, k2, k3, -, -⟩ := vstep_some hm
        have k3' : m ≤ s.size - i := by rw [List.length_drop, HLL.out] at k3; exact k3
        have HN := Lib.hid (VL.next hm)
        have HDD := Lib.hid (show (s.data.toList.drop i).drop m = s.data.toList.drop (i + m) from List.drop_drop ..)
        have hm2 : 0 < m := by omega
        clear hm k2 k3
        go_wp2_with fail
        go_roundw
        case rel => exact ⟨i + m, by go_num, by omega, by rw [HV.out, HN.out, HDD.out], HB1.out⟩
        case measure => (simp [intOf] <;> omega)
      · have HE := Lib.hid (show validB s.data.toList = false from Bool.eq_false_iff.2 fun h => VL.none hm HNE.out (HV.out.1 (validB_iff.1 h)))
        clear hm
        go_wp2_with fail
        go_ret
        exact ⟨by rw [HE.out] <;> rfl, HB1.out⟩
end Go.Proofs.YtdfkbahlngijcaaDoor

namespace Go.Proofs.YtdfkbahlngijcaaDoor
open Go.RowKit
set_option linter.unusedVariables false

def bad1 (a b c d : Int) : Bool := !(inR a 1 16384 && (inR b 1 4294967295 && (inR c 0 8 && inR d 0 8)))
def bad2 (a b c : Int) : Bool := !(inR a 1 64 && (inR b 1 16 && inR c 1 64))
theorem cfgE_bad (x : Cf) : cfgE x = if bad1 x.slots x.gens x.clients x.readers = true then 2 else if bad2 x.queue x.batch x.feed = true then 2 else if 65536 < x.t.size then 5 else if validB x.t.data.toList = true then 0 else 11 := by
  unfold cfgE cfgOk bad1 bad2
  generalize inR x.slots 1 16384 = b1
  generalize inR x.gens 1 4294967295 = b2
  generalize inR x.clients 0 8 = b3
  generalize inR x.readers 0 8 = b4
  generalize inR x.queue 1 64 = b5
  generalize inR x.batch 1 16 = b6
  generalize inR x.feed 1 64 = b7
  cases b1 <;> cases b2 <;> cases b3 <;> cases b4 <;> cases b5 <;> cases b6 <;> cases b7 <;> simp
set_option maxRecDepth 100000 in
set_option maxHeartbeats 16000000 in
theorem refCfg_any (x : Cf) (w : World) (ht : x.t.size ≤ 140737488355328) :
    Calls Tryd.prog 75 #[.agg #[.int .i64 x.slots, .int .u64 x.gens, .int .i64 x.clients, .int .i64 x.readers, .int .i64 x.queue, .int .i64 x.batch, .int .i64 x.feed, .string x.t]] w fun e w' => e = .returned (.int .i64 (cfgE x)) ∧ Below w.heap.size w w' := by
  have HPE := Lib.hid (cfgE_bad x)
  generalize cfgE x = P at *
  obtain ⟨a, b, c, d, e', f, g, t⟩ := x
  replace ht : t.size ≤ 140737488355328 := ht
  replace HPE := Lib.hid (show P = if bad1 a b c d = true then 2 else if bad2 e' f g = true then 2 else if 65536 < t.size then 5 else if validB t.data.toList = true then 0 else 11 from HPE.out)
  have HD1 := Lib.hid (show bad1 a b c d = !(inR a 1 16384 && (inR b 1 4294967295 && (inR c 0 8 && inR d 0 8))) from rfl)
  have HD2 := Lib.hid (show bad2 e' f g = !(inR e' 1 64 && (inR f 1 16 && inR g 1 64)) from rfl)
  generalize bad1 a b c d = P1 at *
  generalize bad2 e' f g = P2 at *
  have HNB := Lib.hid (block_new w (.cells #[.int .i64 a, .int .u64 b, .int .i64 c, .int .i64 d, .int .i64 e', .int .i64 f, .int .i64 g, .string t] 38))
  have HB2 := Lib.hid ((Below.refl w.heap.size w).alloc (Nat.le_refl _) (.cells #[.int .i64 a, .int .u64 b, .int .i64 c, .int .i64 d, .int .i64 e', .int .i64 f, .int .i64 g, .string t] 38))
  have HV := Lib.hid (fun (h : t.size ≤ 1048576) => refValid_any t (w.alloc (.cells #[.int .i64 a, .int .u64 b, .int .i64 c, .int .i64 d, .int .i64 e', .int .i64 f, .int .i64 g, .string t] 38)) h)
  simp only at ht ⊢
  go_enter Tryd.func75, Tryd.ntmps75
  go_upto_region 1 with (fail)
  go_cut [40] from 3 to 40 (fun v wq => v = .bool P1 ∧ wq = w.alloc (.cells #[.int .i64 a, .int .u64 b, .int .i64 c, .int .i64 d, .int .i64 e', .int .i64 f, .int .i64 g, .string t] 38))
  case first =>
    by_cases g0 : a < 1
    · have HX := Lib.hid (show P1 = true by rw [HD1.out]; simp [inR]; omega)
      go_wp2_with fail
      go_meet
      case rel => exact ⟨by rw [HX.out] <;> rfl, rfl⟩
    · have g0d := decide_eq_false g0
      by_cases g1 : 16384 < a
      · have HX := Lib.hid (show P1 = true by rw [HD1.out]; simp [inR]; omega)
        go_wp2_with fail
        go_meet
        case rel => exact ⟨by rw [HX.out] <;> rfl, rfl⟩
      · have g1d := decide_eq_false g1
        by_cases g2 : b < 1
        · have HX := Lib.hid (show P1 = true by rw [HD1.out]; simp [inR]; omega)
          go_wp2_with fail
          go_meet
          case rel => exact ⟨by rw [HX.out] <;> rfl, rfl⟩
        · have g2d := decide_eq_false g2
          by_cases g3 : 4294967295 < b
          · have HX := Lib.hid (show P1 = true by rw [HD1.out]; simp [inR]; omega)
            go_wp2_with fail
            go_meet
            case rel => exact ⟨by rw [HX.out] <;> rfl, rfl⟩
          · have g3d := decide_eq_false g3
            by_cases g4 : c < 0
            · have HX := Lib.hid (show P1 = true by rw [HD1.out]; simp [inR]; omega)
              go_wp2_with fail
              go_meet
              case rel => exact ⟨by rw [HX.out] <;> rfl, rfl⟩
            · have g4d := decide_eq_false g4
              by_cases g5 : 8 < c
              · have HX := Lib.hid (show P1 = true by rw [HD1.out]; simp [inR]; omega)
                go_wp2_with fail
                go_meet
                case rel => exact ⟨by rw [HX.out] <;> rfl, rfl⟩
              · have g5d := decide_eq_false g5
                by_cases g6 : d < 0
                · have HX := Lib.hid (show P1 = true by rw [HD1.out]; simp [inR]; omega)
                  go_wp2_with fail
                  go_meet
                  case rel => exact ⟨by rw [HX.out] <;> rfl, rfl⟩
                · have g6d := decide_eq_false g6
                  by_cases g7 : 8 < d
                  · have HX := Lib.hid (show P1 = true by rw [HD1.out]; simp [inR]; omega)
                    go_wp2_with fail
                    go_meet
                    case rel => exact ⟨by rw [HX.out] <;> rfl, rfl⟩
                  · have g7d := decide_eq_false g7
                    have HX := Lib.hid (show P1 = false by rw [HD1.out]; simp [inR]; omega)
                    go_wp2_with fail
                    go_meet
                    case rel => exact ⟨by rw [HX.out] <;> rfl, rfl⟩
  case rest =>
    obtain ⟨rfl, rfl⟩ := hcut
    rcases P1 with _ | _
    · go_upto_region 3 with (fail)
      go_cut [68] from 41 to 68 (fun v wq => v = .bool P2 ∧ wq = w.alloc (.cells #[.int .i64 a, .int .u64 b, .int .i64 c, .int .i64 d, .int .i64 e', .int .i64 f, .int .i64 g, .string t] 38))
      case first =>
        by_cases g0 : e' < 1
        · have HX := Lib.hid (show P2 = true by rw [HD2.out]; simp [inR]; omega)
          go_wp2_with fail
          go_meet
          case rel => exact ⟨by rw [HX.out] <;> rfl, rfl⟩
        · have g0d := decide_eq_false g0
          by_cases g1 : 64 < e'
          · have HX := Lib.hid (show P2 = true by rw [HD2.out]; simp [inR]; omega)
            go_wp2_with fail
            go_meet
            case rel => exact ⟨by rw [HX.out] <;> rfl, rfl⟩
          · have g1d := decide_eq_false g1
            by_cases g2 : f < 1
            · have HX := Lib.hid (show P2 = true by rw [HD2.out]; simp [inR]; omega)
              go_wp2_with fail
              go_meet
              case rel => exact ⟨by rw [HX.out] <;> rfl, rfl⟩
            · have g2d := decide_eq_false g2
              by_cases g3 : 16 < f
              · have HX := Lib.hid (show P2 = true by rw [HD2.out]; simp [inR]; omega)
                go_wp2_with fail
                go_meet
                case rel => exact ⟨by rw [HX.out] <;> rfl, rfl⟩
              · have g3d := decide_eq_false g3
                by_cases g4 : g < 1
                · have HX := Lib.hid (show P2 = true by rw [HD2.out]; simp [inR]; omega)
                  go_wp2_with fail
                  go_meet
                  case rel => exact ⟨by rw [HX.out] <;> rfl, rfl⟩
                · have g4d := decide_eq_false g4
                  by_cases g5 : 64 < g
                  · have HX := Lib.hid (show P2 = true by rw [HD2.out]; simp [inR]; omega)
                    go_wp2_with fail
                    go_meet
                    case rel => exact ⟨by rw [HX.out] <;> rfl, rfl⟩
                  · have g5d := decide_eq_false g5
                    have HX := Lib.hid (show P2 = false by rw [HD2.out]; simp [inR]; omega)
                    go_wp2_with fail
                    go_meet
                    case rel => exact ⟨by rw [HX.out] <;> rfl, rfl⟩
      case rest =>
        obtain ⟨rfl, rfl⟩ := hcut
        rcases P2 with _ | _
        · by_cases h1 : 65536 < t.size
          · have h1i : (65536 : Int) < (t.size : Int) := by omega
            have HX := Lib.hid (show P = 5 by rw [HPE.out, if_neg (by decide), if_neg (by decide), if_pos h1])
            go_wp2_with fail
            go_ret
            exact ⟨by rw [HX.out] <;> rfl, HB2.out⟩
          · have h1i : ¬ ((65536 : Int) < (t.size : Int)) := by omega
            have HV := Lib.hid (HV.out (by omega))
            have HX := Lib.hid (show P = if validB t.data.toList = true then 0 else 11 by rw [HPE.out, if_neg (by decide), if_neg (by decide), if_neg h1])
            rcases hv : validB t.data.toList with _ | _
            · rw [hv] at HV HX
              clear hv h1
              go_wp2_with fail
              refine (HV.out).mono ?_; rintro e w1 ⟨rfl, hb⟩
              have HB3 := Lib.hid (below_two HB2.out hb)
              clear hb
              go_wp2_with fail
              go_ret
              exact ⟨by rw [HX.out] <;> rfl, HB3.out⟩
            · rw [hv] at HV HX
              clear hv h1
              go_wp2_with fail
              refine (HV.out).mono ?_; rintro e w1 ⟨rfl, hb⟩
              have HB3 := Lib.hid (below_two HB2.out hb)
              clear hb
              go_wp2_with fail
              go_ret
              exact ⟨by rw [HX.out] <;> rfl, HB3.out⟩
        · have HX := Lib.hid (show P = 2 by rw [HPE.out, if_neg (by decide), if_pos rfl])
          go_wp2_with fail
          go_ret
          exact ⟨by rw [HX.out] <;> rfl, HB2.out⟩
    · have HX := Lib.hid (show P = 2 by rw [HPE.out, if_pos rfl])
      go_wp2_with fail
      go_ret
      exact ⟨by rw [HX.out] <;> rfl, HB2.out⟩
end Go.Proofs.YtdfkbahlngijcaaDoor

namespace Go.Proofs.YtdfkbahlngijcaaDoor
open Go.RowKit
set_option linter.unusedVariables false

set_option maxRecDepth 100000 in
set_option maxHeartbeats 8000000 in
theorem result_ok (r : Rs) (ao : Option Addr) (n c : Nat) (w : World) (h : IsR fP w ao n r.d) (hn : n ≤ 9223372036854775807) (ht : Tab w) (he : r.e = 0) (hsz : r.t.size ≤ 1000000) (hg : 0 ≤ r.gr ∧ r.gr < 256) (hk : 0 ≤ r.ik ∧ r.ik < 256) :
    Calls Tryd.prog 12 #[.agg (rsV r ao n c)] w fun e w' => e = .returned (.tuple #[.string ⟨(resR r).1.toArray⟩, .int .i64 (resR r).2]) ∧ Below w.heap.size w w' := by
  obtain ⟨i0, hi0, hz0, hz1, hz2⟩ := info_parts infoStr
  have hmf : ∀ (fn : Fn) (first cap : Array Value) (w : World), (Instr.makeFunc fn first cap).run Tryd.prog w = .ok (.func fn first cap) w := fun _ _ _ _ => rfl
  have HP := Lib.hid (put_at (resW_is r ao n c w) ht (by decide) (nums1 r) (by show 4 ≤ 100; decide) #[.int .i64 r.rev, .int .i64 r.sl, .int .i64 r.a, .int .i64 r.gr] rfl (w.heap.size + 4) 4 (by unfold resW; simp) rfl)
  have HR := Lib.hid h
  have HT := Lib.hid ht
  have HSZ := Lib.hid hsz
  have HWL := Lib.hid (words_len r hsz)
  have HRE := Lib.hid (show resR r = if allOK (nums1 r) = true ∧ allOK (nums2 r) = true ∧ checkP r.d = 0 then (joinW (wordsR r), 0) else ([], 2) by
    unfold resR
    rw [if_neg (by rw [he]; exact fun k => k rfl)])
  have HWR := Lib.hid (show wordsR r = [[111, 107]] ++ (nums1 r).map numL ++ [quoteL r.t] ++ (nums2 r).map numL ++ (if textL r.d = [] then [] else [textL r.d]) from rfl)
  have HN2 := Lib.hid (show nums2 r = [r.mb, r.mr, r.ml, r.ik, r.fr, r.tu] from rfl)
  have HL1 := Lib.hid (show (nums1 r).length = 4 from rfl)
  generalize nums1 r = l1 at *
  generalize nums2 r = l2 at *
  generalize wordsR r = wr at *
  obtain ⟨e, rev, sl, a, gr, t, mb, mr, ml, ik, fr, tu, d⟩ := r
  simp only at he hg hk hsz
  subst he
  have HP := Lib.hid (show Calls Tryd.prog 28 #[.slice (some ⟨w.heap.size + 4, 0, none⟩) 4 4, .pointer (some ⟨w.heap.size + 3, 0, none⟩)] (((((w.alloc (.cells #[.int .i64 0, .int .i64 rev, .int .i64 sl, .int .i64 a, .int .u8 gr, .string t, .int .i64 mb, .int .i64 mr, .int .i64 ml, .int .u8 ik, .int .i64 fr, .int .i64 tu, .slice ao n c] 29)).alloc (.cells #[.int .u8 ik, .int .i64 fr, .int .i64 tu, .slice ao n c] 27)).alloc (.cells #[.string ⟨#[111, 107]⟩] 9)).alloc (.cells #[.slice (some ⟨w.heap.size + 2, 0, none⟩) 1 1] 59)).alloc (.cells #[.int .i64 rev, .int .i64 sl, .int .i64 a, .int .i64 gr] 3)) fun e w' =>
      e = .returned (.bool (allOK l1)) ∧ Below w.heap.size w w' ∧ (allOK l1 = true → ∃ v', ResS ⟨0, rev, sl, a, gr, t, mb, mr, ml, ik, fr, tu, d⟩ ao n c w v' ([[111, 107]] ++ l1.map numL) w') from HP.out)
  have HR := Lib.hid (show IsR fP w ao n d from HR.out)
  have HSZ := Lib.hid (show t.size ≤ 1000000 from HSZ.out)
  have HWL := Lib.hid (show checkP d = 0 → (joinW wr).length ≤ 100000000 ∧ wr.length ≤ 13 from HWL.out)
  have HRE := Lib.hid (show resR ⟨0, rev, sl, a, gr, t, mb, mr, ml, ik, fr, tu, d⟩ = if allOK l1 = true ∧ allOK l2 = true ∧ checkP d = 0 then (joinW wr, 0) else ([], 2) from HRE.out)
  have HWR := Lib.hid (show wr = [[111, 107]] ++ l1.map numL ++ [quoteL t] ++ l2.map numL ++ (if textL d = [] then [] else [textL d]) from HWR.out)
  have HN2 := Lib.hid (show l2 = [mb, mr, ml, ik, fr, tu] from HN2.out)
  have hwg : IntKind.i64.wrap gr = gr := by rw [IntKind.wrap_i64]; omega
  have hwk : IntKind.i64.wrap ik = ik := by rw [IntKind.wrap_i64]; omega
  clear h ht hsz
  simp only [rsV]
  go_enter Tryd.func12, Tryd.ntmps12
  go_wp2_with fail
  refine (HP.out).mono ?_; rintro e1 w1 ⟨rfl, hb1, ho1⟩
  by_cases hok1 : allOK l1 = true
  · obtain ⟨v1, hS1⟩ := ho1 hok1
    have HS1 := Lib.hid hS1
    have HO1 := Lib.hid hok1
    rw [hok1]
    have q5 := block_cell hS1.box 5
    have cO := block_cell hS1.out.out 0
    have fO := block_free hS1.out.out 0
    simp [rsV] at q5 cO
    have HQ := Lib.hid (fun u => quote_any t u (by have := HSZ.out; omega))
    have hl1 : ([[111, 107]] ++ l1.map numL).length ≤ 50 := by rw [List.length_append, List.length_map, HL1.out]; decide
    generalize hw1 : [[111, 107]] ++ l1.map numL = ws1 at *
    have HW1 := Lib.hid hw1
    have hsz1 := hS1.size
    clear ho1 hok1 hb1 hS1 HP hw1
    go_wp2_with fail
    go_region_law (first
      | (go_simp; go_at_call 29; refine (HQ.out w1.drew).mono ?_; rintro e w3 ⟨rfl, hb3'⟩; have hb3 : Below w1.heap.size w1 w3 := (Below.refl _ w1).drew.trans hb3'; have HS3 := Lib.hid (HS1.out.later hb3); have cO3 : w3.cell? ⟨w.heap.size + 3, 0, none⟩ = some v1 := block_cell HS3.out.out.out 0; have cA3 : (w3.alloc (.cells #[.string ⟨(quoteL t).toArray⟩] 9)).cell? ⟨w.heap.size + 3, 0, none⟩ = some v1 := block_cell (block_alloc HS3.out.out.out _) 0; have hsz3 : w.heap.size + 4 ≤ w3.heap.size := HS3.out.size; clear hb3 hb3')
      | (refine step_append_lies _ (by rfl) _ _ _ (by rfl) (w.heap.size + 2) 9 i0 _ 1 16 Tryd.underlying59 hi0 hz0 hz1 hz2 rfl (by decide) v1 ws1.length _ (by rfl) (by first | exact HS3.out.out.own.alloc _ | exact (HS3.out.out.own.alloc _).drew) ⟨w3.heap.size, 0, none⟩ 1 1 [_] (by rfl) (by rfl) (World.news_of_block (cs := #[_]) (t := 9) (fr := (0, 0)) (heap_alloc_new w3 _)) (by simp [Value.oneCell']) (by omega) (by unfold maxLen; omega) (by omega) (by simp; omega) (w3.heap.size + 1) (by simp) ?_; intro gg cap w4 hown4 hgrow4 hat4 hlt4; have k4 : w4.heap[w.heap.size + 3]? = some (.cells #[v1] 59 (0, 0)) := keep_append HS3.out.out.own HS3.out.out.out (by decide) hgrow4 (block_alloc HS3.out.out.out _); have cO4 : w4.cell? ⟨w.heap.size + 3, 0, none⟩ = some v1 := block_cell k4 0; have fO4 : w4.frozen? ⟨w.heap.size + 3, 0, none⟩ = false := block_free k4 0; have K4 := Lib.hid k4; clear k4))
    all_goals
      have HS5 := Lib.hid (show ResS ⟨0, rev, sl, a, gr, t, mb, mr, ml, ik, fr, tu, d⟩ ao n c w (.slice (some ⟨gg, 0, none⟩) (ws1.length + 1) cap) (ws1 ++ [quoteL t]) (w4.setCell ⟨w.heap.size + 3, 0, none⟩ (.slice (some ⟨gg, 0, none⟩) (ws1.length + 1) cap)) by
        have hB4 : Below (w.heap.size + 2) w3 w4 := by
          have hB3 : Below (w.heap.size + 2) w3 w3 := Below.refl _ _
          first | exact (hB3.alloc (by omega) _).grown hgrow4 (by simp; omega) fun q hq => (own_typ1 HS3.out.out.own hq).1 | exact (hB3.alloc (by omega) _).drew.grown hgrow4 (by simp; omega) fun q hq => (own_typ1 HS3.out.out.own hq).1
        exact HS3.out.kept (hB4.setCell (p := ⟨w.heap.size + 3, 0, none⟩) (by show w.heap.size + 2 ≤ w.heap.size + 3; omega) _) ⟨block_setCell K4.out 0 _, own_set (by rw [flatS_app, flatS_one, List.length_append]; exact hown4) K4.out (by decide) 0 _⟩)
      clear HS3 hown4 hgrow4 hat4 hlt4 K4 cO3 cA3 cO4 fO4 q5 cO fO HS1 HQ
      generalize hw5 : World.setCell _ _ _ = w5 at *
      obtain ⟨v5, hv5⟩ : ∃ v5, v5 = Value.slice (some ⟨gg, 0, none⟩) (ws1.length + 1) cap := ⟨_, rfl⟩
      rw [← hv5] at HS5
      have hl5 : (ws1 ++ [quoteL t]).length ≤ 51 := by rw [List.length_append]; simp; omega
      have HP2 := Lib.hid (put_at HS5.out HT.out (by omega) l2 (by rw [HN2.out]; show 6 ≤ 100; decide) #[.int .i64 mb, .int .i64 mr, .int .i64 ml, .int .i64 ik, .int .i64 fr, .int .i64 tu] (by rw [HN2.out]; rfl) w5.heap.size 6 rfl (by rw [HN2.out]; rfl))
      have HS5b := Lib.hid HS5.out
      have q6 := block_cell HS5.out.box 6
      have q7 := block_cell HS5.out.box 7
      have q8 := block_cell HS5.out.box 8
      have i0c := block_cell HS5.out.item 0
      have i1c := block_cell HS5.out.item 1
      have i2c := block_cell HS5.out.item 2
      simp [rsV, itemV] at q6 q7 q8 i0c i1c i2c
      have hs5 := HS5.out.size
      clear hw5 hv5 HP
      go_wp2_with fail
      refine (HP2.out).mono ?_; rintro e6 w6 ⟨rfl, hb6, ho6⟩
      clear q6 q7 q8 i0c i1c i2c HP2
      by_cases hok2 : allOK l2 = true
      · obtain ⟨v6, hS6⟩ := ho6 hok2
        have HS6 := Lib.hid hS6
        have HO2 := Lib.hid hok2
        rw [hok2]
        have i3c := block_cell hS6.item 3
        simp [itemV] at i3c
        have HT6 := Lib.hid (text_any ao n c d w6 (HR.out.later hS6.low) hn (HT.out.below hS6.low))
        generalize hw2 : ws1 ++ [quoteL t] ++ l2.map numL = ws2 at *
        have hl2 : ws2.length ≤ 60 := by rw [← hw2, List.length_append, List.length_map, HN2.out]; show _ + 6 ≤ 60; omega
        have hl2p : 0 < ws2.length := by rw [← hw2, List.length_append, List.length_append]; simp; omega
        have HW2 := Lib.hid hw2
        clear ho6 hb6 hS6 hw2 hok2
        go_wp2_with fail
        refine (HT6.out).mono ?_; rintro e7 w7 ⟨rfl, hb7⟩
        have HS7 := Lib.hid (HS6.out.later hb7)
        clear hb7 HT6 i3c
        by_cases hc : checkP d = 0
        · have hwl := HWL.out hc
          have HWL2 := Lib.hid hwl
          have HR2 := Lib.hid (show resR ⟨0, rev, sl, a, gr, t, mb, mr, ml, ik, fr, tu, d⟩ = (joinW wr, 0) by rw [HRE.out, if_pos ⟨HO1.out, HO2.out, hc⟩])
          have HTX := Lib.hid (show txtP d = textL d from if_pos hc)
          have HSH := Lib.hid (show (textL d).length ≤ 3000000 by
            have := text_short hc d.length
            rw [List.take_length] at this
            exact this)
          rw [HTX.out, hc]
          clear hc hwl
          have cO := block_cell HS7.out.out.out 0
          have fO := block_free HS7.out.out.out 0
          simp at cO
          by_cases hd : textL d = []
          · have HE := Lib.hid (show wr = ws2 by rw [HWR.out, if_pos hd, List.append_nil])
            rw [hd]
            have HJ := Lib.hid (join_row HS7.out.out.own hl2p (by omega) (by have := HWL2.out.1; rw [HE.out] at this; omega))
            clear hd
            go_wp2_with fail
            refine (HJ.out).mono ?_; rintro e8 w8 ⟨rfl, hb8⟩
            have HB8 := Lib.hid (below_two HS7.out.low hb8)
            clear hb8
            go_wp2_with fail
            go_ret2
            exact ⟨by rw [HR2.out, HE.out] <;> rfl, HB8.out⟩
          · have HE := Lib.hid (show wr = ws2 ++ [textL d] by rw [HWR.out, if_neg hd])
            obtain ⟨tx, htx⟩ : ∃ tx : ByteArray, tx = ⟨(textL d).toArray⟩ := ⟨_, rfl⟩
            have hne : tx.toList.isEmpty = false := str_some (by
              rw [htx]
              show (textL d).toArray.size ≠ 0
              rw [List.size_toArray]
              exact fun k => hd (List.eq_nil_of_length_eq_zero k))
            rw [← htx]
            have HTXX := Lib.hid htx
            clear htx
            have hs7 := HS7.out.size
            clear hd
            go_wp2_with (at_builtin; refine wpList_append_lies _ rfl _ _ 59 rfl (w.heap.size + 2) 9 i0 _ 1 16 Tryd.underlying59 hi0 hz0 hz1 hz2 rfl (by decide) _ ws2.length _ rfl (HS7.out.out.own.alloc _) ⟨w7.heap.size, 0, none⟩ 1 1 [.string tx] rfl rfl (World.news_of_block (cs := #[_]) (t := 9) (fr := (0, 0)) (heap_alloc_new w7 _)) (by simp [Value.oneCell']) (by omega) (by unfold maxLen; omega) (by omega) (by simp; omega) (w7.heap.size + 1) (by simp) ?c1)
            case c1 =>
              intro gg cap w8 hown8 hgrow8 hat8 hlt8
              rw [HTXX.out] at hown8
              have k8 : w8.heap[w.heap.size + 3]? = some (.cells #[v6] 59 (0, 0)) := keep_append HS7.out.out.own HS7.out.out.out (by decide) hgrow8 (block_alloc HS7.out.out.out _)
              have cO8 : w8.cell? ⟨w.heap.size + 3, 0, none⟩ = some v6 := block_cell k8 0
              have fO8 : w8.frozen? ⟨w.heap.size + 3, 0, none⟩ = false := block_free k8 0
              have HS9 := Lib.hid (show ResS ⟨0, rev, sl, a, gr, t, mb, mr, ml, ik, fr, tu, d⟩ ao n c w (.slice (some ⟨gg, 0, none⟩) (ws2.length + 1) cap) (ws2 ++ [textL d]) (w8.setCell ⟨w.heap.size + 3, 0, none⟩ (.slice (some ⟨gg, 0, none⟩) (ws2.length + 1) cap)) by
                have hB7 : Below (w.heap.size + 2) w7 w7 := Below.refl _ _
                have hB8 : Below (w.heap.size + 2) w7 w8 := (hB7.alloc (by omega) _).grown hgrow8 (by simp; omega) fun q hq => (own_typ1 HS7.out.out.own hq).1
                exact HS7.out.kept (hB8.setCell (p := ⟨w.heap.size + 3, 0, none⟩) (by show w.heap.size + 2 ≤ w.heap.size + 3; omega) _) ⟨block_setCell k8 0 _, own_set (by rw [flatS_app, flatS_one, List.length_append]; exact hown8) k8 (by decide) 0 _⟩)
              have HJ := Lib.hid (join_row HS9.out.out.own (by rw [List.length_append]; simp) (by rw [List.length_append]; simp; omega) (by have := HWL2.out.1; rw [HE.out] at this; omega))
              clear k8 hown8 hgrow8 hat8 hlt8 cO fO
              go_wp2_with fail
              refine (HJ.out).mono ?_; rintro e8 w9 ⟨rfl, hb9⟩
              have HB9 := Lib.hid (below_two HS9.out.low hb9)
              clear hb9
              go_wp2_with fail
              go_ret2
              exact ⟨by rw [HR2.out, HE.out] <;> rfl, HB9.out⟩
        · have HR2 := Lib.hid (show resR ⟨0, rev, sl, a, gr, t, mb, mr, ml, ik, fr, tu, d⟩ = ([], 2) by rw [HRE.out, if_neg (fun k => hc k.2.2)])
          have hc2 : (checkP d == 0) = false := by rw [beq_eq_false_iff_ne]; exact hc
          clear hc
          go_wp2_with fail
          go_ret2
          exact ⟨by rw [HR2.out] <;> rfl, HS7.out.low⟩
      · have HR2 := Lib.hid (show resR ⟨0, rev, sl, a, gr, t, mb, mr, ml, ik, fr, tu, d⟩ = ([], 2) by rw [HRE.out, if_neg (fun k => hok2 k.2.1)])
        have hok3 : allOK l2 = false := by simpa using hok2
        rw [hok3]
        have HB6 := Lib.hid hb6
        clear hok2 ho6 hb6
        go_wp2_with fail
        go_ret2
        exact ⟨by rw [HR2.out] <;> rfl, HB6.out⟩
  · have HR2 := Lib.hid (show resR ⟨0, rev, sl, a, gr, t, mb, mr, ml, ik, fr, tu, d⟩ = ([], 2) by rw [HRE.out, if_neg (fun k => hok1 k.1)])
    have hok2 : allOK l1 = false := by simpa using hok1
    rw [hok2]
    have HB1 := Lib.hid hb1
    clear hok1 ho1 hb1 HP
    go_wp2_with fail
    go_ret2
    exact ⟨by rw [HR2.out] <;> rfl, HB1.out⟩
theorem textResult_any (r : Rs) (ao : Option Addr) (n c : Nat) (w : World) (h : IsR fP w ao n r.d) (hn : n ≤ 9223372036854775807) (ht : Tab w) (hsz : r.t.size ≤ 1000000) (hg : 0 ≤ r.gr ∧ r.gr < 256) (hk : 0 ≤ r.ik ∧ r.ik < 256) :
    Calls Tryd.prog 12 #[.agg (rsV r ao n c)] w fun e w' => e = .returned (.tuple #[.string ⟨(resR r).1.toArray⟩, .int .i64 (resR r).2]) ∧ Below w.heap.size w w' := by
  by_cases he : r.e = 0
  · exact result_ok r ao n c w h hn ht he hsz hg hk
  · exact result_err r ao n c w h.1 ht he
end Go.Proofs.YtdfkbahlngijcaaDoor

namespace Go.Proofs.YtdfkbahlngijcaaDoor
open Go.RowKit
set_option linter.unusedVariables false

def wordsAt (t : ByteArray) (V : List Int) (i : Nat) : List (List UInt8) := [[111, 107]] ++ ((V.take i).take 4).map numL ++ (if 4 < i then [quoteL t] else []) ++ ((V.take i).drop 4).map numL
theorem wordsAt_few (t : ByteArray) {V : List Int} {i : Nat} (h : i < V.length) (hi : i < 4) : wordsAt t V (i + 1) = wordsAt t V i ++ [numL V[i]] := by
  unfold wordsAt
  rw [List.take_succ_eq_append_getElem h]
  have hl : (V.take i).length = i := by rw [List.length_take]; omega
  have d1 : (V.take i ++ [V[i]]).drop 4 = [] := List.drop_eq_nil_of_le (by rw [List.length_append, hl]; simp; omega)
  have d2 : (V.take i ++ [V[i]]).take 4 = V.take i ++ [V[i]] := List.take_of_length_le (by rw [List.length_append, hl]; simp; omega)
  have d3 : (V.take i).drop 4 = [] := List.drop_eq_nil_of_le (by omega)
  have d4 : (V.take i).take 4 = V.take i := List.take_of_length_le (by omega)
  rw [if_neg (by omega), if_neg (by omega), d1, d2, d3, d4]
  simp only [List.map_append, List.append_assoc, List.map_cons, List.map_nil, List.append_nil]
theorem wordsAt_four (t : ByteArray) {V : List Int} (h : 4 < V.length) : wordsAt t V 5 = wordsAt t V 4 ++ [quoteL t] ++ [numL V[4]] := by
  unfold wordsAt
  rw [List.take_succ_eq_append_getElem h]
  have hl : (V.take 4).length = 4 := by rw [List.length_take]; omega
  rw [if_pos (by omega), if_neg (by omega), List.take_append_of_le_length (by omega), List.drop_append_of_le_length (by omega), List.drop_eq_nil_of_le (by omega)]
  simp
theorem wordsAt_more (t : ByteArray) {V : List Int} {i : Nat} (h : i < V.length) (hi : 4 < i) : wordsAt t V (i + 1) = wordsAt t V i ++ [numL V[i]] := by
  unfold wordsAt
  rw [List.take_succ_eq_append_getElem h]
  have hl : (V.take i).length = i := by rw [List.length_take]; omega
  rw [if_pos (by omega), if_pos hi, List.take_append_of_le_length (by omega), List.drop_append_of_le_length (by omega)]
  simp
theorem wordsAt_end (t : ByteArray) {V : List Int} (h : V.length = 10) : wordsAt t V 10 = [[111, 107]] ++ (V.take 4).map numL ++ [quoteL t] ++ (V.drop 4).map numL := by
  unfold wordsAt
  rw [if_pos (by omega), List.take_of_length_le (by omega : V.length ≤ 10)]
theorem wordsAt_zero (t : ByteArray) (V : List Int) : wordsAt t V 0 = [[111, 107]] := by unfold wordsAt; simp
theorem wordsAt_ne (t : ByteArray) (V : List Int) (i : Nat) : wordsAt t V i ≠ [] := by unfold wordsAt; simp
theorem wordsAt_len (t : ByteArray) {V : List Int} (i : Nat) (h : V.length = 10) (ht : t.size ≤ 1000000) : (joinW (wordsAt t V i)).length ≤ 30000000 := by
  have hk : ∀ x ∈ wordsAt t V i, x.length ≤ 2000001 := by
    intro x hx
    have hq := quote_len t
    unfold wordsAt at hx
    simp only [List.mem_append, List.mem_map, List.mem_singleton] at hx
    rcases hx with ((rfl | ⟨v, _, rfl⟩) | hx) | ⟨v, _, rfl⟩
    · show 2 ≤ _; omega
    · have := numL_len v; omega
    · by_cases h4 : 4 < i
      · rw [if_pos h4, List.mem_singleton] at hx
        subst hx; omega
      · rw [if_neg h4] at hx; exact absurd hx List.not_mem_nil
    · have := numL_len v; omega
  have hn : (wordsAt t V i).length ≤ 12 := by
    unfold wordsAt
    simp only [List.length_append, List.length_map, List.length_singleton, List.length_take, List.length_drop]
    by_cases h4 : 4 < i
    · rw [if_pos h4]; simp; omega
    · rw [if_neg h4]; simp; omega
  have := joinW_most _ _ hk
  have := Nat.mul_le_mul_right (2000001 + 1) hn
  omega
theorem cat_word {S : ByteArray} {A B : List UInt8} (h : S = ⟨A.toArray⟩) : S ++ ((⟨#[32]⟩ : ByteArray) ++ ⟨B.toArray⟩) = ⟨(A ++ 32 :: B).toArray⟩ := by
  subst h
  apply ByteArray.ext
  rw [ByteArray.data_append, ByteArray.data_append]
  simp
theorem word_snoc {S : ByteArray} {ws : List (List UInt8)} {B : List UInt8} (h : S = ⟨(joinW ws).toArray⟩) (hn : ws ≠ []) : S ++ ((⟨#[32]⟩ : ByteArray) ++ ⟨B.toArray⟩) = ⟨(joinW (ws ++ [B])).toArray⟩ := by
  rw [cat_word h, joinW_snoc ws B hn]
theorem bytes_len {S : ByteArray} {l : List UInt8} (h : S = ⟨l.toArray⟩) : S.size = l.length := by
  subst h
  exact List.size_toArray ..
theorem allOK_split {V : List Int} : (allOK V = true) ↔ (allOK (V.take 4) = true ∧ allOK (V.drop 4) = true) := by
  unfold allOK
  conv => lhs; rw [← List.take_append_drop 4 V]
  rw [List.all_append, Bool.and_eq_true]

set_option maxRecDepth 100000 in
set_option maxHeartbeats 8000000 in
theorem refResult_any (r : Rs) (ao : Option Addr) (n c : Nat) (w : World) (h : IsR fP w ao n r.d) (hn : n ≤ 9223372036854775807) (hsz : r.t.size ≤ 1000000) (hg : 0 ≤ r.gr ∧ r.gr < 256) (hk : 0 ≤ r.ik ∧ r.ik < 256) :
    Calls Tryd.prog 13 #[.agg (rsV r ao n c)] w fun e w' => e = .returned (.tuple #[.string ⟨(resR r).1.toArray⟩, .int .i64 (resR r).2]) ∧ Below w.heap.size w w' := by
  have hl := h.1
  have HR := Lib.hid h
  have HB := Lib.hid ((Below.refl w.heap.size w).alloc (Nat.le_refl _) (.cells (rsV r ao n c) 29))
  have HBX := Lib.hid (block_new w (.cells (rsV r ao n c) 29))
  have HSZ := Lib.hid hsz
  have HWL := Lib.hid (words_len r hsz)
  obtain ⟨e, rev, sl, a, gr, t, mb, mr, ml, ik, fr, tu, d⟩ := r
  simp only at hl hg hk hsz HR HSZ HWL
  simp only [rsV] at HB HBX ⊢
  have hwg : IntKind.i64.wrap gr = gr := by rw [IntKind.wrap_i64]; omega
  have hwk : IntKind.i64.wrap ik = ik := by rw [IntKind.wrap_i64]; omega
  clear h hsz hg hk
  by_cases h0 : e < 0
  · have HRE := Lib.hid (show resR ⟨e, rev, sl, a, gr, t, mb, mr, ml, ik, fr, tu, d⟩ = ([], 2) by
      unfold resR; rw [if_pos (by show e ≠ 0; omega), if_pos (.inl h0)])
    go_enter Tryd.func13, Tryd.ntmps13
    go_wp2_with fail
    go_ret2
    exact ⟨by rw [HRE.out] <;> rfl, HB.out⟩
  · go_enter Tryd.func13, Tryd.ntmps13
    go_upto_region 3 with (fail)
    go_cut [4] from 17 to 71 (fun vz wq => vz = .bool (zeroR ⟨e, rev, sl, a, gr, t, mb, mr, ml, ik, fr, tu, d⟩) ∧ wq = w.alloc (.cells #[.int .i64 e, .int .i64 rev, .int .i64 sl, .int .i64 a, .int .u8 gr, .string t, .int .i64 mb, .int .i64 mr, .int .i64 ml, .int .u8 ik, .int .i64 fr, .int .i64 tu, .slice ao n c] 29))
    case first =>
      by_cases hrev : rev = 0
      · subst hrev
        by_cases hsl : sl = 0
        · subst hsl
          by_cases ha : a = 0
          · subst ha
            by_cases hgr : gr = 0
            · subst hgr
              by_cases ht : t.size = 0
              · have et := str_empty ht
                subst et
                clear ht
                by_cases hmb : mb = 0
                · subst hmb
                  by_cases hmr : mr = 0
                  · subst hmr
                    by_cases hml : ml = 0
                    · subst hml
                      by_cases hik : ik = 0
                      · subst hik
                        by_cases hfr : fr = 0
                        · subst hfr
                          by_cases htu : tu = 0
                          · subst htu
                            by_cases hn : n = 0
                            · obtain rfl := hn
                              have hd : d.length = 0 := hl
                              have HZ := Lib.hid (show zeroR ⟨e, 0, 0, 0, 0, ⟨#[]⟩, 0, 0, 0, 0, 0, 0, d⟩ = true by unfold zeroR; simp only [hd] <;> rfl)
                              go_wp2_with fail
                              go_meet
                              case rel => exact ⟨by rw [HZ.out] <;> rfl, rfl⟩
                            · have hd : d.length ≠ 0 := by omega
                              have HZ := Lib.hid (show zeroR ⟨e, 0, 0, 0, 0, ⟨#[]⟩, 0, 0, 0, 0, 0, 0, d⟩ = false by simp [zeroR, hd])
                              have bn : ((n : Int) == 0) = false := by rw [beq_eq_false_iff_ne]; omega
                              clear hn
                              go_wp2_with fail
                              go_meet
                              case rel => exact ⟨by rw [HZ.out] <;> rfl, rfl⟩
                          · have HZ := Lib.hid (show zeroR ⟨e, 0, 0, 0, 0, ⟨#[]⟩, 0, 0, 0, 0, 0, tu, d⟩ = false by simp [zeroR, htu])
                            have btu : (tu == 0) = false := by rw [beq_eq_false_iff_ne]; exact htu
                            clear htu
                            go_wp2_with fail
                            go_meet
                            case rel => exact ⟨by rw [HZ.out] <;> rfl, rfl⟩
                        · have HZ := Lib.hid (show zeroR ⟨e, 0, 0, 0, 0, ⟨#[]⟩, 0, 0, 0, 0, fr, tu, d⟩ = false by simp [zeroR, hfr])
                          have bfr : (fr == 0) = false := by rw [beq_eq_false_iff_ne]; exact hfr
                          clear hfr
                          go_wp2_with fail
                          go_meet
                          case rel => exact ⟨by rw [HZ.out] <;> rfl, rfl⟩
                      · have HZ := Lib.hid (show zeroR ⟨e, 0, 0, 0, 0, ⟨#[]⟩, 0, 0, 0, ik, fr, tu, d⟩ = false by simp [zeroR, hik])
                        have bik : (ik == 0) = false := by rw [beq_eq_false_iff_ne]; exact hik
                        clear hik
                        go_wp2_with fail
                        go_meet
                        case rel => exact ⟨by rw [HZ.out] <;> rfl, rfl⟩
                    · have HZ := Lib.hid (show zeroR ⟨e, 0, 0, 0, 0, ⟨#[]⟩, 0, 0, ml, ik, fr, tu, d⟩ = false by simp [zeroR, hml])
                      have bml : (ml == 0) = false := by rw [beq_eq_false_iff_ne]; exact hml
                      clear hml
                      go_wp2_with fail
                      go_meet
                      case rel => exact ⟨by rw [HZ.out] <;> rfl, rfl⟩
                  · have HZ := Lib.hid (show zeroR ⟨e, 0, 0, 0, 0, ⟨#[]⟩, 0, mr, ml, ik, fr, tu, d⟩ = false by simp [zeroR, hmr])
                    have bmr : (mr == 0) = false := by rw [beq_eq_false_iff_ne]; exact hmr
                    clear hmr
                    go_wp2_with fail
                    go_meet
                    case rel => exact ⟨by rw [HZ.out] <;> rfl, rfl⟩
                · have HZ := Lib.hid (show zeroR ⟨e, 0, 0, 0, 0, ⟨#[]⟩, mb, mr, ml, ik, fr, tu, d⟩ = false by simp [zeroR, hmb])
                  have bmb : (mb == 0) = false := by rw [beq_eq_false_iff_ne]; exact hmb
                  clear hmb
                  go_wp2_with fail
                  go_meet
                  case rel => exact ⟨by rw [HZ.out] <;> rfl, rfl⟩
              · have HZ := Lib.hid (show zeroR ⟨e, 0, 0, 0, 0, t, mb, mr, ml, ik, fr, tu, d⟩ = false by simp [zeroR, ht])
                have bt := str_some ht
                clear ht
                go_wp2_with fail
                go_meet
                case rel => exact ⟨by rw [HZ.out] <;> rfl, rfl⟩
            · have HZ := Lib.hid (show zeroR ⟨e, 0, 0, 0, gr, t, mb, mr, ml, ik, fr, tu, d⟩ = false by simp [zeroR, hgr])
              have bgr : (gr == 0) = false := by rw [beq_eq_false_iff_ne]; exact hgr
              clear hgr
              go_wp2_with fail
              go_meet
              case rel => exact ⟨by rw [HZ.out] <;> rfl, rfl⟩
          · have HZ := Lib.hid (show zeroR ⟨e, 0, 0, a, gr, t, mb, mr, ml, ik, fr, tu, d⟩ = false by simp [zeroR, ha])
            have ba : (a == 0) = false := by rw [beq_eq_false_iff_ne]; exact ha
            clear ha
            go_wp2_with fail
            go_meet
            case rel => exact ⟨by rw [HZ.out] <;> rfl, rfl⟩
        · have HZ := Lib.hid (show zeroR ⟨e, 0, sl, a, gr, t, mb, mr, ml, ik, fr, tu, d⟩ = false by simp [zeroR, hsl])
          have bsl : (sl == 0) = false := by rw [beq_eq_false_iff_ne]; exact hsl
          clear hsl
          go_wp2_with fail
          go_meet
          case rel => exact ⟨by rw [HZ.out] <;> rfl, rfl⟩
      · have HZ := Lib.hid (show zeroR ⟨e, rev, sl, a, gr, t, mb, mr, ml, ik, fr, tu, d⟩ = false by simp [zeroR, hrev])
        have brev : (rev == 0) = false := by rw [beq_eq_false_iff_ne]; exact hrev
        clear hrev
        go_wp2_with fail
        go_meet
        case rel => exact ⟨by rw [HZ.out] <;> rfl, rfl⟩
    case rest =>
      obtain ⟨rfl, rfl⟩ := hcut
      by_cases he : e = 0
      · subst he
        have HRE := Lib.hid (show resR ⟨0, rev, sl, a, gr, t, mb, mr, ml, ik, fr, tu, d⟩ = if allOK (nums1 ⟨0, rev, sl, a, gr, t, mb, mr, ml, ik, fr, tu, d⟩) = true ∧ allOK (nums2 ⟨0, rev, sl, a, gr, t, mb, mr, ml, ik, fr, tu, d⟩) = true ∧ checkP d = 0 then (joinW (wordsR ⟨0, rev, sl, a, gr, t, mb, mr, ml, ik, fr, tu, d⟩), 0) else ([], 2) by
          unfold resR
          rw [if_neg (fun k => k rfl)])
        obtain ⟨V, hV⟩ : ∃ V : List Int, V = [rev, sl, a, gr, mb, mr, ml, ik, fr, tu] := ⟨_, rfl⟩
        have HV1 := Lib.hid (show nums1 ⟨0, rev, sl, a, gr, t, mb, mr, ml, ik, fr, tu, d⟩ = V.take 4 by rw [hV]; rfl)
        have HV2 := Lib.hid (show nums2 ⟨0, rev, sl, a, gr, t, mb, mr, ml, ik, fr, tu, d⟩ = V.drop 4 by rw [hV]; rfl)
        have HWR := Lib.hid (show wordsR ⟨0, rev, sl, a, gr, t, mb, mr, ml, ik, fr, tu, d⟩ = [[111, 107]] ++ (nums1 ⟨0, rev, sl, a, gr, t, mb, mr, ml, ik, fr, tu, d⟩).map numL ++ [quoteL t] ++ (nums2 ⟨0, rev, sl, a, gr, t, mb, mr, ml, ik, fr, tu, d⟩).map numL ++ (if textL d = [] then [] else [textL d]) from rfl)
        have HVL := Lib.hid (show V.length = 10 by rw [hV]; rfl)
        have HVC := Lib.hid (show (#[.int .i64 rev, .int .i64 sl, .int .i64 a, .int .i64 gr, .int .i64 mb, .int .i64 mr, .int .i64 ml, .int .i64 ik, .int .i64 fr, .int .i64 tu] : Array Value) = (V.map (Value.int .i64)).toArray by rw [hV]; rfl)
        rw [HV1.out, HV2.out] at HRE HWR
        clear hV
        go_upto_region 13 with (fail)
        rw [HVC.out]
        have HB1 := Lib.hid (HB.out.alloc (by simp) (.cells (V.map (Value.int .i64)).toArray 69))
        have HBX1 := Lib.hid (block_alloc HBX.out (.cells (V.map (Value.int .i64)).toArray 69))
        have HAR1 := Lib.hid (block_new' (w.alloc (.cells #[.int .i64 0, .int .i64 rev, .int .i64 sl, .int .i64 a, .int .u8 gr, .string t, .int .i64 mb, .int .i64 mr, .int .i64 ml, .int .u8 ik, .int .i64 fr, .int .i64 tu, .slice ao n c] 29)) (.cells (V.map (Value.int .i64)).toArray 69) (w.heap.size + 1) (by simp))
        go_wp2_with fail
        go_loopw [7, 9] (fun s7 s9 wr => ∃ (i : Nat) (S : ByteArray), i ≤ 10 ∧ s9 = .int .i64 i ∧ s7 = .string S ∧ S = ⟨(joinW (wordsAt t V i)).toArray⟩ ∧ allOK (V.take i) = true ∧ wr.heap[w.heap.size]? = some (.cells #[.int .i64 0, .int .i64 rev, .int .i64 sl, .int .i64 a, .int .u8 gr, .string t, .int .i64 mb, .int .i64 mr, .int .i64 ml, .int .u8 ik, .int .i64 fr, .int .i64 tu, .slice ao n c] 29 (0, 0)) ∧ wr.heap[w.heap.size + 1]? = some (.cells (V.map (Value.int .i64)).toArray 69 (0, 0)) ∧ Below w.heap.size w wr) (fun _ s9 _ => 10 - (intOf s9).toNat)
        case atStart => exact ⟨0, _, by omega, rfl, rfl, by rw [wordsAt_zero] <;> rfl, rfl, HBX1.out, HAR1.out, HB1.out⟩
        case round =>
          obtain ⟨i, S, hi, rfl, rfl, hS, hok, hbx, har, hbr⟩ := hrel
          have HBR := Lib.hid hbr
          have HBXR := Lib.hid hbx
          have HARR := Lib.hid har
          have HOK := Lib.hid hok
          have hSL : S.size ≤ 30000000 := by
            rw [hS]
            show (joinW _).toArray.size ≤ _
            rw [List.size_toArray]
            exact wordsAt_len t i HVL.out HSZ.out
          have HS := Lib.hid hS
          clear hS hbr hok HB1 HBX1 HAR1
          by_cases hlt : i < 10
          · have hlt1 : (i : Int) < 10 := by omega
            have hii0 : (0 : Int) ≤ (i : Int) := by omega
            have hvl : i < V.length := by rw [HVL.out]; exact hlt
            have HCA := Lib.hid (fun (u : World) (h : u.heap[w.heap.size + 1]? = some (.cells (V.map (Value.int .i64)).toArray 69 (0, 0))) => int_cell h hvl)
            have ca := int_cell har hvl
            have HX1 := Lib.hid (show allOK (V.take (i + 1)) = (allOK (V.take i) && decide (numOK V[i])) from allOK_at hvl)
            have HX2 := Lib.hid (fun hn : ¬ numOK V[i] => allOK_no hvl hn)
            have HX3 := Lib.hid (fun h4 : i < 4 => wordsAt_few t hvl h4)
            have HX4 := Lib.hid (fun h4 : 4 < i => wordsAt_more t hvl h4)
            have HX5 := Lib.hid (show ∀ h4 : i = 4, wordsAt t V (i + 1) = wordsAt t V i ++ [quoteL t] ++ [numL V[i]] from fun h4 => by subst h4; exact wordsAt_four t hvl)
            generalize V[i] = x at *
            have q5 := block_cell hbx 5
            simp at q5
            clear hbx har hvl
            have HNX := Lib.hid (fun u => refNumber_any x u)
            by_cases h4 : i = 4
            · have h4' : ((i : Int) == 4) = true := by rw [beq_iff_eq]; omega
              have HQ := Lib.hid (refString_any t wr (by have := HSZ.out; omega))
              have hcat : ¬ (9223372036854775807 < (⟨#[32]⟩ : ByteArray).size + (⟨(quoteL t).toArray⟩ : ByteArray).size) := by
                show ¬ (9223372036854775807 < 1 + (quoteL t).toArray.size)
                rw [List.size_toArray, quote_len]
                have := HSZ.out
                omega
              have HX6 := Lib.hid (HX5.out h4)
              clear h4
              go_wp2_with fail
              refine (HQ.out).mono ?_; rintro e2 w2 ⟨rfl, hb2⟩
              have HB2 := Lib.hid (below_two HBR.out hb2)
              have hbx2 := block_below hb2 HBXR.out (block_lt HBXR.out)
              have har2 := block_below hb2 HARR.out (block_lt HARR.out)
              have HBX2 := Lib.hid hbx2
              have HAR2 := Lib.hid har2
              clear hb2 hbx2 har2 HQ q5
              have ca2 := HCA.out w2 HAR2.out
              have hcat2 : ¬ (9223372036854775807 < S.size + (1 + (quoteL t).length)) := by
                rw [quote_len]
                have := HSZ.out
                omega
              have HS2 := Lib.hid (word_snoc (B := quoteL t) HS.out (wordsAt_ne t V i))
              generalize hS2 : S ++ ((⟨#[32]⟩ : ByteArray) ++ ⟨(quoteL t).toArray⟩) = S2 at HS2
              have HSE := Lib.hid hS2
              have hS2L : S2.size ≤ 33000000 := by
                rw [← hS2, ByteArray.size_append, ByteArray.size_append]
                show S.size + (1 + (quoteL t).toArray.size) ≤ _
                rw [List.size_toArray, quote_len]
                have := HSZ.out
                omega
              clear hS2 ca
              go_upto_region 18 with (fail)
              rw [HSE.out]
              by_cases hx : numOK x
              · have hxd : decide (numOK x) = true := decide_eq_true hx
                have hlx := numL_len x
                have HOK2 := Lib.hid (show allOK (V.take (i + 1)) = true by rw [HX1.out, HOK.out, hxd]; rfl)
                have hcn1 : ¬ (9223372036854775807 < (⟨#[32]⟩ : ByteArray).size + (⟨(numL x).toArray⟩ : ByteArray).size) := by
                  show ¬ (9223372036854775807 < 1 + (numL x).toArray.size)
                  rw [List.size_toArray]
                  omega
                have hcn2 : ¬ (9223372036854775807 < S2.size + (1 + (numL x).length)) := by omega
                have HS3 := Lib.hid (word_snoc (B := numL x) HS2.out (by simp))
                rw [hxd] at HNX
                clear hx hxd
                go_wp2_with fail
                refine (HNX.out _).mono ?_; rintro e3 w3 ⟨rfl, hb3⟩
                have HB3 := Lib.hid (below_two HB2.out hb3)
                have HBX3 := Lib.hid (block_below hb3 HBX2.out (block_lt HBX2.out))
                have HAR3 := Lib.hid (block_below hb3 HAR2.out (block_lt HAR2.out))
                clear hb3 HNX
                go_wp2_with fail
                go_roundw
                case rel => exact ⟨i + 1, _, by omega, by go_num, rfl, by rw [HS3.out, HX6.out], HOK2.out, HBX3.out, HAR3.out, HB3.out⟩
                case measure => simp [intOf]; omega
              · have hxd : decide (numOK x) = false := decide_eq_false hx
                have HRF := Lib.hid (show resR ⟨0, rev, sl, a, gr, t, mb, mr, ml, ik, fr, tu, d⟩ = ([], 2) by
                  rw [HRE.out, if_neg (fun k => by
                    have := allOK_split.2 ⟨k.1, k.2.1⟩
                    rw [HX2.out hx] at this
                    cases this)])
                rw [hxd] at HNX
                clear hx hxd
                go_wp2_with fail
                refine (HNX.out _).mono ?_; rintro e3 w3 ⟨rfl, hb3⟩
                have HB3 := Lib.hid (below_two HB2.out hb3)
                clear hb3 HNX
                go_wp2_with fail
                go_ret2
                exact ⟨by rw [HRF.out] <;> rfl, HB3.out⟩
            · have h4' : ((i : Int) == 4) = false := by rw [beq_eq_false_iff_ne]; omega
              have HX6 := Lib.hid (show wordsAt t V (i + 1) = wordsAt t V i ++ [numL x] by
                rcases Nat.lt_or_ge i 4 with h | h
                · exact HX3.out h
                · exact HX4.out (by omega))
              clear h4 q5
              by_cases hx : numOK x
              · have hxd : decide (numOK x) = true := decide_eq_true hx
                have hlx := numL_len x
                have HOK2 := Lib.hid (show allOK (V.take (i + 1)) = true by rw [HX1.out, HOK.out, hxd]; rfl)
                have hcn1 : ¬ (9223372036854775807 < (⟨#[32]⟩ : ByteArray).size + (⟨(numL x).toArray⟩ : ByteArray).size) := by
                  show ¬ (9223372036854775807 < 1 + (numL x).toArray.size)
                  rw [List.size_toArray]
                  omega
                have hcn2 : ¬ (9223372036854775807 < S.size + (1 + (numL x).length)) := by omega
                have HS3 := Lib.hid (word_snoc (B := numL x) HS.out (wordsAt_ne t V i))
                rw [hxd] at HNX
                clear hx hxd
                go_wp2_with fail
                refine (HNX.out _).mono ?_; rintro e3 w3 ⟨rfl, hb3⟩
                have HB3 := Lib.hid (below_two HBR.out hb3)
                have HBX3 := Lib.hid (block_below hb3 HBXR.out (block_lt HBXR.out))
                have HAR3 := Lib.hid (block_below hb3 HARR.out (block_lt HARR.out))
                clear hb3 HNX
                go_wp2_with fail
                go_roundw
                case rel => exact ⟨i + 1, _, by omega, by go_num, rfl, by rw [HS3.out, HX6.out], HOK2.out, HBX3.out, HAR3.out, HB3.out⟩
                case measure => simp [intOf]; omega
              · have hxd : decide (numOK x) = false := decide_eq_false hx
                have HRF := Lib.hid (show resR ⟨0, rev, sl, a, gr, t, mb, mr, ml, ik, fr, tu, d⟩ = ([], 2) by
                  rw [HRE.out, if_neg (fun k => by
                    have := allOK_split.2 ⟨k.1, k.2.1⟩
                    rw [HX2.out hx] at this
                    cases this)])
                rw [hxd] at HNX
                clear hx hxd
                go_wp2_with fail
                refine (HNX.out _).mono ?_; rintro e3 w3 ⟨rfl, hb3⟩
                have HB3 := Lib.hid (below_two HBR.out hb3)
                clear hb3 HNX
                go_wp2_with fail
                go_ret2
                exact ⟨by rw [HRF.out] <;> rfl, HB3.out⟩
          · have h10 : i = 10 := by omega
            have hlt1 : ¬ ((i : Int) < 10) := by omega
            have HALL := Lib.hid (show allOK (V.take 4) = true ∧ allOK (V.drop 4) = true from allOK_split.1 (by
              have := HOK.out
              rw [h10, List.take_of_length_le (by rw [HVL.out]; omega)] at this
              exact this))
            have HWE := Lib.hid (show wordsAt t V i = [[111, 107]] ++ (V.take 4).map numL ++ [quoteL t] ++ (V.drop 4).map numL by rw [h10]; exact wordsAt_end t HVL.out)
            have HTC := Lib.hid (refText_any ao n c d wr (HR.out.later HBR.out) hn)
            have q12 := block_cell hbx 12
            simp at q12
            clear hbx har h10 hlt
            go_wp2_with fail
            refine (HTC.out).mono ?_; rintro e2 w2 ⟨rfl, hb2⟩
            have HB2 := Lib.hid (below_two HBR.out hb2)
            clear hb2 HTC q12
            by_cases hc : checkP d = 0
            · have HR2 := Lib.hid (show resR ⟨0, rev, sl, a, gr, t, mb, mr, ml, ik, fr, tu, d⟩ = (joinW (wordsR ⟨0, rev, sl, a, gr, t, mb, mr, ml, ik, fr, tu, d⟩), 0) by rw [HRE.out, if_pos ⟨HALL.out.1, HALL.out.2, hc⟩])
              have HTX := Lib.hid (show txtP d = textL d from if_pos hc)
              have HSH := Lib.hid (show (textL d).length ≤ 3000000 by
                have := text_short hc d.length
                rw [List.take_length] at this
                exact this)
              rw [HTX.out, hc]
              clear hc
              by_cases hd : textL d = []
              · have HE := Lib.hid (show wordsR ⟨0, rev, sl, a, gr, t, mb, mr, ml, ik, fr, tu, d⟩ = wordsAt t V i by rw [HWR.out, if_pos hd, List.append_nil, HWE.out])
                rw [hd]
                clear hd
                go_wp2_with fail
                go_ret2
                exact ⟨by rw [HR2.out, HE.out, HS.out] <;> rfl, HB2.out⟩
              · have HE := Lib.hid (show wordsR ⟨0, rev, sl, a, gr, t, mb, mr, ml, ik, fr, tu, d⟩ = wordsAt t V i ++ [textL d] by rw [HWR.out, if_neg hd, HWE.out])
                obtain ⟨tx, htx⟩ : ∃ tx : ByteArray, tx = ⟨(textL d).toArray⟩ := ⟨_, rfl⟩
                have htl : tx.size ≤ 3000000 := by
                  have := bytes_len htx
                  have := HSH.out
                  omega
                have hne : tx.toList.isEmpty = false := str_some (by
                  rw [htx]
                  show (textL d).toArray.size ≠ 0
                  rw [List.size_toArray]
                  exact fun k => hd (List.eq_nil_of_length_eq_zero k))
                have HS3 := Lib.hid (word_snoc (B := textL d) HS.out (wordsAt_ne t V i))
                rw [← htx] at HS3 ⊢
                have hcn1 : ¬ (9223372036854775807 < 1 + tx.size) := by omega
                have hcn2 : ¬ (9223372036854775807 < S.size + (1 + tx.size)) := by omega
                clear hd htx
                go_wp2_with fail
                go_ret2
                exact ⟨by rw [HR2.out, HE.out, HS3.out] <;> rfl, HB2.out⟩
            · have HR2 := Lib.hid (show resR ⟨0, rev, sl, a, gr, t, mb, mr, ml, ik, fr, tu, d⟩ = ([], 2) by rw [HRE.out, if_neg (fun k => hc k.2.2)])
              have hc2 : (checkP d == 0) = false := by rw [beq_eq_false_iff_ne]; exact hc
              clear hc
              go_wp2_with fail
              go_ret2
              exact ⟨by rw [HR2.out] <;> rfl, HB2.out⟩
      · have he2 : (e == 0) = false := by rw [beq_eq_false_iff_ne]; exact he
        have he3 : (e != 0) = true := by rw [bne_iff_ne]; exact he
        rcases hz : zeroR ⟨e, rev, sl, a, gr, t, mb, mr, ml, ik, fr, tu, d⟩ with _ | _
        · have HRE := Lib.hid (show resR ⟨e, rev, sl, a, gr, t, mb, mr, ml, ik, fr, tu, d⟩ = ([], 2) by
            unfold resR; rw [if_pos he, if_pos (.inr (.inl hz))])
          clear hz
          go_wp2_with fail
          go_ret2
          exact ⟨by rw [HRE.out] <;> rfl, HB.out⟩
        · by_cases h1 : 9999999999 < e
          · have HRE := Lib.hid (show resR ⟨e, rev, sl, a, gr, t, mb, mr, ml, ik, fr, tu, d⟩ = ([], 2) by
              unfold resR; rw [if_pos he, if_pos (.inr (.inr h1))])
            have HNX := Lib.hid (fun u => refNumber_any e u)
            have hxd : decide (numOK e) = false := decide_eq_false (fun k => by have := k.2; omega)
            rw [hxd] at HNX
            clear hz hxd
            go_wp2_with fail
            refine (HNX.out _).mono ?_; rintro e2 w2 ⟨rfl, hb2⟩
            have HB2 := Lib.hid (below_two HB.out hb2)
            clear hb2
            go_wp2_with fail
            go_ret2
            exact ⟨by rw [HRE.out] <;> rfl, HB2.out⟩
          · have HRE := Lib.hid (show resR ⟨e, rev, sl, a, gr, t, mb, mr, ml, ik, fr, tu, d⟩ = ([101, 114, 114, 111, 114, 32] ++ numL e, 0) by
              unfold resR
              rw [if_pos he, if_neg (by rintro (k | k | k); exact h0 k; rw [hz] at k; cases k; exact h1 k)]
              unfold numL
              rw [if_pos (show numOK e from ⟨by omega, by omega⟩)])
            have HNX := Lib.hid (fun u => refNumber_any e u)
            have hxd : decide (numOK e) = true := decide_eq_true ⟨by omega, by omega⟩
            have hlx := numL_len e
            have hcat : ¬ (9223372036854775807 < (⟨#[101, 114, 114, 111, 114, 32]⟩ : ByteArray).size + (⟨(numL e).toArray⟩ : ByteArray).size) := by
              show ¬ (9223372036854775807 < 6 + (numL e).toArray.size)
              rw [List.size_toArray]
              omega
            rw [hxd] at HNX
            clear hz hxd
            go_wp2_with fail
            refine (HNX.out _).mono ?_; rintro e2 w2 ⟨rfl, hb2⟩
            have HB2 := Lib.hid (below_two HB.out hb2)
            clear hb2
            go_wp2_with fail
            go_ret2
            exact ⟨by rw [HRE.out] <;> rfl, HB2.out⟩

end Go.Proofs.YtdfkbahlngijcaaDoor

namespace Go.Proofs.YtdfkbahlngijcaaDoor
open Go.RowKit
set_option linter.unusedVariables false

/-- a result of six cells in memory -/
theorem res6 {P : Program} {fn : Func} {p : Tmp} {ty : TypeId} (hr : fn.results = #[.cell p ty]) {tmps : Array Value} {W : World} {b : Nat} {x0 x1 x2 x3 x4 x5 : Value} {e : TypeId} {fr : Nat × Nat}
    (hg : (isAgg ty).run P W = .ok true W) (hs : (sizeOf ty).run P W = .ok 6 W) (ht : tmps.getD p undef = .pointer (some ⟨b, 0, none⟩))
    (hb : W.heap[b]? = some (.cells #[x0, x1, x2, x3, x4, x5] e fr)) : (results fn tmps).run P W = .ok (.agg #[x0, x1, x2, x3, x4, x5]) W := by
  have h0 : W.cell? ⟨b, 0, none⟩ = some x0 := block_cell hb 0
  have h1 : W.cell? ⟨b, 1, none⟩ = some x1 := block_cell hb 1
  have h2 : W.cell? ⟨b, 2, none⟩ = some x2 := block_cell hb 2
  have h3 : W.cell? ⟨b, 3, none⟩ = some x3 := block_cell hb 3
  have h4 : W.cell? ⟨b, 4, none⟩ = some x4 := block_cell hb 4
  have h5 : W.cell? ⟨b, 5, none⟩ = some x5 := block_cell hb 5
  have ht' : tmps[p]?.getD undef = .pointer (some ⟨b, 0, none⟩) := by simpa using ht
  simp only [results, hr]
  simp [ht', hg, hs, h0, h1, h2, h3, h4, h5, go_sem]
/-- the fields that a kind uses -/
def usesA (k : Nat) : Array Value := #[.bool (decide (0 ∈ fldK k)), .bool (decide (1 ∈ fldK k)), .bool (decide (2 ∈ fldK k)), .bool (decide (3 ∈ fldK k)), .bool (decide (4 ∈ fldK k)), .bool (decide (5 ∈ fldK k))]
set_option maxRecDepth 100000 in
set_option maxHeartbeats 4000000 in
theorem uses_1 (w : World) : Calls Tryd.prog 57 #[.int .u8 1] w fun e w' => e = .returned (.agg (usesA 1)) ∧ Below w.heap.size w w' := by
  rw [show usesA 1 = #[.bool false, .bool true, .bool false, .bool false, .bool false, .bool true] by rfl]
  go_enter Tryd.func57, Tryd.ntmps57
  go_wp2_with fail
  exact bodyPost_ret (res6 Tryd.results57 (Tryd.isAgg104 _) (Tryd.sizeOf104 _) rfl (block_new w (.cells #[.bool false, .bool true, .bool false, .bool false, .bool false, .bool true] 104))) rfl ⟨rfl, by go_grown⟩
set_option maxRecDepth 100000 in
set_option maxHeartbeats 4000000 in
theorem uses_2 (w : World) : Calls Tryd.prog 57 #[.int .u8 2] w fun e w' => e = .returned (.agg (usesA 2)) ∧ Below w.heap.size w w' := by
  rw [show usesA 2 = #[.bool false, .bool true, .bool true, .bool false, .bool false, .bool false] by rfl]
  go_enter Tryd.func57, Tryd.ntmps57
  go_wp2_with fail
  exact bodyPost_ret (res6 Tryd.results57 (Tryd.isAgg104 _) (Tryd.sizeOf104 _) rfl (block_new w (.cells #[.bool false, .bool true, .bool true, .bool false, .bool false, .bool false] 104))) rfl ⟨rfl, by go_grown⟩
set_option maxRecDepth 100000 in
set_option maxHeartbeats 4000000 in
theorem uses_3 (w : World) : Calls Tryd.prog 57 #[.int .u8 3] w fun e w' => e = .returned (.agg (usesA 3)) ∧ Below w.heap.size w w' := by
  rw [show usesA 3 = #[.bool false, .bool true, .bool false, .bool true, .bool true, .bool false] by rfl]
  go_enter Tryd.func57, Tryd.ntmps57
  go_wp2_with fail
  exact bodyPost_ret (res6 Tryd.results57 (Tryd.isAgg104 _) (Tryd.sizeOf104 _) rfl (block_new w (.cells #[.bool false, .bool true, .bool false, .bool true, .bool true, .bool false] 104))) rfl ⟨rfl, by go_grown⟩
set_option maxRecDepth 100000 in
set_option maxHeartbeats 4000000 in
theorem uses_4 (w : World) : Calls Tryd.prog 57 #[.int .u8 4] w fun e w' => e = .returned (.agg (usesA 4)) ∧ Below w.heap.size w w' := by
  rw [show usesA 4 = #[.bool false, .bool false, .bool false, .bool true, .bool false, .bool false] by rfl]
  go_enter Tryd.func57, Tryd.ntmps57
  go_wp2_with fail
  exact bodyPost_ret (res6 Tryd.results57 (Tryd.isAgg104 _) (Tryd.sizeOf104 _) rfl (block_new w (.cells #[.bool false, .bool false, .bool false, .bool true, .bool false, .bool false] 104))) rfl ⟨rfl, by go_grown⟩
set_option maxRecDepth 100000 in
set_option maxHeartbeats 4000000 in
theorem uses_5 (w : World) : Calls Tryd.prog 57 #[.int .u8 5] w fun e w' => e = .returned (.agg (usesA 5)) ∧ Below w.heap.size w w' := by
  rw [show usesA 5 = #[.bool false, .bool false, .bool false, .bool false, .bool false, .bool false] by rfl]
  go_enter Tryd.func57, Tryd.ntmps57
  go_wp2_with fail
  exact bodyPost_ret (res6 Tryd.results57 (Tryd.isAgg104 _) (Tryd.sizeOf104 _) rfl (block_new w (.cells #[.bool false, .bool false, .bool false, .bool false, .bool false, .bool false] 104))) rfl ⟨rfl, by go_grown⟩
set_option maxRecDepth 100000 in
set_option maxHeartbeats 4000000 in
theorem uses_6 (w : World) : Calls Tryd.prog 57 #[.int .u8 6] w fun e w' => e = .returned (.agg (usesA 6)) ∧ Below w.heap.size w w' := by
  rw [show usesA 6 = #[.bool true, .bool false, .bool false, .bool false, .bool false, .bool false] by rfl]
  go_enter Tryd.func57, Tryd.ntmps57
  go_wp2_with fail
  exact bodyPost_ret (res6 Tryd.results57 (Tryd.isAgg104 _) (Tryd.sizeOf104 _) rfl (block_new w (.cells #[.bool true, .bool false, .bool false, .bool false, .bool false, .bool false] 104))) rfl ⟨rfl, by go_grown⟩
set_option maxRecDepth 100000 in
set_option maxHeartbeats 4000000 in
theorem uses_7 (w : World) : Calls Tryd.prog 57 #[.int .u8 7] w fun e w' => e = .returned (.agg (usesA 7)) ∧ Below w.heap.size w w' := by
  rw [show usesA 7 = #[.bool true, .bool true, .bool true, .bool false, .bool false, .bool false] by rfl]
  go_enter Tryd.func57, Tryd.ntmps57
  go_wp2_with fail
  exact bodyPost_ret (res6 Tryd.results57 (Tryd.isAgg104 _) (Tryd.sizeOf104 _) rfl (block_new w (.cells #[.bool true, .bool true, .bool true, .bool false, .bool false, .bool false] 104))) rfl ⟨rfl, by go_grown⟩
set_option maxRecDepth 100000 in
set_option maxHeartbeats 4000000 in
theorem uses_8 (w : World) : Calls Tryd.prog 57 #[.int .u8 8] w fun e w' => e = .returned (.agg (usesA 8)) ∧ Below w.heap.size w w' := by
  rw [show usesA 8 = #[.bool true, .bool false, .bool true, .bool false, .bool false, .bool false] by rfl]
  go_enter Tryd.func57, Tryd.ntmps57
  go_wp2_with fail
  exact bodyPost_ret (res6 Tryd.results57 (Tryd.isAgg104 _) (Tryd.sizeOf104 _) rfl (block_new w (.cells #[.bool true, .bool false, .bool true, .bool false, .bool false, .bool false] 104))) rfl ⟨rfl, by go_grown⟩
set_option maxRecDepth 100000 in
set_option maxHeartbeats 4000000 in
theorem uses_9 (w : World) : Calls Tryd.prog 57 #[.int .u8 9] w fun e w' => e = .returned (.agg (usesA 9)) ∧ Below w.heap.size w w' := by
  rw [show usesA 9 = #[.bool true, .bool false, .bool true, .bool false, .bool false, .bool false] by rfl]
  go_enter Tryd.func57, Tryd.ntmps57
  go_wp2_with fail
  exact bodyPost_ret (res6 Tryd.results57 (Tryd.isAgg104 _) (Tryd.sizeOf104 _) rfl (block_new w (.cells #[.bool true, .bool false, .bool true, .bool false, .bool false, .bool false] 104))) rfl ⟨rfl, by go_grown⟩
set_option maxRecDepth 100000 in
set_option maxHeartbeats 4000000 in
theorem uses_10 (w : World) : Calls Tryd.prog 57 #[.int .u8 10] w fun e w' => e = .returned (.agg (usesA 10)) ∧ Below w.heap.size w w' := by
  rw [show usesA 10 = #[.bool true, .bool false, .bool false, .bool true, .bool false, .bool false] by rfl]
  go_enter Tryd.func57, Tryd.ntmps57
  go_wp2_with fail
  exact bodyPost_ret (res6 Tryd.results57 (Tryd.isAgg104 _) (Tryd.sizeOf104 _) rfl (block_new w (.cells #[.bool true, .bool false, .bool false, .bool true, .bool false, .bool false] 104))) rfl ⟨rfl, by go_grown⟩
set_option maxRecDepth 100000 in
set_option maxHeartbeats 4000000 in
theorem uses_11 (w : World) : Calls Tryd.prog 57 #[.int .u8 11] w fun e w' => e = .returned (.agg (usesA 11)) ∧ Below w.heap.size w w' := by
  rw [show usesA 11 = #[.bool true, .bool true, .bool false, .bool false, .bool false, .bool false] by rfl]
  go_enter Tryd.func57, Tryd.ntmps57
  go_wp2_with fail
  exact bodyPost_ret (res6 Tryd.results57 (Tryd.isAgg104 _) (Tryd.sizeOf104 _) rfl (block_new w (.cells #[.bool true, .bool true, .bool false, .bool false, .bool false, .bool false] 104))) rfl ⟨rfl, by go_grown⟩
set_option maxRecDepth 100000 in
set_option maxHeartbeats 4000000 in
theorem uses_12 (w : World) : Calls Tryd.prog 57 #[.int .u8 12] w fun e w' => e = .returned (.agg (usesA 12)) ∧ Below w.heap.size w w' := by
  rw [show usesA 12 = #[.bool true, .bool false, .bool true, .bool false, .bool false, .bool false] by rfl]
  go_enter Tryd.func57, Tryd.ntmps57
  go_wp2_with fail
  exact bodyPost_ret (res6 Tryd.results57 (Tryd.isAgg104 _) (Tryd.sizeOf104 _) rfl (block_new w (.cells #[.bool true, .bool false, .bool true, .bool false, .bool false, .bool false] 104))) rfl ⟨rfl, by go_grown⟩
set_option maxRecDepth 100000 in
set_option maxHeartbeats 4000000 in
theorem uses_13 (w : World) : Calls Tryd.prog 57 #[.int .u8 13] w fun e w' => e = .returned (.agg (usesA 13)) ∧ Below w.heap.size w w' := by
  rw [show usesA 13 = #[.bool true, .bool false, .bool false, .bool false, .bool false, .bool false] by rfl]
  go_enter Tryd.func57, Tryd.ntmps57
  go_wp2_with fail
  exact bodyPost_ret (res6 Tryd.results57 (Tryd.isAgg104 _) (Tryd.sizeOf104 _) rfl (block_new w (.cells #[.bool true, .bool false, .bool false, .bool false, .bool false, .bool false] 104))) rfl ⟨rfl, by go_grown⟩
set_option maxRecDepth 100000 in
set_option maxHeartbeats 4000000 in
theorem uses_14 (w : World) : Calls Tryd.prog 57 #[.int .u8 14] w fun e w' => e = .returned (.agg (usesA 14)) ∧ Below w.heap.size w w' := by
  rw [show usesA 14 = #[.bool false, .bool false, .bool false, .bool false, .bool false, .bool false] by rfl]
  go_enter Tryd.func57, Tryd.ntmps57
  go_wp2_with fail
  exact bodyPost_ret (res6 Tryd.results57 (Tryd.isAgg104 _) (Tryd.sizeOf104 _) rfl (block_new w (.cells #[.bool false, .bool false, .bool false, .bool false, .bool false, .bool false] 104))) rfl ⟨rfl, by go_grown⟩
set_option maxRecDepth 100000 in
set_option maxHeartbeats 4000000 in
theorem uses_15 (w : World) : Calls Tryd.prog 57 #[.int .u8 15] w fun e w' => e = .returned (.agg (usesA 15)) ∧ Below w.heap.size w w' := by
  rw [show usesA 15 = #[.bool false, .bool false, .bool false, .bool false, .bool false, .bool false] by rfl]
  go_enter Tryd.func57, Tryd.ntmps57
  go_wp2_with fail
  exact bodyPost_ret (res6 Tryd.results57 (Tryd.isAgg104 _) (Tryd.sizeOf104 _) rfl (block_new w (.cells #[.bool false, .bool false, .bool false, .bool false, .bool false, .bool false] 104))) rfl ⟨rfl, by go_grown⟩
set_option maxRecDepth 100000 in
set_option maxHeartbeats 4000000 in
theorem uses_16 (w : World) : Calls Tryd.prog 57 #[.int .u8 16] w fun e w' => e = .returned (.agg (usesA 16)) ∧ Below w.heap.size w w' := by
  rw [show usesA 16 = #[.bool false, .bool false, .bool false, .bool false, .bool false, .bool false] by rfl]
  go_enter Tryd.func57, Tryd.ntmps57
  go_wp2_with fail
  exact bodyPost_ret (res6 Tryd.results57 (Tryd.isAgg104 _) (Tryd.sizeOf104 _) rfl (block_new w (.cells #[.bool false, .bool false, .bool false, .bool false, .bool false, .bool false] 104))) rfl ⟨rfl, by go_grown⟩
theorem uses_any (k : Nat) (h1 : 1 ≤ k) (h2 : k ≤ 16) (w : World) : Calls Tryd.prog 57 #[.int .u8 k] w fun e w' => e = .returned (.agg (usesA k)) ∧ Below w.heap.size w w' := by
  rcases kind_cases h1 h2 with rfl | rfl | rfl | rfl | rfl | rfl | rfl | rfl | rfl | rfl | rfl | rfl | rfl | rfl | rfl | rfl
  · exact uses_1 w
  · exact uses_2 w
  · exact uses_3 w
  · exact uses_4 w
  · exact uses_5 w
  · exact uses_6 w
  · exact uses_7 w
  · exact uses_8 w
  · exact uses_9 w
  · exact uses_10 w
  · exact uses_11 w
  · exact uses_12 w
  · exact uses_13 w
  · exact uses_14 w
  · exact uses_15 w
  · exact uses_16 w
def wordA : Array Value := #[.string ⟨#[]⟩, .string ⟨#[105, 110, 115, 101, 114, 116]⟩, .string ⟨#[100, 101, 108, 101, 116, 101]⟩, .string ⟨#[115, 101, 116]⟩, .string ⟨#[100, 114, 111, 112]⟩, .string ⟨#[97, 99, 113, 117, 105, 114, 101]⟩, .string ⟨#[108, 101, 110]⟩, .string ⟨#[114, 101, 97, 100]⟩, .string ⟨#[114, 117, 110, 101]⟩, .string ⟨#[108, 105, 110, 101]⟩, .string ⟨#[109, 97, 114, 107]⟩, .string ⟨#[115, 101, 101, 107]⟩, .string ⟨#[110, 101, 120, 116]⟩, .string ⟨#[114, 101, 108, 101, 97, 115, 101]⟩, .string ⟨#[115, 117, 98, 115, 99, 114, 105, 98, 101]⟩, .string ⟨#[114, 101, 99, 101, 105, 118, 101]⟩, .string ⟨#[99, 108, 111, 115, 101]⟩]
set_option maxRecDepth 100000 in
set_option maxHeartbeats 16000000 in
theorem word_any (k : Nat) (h1 : 1 ≤ k) (h2 : k ≤ 16) (w : World) : Calls Tryd.prog 56 #[.int .u8 k] w fun e w' => e = .returned (.string ⟨(nameL k).toArray⟩) ∧ Below w.heap.size w w' := by
  go_enter Tryd.func56, Tryd.ntmps56
  go_upto_region 2 with (fail)
  generalize hW : World.alloc _ _ = W
  have hB : Below w.heap.size w W := by
    rw [← hW]
    exact (Below.refl _ _).alloc (Nat.le_refl _) _
  have eA : W.heap[w.heap.size]? = some (.cells wordA 133 (0, 0)) := by
    rw [← hW]
    exact block_new _ _
  clear hW
  have HB := Lib.hid hB
  clear hB
  generalize Value.agg #[_, _, _, _, _, _, _, _, _, _, _, _, _, _, _, _, _] = va
  rcases kind_cases h1 h2 with rfl | rfl | rfl | rfl | rfl | rfl | rfl | rfl | rfl | rfl | rfl | rfl | rfl | rfl | rfl | rfl
  · have q := block_cell eA 1
    rw [show wordA[1]? = some (.string ⟨#[105, 110, 115, 101, 114, 116]⟩) from rfl] at q
    clear eA
    go_wp2_with fail
    go_ret
    exact ⟨by rw [show (nameL 1).toArray = (ByteArray.mk #[105, 110, 115, 101, 114, 116]).data by decide +kernel] <;> rfl, HB.out⟩
  · have q := block_cell eA 2
    rw [show wordA[2]? = some (.string ⟨#[100, 101, 108, 101, 116, 101]⟩) from rfl] at q
    clear eA
    go_wp2_with fail
    go_ret
    exact ⟨by rw [show (nameL 2).toArray = (ByteArray.mk #[100, 101, 108, 101, 116, 101]).data by decide +kernel] <;> rfl, HB.out⟩
  · have q := block_cell eA 3
    rw [show wordA[3]? = some (.string ⟨#[115, 101, 116]⟩) from rfl] at q
    clear eA
    go_wp2_with fail
    go_ret
    exact ⟨by rw [show (nameL 3).toArray = (ByteArray.mk #[115, 101, 116]).data by decide +kernel] <;> rfl, HB.out⟩
  · have q := block_cell eA 4
    rw [show wordA[4]? = some (.string ⟨#[100, 114, 111, 112]⟩) from rfl] at q
    clear eA
    go_wp2_with fail
    go_ret
    exact ⟨by rw [show (nameL 4).toArray = (ByteArray.mk #[100, 114, 111, 112]).data by decide +kernel] <;> rfl, HB.out⟩
  · have q := block_cell eA 5
    rw [show wordA[5]? = some (.string ⟨#[97, 99, 113, 117, 105, 114, 101]⟩) from rfl] at q
    clear eA
    go_wp2_with fail
    go_ret
    exact ⟨by rw [show (nameL 5).toArray = (ByteArray.mk #[97, 99, 113, 117, 105, 114, 101]).data by decide +kernel] <;> rfl, HB.out⟩
  · have q := block_cell eA 6
    rw [show wordA[6]? = some (.string ⟨#[108, 101, 110]⟩) from rfl] at q
    clear eA
    go_wp2_with fail
    go_ret
    exact ⟨by rw [show (nameL 6).toArray = (ByteArray.mk #[108, 101, 110]).data by decide +kernel] <;> rfl, HB.out⟩
  · have q := block_cell eA 7
    rw [show wordA[7]? = some (.string ⟨#[114, 101, 97, 100]⟩) from rfl] at q
    clear eA
    go_wp2_with fail
    go_ret
    exact ⟨by rw [show (nameL 7).toArray = (ByteArray.mk #[114, 101, 97, 100]).data by decide +kernel] <;> rfl, HB.out⟩
  · have q := block_cell eA 8
    rw [show wordA[8]? = some (.string ⟨#[114, 117, 110, 101]⟩) from rfl] at q
    clear eA
    go_wp2_with fail
    go_ret
    exact ⟨by rw [show (nameL 8).toArray = (ByteArray.mk #[114, 117, 110, 101]).data by decide +kernel] <;> rfl, HB.out⟩
  · have q := block_cell eA 9
    rw [show wordA[9]? = some (.string ⟨#[108, 105, 110, 101]⟩) from rfl] at q
    clear eA
    go_wp2_with fail
    go_ret
    exact ⟨by rw [show (nameL 9).toArray = (ByteArray.mk #[108, 105, 110, 101]).data by decide +kernel] <;> rfl, HB.out⟩
  · have q := block_cell eA 10
    rw [show wordA[10]? = some (.string ⟨#[109, 97, 114, 107]⟩) from rfl] at q
    clear eA
    go_wp2_with fail
    go_ret
    exact ⟨by rw [show (nameL 10).toArray = (ByteArray.mk #[109, 97, 114, 107]).data by decide +kernel] <;> rfl, HB.out⟩
  · have q := block_cell eA 11
    rw [show wordA[11]? = some (.string ⟨#[115, 101, 101, 107]⟩) from rfl] at q
    clear eA
    go_wp2_with fail
    go_ret
    exact ⟨by rw [show (nameL 11).toArray = (ByteArray.mk #[115, 101, 101, 107]).data by decide +kernel] <;> rfl, HB.out⟩
  · have q := block_cell eA 12
    rw [show wordA[12]? = some (.string ⟨#[110, 101, 120, 116]⟩) from rfl] at q
    clear eA
    go_wp2_with fail
    go_ret
    exact ⟨by rw [show (nameL 12).toArray = (ByteArray.mk #[110, 101, 120, 116]).data by decide +kernel] <;> rfl, HB.out⟩
  · have q := block_cell eA 13
    rw [show wordA[13]? = some (.string ⟨#[114, 101, 108, 101, 97, 115, 101]⟩) from rfl] at q
    clear eA
    go_wp2_with fail
    go_ret
    exact ⟨by rw [show (nameL 13).toArray = (ByteArray.mk #[114, 101, 108, 101, 97, 115, 101]).data by decide +kernel] <;> rfl, HB.out⟩
  · have q := block_cell eA 14
    rw [show wordA[14]? = some (.string ⟨#[115, 117, 98, 115, 99, 114, 105, 98, 101]⟩) from rfl] at q
    clear eA
    go_wp2_with fail
    go_ret
    exact ⟨by rw [show (nameL 14).toArray = (ByteArray.mk #[115, 117, 98, 115, 99, 114, 105, 98, 101]).data by decide +kernel] <;> rfl, HB.out⟩
  · have q := block_cell eA 15
    rw [show wordA[15]? = some (.string ⟨#[114, 101, 99, 101, 105, 118, 101]⟩) from rfl] at q
    clear eA
    go_wp2_with fail
    go_ret
    exact ⟨by rw [show (nameL 15).toArray = (ByteArray.mk #[114, 101, 99, 101, 105, 118, 101]).data by decide +kernel] <;> rfl, HB.out⟩
  · have q := block_cell eA 16
    rw [show wordA[16]? = some (.string ⟨#[99, 108, 111, 115, 101]⟩) from rfl] at q
    clear eA
    go_wp2_with fail
    go_ret
    exact ⟨by rw [show (nameL 16).toArray = (ByteArray.mk #[99, 108, 111, 115, 101]).data by decide +kernel] <;> rfl, HB.out⟩
end Go.Proofs.YtdfkbahlngijcaaDoor

namespace Go.Proofs.YtdfkbahlngijcaaDoor
open Go.RowKit
set_option linter.unusedVariables false

theorem hasB_rng (l : List Nat) (f : Nat) (v hi : Int) (h : 0 ≤ hi) : hasB l f (v == 0) (decide (0 ≤ v) && decide (v ≤ hi)) = (!((!decide (f ∈ l)) && (v != 0)) && (decide (0 ≤ v) && decide (v ≤ hi))) := by
  unfold hasB
  by_cases hm : f ∈ l
  · simp [hm]
  · by_cases hv : v = 0
    · subst hv; simp [hm, h]
    · have e1 : (v == 0) = false := by simpa using hv
      have e2 : (v != 0) = true := by simpa using hv
      simp [hm, e1, e2]
theorem hasB_one (l : List Nat) (f : Nat) (v : Int) : hasB l f (v == 0) true = !((!decide (f ∈ l)) && (v != 0)) := by
  unfold hasB
  by_cases hm : f ∈ l
  · simp [hm]
  · by_cases hv : v = 0
    · subst hv; simp [hm]
    · have e1 : (v == 0) = false := by simpa using hv
      have e2 : (v != 0) = true := by simpa using hv
      simp [hm, e1, e2]
theorem hasB_str (l : List Nat) (f n : Nat) : hasB l f (decide (n = 0)) (decide (n ≤ 256)) = (!((!decide (f ∈ l)) && !(decide (n = 0))) && decide ((n : Int) ≤ 256)) := by
  unfold hasB
  have e : decide ((n : Int) ≤ 256) = decide (n ≤ 256) := by
    by_cases h : n ≤ 256
    · rw [decide_eq_true h, decide_eq_true (by omega)]
    · rw [decide_eq_false h, decide_eq_false (by omega)]
  rw [e]
  by_cases hm : f ∈ l
  · simp [hm]
  · by_cases hn : n = 0
    · subst hn; simp [hm]
    · simp [hm, hn]
set_option maxRecDepth 100000 in
set_option maxHeartbeats 16000000 in
theorem refPlain_in (x : Ov) (kn : Nat) (hk : x.k = kn) (hk1 : 1 ≤ kn) (hk2 : kn ≤ 16) (w : World) (ht : x.t.size ≤ 140737488355328) :
    Calls Tryd.prog 55 #[.agg #[.int .u8 x.k, .int .i64 x.slot, .int .i64 x.at_, .int .i64 x.n, .int .u32 x.id, .int .u8 x.g, .string x.t]] w fun e w' => e = .returned (.bool (plainO x)) ∧ Below w.heap.size w w' := by
  have HU := Lib.hid (fun u => uses_any kn hk1 hk2 u)
  have HPO : plainO x = (hasB (fldK kn) 0 (x.slot == 0) (decide (0 ≤ x.slot) && decide (x.slot ≤ 255)) && (hasB (fldK kn) 1 (x.at_ == 0) (decide (0 ≤ x.at_) && decide (x.at_ ≤ 65535)) && (hasB (fldK kn) 2 (x.n == 0) (decide (0 ≤ x.n) && decide (x.n ≤ 65535)) && (hasB (fldK kn) 3 (x.id == 0) true && (hasB (fldK kn) 4 (x.g == 0) true && hasB (fldK kn) 5 (decide (x.t.size = 0)) (decide (x.t.size ≤ 256))))))) := by
    have e : lsO x = fldK kn := by unfold lsO; rw [hk, Int.toNat_natCast]
    unfold plainO p0 p1 p2 p3 p4 p5
    rw [if_neg (by omega), e]
  obtain ⟨k, s, a, m, id, g, t⟩ := x
  replace hk : k = kn := hk
  subst hk
  simp only at HPO ht ⊢
  rw [hasB_rng _ _ _ _ (by decide), hasB_rng _ _ _ _ (by decide), hasB_rng _ _ _ _ (by decide), hasB_one, hasB_one, hasB_str] at HPO
  unfold usesA at HU
  obtain ⟨n0, hn0⟩ : ∃ b : Bool, b = !decide (0 ∈ fldK kn) := ⟨_, rfl⟩
  obtain ⟨n1, hn1⟩ : ∃ b : Bool, b = !decide (1 ∈ fldK kn) := ⟨_, rfl⟩
  obtain ⟨n2, hn2⟩ : ∃ b : Bool, b = !decide (2 ∈ fldK kn) := ⟨_, rfl⟩
  obtain ⟨n3, hn3⟩ : ∃ b : Bool, b = !decide (3 ∈ fldK kn) := ⟨_, rfl⟩
  obtain ⟨n4, hn4⟩ : ∃ b : Bool, b = !decide (4 ∈ fldK kn) := ⟨_, rfl⟩
  obtain ⟨n5, hn5⟩ : ∃ b : Bool, b = !decide (5 ∈ fldK kn) := ⟨_, rfl⟩
  rw [← hn0, ← hn1, ← hn2, ← hn3, ← hn4, ← hn5] at HPO
  have hm0 : decide (0 ∈ fldK kn) = !n0 := by rw [hn0, Bool.not_not]
  have hm1 : decide (1 ∈ fldK kn) = !n1 := by rw [hn1, Bool.not_not]
  have hm2 : decide (2 ∈ fldK kn) = !n2 := by rw [hn2, Bool.not_not]
  have hm3 : decide (3 ∈ fldK kn) = !n3 := by rw [hn3, Bool.not_not]
  have hm4 : decide (4 ∈ fldK kn) = !n4 := by rw [hn4, Bool.not_not]
  have hm5 : decide (5 ∈ fldK kn) = !n5 := by rw [hn5, Bool.not_not]
  rw [hm0, hm1, hm2, hm3, hm4, hm5] at HU
  clear hn0 hn1 hn2 hn3 hn4 hn5 hm0 hm1 hm2 hm3 hm4 hm5
  have hz : decide (t.size = 0) = t.toList.isEmpty := by
    by_cases h : t.size = 0
    · rw [decide_eq_true h, str_empty h, show (⟨#[]⟩ : ByteArray).toList = [] by simp [ByteArray.toList, ByteArray.toList.loop, ByteArray.size]]; rfl
    · rw [decide_eq_false h, str_some h]
  rw [hz] at HPO
  clear hz
  obtain ⟨c0, hc0⟩ : ∃ b : Bool, b = (n0 && (s != 0)) := ⟨_, rfl⟩
  obtain ⟨c1, hc1⟩ : ∃ b : Bool, b = (c0 || (n1 && (a != 0))) := ⟨_, rfl⟩
  obtain ⟨c2, hc2⟩ : ∃ b : Bool, b = (c1 || (n2 && (m != 0))) := ⟨_, rfl⟩
  obtain ⟨c3, hc3⟩ : ∃ b : Bool, b = (c2 || (n3 && (id != 0))) := ⟨_, rfl⟩
  obtain ⟨c4, hc4⟩ : ∃ b : Bool, b = (c3 || (n4 && (g != 0))) := ⟨_, rfl⟩
  obtain ⟨c5, hc5⟩ : ∃ b : Bool, b = (c4 || (n5 && !t.toList.isEmpty)) := ⟨_, rfl⟩
  obtain ⟨d0, hd0⟩ : ∃ b : Bool, b = decide (0 ≤ s) := ⟨_, rfl⟩
  obtain ⟨d1, hd1⟩ : ∃ b : Bool, b = (d0 && decide (s ≤ 255)) := ⟨_, rfl⟩
  obtain ⟨d2, hd2⟩ : ∃ b : Bool, b = (d1 && decide (0 ≤ a)) := ⟨_, rfl⟩
  obtain ⟨d3, hd3⟩ : ∃ b : Bool, b = (d2 && decide (a ≤ 65535)) := ⟨_, rfl⟩
  obtain ⟨d4, hd4⟩ : ∃ b : Bool, b = (d3 && decide (0 ≤ m)) := ⟨_, rfl⟩
  obtain ⟨d5, hd5⟩ : ∃ b : Bool, b = (d4 && decide (m ≤ 65535)) := ⟨_, rfl⟩
  obtain ⟨d6, hd6⟩ : ∃ b : Bool, b = (d5 && decide ((t.size : Int) ≤ 256)) := ⟨_, rfl⟩
  have HE := Lib.hid (show plainO ⟨(kn : Int), s, a, m, id, g, t⟩ = (!c5 && d6) by
    rw [HPO, hd6, hd5, hd4, hd3, hd2, hd1, hd0, hc5, hc4, hc3, hc2, hc1, hc0]
    simp only [Bool.not_or, Bool.and_assoc, Bool.and_comm, Bool.and_left_comm])
  clear HPO
  have HC0 := Lib.hid hc0
  have HC1 := Lib.hid hc1
  have HC2 := Lib.hid hc2
  have HC3 := Lib.hid hc3
  have HC4 := Lib.hid hc4
  have HC5 := Lib.hid hc5
  have HD0 := Lib.hid hd0
  have HD1 := Lib.hid hd1
  have HD2 := Lib.hid hd2
  have HD3 := Lib.hid hd3
  have HD4 := Lib.hid hd4
  have HD5 := Lib.hid hd5
  have HD6 := Lib.hid hd6
  clear hc0 hc1 hc2 hc3 hc4 hc5 hd0 hd1 hd2 hd3 hd4 hd5 hd6
  have hkl : ¬ ((kn : Int) < 1) := by omega
  have hkg : ¬ (16 < (kn : Int)) := by omega
  have hkld := decide_eq_false hkl
  have hkgd := decide_eq_false hkg
  have HB0 := Lib.hid ((Below.refl w.heap.size w).alloc (Nat.le_refl _) (.cells #[.int .u8 kn, .int .i64 s, .int .i64 a, .int .i64 m, .int .u32 id, .int .u8 g, .string t] 51))
  have HBX := Lib.hid (block_new w (.cells #[.int .u8 kn, .int .i64 s, .int .i64 a, .int .i64 m, .int .u32 id, .int .u8 g, .string t] 51))
  go_enter Tryd.func55, Tryd.ntmps55
  go_wp2_with fail
  refine (HU.out _).mono ?_; rintro e w2 ⟨rfl, hb2⟩
  have HBY := Lib.hid (block_below hb2 HBX.out (by simp))
  have HB2 := Lib.hid (HB0.out.trans (hb2.mono HB0.out.size))
  have hsz2 := hb2.size
  simp at hsz2
  clear hb2
  go_upto_region 4 with (fail)
  have HB3 := Lib.hid (HB2.out.alloc (by omega) (.cells #[.bool (!n0), .bool (!n1), .bool (!n2), .bool (!n3), .bool (!n4), .bool (!n5)] 104))
  have HBY3 := Lib.hid (block_alloc HBY.out (.cells #[.bool (!n0), .bool (!n1), .bool (!n2), .bool (!n3), .bool (!n4), .bool (!n5)] 104))
  have HBU := Lib.hid (block_new w2 (.cells #[.bool (!n0), .bool (!n1), .bool (!n2), .bool (!n3), .bool (!n4), .bool (!n5)] 104))
  (try simp only [List.append_eq, List.cons_append, List.nil_append])
  generalize hw3 : World.alloc w2 _ = w3 at *
  clear hw3
  have hlt3 := block_lt HBY3.out
  have hlu3 := block_lt HBU.out
  refine wp_region_seq (by decide) (by kernel_rfl) ?_
  simp only [fill, Act.put, List.setIfInBounds_toArray, List.set_cons_zero, List.set_cons_succ, Nat.zero_add, Nat.reduceAdd]
  apply OpsOK.eq
  · intro vs u hb hd
    clear hd
    go_wp2_with fail
    exact ⟨rfl, _, rfl, Below.refl _ _, rfl⟩
  apply OpsOK.eq
  · intro vs u hb hd
    have qc := block_cell (block_below hb HBU.out hlu3) 0
    simp at qc
    have e0 := hd ⟨0, .data⟩ (by simp) (by decide)
    clear hd
    (try simp at e0)
    (try simp only [e0])
    go_wp2_with fail
    exact ⟨rfl, _, rfl, Below.refl _ _, rfl⟩
  apply OpsOK.ceq (.bool n0)
  · intro vs u hb hd
    have e1 := hd ⟨1, .data⟩ (by simp) (by decide)
    clear hd
    rcases n0 with _ | _
    all_goals
      (try simp at e1)
      (try simp only [e1])
      go_wp2_with fail
      exact ⟨rfl, _, rfl, Below.refl _ _, rfl⟩
  apply OpsOK.eq
  · intro vs u hb hd
    have e2 := hd ⟨2, .data⟩ (by simp) (by decide)
    clear hd
    (try simp at e2)
    (try simp only [e2])
    go_wp2_with fail
    exact ⟨rfl, _, rfl, Below.refl _ _, rfl⟩
  apply OpsOK.geq (n0 = true)
  · intro vs u hb hd
    have e3 := hd ⟨3, .guard⟩ (by simp) (by decide)
    clear hd
    rcases n0 with _ | _
    all_goals
      (try simp at e3)
      (try simp only [e3])
      go_wp2_with fail
      first | exact ⟨rfl, undef, rfl, Below.refl _ _, fun h => (by simp at h)⟩ | exact ⟨rfl, _, rfl, Below.refl _ _, fun _ => rfl⟩
  apply OpsOK.geq (n0 = true)
  · intro vs u hb hd
    have qc := block_cell (block_below hb HBY3.out hlt3) 1
    simp at qc
    have e4 := hd ⟨4, .data⟩ (by simp) (by decide)
    have e3 := hd ⟨3, .guard⟩ (by simp) (by decide)
    clear hd
    rcases n0 with _ | _
    all_goals
      (try simp at e4)
      (try simp only [e4])
      (try simp at e3)
      (try simp only [e3])
      go_wp2_with fail
      first | exact ⟨rfl, undef, rfl, Below.refl _ _, fun h => (by simp at h)⟩ | exact ⟨rfl, _, rfl, Below.refl _ _, fun _ => rfl⟩
  apply OpsOK.geq (n0 = true)
  · intro vs u hb hd
    have e5 := hd ⟨5, .data⟩ (by simp) (by decide)
    have e3 := hd ⟨3, .guard⟩ (by simp) (by decide)
    clear hd
    rcases n0 with _ | _
    all_goals
      (try simp at e5)
      (try simp only [e5])
      (try simp at e3)
      (try simp only [e3])
      go_wp2_with fail
      first | exact ⟨rfl, undef, rfl, Below.refl _ _, fun h => (by simp at h)⟩ | exact ⟨rfl, _, rfl, Below.refl _ _, fun _ => rfl⟩
  apply OpsOK.ceq (.bool c0)
  · intro vs u hb hd
    have e3 := hd ⟨3, .data⟩ (by simp) (by decide)
    have e6 := hd ⟨6, .data⟩ (by simp) (by decide)
    clear hd
    rcases n0 with _ | _
    all_goals
      (try simp at e3)
      (try simp only [e3])
      (try simp at e6)
      (try simp only [e6])
      go_wp2_with fail
      exact ⟨rfl, _, rfl, Below.refl _ _, by rw [HC0.out] <;> first | rfl | simp⟩
  apply OpsOK.eq
  · intro vs u hb hd
    have e7 := hd ⟨7, .data⟩ (by simp) (by decide)
    have e3 := hd ⟨3, .chain⟩ (by simp) (by decide)
    clear hd
    (try simp at e7)
    (try simp only [e7])
    (try simp at e3)
    (try simp only [e3])
    go_wp2_with fail
    exact ⟨rfl, _, rfl, Below.refl _ _, rfl⟩
  apply OpsOK.geq (c0 = false)
  · intro vs u hb hd
    have e8 := hd ⟨8, .guard⟩ (by simp) (by decide)
    clear hd
    rcases c0 with _ | _
    all_goals
      (try simp at e8)
      (try simp only [e8])
      go_wp2_with fail
      first | exact ⟨rfl, undef, rfl, Below.refl _ _, fun h => (by simp at h)⟩ | exact ⟨rfl, _, rfl, Below.refl _ _, fun _ => rfl⟩
  apply OpsOK.geq (c0 = false)
  · intro vs u hb hd
    have qc := block_cell (block_below hb HBU.out hlu3) 1
    simp at qc
    have e9 := hd ⟨9, .data⟩ (by simp) (by decide)
    have e8 := hd ⟨8, .guard⟩ (by simp) (by decide)
    clear hd
    rcases c0 with _ | _
    all_goals
      (try simp at e9)
      (try simp only [e9])
      (try simp at e8)
      (try simp only [e8])
      go_wp2_with fail
      first | exact ⟨rfl, undef, rfl, Below.refl _ _, fun h => (by simp at h)⟩ | exact ⟨rfl, _, rfl, Below.refl _ _, fun _ => rfl⟩
  refine OpsOK.step (fun v _ => c0 = false → v = .bool n1) (fun _ _ _ h _ => h) ?_ ?_
  · intro vs u hb hd
    have e10 := hd ⟨10, .data⟩ (by simp) (by decide)
    have e8 := hd ⟨8, .guard⟩ (by simp) (by decide)
    clear hd
    rcases c0 with _ | _ <;> rcases n1 with _ | _
    all_goals
      (try simp at e10)
      (try simp only [e10])
      (try simp at e8)
      (try simp only [e8])
      go_wp2_with fail
      first | exact ⟨rfl, undef, rfl, Below.refl _ _, by simp⟩ | exact ⟨rfl, _, rfl, Below.refl _ _, by simp⟩
  refine OpsOK.step (fun v _ => (c0 = false → v = .bool n1) ∧ (c0 = true → v = undef)) (fun _ _ _ h _ => h) ?_ ?_
  · intro vs u hb hd
    have e11 := hd ⟨11, .data⟩ (by simp) (by decide)
    have e8 := hd ⟨8, .chain⟩ (by simp) (by decide)
    clear hd
    rcases c0 with _ | _
    all_goals
      (try simp at e11)
      (try simp only [e11])
      (try simp at e8)
      (try simp only [e8])
      go_wp2_with fail
      first | exact ⟨rfl, undef, rfl, Below.refl _ _, by simp⟩ | exact ⟨rfl, _, rfl, Below.refl _ _, by simp⟩
  apply OpsOK.geq (c0 = false ∧ n1 = true)
  · intro vs u hb hd
    have e12 := hd ⟨12, .guard⟩ (by simp) (by decide)
    clear hd
    rcases c0 with _ | _ <;> rcases n1 with _ | _
    all_goals
      (try simp at e12)
      (try simp only [e12])
      go_wp2_with fail
      first | exact ⟨rfl, undef, rfl, Below.refl _ _, fun h => (by simp at h)⟩ | exact ⟨rfl, _, rfl, Below.refl _ _, fun _ => rfl⟩
  apply OpsOK.geq (c0 = false ∧ n1 = true)
  · intro vs u hb hd
    have qc := block_cell (block_below hb HBY3.out hlt3) 2
    simp at qc
    have e13 := hd ⟨13, .data⟩ (by simp) (by decide)
    have e12 := hd ⟨12, .guard⟩ (by simp) (by decide)
    clear hd
    rcases c0 with _ | _ <;> rcases n1 with _ | _
    all_goals
      (try simp at e13)
      (try simp only [e13])
      (try simp at e12)
      (try simp only [e12])
      go_wp2_with fail
      first | exact ⟨rfl, undef, rfl, Below.refl _ _, fun h => (by simp at h)⟩ | exact ⟨rfl, _, rfl, Below.refl _ _, fun _ => rfl⟩
  apply OpsOK.geq (c0 = false ∧ n1 = true)
  · intro vs u hb hd
    have e14 := hd ⟨14, .data⟩ (by simp) (by decide)
    have e12 := hd ⟨12, .guard⟩ (by simp) (by decide)
    clear hd
    rcases c0 with _ | _ <;> rcases n1 with _ | _
    all_goals
      (try simp at e14)
      (try simp only [e14])
      (try simp at e12)
      (try simp only [e12])
      go_wp2_with fail
      first | exact ⟨rfl, undef, rfl, Below.refl _ _, fun h => (by simp at h)⟩ | exact ⟨rfl, _, rfl, Below.refl _ _, fun _ => rfl⟩
  refine OpsOK.step (fun v _ => c0 = false → v = .bool (n1 && (a != 0))) (fun _ _ _ h _ => h) ?_ ?_
  · intro vs u hb hd
    have e12 := hd ⟨12, .data⟩ (by simp) (by decide)
    have e15 := hd ⟨15, .data⟩ (by simp) (by decide)
    have e8 := hd ⟨8, .guard⟩ (by simp) (by decide)
    clear hd
    rcases c0 with _ | _ <;> rcases n1 with _ | _
    all_goals
      (try simp at e12)
      (try simp only [e12])
      (try simp at e15)
      (try simp only [e15])
      (try simp at e8)
      (try simp only [e8])
      go_wp2_with fail
      first | exact ⟨rfl, undef, rfl, Below.refl _ _, by simp⟩ | exact ⟨rfl, _, rfl, Below.refl _ _, by simp⟩
  apply OpsOK.ceq (.bool c1)
  · intro vs u hb hd
    have e8 := hd ⟨8, .data⟩ (by simp) (by decide)
    have e16 := hd ⟨16, .data⟩ (by simp) (by decide)
    clear hd
    rcases c0 with _ | _
    all_goals
      (try simp at e8)
      (try simp only [e8])
      (try simp at e16)
      (try simp only [e16])
      go_wp2_with fail
      exact ⟨rfl, _, rfl, Below.refl _ _, by rw [HC1.out] <;> first | rfl | simp⟩
  apply OpsOK.eq
  · intro vs u hb hd
    have e17 := hd ⟨17, .data⟩ (by simp) (by decide)
    have e12 := hd ⟨12, .chain⟩ (by simp) (by decide)
    clear hd
    (try simp at e17)
    (try simp only [e17])
    (try simp at e12)
    (try simp only [e12])
    go_wp2_with fail
    exact ⟨rfl, _, rfl, Below.refl _ _, rfl⟩
  apply OpsOK.geq (c1 = false)
  · intro vs u hb hd
    have e18 := hd ⟨18, .guard⟩ (by simp) (by decide)
    clear hd
    rcases c1 with _ | _
    all_goals
      (try simp at e18)
      (try simp only [e18])
      go_wp2_with fail
      first | exact ⟨rfl, undef, rfl, Below.refl _ _, fun h => (by simp at h)⟩ | exact ⟨rfl, _, rfl, Below.refl _ _, fun _ => rfl⟩
  apply OpsOK.geq (c1 = false)
  · intro vs u hb hd
    have qc := block_cell (block_below hb HBU.out hlu3) 2
    simp at qc
    have e19 := hd ⟨19, .data⟩ (by simp) (by decide)
    have e18 := hd ⟨18, .guard⟩ (by simp) (by decide)
    clear hd
    rcases c1 with _ | _
    all_goals
      (try simp at e19)
      (try simp only [e19])
      (try simp at e18)
      (try simp only [e18])
      go_wp2_with fail
      first | exact ⟨rfl, undef, rfl, Below.refl _ _, fun h => (by simp at h)⟩ | exact ⟨rfl, _, rfl, Below.refl _ _, fun _ => rfl⟩
  refine OpsOK.step (fun v _ => c1 = false → v = .bool n2) (fun _ _ _ h _ => h) ?_ ?_
  · intro vs u hb hd
    have e20 := hd ⟨20, .data⟩ (by simp) (by decide)
    have e18 := hd ⟨18, .guard⟩ (by simp) (by decide)
    clear hd
    rcases c1 with _ | _ <;> rcases n2 with _ | _
    all_goals
      (try simp at e20)
      (try simp only [e20])
      (try simp at e18)
      (try simp only [e18])
      go_wp2_with fail
      first | exact ⟨rfl, undef, rfl, Below.refl _ _, by simp⟩ | exact ⟨rfl, _, rfl, Below.refl _ _, by simp⟩
  refine OpsOK.step (fun v _ => (c1 = false → v = .bool n2) ∧ (c1 = true → v = undef)) (fun _ _ _ h _ => h) ?_ ?_
  · intro vs u hb hd
    have e21 := hd ⟨21, .data⟩ (by simp) (by decide)
    have e18 := hd ⟨18, .chain⟩ (by simp) (by decide)
    clear hd
    rcases c1 with _ | _
    all_goals
      (try simp at e21)
      (try simp only [e21])
      (try simp at e18)
      (try simp only [e18])
      go_wp2_with fail
      first | exact ⟨rfl, undef, rfl, Below.refl _ _, by simp⟩ | exact ⟨rfl, _, rfl, Below.refl _ _, by simp⟩
  apply OpsOK.geq (c1 = false ∧ n2 = true)
  · intro vs u hb hd
    have e22 := hd ⟨22, .guard⟩ (by simp) (by decide)
    clear hd
    rcases c1 with _ | _ <;> rcases n2 with _ | _
    all_goals
      (try simp at e22)
      (try simp only [e22])
      go_wp2_with fail
      first | exact ⟨rfl, undef, rfl, Below.refl _ _, fun h => (by simp at h)⟩ | exact ⟨rfl, _, rfl, Below.refl _ _, fun _ => rfl⟩
  apply OpsOK.geq (c1 = false ∧ n2 = true)
  · intro vs u hb hd
    have qc := block_cell (block_below hb HBY3.out hlt3) 3
    simp at qc
    have e23 := hd ⟨23, .data⟩ (by simp) (by decide)
    have e22 := hd ⟨22, .guard⟩ (by simp) (by decide)
    clear hd
    rcases c1 with _ | _ <;> rcases n2 with _ | _
    all_goals
      (try simp at e23)
      (try simp only [e23])
      (try simp at e22)
      (try simp only [e22])
      go_wp2_with fail
      first | exact ⟨rfl, undef, rfl, Below.refl _ _, fun h => (by simp at h)⟩ | exact ⟨rfl, _, rfl, Below.refl _ _, fun _ => rfl⟩
  apply OpsOK.geq (c1 = false ∧ n2 = true)
  · intro vs u hb hd
    have e24 := hd ⟨24, .data⟩ (by simp) (by decide)
    have e22 := hd ⟨22, .guard⟩ (by simp) (by decide)
    clear hd
    rcases c1 with _ | _ <;> rcases n2 with _ | _
    all_goals
      (try simp at e24)
      (try simp only [e24])
      (try simp at e22)
      (try simp only [e22])
      go_wp2_with fail
      first | exact ⟨rfl, undef, rfl, Below.refl _ _, fun h => (by simp at h)⟩ | exact ⟨rfl, _, rfl, Below.refl _ _, fun _ => rfl⟩
  refine OpsOK.step (fun v _ => c1 = false → v = .bool (n2 && (m != 0))) (fun _ _ _ h _ => h) ?_ ?_
  · intro vs u hb hd
    have e22 := hd ⟨22, .data⟩ (by simp) (by decide)
    have e25 := hd ⟨25, .data⟩ (by simp) (by decide)
    have e18 := hd ⟨18, .guard⟩ (by simp) (by decide)
    clear hd
    rcases c1 with _ | _ <;> rcases n2 with _ | _
    all_goals
      (try simp at e22)
      (try simp only [e22])
      (try simp at e25)
      (try simp only [e25])
      (try simp at e18)
      (try simp only [e18])
      go_wp2_with fail
      first | exact ⟨rfl, undef, rfl, Below.refl _ _, by simp⟩ | exact ⟨rfl, _, rfl, Below.refl _ _, by simp⟩
  apply OpsOK.ceq (.bool c2)
  · intro vs u hb hd
    have e18 := hd ⟨18, .data⟩ (by simp) (by decide)
    have e26 := hd ⟨26, .data⟩ (by simp) (by decide)
    clear hd
    rcases c1 with _ | _
    all_goals
      (try simp at e18)
      (try simp only [e18])
      (try simp at e26)
      (try simp only [e26])
      go_wp2_with fail
      exact ⟨rfl, _, rfl, Below.refl _ _, by rw [HC2.out] <;> first | rfl | simp⟩
  apply OpsOK.eq
  · intro vs u hb hd
    have e27 := hd ⟨27, .data⟩ (by simp) (by decide)
    have e22 := hd ⟨22, .chain⟩ (by simp) (by decide)
    clear hd
    (try simp at e27)
    (try simp only [e27])
    (try simp at e22)
    (try simp only [e22])
    go_wp2_with fail
    exact ⟨rfl, _, rfl, Below.refl _ _, rfl⟩
  apply OpsOK.geq (c2 = false)
  · intro vs u hb hd
    have e28 := hd ⟨28, .guard⟩ (by simp) (by decide)
    clear hd
    rcases c2 with _ | _
    all_goals
      (try simp at e28)
      (try simp only [e28])
      go_wp2_with fail
      first | exact ⟨rfl, undef, rfl, Below.refl _ _, fun h => (by simp at h)⟩ | exact ⟨rfl, _, rfl, Below.refl _ _, fun _ => rfl⟩
  apply OpsOK.geq (c2 = false)
  · intro vs u hb hd
    have qc := block_cell (block_below hb HBU.out hlu3) 3
    simp at qc
    have e29 := hd ⟨29, .data⟩ (by simp) (by decide)
    have e28 := hd ⟨28, .guard⟩ (by simp) (by decide)
    clear hd
    rcases c2 with _ | _
    all_goals
      (try simp at e29)
      (try simp only [e29])
      (try simp at e28)
      (try simp only [e28])
      go_wp2_with fail
      first | exact ⟨rfl, undef, rfl, Below.refl _ _, fun h => (by simp at h)⟩ | exact ⟨rfl, _, rfl, Below.refl _ _, fun _ => rfl⟩
  refine OpsOK.step (fun v _ => c2 = false → v = .bool n3) (fun _ _ _ h _ => h) ?_ ?_
  · intro vs u hb hd
    have e30 := hd ⟨30, .data⟩ (by simp) (by decide)
    have e28 := hd ⟨28, .guard⟩ (by simp) (by decide)
    clear hd
    rcases c2 with _ | _ <;> rcases n3 with _ | _
    all_goals
      (try simp at e30)
      (try simp only [e30])
      (try simp at e28)
      (try simp only [e28])
      go_wp2_with fail
      first | exact ⟨rfl, undef, rfl, Below.refl _ _, by simp⟩ | exact ⟨rfl, _, rfl, Below.refl _ _, by simp⟩
  refine OpsOK.step (fun v _ => (c2 = false → v = .bool n3) ∧ (c2 = true → v = undef)) (fun _ _ _ h _ => h) ?_ ?_
  · intro vs u hb hd
    have e31 := hd ⟨31, .data⟩ (by simp) (by decide)
    have e28 := hd ⟨28, .chain⟩ (by simp) (by decide)
    clear hd
    rcases c2 with _ | _
    all_goals
      (try simp at e31)
      (try simp only [e31])
      (try simp at e28)
      (try simp only [e28])
      go_wp2_with fail
      first | exact ⟨rfl, undef, rfl, Below.refl _ _, by simp⟩ | exact ⟨rfl, _, rfl, Below.refl _ _, by simp⟩
  apply OpsOK.geq (c2 = false ∧ n3 = true)
  · intro vs u hb hd
    have e32 := hd ⟨32, .guard⟩ (by simp) (by decide)
    clear hd
    rcases c2 with _ | _ <;> rcases n3 with _ | _
    all_goals
      (try simp at e32)
      (try simp only [e32])
      go_wp2_with fail
      first | exact ⟨rfl, undef, rfl, Below.refl _ _, fun h => (by simp at h)⟩ | exact ⟨rfl, _, rfl, Below.refl _ _, fun _ => rfl⟩
  apply OpsOK.geq (c2 = false ∧ n3 = true)
  · intro vs u hb hd
    have qc := block_cell (block_below hb HBY3.out hlt3) 4
    simp at qc
    have e33 := hd ⟨33, .data⟩ (by simp) (by decide)
    have e32 := hd ⟨32, .guard⟩ (by simp) (by decide)
    clear hd
    rcases c2 with _ | _ <;> rcases n3 with _ | _
    all_goals
      (try simp at e33)
      (try simp only [e33])
      (try simp at e32)
      (try simp only [e32])
      go_wp2_with fail
      first | exact ⟨rfl, undef, rfl, Below.refl _ _, fun h => (by simp at h)⟩ | exact ⟨rfl, _, rfl, Below.refl _ _, fun _ => rfl⟩
  apply OpsOK.geq (c2 = false ∧ n3 = true)
  · intro vs u hb hd
    have e34 := hd ⟨34, .data⟩ (by simp) (by decide)
    have e32 := hd ⟨32, .guard⟩ (by simp) (by decide)
    clear hd
    rcases c2 with _ | _ <;> rcases n3 with _ | _
    all_goals
      (try simp at e34)
      (try simp only [e34])
      (try simp at e32)
      (try simp only [e32])
      go_wp2_with fail
      first | exact ⟨rfl, undef, rfl, Below.refl _ _, fun h => (by simp at h)⟩ | exact ⟨rfl, _, rfl, Below.refl _ _, fun _ => rfl⟩
  refine OpsOK.step (fun v _ => c2 = false → v = .bool (n3 && (id != 0))) (fun _ _ _ h _ => h) ?_ ?_
  · intro vs u hb hd
    have e32 := hd ⟨32, .data⟩ (by simp) (by decide)
    have e35 := hd ⟨35, .data⟩ (by simp) (by decide)
    have e28 := hd ⟨28, .guard⟩ (by simp) (by decide)
    clear hd
    rcases c2 with _ | _ <;> rcases n3 with _ | _
    all_goals
      (try simp at e32)
      (try simp only [e32])
      (try simp at e35)
      (try simp only [e35])
      (try simp at e28)
      (try simp only [e28])
      go_wp2_with fail
      first | exact ⟨rfl, undef, rfl, Below.refl _ _, by simp⟩ | exact ⟨rfl, _, rfl, Below.refl _ _, by simp⟩
  apply OpsOK.ceq (.bool c3)
  · intro vs u hb hd
    have e28 := hd ⟨28, .data⟩ (by simp) (by decide)
    have e36 := hd ⟨36, .data⟩ (by simp) (by decide)
    clear hd
    rcases c2 with _ | _
    all_goals
      (try simp at e28)
      (try simp only [e28])
      (try simp at e36)
      (try simp only [e36])
      go_wp2_with fail
      exact ⟨rfl, _, rfl, Below.refl _ _, by rw [HC3.out] <;> first | rfl | simp⟩
  apply OpsOK.eq
  · intro vs u hb hd
    have e37 := hd ⟨37, .data⟩ (by simp) (by decide)
    have e32 := hd ⟨32, .chain⟩ (by simp) (by decide)
    clear hd
    (try simp at e37)
    (try simp only [e37])
    (try simp at e32)
    (try simp only [e32])
    go_wp2_with fail
    exact ⟨rfl, _, rfl, Below.refl _ _, rfl⟩
  apply OpsOK.geq (c3 = false)
  · intro vs u hb hd
    have e38 := hd ⟨38, .guard⟩ (by simp) (by decide)
    clear hd
    rcases c3 with _ | _
    all_goals
      (try simp at e38)
      (try simp only [e38])
      go_wp2_with fail
      first | exact ⟨rfl, undef, rfl, Below.refl _ _, fun h => (by simp at h)⟩ | exact ⟨rfl, _, rfl, Below.refl _ _, fun _ => rfl⟩
  apply OpsOK.geq (c3 = false)
  · intro vs u hb hd
    have qc := block_cell (block_below hb HBU.out hlu3) 4
    simp at qc
    have e39 := hd ⟨39, .data⟩ (by simp) (by decide)
    have e38 := hd ⟨38, .guard⟩ (by simp) (by decide)
    clear hd
    rcases c3 with _ | _
    all_goals
      (try simp at e39)
      (try simp only [e39])
      (try simp at e38)
      (try simp only [e38])
      go_wp2_with fail
      first | exact ⟨rfl, undef, rfl, Below.refl _ _, fun h => (by simp at h)⟩ | exact ⟨rfl, _, rfl, Below.refl _ _, fun _ => rfl⟩
  refine OpsOK.step (fun v _ => c3 = false → v = .bool n4) (fun _ _ _ h _ => h) ?_ ?_
  · intro vs u hb hd
    have e40 := hd ⟨40, .data⟩ (by simp) (by decide)
    have e38 := hd ⟨38, .guard⟩ (by simp) (by decide)
    clear hd
    rcases c3 with _ | _ <;> rcases n4 with _ | _
    all_goals
      (try simp at e40)
      (try simp only [e40])
      (try simp at e38)
      (try simp only [e38])
      go_wp2_with fail
      first | exact ⟨rfl, undef, rfl, Below.refl _ _, by simp⟩ | exact ⟨rfl, _, rfl, Below.refl _ _, by simp⟩
  refine OpsOK.step (fun v _ => (c3 = false → v = .bool n4) ∧ (c3 = true → v = undef)) (fun _ _ _ h _ => h) ?_ ?_
  · intro vs u hb hd
    have e41 := hd ⟨41, .data⟩ (by simp) (by decide)
    have e38 := hd ⟨38, .chain⟩ (by simp) (by decide)
    clear hd
    rcases c3 with _ | _
    all_goals
      (try simp at e41)
      (try simp only [e41])
      (try simp at e38)
      (try simp only [e38])
      go_wp2_with fail
      first | exact ⟨rfl, undef, rfl, Below.refl _ _, by simp⟩ | exact ⟨rfl, _, rfl, Below.refl _ _, by simp⟩
  apply OpsOK.geq (c3 = false ∧ n4 = true)
  · intro vs u hb hd
    have e42 := hd ⟨42, .guard⟩ (by simp) (by decide)
    clear hd
    rcases c3 with _ | _ <;> rcases n4 with _ | _
    all_goals
      (try simp at e42)
      (try simp only [e42])
      go_wp2_with fail
      first | exact ⟨rfl, undef, rfl, Below.refl _ _, fun h => (by simp at h)⟩ | exact ⟨rfl, _, rfl, Below.refl _ _, fun _ => rfl⟩
  apply OpsOK.geq (c3 = false ∧ n4 = true)
  · intro vs u hb hd
    have qc := block_cell (block_below hb HBY3.out hlt3) 5
    simp at qc
    have e43 := hd ⟨43, .data⟩ (by simp) (by decide)
    have e42 := hd ⟨42, .guard⟩ (by simp) (by decide)
    clear hd
    rcases c3 with _ | _ <;> rcases n4 with _ | _
    all_goals
      (try simp at e43)
      (try simp only [e43])
      (try simp at e42)
      (try simp only [e42])
      go_wp2_with fail
      first | exact ⟨rfl, undef, rfl, Below.refl _ _, fun h => (by simp at h)⟩ | exact ⟨rfl, _, rfl, Below.refl _ _, fun _ => rfl⟩
  apply OpsOK.geq (c3 = false ∧ n4 = true)
  · intro vs u hb hd
    have e44 := hd ⟨44, .data⟩ (by simp) (by decide)
    have e42 := hd ⟨42, .guard⟩ (by simp) (by decide)
    clear hd
    rcases c3 with _ | _ <;> rcases n4 with _ | _
    all_goals
      (try simp at e44)
      (try simp only [e44])
      (try simp at e42)
      (try simp only [e42])
      go_wp2_with fail
      first | exact ⟨rfl, undef, rfl, Below.refl _ _, fun h => (by simp at h)⟩ | exact ⟨rfl, _, rfl, Below.refl _ _, fun _ => rfl⟩
  refine OpsOK.step (fun v _ => c3 = false → v = .bool (n4 && (g != 0))) (fun _ _ _ h _ => h) ?_ ?_
  · intro vs u hb hd
    have e42 := hd ⟨42, .data⟩ (by simp) (by decide)
    have e45 := hd ⟨45, .data⟩ (by simp) (by decide)
    have e38 := hd ⟨38, .guard⟩ (by simp) (by decide)
    clear hd
    rcases c3 with _ | _ <;> rcases n4 with _ | _
    all_goals
      (try simp at e42)
      (try simp only [e42])
      (try simp at e45)
      (try simp only [e45])
      (try simp at e38)
      (try simp only [e38])
      go_wp2_with fail
      first | exact ⟨rfl, undef, rfl, Below.refl _ _, by simp⟩ | exact ⟨rfl, _, rfl, Below.refl _ _, by simp⟩
  apply OpsOK.ceq (.bool c4)
  · intro vs u hb hd
    have e38 := hd ⟨38, .data⟩ (by simp) (by decide)
    have e46 := hd ⟨46, .data⟩ (by simp) (by decide)
    clear hd
    rcases c3 with _ | _
    all_goals
      (try simp at e38)
      (try simp only [e38])
      (try simp at e46)
      (try simp only [e46])
      go_wp2_with fail
      exact ⟨rfl, _, rfl, Below.refl _ _, by rw [HC4.out] <;> first | rfl | simp⟩
  apply OpsOK.eq
  · intro vs u hb hd
    have e47 := hd ⟨47, .data⟩ (by simp) (by decide)
    have e42 := hd ⟨42, .chain⟩ (by simp) (by decide)
    clear hd
    (try simp at e47)
    (try simp only [e47])
    (try simp at e42)
    (try simp only [e42])
    go_wp2_with fail
    exact ⟨rfl, _, rfl, Below.refl _ _, rfl⟩
  apply OpsOK.geq (c4 = false)
  · intro vs u hb hd
    have e48 := hd ⟨48, .guard⟩ (by simp) (by decide)
    clear hd
    rcases c4 with _ | _
    all_goals
      (try simp at e48)
      (try simp only [e48])
      go_wp2_with fail
      first | exact ⟨rfl, undef, rfl, Below.refl _ _, fun h => (by simp at h)⟩ | exact ⟨rfl, _, rfl, Below.refl _ _, fun _ => rfl⟩
  apply OpsOK.geq (c4 = false)
  · intro vs u hb hd
    have qc := block_cell (block_below hb HBU.out hlu3) 5
    simp at qc
    have e49 := hd ⟨49, .data⟩ (by simp) (by decide)
    have e48 := hd ⟨48, .guard⟩ (by simp) (by decide)
    clear hd
    rcases c4 with _ | _
    all_goals
      (try simp at e49)
      (try simp only [e49])
      (try simp at e48)
      (try simp only [e48])
      go_wp2_with fail
      first | exact ⟨rfl, undef, rfl, Below.refl _ _, fun h => (by simp at h)⟩ | exact ⟨rfl, _, rfl, Below.refl _ _, fun _ => rfl⟩
  refine OpsOK.step (fun v _ => c4 = false → v = .bool n5) (fun _ _ _ h _ => h) ?_ ?_
  · intro vs u hb hd
    have e50 := hd ⟨50, .data⟩ (by simp) (by decide)
    have e48 := hd ⟨48, .guard⟩ (by simp) (by decide)
    clear hd
    rcases c4 with _ | _ <;> rcases n5 with _ | _
    all_goals
      (try simp at e50)
      (try simp only [e50])
      (try simp at e48)
      (try simp only [e48])
      go_wp2_with fail
      first | exact ⟨rfl, undef, rfl, Below.refl _ _, by simp⟩ | exact ⟨rfl, _, rfl, Below.refl _ _, by simp⟩
  refine OpsOK.step (fun v _ => (c4 = false → v = .bool n5) ∧ (c4 = true → v = undef)) (fun _ _ _ h _ => h) ?_ ?_
  · intro vs u hb hd
    have e51 := hd ⟨51, .data⟩ (by simp) (by decide)
    have e48 := hd ⟨48, .chain⟩ (by simp) (by decide)
    clear hd
    rcases c4 with _ | _
    all_goals
      (try simp at e51)
      (try simp only [e51])
      (try simp at e48)
      (try simp only [e48])
      go_wp2_with fail
      first | exact ⟨rfl, undef, rfl, Below.refl _ _, by simp⟩ | exact ⟨rfl, _, rfl, Below.refl _ _, by simp⟩
  apply OpsOK.geq (c4 = false ∧ n5 = true)
  · intro vs u hb hd
    have e52 := hd ⟨52, .guard⟩ (by simp) (by decide)
    clear hd
    rcases c4 with _ | _ <;> rcases n5 with _ | _
    all_goals
      (try simp at e52)
      (try simp only [e52])
      go_wp2_with fail
      first | exact ⟨rfl, undef, rfl, Below.refl _ _, fun h => (by simp at h)⟩ | exact ⟨rfl, _, rfl, Below.refl _ _, fun _ => rfl⟩
  apply OpsOK.geq (c4 = false ∧ n5 = true)
  · intro vs u hb hd
    have qc := block_cell (block_below hb HBY3.out hlt3) 6
    simp at qc
    have e53 := hd ⟨53, .data⟩ (by simp) (by decide)
    have e52 := hd ⟨52, .guard⟩ (by simp) (by decide)
    clear hd
    rcases c4 with _ | _ <;> rcases n5 with _ | _
    all_goals
      (try simp at e53)
      (try simp only [e53])
      (try simp at e52)
      (try simp only [e52])
      go_wp2_with fail
      first | exact ⟨rfl, undef, rfl, Below.refl _ _, fun h => (by simp at h)⟩ | exact ⟨rfl, _, rfl, Below.refl _ _, fun _ => rfl⟩
  apply OpsOK.geq (c4 = false ∧ n5 = true)
  · intro vs u hb hd
    have e54 := hd ⟨54, .data⟩ (by simp) (by decide)
    have e52 := hd ⟨52, .guard⟩ (by simp) (by decide)
    clear hd
    rcases c4 with _ | _ <;> rcases n5 with _ | _
    all_goals
      (try simp at e54)
      (try simp only [e54])
      (try simp at e52)
      (try simp only [e52])
      go_wp2_with fail
      first | exact ⟨rfl, undef, rfl, Below.refl _ _, fun h => (by simp at h)⟩ | exact ⟨rfl, _, rfl, Below.refl _ _, fun _ => rfl⟩
  refine OpsOK.step (fun v _ => c4 = false → v = .bool (n5 && !t.toList.isEmpty)) (fun _ _ _ h _ => h) ?_ ?_
  · intro vs u hb hd
    have e52 := hd ⟨52, .data⟩ (by simp) (by decide)
    have e55 := hd ⟨55, .data⟩ (by simp) (by decide)
    have e48 := hd ⟨48, .guard⟩ (by simp) (by decide)
    clear hd
    rcases c4 with _ | _ <;> rcases n5 with _ | _
    all_goals
      (try simp at e52)
      (try simp only [e52])
      (try simp at e55)
      (try simp only [e55])
      (try simp at e48)
      (try simp only [e48])
      go_wp2_with fail
      first | exact ⟨rfl, undef, rfl, Below.refl _ _, by simp⟩ | exact ⟨rfl, _, rfl, Below.refl _ _, by simp⟩
  apply OpsOK.ceq (.bool c5)
  · intro vs u hb hd
    have e48 := hd ⟨48, .data⟩ (by simp) (by decide)
    have e56 := hd ⟨56, .data⟩ (by simp) (by decide)
    clear hd
    rcases c4 with _ | _
    all_goals
      (try simp at e48)
      (try simp only [e48])
      (try simp at e56)
      (try simp only [e56])
      go_wp2_with fail
      exact ⟨rfl, _, rfl, Below.refl _ _, by rw [HC5.out] <;> first | rfl | simp⟩
  refine OpsOK.done ?_
  intro vs u hbu hS
  have h57 := hS 57 (by decide)
  simp at h57
  simp only [h57]
  clear hS h57
  have HBY4 := Lib.hid (block_below hbu HBY3.out hlt3)
  have HB4 := Lib.hid (HB3.out.trans (hbu.mono HB3.out.size))
  clear hbu
  rcases c5 with _ | _
  · have HBZ := HBY4
    go_upto_region 6 with (fail)
    have hlt3 := block_lt HBY4.out
    refine wp_region_seq (by decide) (by kernel_rfl) ?_
    simp only [fill, Act.put, List.setIfInBounds_toArray, List.set_cons_zero, List.set_cons_succ, Nat.zero_add, Nat.reduceAdd]
    apply OpsOK.eq
    · intro vs u hb hd
      clear hd
      go_wp2_with fail
      exact ⟨rfl, _, rfl, Below.refl _ _, rfl⟩
    apply OpsOK.eq
    · intro vs u hb hd
      have qc := block_cell (block_below hb HBY4.out hlt3) 1
      simp at qc
      have e0 := hd ⟨0, .data⟩ (by simp) (by decide)
      clear hd
      (try simp at e0)
      (try simp only [e0])
      go_wp2_with fail
      exact ⟨rfl, _, rfl, Below.refl _ _, rfl⟩
    apply OpsOK.ceq (.bool d0)
    · intro vs u hb hd
      have e1 := hd ⟨1, .data⟩ (by simp) (by decide)
      clear hd
      (try simp at e1)
      (try simp only [e1])
      go_wp2_with fail
      exact ⟨rfl, _, rfl, Below.refl _ _, by rw [HD0.out] <;> first | rfl | simp⟩
    apply OpsOK.eq
    · intro vs u hb hd
      have e2 := hd ⟨2, .data⟩ (by simp) (by decide)
      clear hd
      (try simp at e2)
      (try simp only [e2])
      go_wp2_with fail
      exact ⟨rfl, _, rfl, Below.refl _ _, rfl⟩
    apply OpsOK.geq (d0 = true)
    · intro vs u hb hd
      have e3 := hd ⟨3, .guard⟩ (by simp) (by decide)
      clear hd
      rcases d0 with _ | _
      all_goals
        (try simp at e3)
        (try simp only [e3])
        go_wp2_with fail
        first | exact ⟨rfl, undef, rfl, Below.refl _ _, fun h => (by simp at h)⟩ | exact ⟨rfl, _, rfl, Below.refl _ _, fun _ => rfl⟩
    apply OpsOK.geq (d0 = true)
    · intro vs u hb hd
      have qc := block_cell (block_below hb HBY4.out hlt3) 1
      simp at qc
      have e4 := hd ⟨4, .data⟩ (by simp) (by decide)
      have e3 := hd ⟨3, .guard⟩ (by simp) (by decide)
      clear hd
      rcases d0 with _ | _
      all_goals
        (try simp at e4)
        (try simp only [e4])
        (try simp at e3)
        (try simp only [e3])
        go_wp2_with fail
        first | exact ⟨rfl, undef, rfl, Below.refl _ _, fun h => (by simp at h)⟩ | exact ⟨rfl, _, rfl, Below.refl _ _, fun _ => rfl⟩
    apply OpsOK.geq (d0 = true)
    · intro vs u hb hd
      have e5 := hd ⟨5, .data⟩ (by simp) (by decide)
      have e3 := hd ⟨3, .guard⟩ (by simp) (by decide)
      clear hd
      rcases d0 with _ | _
      all_goals
        (try simp at e5)
        (try simp only [e5])
        (try simp at e3)
        (try simp only [e3])
        go_wp2_with fail
        first | exact ⟨rfl, undef, rfl, Below.refl _ _, fun h => (by simp at h)⟩ | exact ⟨rfl, _, rfl, Below.refl _ _, fun _ => rfl⟩
    apply OpsOK.ceq (.bool d1)
    · intro vs u hb hd
      have e3 := hd ⟨3, .data⟩ (by simp) (by decide)
      have e6 := hd ⟨6, .data⟩ (by simp) (by decide)
      clear hd
      rcases d0 with _ | _
      all_goals
        (try simp at e3)
        (try simp only [e3])
        (try simp at e6)
        (try simp only [e6])
        go_wp2_with fail
        exact ⟨rfl, _, rfl, Below.refl _ _, by rw [HD1.out] <;> first | rfl | simp⟩
    apply OpsOK.eq
    · intro vs u hb hd
      have e7 := hd ⟨7, .data⟩ (by simp) (by decide)
      have e3 := hd ⟨3, .chain⟩ (by simp) (by decide)
      clear hd
      (try simp at e7)
      (try simp only [e7])
      (try simp at e3)
      (try simp only [e3])
      go_wp2_with fail
      exact ⟨rfl, _, rfl, Below.refl _ _, rfl⟩
    apply OpsOK.geq (d1 = true)
    · intro vs u hb hd
      have e8 := hd ⟨8, .guard⟩ (by simp) (by decide)
      clear hd
      rcases d1 with _ | _
      all_goals
        (try simp at e8)
        (try simp only [e8])
        go_wp2_with fail
        first | exact ⟨rfl, undef, rfl, Below.refl _ _, fun h => (by simp at h)⟩ | exact ⟨rfl, _, rfl, Below.refl _ _, fun _ => rfl⟩
    apply OpsOK.geq (d1 = true)
    · intro vs u hb hd
      have qc := block_cell (block_below hb HBY4.out hlt3) 2
      simp at qc
      have e9 := hd ⟨9, .data⟩ (by simp) (by decide)
      have e8 := hd ⟨8, .guard⟩ (by simp) (by decide)
      clear hd
      rcases d1 with _ | _
      all_goals
        (try simp at e9)
        (try simp only [e9])
        (try simp at e8)
        (try simp only [e8])
        go_wp2_with fail
        first | exact ⟨rfl, undef, rfl, Below.refl _ _, fun h => (by simp at h)⟩ | exact ⟨rfl, _, rfl, Below.refl _ _, fun _ => rfl⟩
    apply OpsOK.geq (d1 = true)
    · intro vs u hb hd
      have e10 := hd ⟨10, .data⟩ (by simp) (by decide)
      have e8 := hd ⟨8, .guard⟩ (by simp) (by decide)
      clear hd
      rcases d1 with _ | _
      all_goals
        (try simp at e10)
        (try simp only [e10])
        (try simp at e8)
        (try simp only [e8])
        go_wp2_with fail
        first | exact ⟨rfl, undef, rfl, Below.refl _ _, fun h => (by simp at h)⟩ | exact ⟨rfl, _, rfl, Below.refl _ _, fun _ => rfl⟩
    apply OpsOK.ceq (.bool d2)
    · intro vs u hb hd
      have e8 := hd ⟨8, .data⟩ (by simp) (by decide)
      have e11 := hd ⟨11, .data⟩ (by simp) (by decide)
      clear hd
      rcases d1 with _ | _
      all_goals
        (try simp at e8)
        (try simp only [e8])
        (try simp at e11)
        (try simp only [e11])
        go_wp2_with fail
        exact ⟨rfl, _, rfl, Below.refl _ _, by rw [HD2.out] <;> first | rfl | simp⟩
    apply OpsOK.eq
    · intro vs u hb hd
      have e12 := hd ⟨12, .data⟩ (by simp) (by decide)
      have e8 := hd ⟨8, .chain⟩ (by simp) (by decide)
      clear hd
      (try simp at e12)
      (try simp only [e12])
      (try simp at e8)
      (try simp only [e8])
      go_wp2_with fail
      exact ⟨rfl, _, rfl, Below.refl _ _, rfl⟩
    apply OpsOK.geq (d2 = true)
    · intro vs u hb hd
      have e13 := hd ⟨13, .guard⟩ (by simp) (by decide)
      clear hd
      rcases d2 with _ | _
      all_goals
        (try simp at e13)
        (try simp only [e13])
        go_wp2_with fail
        first | exact ⟨rfl, undef, rfl, Below.refl _ _, fun h => (by simp at h)⟩ | exact ⟨rfl, _, rfl, Below.refl _ _, fun _ => rfl⟩
    apply OpsOK.geq (d2 = true)
    · intro vs u hb hd
      have qc := block_cell (block_below hb HBY4.out hlt3) 2
      simp at qc
      have e14 := hd ⟨14, .data⟩ (by simp) (by decide)
      have e13 := hd ⟨13, .guard⟩ (by simp) (by decide)
      clear hd
      rcases d2 with _ | _
      all_goals
        (try simp at e14)
        (try simp only [e14])
        (try simp at e13)
        (try simp only [e13])
        go_wp2_with fail
        first | exact ⟨rfl, undef, rfl, Below.refl _ _, fun h => (by simp at h)⟩ | exact ⟨rfl, _, rfl, Below.refl _ _, fun _ => rfl⟩
    apply OpsOK.geq (d2 = true)
    · intro vs u hb hd
      have e15 := hd ⟨15, .data⟩ (by simp) (by decide)
      have e13 := hd ⟨13, .guard⟩ (by simp) (by decide)
      clear hd
      rcases d2 with _ | _
      all_goals
        (try simp at e15)
        (try simp only [e15])
        (try simp at e13)
        (try simp only [e13])
        go_wp2_with fail
        first | exact ⟨rfl, undef, rfl, Below.refl _ _, fun h => (by simp at h)⟩ | exact ⟨rfl, _, rfl, Below.refl _ _, fun _ => rfl⟩
    apply OpsOK.ceq (.bool d3)
    · intro vs u hb hd
      have e13 := hd ⟨13, .data⟩ (by simp) (by decide)
      have e16 := hd ⟨16, .data⟩ (by simp) (by decide)
      clear hd
      rcases d2 with _ | _
      all_goals
        (try simp at e13)
        (try simp only [e13])
        (try simp at e16)
        (try simp only [e16])
        go_wp2_with fail
        exact ⟨rfl, _, rfl, Below.refl _ _, by rw [HD3.out] <;> first | rfl | simp⟩
    apply OpsOK.eq
    · intro vs u hb hd
      have e17 := hd ⟨17, .data⟩ (by simp) (by decide)
      have e13 := hd ⟨13, .chain⟩ (by simp) (by decide)
      clear hd
      (try simp at e17)
      (try simp only [e17])
      (try simp at e13)
      (try simp only [e13])
      go_wp2_with fail
      exact ⟨rfl, _, rfl, Below.refl _ _, rfl⟩
    apply OpsOK.geq (d3 = true)
    · intro vs u hb hd
      have e18 := hd ⟨18, .guard⟩ (by simp) (by decide)
      clear hd
      rcases d3 with _ | _
      all_goals
        (try simp at e18)
        (try simp only [e18])
        go_wp2_with fail
        first | exact ⟨rfl, undef, rfl, Below.refl _ _, fun h => (by simp at h)⟩ | exact ⟨rfl, _, rfl, Below.refl _ _, fun _ => rfl⟩
    apply OpsOK.geq (d3 = true)
    · intro vs u hb hd
      have qc := block_cell (block_below hb HBY4.out hlt3) 3
      simp at qc
      have e19 := hd ⟨19, .data⟩ (by simp) (by decide)
      have e18 := hd ⟨18, .guard⟩ (by simp) (by decide)
      clear hd
      rcases d3 with _ | _
      all_goals
        (try simp at e19)
        (try simp only [e19])
        (try simp at e18)
        (try simp only [e18])
        go_wp2_with fail
        first | exact ⟨rfl, undef, rfl, Below.refl _ _, fun h => (by simp at h)⟩ | exact ⟨rfl, _, rfl, Below.refl _ _, fun _ => rfl⟩
    apply OpsOK.geq (d3 = true)
    · intro vs u hb hd
      have e20 := hd ⟨20, .data⟩ (by simp) (by decide)
      have e18 := hd ⟨18, .guard⟩ (by simp) (by decide)
      clear hd
      rcases d3 with _ | _
      all_goals
        (try simp at e20)
        (try simp only [e20])
        (try simp at e18)
        (try simp only [e18])
        go_wp2_with fail
        first | exact ⟨rfl, undef, rfl, Below.refl _ _, fun h => (by simp at h)⟩ | exact ⟨rfl, _, rfl, Below.refl _ _, fun _ => rfl⟩
    apply OpsOK.ceq (.bool d4)
    · intro vs u hb hd
      have e18 := hd ⟨18, .data⟩ (by simp) (by decide)
      have e21 := hd ⟨21, .data⟩ (by simp) (by decide)
      clear hd
      rcases d3 with _ | _
      all_goals
        (try simp at e18)
        (try simp only [e18])
        (try simp at e21)
        (try simp only [e21])
        go_wp2_with fail
        exact ⟨rfl, _, rfl, Below.refl _ _, by rw [HD4.out] <;> first | rfl | simp⟩
    apply OpsOK.eq
    · intro vs u hb hd
      have e22 := hd ⟨22, .data⟩ (by simp) (by decide)
      have e18 := hd ⟨18, .chain⟩ (by simp) (by decide)
      clear hd
      (try simp at e22)
      (try simp only [e22])
      (try simp at e18)
      (try simp only [e18])
      go_wp2_with fail
      exact ⟨rfl, _, rfl, Below.refl _ _, rfl⟩
    apply OpsOK.geq (d4 = true)
    · intro vs u hb hd
      have e23 := hd ⟨23, .guard⟩ (by simp) (by decide)
      clear hd
      rcases d4 with _ | _
      all_goals
        (try simp at e23)
        (try simp only [e23])
        go_wp2_with fail
        first | exact ⟨rfl, undef, rfl, Below.refl _ _, fun h => (by simp at h)⟩ | exact ⟨rfl, _, rfl, Below.refl _ _, fun _ => rfl⟩
    apply OpsOK.geq (d4 = true)
    · intro vs u hb hd
      have qc := block_cell (block_below hb HBY4.out hlt3) 3
      simp at qc
      have e24 := hd ⟨24, .data⟩ (by simp) (by decide)
      have e23 := hd ⟨23, .guard⟩ (by simp) (by decide)
      clear hd
      rcases d4 with _ | _
      all_goals
        (try simp at e24)
        (try simp only [e24])
        (try simp at e23)
        (try simp only [e23])
        go_wp2_with fail
        first | exact ⟨rfl, undef, rfl, Below.refl _ _, fun h => (by simp at h)⟩ | exact ⟨rfl, _, rfl, Below.refl _ _, fun _ => rfl⟩
    apply OpsOK.geq (d4 = true)
    · intro vs u hb hd
      have e25 := hd ⟨25, .data⟩ (by simp) (by decide)
      have e23 := hd ⟨23, .guard⟩ (by simp) (by decide)
      clear hd
      rcases d4 with _ | _
      all_goals
        (try simp at e25)
        (try simp only [e25])
        (try simp at e23)
        (try simp only [e23])
        go_wp2_with fail
        first | exact ⟨rfl, undef, rfl, Below.refl _ _, fun h => (by simp at h)⟩ | exact ⟨rfl, _, rfl, Below.refl _ _, fun _ => rfl⟩
    apply OpsOK.ceq (.bool d5)
    · intro vs u hb hd
      have e23 := hd ⟨23, .data⟩ (by simp) (by decide)
      have e26 := hd ⟨26, .data⟩ (by simp) (by decide)
      clear hd
      rcases d4 with _ | _
      all_goals
        (try simp at e23)
        (try simp only [e23])
        (try simp at e26)
        (try simp only [e26])
        go_wp2_with fail
        exact ⟨rfl, _, rfl, Below.refl _ _, by rw [HD5.out] <;> first | rfl | simp⟩
    apply OpsOK.eq
    · intro vs u hb hd
      have e27 := hd ⟨27, .data⟩ (by simp) (by decide)
      have e23 := hd ⟨23, .chain⟩ (by simp) (by decide)
      clear hd
      (try simp at e27)
      (try simp only [e27])
      (try simp at e23)
      (try simp only [e23])
      go_wp2_with fail
      exact ⟨rfl, _, rfl, Below.refl _ _, rfl⟩
    apply OpsOK.geq (d5 = true)
    · intro vs u hb hd
      have e28 := hd ⟨28, .guard⟩ (by simp) (by decide)
      clear hd
      rcases d5 with _ | _
      all_goals
        (try simp at e28)
        (try simp only [e28])
        go_wp2_with fail
        first | exact ⟨rfl, undef, rfl, Below.refl _ _, fun h => (by simp at h)⟩ | exact ⟨rfl, _, rfl, Below.refl _ _, fun _ => rfl⟩
    apply OpsOK.geq (d5 = true)
    · intro vs u hb hd
      have qc := block_cell (block_below hb HBY4.out hlt3) 6
      simp at qc
      have e29 := hd ⟨29, .data⟩ (by simp) (by decide)
      have e28 := hd ⟨28, .guard⟩ (by simp) (by decide)
      clear hd
      rcases d5 with _ | _
      all_goals
        (try simp at e29)
        (try simp only [e29])
        (try simp at e28)
        (try simp only [e28])
        go_wp2_with fail
        first | exact ⟨rfl, undef, rfl, Below.refl _ _, fun h => (by simp at h)⟩ | exact ⟨rfl, _, rfl, Below.refl _ _, fun _ => rfl⟩
    apply OpsOK.geq (d5 = true)
    · intro vs u hb hd
      have e30 := hd ⟨30, .data⟩ (by simp) (by decide)
      have e28 := hd ⟨28, .guard⟩ (by simp) (by decide)
      clear hd
      rcases d5 with _ | _
      all_goals
        (try simp at e30)
        (try simp only [e30])
        (try simp at e28)
        (try simp only [e28])
        go_wp2_with fail
        first | exact ⟨rfl, undef, rfl, Below.refl _ _, fun h => (by simp at h)⟩ | exact ⟨rfl, _, rfl, Below.refl _ _, fun _ => rfl⟩
    apply OpsOK.geq (d5 = true)
    · intro vs u hb hd
      have e31 := hd ⟨31, .data⟩ (by simp) (by decide)
      have e28 := hd ⟨28, .guard⟩ (by simp) (by decide)
      clear hd
      rcases d5 with _ | _
      all_goals
        (try simp at e31)
        (try simp only [e31])
        (try simp at e28)
        (try simp only [e28])
        go_wp2_with fail
        first | exact ⟨rfl, undef, rfl, Below.refl _ _, fun h => (by simp at h)⟩ | exact ⟨rfl, _, rfl, Below.refl _ _, fun _ => rfl⟩
    apply OpsOK.ceq (.bool d6)
    · intro vs u hb hd
      have e28 := hd ⟨28, .data⟩ (by simp) (by decide)
      have e32 := hd ⟨32, .data⟩ (by simp) (by decide)
      clear hd
      rcases d5 with _ | _
      all_goals
        (try simp at e28)
        (try simp only [e28])
        (try simp at e32)
        (try simp only [e32])
        go_wp2_with fail
        exact ⟨rfl, _, rfl, Below.refl _ _, by rw [HD6.out] <;> first | rfl | simp⟩
    apply OpsOK.eq
    · intro vs u hb hd
      have e33 := hd ⟨33, .data⟩ (by simp) (by decide)
      have e28 := hd ⟨28, .chain⟩ (by simp) (by decide)
      have e0 := hd ⟨0, .phase⟩ (by simp) (by decide)
      have e1 := hd ⟨1, .phase⟩ (by simp) (by decide)
      have e2 := hd ⟨2, .phase⟩ (by simp) (by decide)
      have e3 := hd ⟨3, .phase⟩ (by simp) (by decide)
      have e4 := hd ⟨4, .phase⟩ (by simp) (by decide)
      have e5 := hd ⟨5, .phase⟩ (by simp) (by decide)
      have e6 := hd ⟨6, .phase⟩ (by simp) (by decide)
      have e7 := hd ⟨7, .phase⟩ (by simp) (by decide)
      have e8 := hd ⟨8, .phase⟩ (by simp) (by decide)
      have e9 := hd ⟨9, .phase⟩ (by simp) (by decide)
      have e10 := hd ⟨10, .phase⟩ (by simp) (by decide)
      have e11 := hd ⟨11, .phase⟩ (by simp) (by decide)
      have e12 := hd ⟨12, .phase⟩ (by simp) (by decide)
      have e13 := hd ⟨13, .phase⟩ (by simp) (by decide)
      have e14 := hd ⟨14, .phase⟩ (by simp) (by decide)
      have e15 := hd ⟨15, .phase⟩ (by simp) (by decide)
      have e16 := hd ⟨16, .phase⟩ (by simp) (by decide)
      have e17 := hd ⟨17, .phase⟩ (by simp) (by decide)
      have e18 := hd ⟨18, .phase⟩ (by simp) (by decide)
      have e19 := hd ⟨19, .phase⟩ (by simp) (by decide)
      have e20 := hd ⟨20, .phase⟩ (by simp) (by decide)
      have e21 := hd ⟨21, .phase⟩ (by simp) (by decide)
      have e22 := hd ⟨22, .phase⟩ (by simp) (by decide)
      have e23 := hd ⟨23, .phase⟩ (by simp) (by decide)
      have e24 := hd ⟨24, .phase⟩ (by simp) (by decide)
      have e25 := hd ⟨25, .phase⟩ (by simp) (by decide)
      have e26 := hd ⟨26, .phase⟩ (by simp) (by decide)
      have e27 := hd ⟨27, .phase⟩ (by simp) (by decide)
      have e29 := hd ⟨29, .phase⟩ (by simp) (by decide)
      have e30 := hd ⟨30, .phase⟩ (by simp) (by decide)
      have e31 := hd ⟨31, .phase⟩ (by simp) (by decide)
      have e32 := hd ⟨32, .phase⟩ (by simp) (by decide)
      clear hd
      (try simp at e33)
      (try simp only [e33])
      (try simp at e28)
      (try simp only [e28])
      (try simp at e0)
      (try simp only [e0])
      (try simp at e1)
      (try simp only [e1])
      (try simp at e2)
      (try simp only [e2])
      (try simp at e3)
      (try simp only [e3])
      (try simp at e4)
      (try simp only [e4])
      (try simp at e5)
      (try simp only [e5])
      (try simp at e6)
      (try simp only [e6])
      (try simp at e7)
      (try simp only [e7])
      (try simp at e8)
      (try simp only [e8])
      (try simp at e9)
      (try simp only [e9])
      (try simp at e10)
      (try simp only [e10])
      (try simp at e11)
      (try simp only [e11])
      (try simp at e12)
      (try simp only [e12])
      (try simp at e13)
      (try simp only [e13])
      (try simp at e14)
      (try simp only [e14])
      (try simp at e15)
      (try simp only [e15])
      (try simp at e16)
      (try simp only [e16])
      (try simp at e17)
      (try simp only [e17])
      (try simp at e18)
      (try simp only [e18])
      (try simp at e19)
      (try simp only [e19])
      (try simp at e20)
      (try simp only [e20])
      (try simp at e21)
      (try simp only [e21])
      (try simp at e22)
      (try simp only [e22])
      (try simp at e23)
      (try simp only [e23])
      (try simp at e24)
      (try simp only [e24])
      (try simp at e25)
      (try simp only [e25])
      (try simp at e26)
      (try simp only [e26])
      (try simp at e27)
      (try simp only [e27])
      (try simp at e29)
      (try simp only [e29])
      (try simp at e30)
      (try simp only [e30])
      (try simp at e31)
      (try simp only [e31])
      (try simp at e32)
      (try simp only [e32])
      go_wp2_with fail
      exact ⟨rfl, _, rfl, Below.refl _ _, rfl⟩
    refine OpsOK.done ?_
    intro vs u hbu hS
    have h34 := hS 34 (by decide)
    simp at h34
    simp only [h34]
    clear hS h34
    have HB5 := Lib.hid (HB4.out.trans (hbu.mono HB4.out.size))
    clear hbu
    go_wp2_with fail
    go_ret
    exact ⟨by rw [HE.out] <;> rfl, HB5.out⟩
  · go_wp2_with fail
    go_ret
    exact ⟨by rw [HE.out] <;> rfl, HB4.out⟩
set_option maxRecDepth 100000 in
set_option maxHeartbeats 8000000 in
theorem refPlain_out (x : Ov) (hk : x.k < 1 ∨ 16 < x.k) (w : World) :
    Calls Tryd.prog 55 #[.agg #[.int .u8 x.k, .int .i64 x.slot, .int .i64 x.at_, .int .i64 x.n, .int .u32 x.id, .int .u8 x.g, .string x.t]] w fun e w' => e = .returned (.bool (plainO x)) ∧ Below w.heap.size w w' := by
  have HB0 := Lib.hid ((Below.refl w.heap.size w).alloc (Nat.le_refl _) (.cells (oC x) 51))
  have HE := Lib.hid (show plainO x = false from if_pos hk)
  obtain ⟨k, s, a, n, id, g, t⟩ := x
  replace hk : k < 1 ∨ 16 < k := hk
  by_cases hk1 : k < 1
  · as_aux_lemma =>
    clear hk
    go_enter Tryd.func55, Tryd.ntmps55
    go_wp2_with fail
    go_ret
    exact ⟨by rw [HE.out] <;> rfl, HB0.out⟩
  · as_aux_lemma =>
    have hk2 : 16 < k := by omega
    clear hk
    go_enter Tryd.func55, Tryd.ntmps55
    go_wp2_with fail
    go_ret
    exact ⟨by rw [HE.out] <;> rfl, HB0.out⟩
theorem refPlain_any (x : Ov) (w : World) (ht : x.t.size ≤ 140737488355328) :
    Calls Tryd.prog 55 #[.agg #[.int .u8 x.k, .int .i64 x.slot, .int .i64 x.at_, .int .i64 x.n, .int .u32 x.id, .int .u8 x.g, .string x.t]] w fun e w' => e = .returned (.bool (plainO x)) ∧ Below w.heap.size w w' := by
  by_cases hk : x.k < 1 ∨ 16 < x.k
  · exact refPlain_out x hk w
  · exact refPlain_in x x.k.toNat (by omega) (by omega) (by omega) w ht
end Go.Proofs.YtdfkbahlngijcaaDoor

