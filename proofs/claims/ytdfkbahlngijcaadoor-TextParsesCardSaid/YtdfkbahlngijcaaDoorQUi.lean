/- Text: numbers and quoted strings read back: plain laws. (printed by slim.py.) -/
import Derived.Test.YtdfkbahlngijcaaDoorQKi
import Derived.Test.YtdfkbahlngijcaaDoorQKg
import Derived.Deep.CutRange
import Derived.Deep.DeepCutAuto
import Derived.Test.YtdfkbahlngijcaaDoorSh
import Derived.Test.YtdfkbahlngijcaaDoorQLsp
import Derived.Test.YtdfkbahlngijcaaDoorQKb
import Derived.Lib.SplitLaws
namespace Go.Proofs.YtdfkbahlngijcaaDoor
open Go.RowKit
set_option linter.unusedVariables false

/-- the number that digits are, behind the number n -/
def numV : Nat → List UInt8 → Option Nat
  | n, [] => some n
  | n, c :: l => if c < 48 ∨ 57 < c then none else numV (10 * n + (c.toNat - 48)) l
theorem numV_cons (n : Nat) (c : UInt8) (l : List UInt8) : numV n (c :: l) = if c < 48 ∨ 57 < c then none else numV (10 * n + (c.toNat - 48)) l := rfl
/-- the number that a word is -/
def numW (l : List UInt8) : Option Nat := if l = [] ∨ 10 < l.length ∨ (1 < l.length ∧ l.head? = some 48) then none else numV 0 l
theorem numV_bound : ∀ (l : List UInt8) (n m : Nat), numV n l = some m → m < (n + 1) * 10 ^ l.length
  | [], n, m, h => by injection h with h; simp; omega
  | c :: l, n, m, h => by
    rw [numV_cons] at h
    by_cases hc : c < 48 ∨ 57 < c
    · rw [if_pos hc] at h; cases h
    · rw [if_neg hc] at h
      have h1 := numV_bound l _ m h
      obtain ⟨h2, h3⟩ := dig_eq hc
      have h4 : (10 * n + (c.toNat - 48) + 1) * 10 ^ l.length ≤ ((n + 1) * 10) * 10 ^ l.length := Nat.mul_le_mul_right _ (by omega)
      rw [List.length_cons, Nat.pow_succ, Nat.mul_comm (10 ^ l.length) 10, ← Nat.mul_assoc]
      omega
theorem numV_dec : ∀ (l : List UInt8) (n m : Nat), 1 ≤ n → numV n l = some m → Lib.decDigits m = Lib.decDigits n ++ l
  | [], n, m, _, h => by injection h with h; rw [h]; simp
  | c :: l, n, m, hn, h => by
    rw [numV_cons] at h
    by_cases hc : c < 48 ∨ 57 < c
    · rw [if_pos hc] at h; cases h
    · rw [if_neg hc] at h
      have := numV_dec l _ m (by omega) h
      rw [this, dec_ext hn hc, List.append_assoc]
      rfl
theorem numW_some {l : List UInt8} {m : Nat} (h : numW l = some m) : Lib.decDigits m = l ∧ m ≤ 9999999999 := by
  unfold numW at h
  by_cases h0 : l = [] ∨ 10 < l.length ∨ (1 < l.length ∧ l.head? = some 48)
  · rw [if_pos h0] at h; cases h
  · rw [if_neg h0] at h
    have hb := numV_bound l 0 m h
    have hlen : l.length ≤ 10 := by
      rcases Nat.lt_or_ge 10 l.length with k | k
      · exact absurd (.inr (.inl k)) h0
      · exact k
    have hpow : 10 ^ l.length ≤ 10 ^ 10 := Nat.pow_le_pow_right (by decide) hlen
    refine ⟨?_, by omega⟩
    rcases l with _ | ⟨c, l⟩
    · exact absurd (.inl rfl) h0
    · rw [numV_cons] at h
      by_cases hc : c < 48 ∨ 57 < c
      · rw [if_pos hc] at h; cases h
      · rw [if_neg hc] at h
        rw [Nat.mul_zero, Nat.zero_add] at h
        rcases l with _ | ⟨d, l⟩
        · injection h with h
          rw [← h]; exact dec_one hc
        · obtain ⟨h2, h3⟩ := dig_eq hc
          have hne : c ≠ 48 := fun e => h0 (.inr (.inr ⟨by simp, by rw [e]; rfl⟩))
          have h48 : c.toNat ≠ 48 := fun e => hne (by
            apply UInt8.toNat_inj.1
            rw [e]; rfl)
          have := numV_dec (d :: l) _ m (by omega) h
          rw [this, dec_one hc]
          rfl
theorem numV_app : ∀ (l k : List UInt8) (n : Nat), numV n (l ++ k) = (numV n l).bind fun m => numV m k
  | [], k, n => rfl
  | c :: l, k, n => by
    rw [List.cons_append, numV_cons, numV_cons]
    by_cases hc : c < 48 ∨ 57 < c
    · rw [if_pos hc, if_pos hc]; rfl
    · rw [if_neg hc, if_neg hc]; exact numV_app l k _
theorem numV_digits : ∀ m : Nat, numV 0 (Lib.decDigits m) = some m := by
  intro m
  induction m using Nat.strongRecOn with
  | ind m ih =>
    have hd := digC_nat m
    have hdg := digC_dig m
    by_cases h : m < 10
    · rw [decDigits_small h, numV_cons, if_neg hdg]
      show some _ = _
      congr 1; omega
    · rw [decDigits_step h, numV_app, ih (m / 10) (by omega)]
      show numV (m / 10) [digC m] = some m
      rw [numV_cons, if_neg hdg]
      show some _ = _
      congr 1; omega
theorem dec_head : ∀ m : Nat, 10 ≤ m → (Lib.decDigits m).head? ≠ some 48 := by
  intro m
  induction m using Nat.strongRecOn with
  | ind m ih =>
    intro hm
    rw [decDigits_step (by omega)]
    have hne := decDigits_ne (m / 10)
    rw [show (Lib.decDigits (m / 10) ++ [digC m]).head? = (Lib.decDigits (m / 10)).head? by
      rcases hx : Lib.decDigits (m / 10) with _ | ⟨y, ys⟩
      · exact absurd hx hne
      · rfl]
    by_cases h : m / 10 < 10
    · rw [decDigits_small h]
      intro e
      have e2 : digC (m / 10) = 48 := Option.some.inj e
      have := digC_nat (m / 10)
      rw [e2] at this
      have e3 : (48 : UInt8).toNat = 48 := rfl
      omega
    · exact ih (m / 10) (by omega) (by omega)
theorem numW_dec {m : Nat} (hm : m ≤ 9999999999) : numW (Lib.decDigits m) = some m := by
  unfold numW
  rw [if_neg, numV_digits]
  rintro (h | h | ⟨h, k⟩)
  · exact decDigits_ne m h
  · have := decDigits_len 10 m (by decide) (by omega)
    omega
  · by_cases h10 : m < 10
    · rw [decDigits_small h10] at h; simp at h
    · exact dec_head m (by omega) k
theorem numW_numL {v : Int} (h : numOK v) : numW (numL v) = some v.toNat := by
  unfold numL
  rw [if_pos h]
  exact numW_dec (by have := h.2; omega)
theorem numL_numW {l : List UInt8} {m : Nat} (h : numW l = some m) : numL (m : Int) = l := by
  obtain ⟨h1, h2⟩ := numW_some h
  unfold numL
  rw [if_pos ⟨by omega, by omega⟩]
  exact h1
/-- a step of the loop -/
theorem numV_take {l : List UInt8} {j n : Nat} (hj : j < l.length) (h : numV 0 (l.take j) = some n) : numV 0 (l.take (j + 1)) = if l[j] < 48 ∨ 57 < l[j] then none else some (10 * n + (l[j].toNat - 48)) := by
  rw [List.take_succ_eq_append_getElem hj, numV_app, h]
  rfl
theorem numV_stop {l : List UInt8} {j n : Nat} (hj : j < l.length) (h : numV 0 (l.take j) = some n) (hc : l[j] < 48 ∨ 57 < l[j]) : numV 0 l = none := by
  have e : l = l.take (j + 1) ++ l.drop (j + 1) := (List.take_append_drop _ _).symm
  rw [e, numV_app, numV_take hj h, if_pos hc]
  rfl
/-- the string that a word is -/
def unqL (l : List UInt8) : Option (List UInt8) := match l with | 43 :: r => hexP r | _ => none
theorem unqL_quote (t : ByteArray) : unqL (quoteL t) = some t.data.toList := hexP_hexL _
theorem unqL_some {l t : List UInt8} (h : unqL l = some t) : quoteL ⟨t.toArray⟩ = l := by
  unfold unqL at h
  split at h
  · rename_i r
    have := hexP_some _ _ h
    show 43 :: hexL t.toArray.toList = _
    rw [List.toList_toArray, this]
  · cases h
end Go.Proofs.YtdfkbahlngijcaaDoor

namespace Go.Proofs.YtdfkbahlngijcaaDoor
open Go.RowKit
set_option linter.unusedVariables false

def numR (l : List UInt8) : Int × Bool := match numW l with | some n => ((n : Int), true) | none => (0, false)
theorem numR_some {l : List UInt8} {n : Nat} (h : numW l = some n) : numR l = ((n : Int), true) := by unfold numR; rw [h]
theorem numR_none {l : List UInt8} (h : numW l = none) : numR l = (0, false) := by unfold numR; rw [h]
def badW (l : List UInt8) : Prop := l = [] ∨ 10 < l.length ∨ (1 < l.length ∧ l.head? = some 48)
theorem numW_bad {l : List UInt8} (h : badW l) : numW l = none := if_pos h
theorem numW_ok {l : List UInt8} (h : ¬ badW l) : numW l = numV 0 l := if_neg h
set_option maxRecDepth 100000 in
set_option maxHeartbeats 4000000 in
theorem number_any (s : ByteArray) (w : World) (hs : s.size ≤ 140737488355328) :
    Calls Tryd.prog 82 #[.string s] w fun e w' => e = .returned (.tuple #[.int .i64 (numR s.data.toList).1, .bool (numR s.data.toList).2]) ∧ w = w' := by
  have hlen : s.data.toList.length = s.size := Array.length_toList ..
  obtain ⟨b, hb⟩ : ∃ b : Bool, (b = true ↔ badW s.data.toList) := by
    classical exact ⟨decide (badW s.data.toList), by simp⟩
  have HL := Lib.hid hlen
  have HB := Lib.hid hb
  clear hb hlen
  go_enter Tryd.func82, Tryd.ntmps82
  go_upto_region 1 with (fail)
  go_cut [22] from 6 to 22 (fun vz wq => vz = .bool b ∧ w = wq)
  case first =>
    by_cases h0 : s.size = 0
    · as_aux_lemma =>
      have HX := Lib.hid (show b = true from HB.out.2 (.inl (List.eq_nil_of_length_eq_zero (by rw [HL.out]; exact h0))))
      have es := str_empty h0
      subst es
      clear h0
      go_wp2_with fail
      go_meet
      case rel => exact ⟨by rw [HX.out] <;> rfl, rfl⟩
    · have hne := str_some h0
      have h0i : (0 : Int) < (s.size : Int) := by omega
      have h0n : 0 < s.size := by omega
      by_cases h10 : 10 < s.size
      · as_aux_lemma =>
        have hd : (10 : Int) < (s.size : Int) := by omega
        have hdd := decide_eq_true hd
        have HX := Lib.hid (show b = true from HB.out.2 (.inr (.inl (by rw [HL.out]; exact h10))))
        go_wp2_with fail
        go_meet
        case rel => exact ⟨by rw [HX.out] <;> rfl, rfl⟩
      · have hd : ¬ ((10 : Int) < (s.size : Int)) := by omega
        have hdd := decide_eq_false hd
        by_cases h1 : 1 < s.size
        · have hi1 : (1 : Int) < (s.size : Int) := by omega
          have hi1d := decide_eq_true hi1
          have hh : s.data.toList.head? = some s[0] := by
            have := byte_at s h0n
            rw [← this, List.head?_eq_getElem?]
          by_cases h48 : s[0] = 48
          · as_aux_lemma =>
            have HX := Lib.hid (show b = true from HB.out.2 (.inr (.inr ⟨by rw [HL.out]; exact h1, by rw [hh, h48]⟩)))
            have hb48 : ((s[0].toNat : Int) == 48) = true := by rw [h48]; rfl
            clear hh h48
            go_wp2_with fail
            go_meet
            case rel => exact ⟨by rw [HX.out] <;> rfl, rfl⟩
          · as_aux_lemma =>
            have hn48 : s[0].toNat ≠ 48 := fun e => h48 (UInt8.toNat_inj.1 (by rw [e]; rfl))
            have HX := Lib.hid (show b = false from Bool.eq_false_iff.2 fun e => by
              rcases HB.out.1 e with k | k | ⟨k1, k2⟩
              · rw [← HL.out, k] at h0; exact h0 rfl
              · rw [HL.out] at k; omega
              · rw [hh] at k2; exact h48 (Option.some.inj k2))
            have hb48 : ((s[0].toNat : Int) == 48) = false := by rw [beq_eq_false_iff_ne]; omega
            clear hh h48
            go_wp2_with fail
            go_meet
            case rel => exact ⟨by rw [HX.out] <;> rfl, rfl⟩
        · as_aux_lemma =>
          have hi1 : ¬ ((1 : Int) < (s.size : Int)) := by omega
          have hi1d := decide_eq_false hi1
          have HX := Lib.hid (show b = false from Bool.eq_false_iff.2 fun e => by
            rcases HB.out.1 e with k | k | ⟨k1, k2⟩
            · rw [← HL.out, k] at h0; exact h0 rfl
            · rw [HL.out] at k; omega
            · rw [HL.out] at k1; omega)
          go_wp2_with fail
          go_meet
          case rel => exact ⟨by rw [HX.out] <;> rfl, rfl⟩
  case rest =>
    obtain ⟨rfl, rfl⟩ := hcut
    rcases b with _ | _
    · have HNB := Lib.hid (show ¬ badW s.data.toList from fun h => by have := HB.out.2 h; cases this)
      have h10 : s.size ≤ 10 := by
        rcases Nat.lt_or_ge 10 s.size with h | h
        · exact absurd (.inr (.inl (by rw [HL.out]; exact h))) HNB.out
        · exact h
      clear HB
      go_wp2_with fail
      go_loop [4, 25] (fun s4 s25 => ∃ (j n : Nat), j ≤ s.size ∧ s25 = .int .i64 j ∧ s4 = .int .i64 n ∧ numV 0 (s.data.toList.take j) = some n) (fun s4 s25 => s.size - (intOf s25).toNat)
      case atStart => exact ⟨0, 0, Nat.zero_le _, rfl, rfl, rfl⟩
      case round =>
        obtain ⟨j, n, hj, rfl, rfl, hv⟩ := hrel
        have hbd := numV_bound _ 0 n hv
        have hn : n ≤ 9999999999 := by
          have e : (s.data.toList.take j).length ≤ 10 := by rw [List.length_take]; omega
          have := Nat.pow_le_pow_right (show 0 < 10 by decide) e
          omega
        have HV := Lib.hid hv
        clear hv hbd
        by_cases hlt : j < s.size
        · have hj1 : (j : Int) < (s.size : Int) := by omega
          have hj0 : (0 : Int) ≤ (j : Int) := by omega
          have hc8 := u8lt s[j]
          have hg : ∀ h : j < s.data.toList.length, s.data.toList[j]'h = s[j] := fun h => by
            have := byte_at s hlt
            rw [List.getElem?_eq_getElem h] at this
            exact Option.some.inj this
          have HT := Lib.hid (numV_take (show j < s.data.toList.length by rw [HL.out]; exact hlt) HV.out)
          have HS := Lib.hid (numV_stop (show j < s.data.toList.length by rw [HL.out]; exact hlt) HV.out)
          rw [hg] at HT HS
          have hlo : s[j] < 48 ↔ s[j].toNat < 48 := UInt8.lt_iff_toNat_lt
          have hhi : 57 < s[j] ↔ 57 < s[j].toNat := UInt8.lt_iff_toNat_lt
          by_cases h1 : s[j].toNat < 48
          · as_aux_lemma =>
            have h1i : (s[j].toNat : Int) < 48 := by omega
            have h1d := decide_eq_true h1i
            have HR := Lib.hid (show numR s.data.toList = (0, false) from numR_none (by rw [numW_ok HNB.out]; exact HS.out (.inl (hlo.2 h1))))
            clear hlo hhi hg h1
            go_wp2_with fail
            go_ret2
            exact ⟨by rw [HR.out] <;> rfl, rfl⟩
          · have h1i : ¬ ((s[j].toNat : Int) < 48) := by omega
            have h1d := decide_eq_false h1i
            by_cases h2 : 57 < s[j].toNat
            · as_aux_lemma =>
              have h2i : (57 : Int) < (s[j].toNat : Int) := by omega
              have h2d := decide_eq_true h2i
              have HR := Lib.hid (show numR s.data.toList = (0, false) from numR_none (by rw [numW_ok HNB.out]; exact HS.out (.inr (hhi.2 h2))))
              clear hlo hhi hg h1 h2
              go_wp2_with fail
              go_ret2
              exact ⟨by rw [HR.out] <;> rfl, rfl⟩
            · as_aux_lemma =>
              have h2i : ¬ ((57 : Int) < (s[j].toNat : Int)) := by omega
              have h2d := decide_eq_false h2i
              have hge : (48 : Int) ≤ (s[j].toNat : Int) := by omega
              have hle : (s[j].toNat : Int) ≤ 57 := by omega
              have hw8 : IntKind.u8.wrap ((s[j].toNat : Int) - 48) = (s[j].toNat : Int) - 48 := wrap8 _ (by omega) (by omega)
              have HV2 := Lib.hid (show numV 0 (s.data.toList.take (j + 1)) = some (10 * n + (s[j].toNat - 48)) by
                rw [HT.out, if_neg (by rintro (k | k); exact h1 (hlo.1 k); exact h2 (hhi.1 k))])
              clear hlo hhi hg h1 h2
              go_wp2_with fail
              go_round
              case rel => exact ⟨j + 1, 10 * n + (s[j].toNat - 48), by omega, by go_num, by first | go_num | (congr 1; omega), HV2.out⟩
              case measure => simp [intOf]; omega
        · obtain rfl : j = s.size := by omega
          have hlt1 : ¬ ((s.size : Int) < (s.size : Int)) := by omega
          have HR := Lib.hid (show numR s.data.toList = ((n : Int), true) from numR_some (by
            rw [numW_ok HNB.out]
            have := HV.out
            rw [List.take_of_length_le (by rw [HL.out]; exact Nat.le_refl _)] at this
            exact this))
          go_wp2_with fail
          go_ret2
          exact ⟨by rw [HR.out] <;> rfl, rfl⟩
    · have HR := Lib.hid (show numR s.data.toList = (0, false) from numR_none (numW_bad (HB.out.1 rfl)))
      go_wp2_with fail
      go_ret2
      exact ⟨by rw [HR.out] <;> rfl, rfl⟩
set_option maxRecDepth 100000 in
set_option maxHeartbeats 4000000 in
theorem refnumber_any (s : ByteArray) (w : World) (hs : s.size ≤ 140737488355328) :
    Calls Tryd.prog 61 #[.string s] w fun e w' => e = .returned (.tuple #[.int .i64 (numR s.data.toList).1, .bool (numR s.data.toList).2]) ∧ w = w' := by
  have hlen : s.data.toList.length = s.size := Array.length_toList ..
  obtain ⟨b, hb⟩ : ∃ b : Bool, (b = true ↔ badW s.data.toList) := by
    classical exact ⟨decide (badW s.data.toList), by simp⟩
  have HL := Lib.hid hlen
  have HB := Lib.hid hb
  clear hb hlen
  go_enter Tryd.func61, Tryd.ntmps61
  go_upto_region 1 with (fail)
  go_cut [22] from 6 to 22 (fun vz wq => vz = .bool b ∧ w = wq)
  case first =>
    by_cases h0 : s.size = 0
    · as_aux_lemma =>
      have HX := Lib.hid (show b = true from HB.out.2 (.inl (List.eq_nil_of_length_eq_zero (by rw [HL.out]; exact h0))))
      have es := str_empty h0
      subst es
      clear h0
      go_wp2_with fail
      go_meet
      case rel => exact ⟨by rw [HX.out] <;> rfl, rfl⟩
    · have hne := str_some h0
      have h0i : (0 : Int) < (s.size : Int) := by omega
      have h0n : 0 < s.size := by omega
      by_cases h10 : 10 < s.size
      · as_aux_lemma =>
        have hd : (10 : Int) < (s.size : Int) := by omega
        have hdd := decide_eq_true hd
        have HX := Lib.hid (show b = true from HB.out.2 (.inr (.inl (by rw [HL.out]; exact h10))))
        go_wp2_with fail
        go_meet
        case rel => exact ⟨by rw [HX.out] <;> rfl, rfl⟩
      · have hd : ¬ ((10 : Int) < (s.size : Int)) := by omega
        have hdd := decide_eq_false hd
        by_cases h1 : 1 < s.size
        · have hi1 : (1 : Int) < (s.size : Int) := by omega
          have hi1d := decide_eq_true hi1
          have hh : s.data.toList.head? = some s[0] := by
            have := byte_at s h0n
            rw [← this, List.head?_eq_getElem?]
          by_cases h48 : s[0] = 48
          · as_aux_lemma =>
            have HX := Lib.hid (show b = true from HB.out.2 (.inr (.inr ⟨by rw [HL.out]; exact h1, by rw [hh, h48]⟩)))
            have hb48 : ((s[0].toNat : Int) == 48) = true := by rw [h48]; rfl
            clear hh h48
            go_wp2_with fail
            go_meet
            case rel => exact ⟨by rw [HX.out] <;> rfl, rfl⟩
          · as_aux_lemma =>
            have hn48 : s[0].toNat ≠ 48 := fun e => h48 (UInt8.toNat_inj.1 (by rw [e]; rfl))
            have HX := Lib.hid (show b = false from Bool.eq_false_iff.2 fun e => by
              rcases HB.out.1 e with k | k | ⟨k1, k2⟩
              · rw [← HL.out, k] at h0; exact h0 rfl
              · rw [HL.out] at k; omega
              · rw [hh] at k2; exact h48 (Option.some.inj k2))
            have hb48 : ((s[0].toNat : Int) == 48) = false := by rw [beq_eq_false_iff_ne]; omega
            clear hh h48
            go_wp2_with fail
            go_meet
            case rel => exact ⟨by rw [HX.out] <;> rfl, rfl⟩
        · as_aux_lemma =>
          have hi1 : ¬ ((1 : Int) < (s.size : Int)) := by omega
          have hi1d := decide_eq_false hi1
          have HX := Lib.hid (show b = false from Bool.eq_false_iff.2 fun e => by
            rcases HB.out.1 e with k | k | ⟨k1, k2⟩
            · rw [← HL.out, k] at h0; exact h0 rfl
            · rw [HL.out] at k; omega
            · rw [HL.out] at k1; omega)
          go_wp2_with fail
          go_meet
          case rel => exact ⟨by rw [HX.out] <;> rfl, rfl⟩
  case rest =>
    obtain ⟨rfl, rfl⟩ := hcut
    rcases b with _ | _
    · have HNB := Lib.hid (show ¬ badW s.data.toList from fun h => by have := HB.out.2 h; cases this)
      have h10 : s.size ≤ 10 := by
        rcases Nat.lt_or_ge 10 s.size with h | h
        · exact absurd (.inr (.inl (by rw [HL.out]; exact h))) HNB.out
        · exact h
      clear HB
      go_wp2_with fail
      go_loop [4, 5] (fun s4 s5 => ∃ (j n : Nat), j ≤ s.size ∧ s5 = .int .i64 j ∧ s4 = .int .i64 n ∧ numV 0 (s.data.toList.take j) = some n) (fun s4 s5 => s.size - (intOf s5).toNat)
      case atStart => exact ⟨0, 0, Nat.zero_le _, rfl, rfl, rfl⟩
      case round =>
        obtain ⟨j, n, hj, rfl, rfl, hv⟩ := hrel
        have hbd := numV_bound _ 0 n hv
        have hn : n ≤ 9999999999 := by
          have e : (s.data.toList.take j).length ≤ 10 := by rw [List.length_take]; omega
          have := Nat.pow_le_pow_right (show 0 < 10 by decide) e
          omega
        have HV := Lib.hid hv
        clear hv hbd
        by_cases hlt : j < s.size
        · have hj1 : (j : Int) < (s.size : Int) := by omega
          have hj0 : (0 : Int) ≤ (j : Int) := by omega
          have hc8 := u8lt s[j]
          have hg : ∀ h : j < s.data.toList.length, s.data.toList[j]'h = s[j] := fun h => by
            have := byte_at s hlt
            rw [List.getElem?_eq_getElem h] at this
            exact Option.some.inj this
          have HT := Lib.hid (numV_take (show j < s.data.toList.length by rw [HL.out]; exact hlt) HV.out)
          have HS := Lib.hid (numV_stop (show j < s.data.toList.length by rw [HL.out]; exact hlt) HV.out)
          rw [hg] at HT HS
          have hlo : s[j] < 48 ↔ s[j].toNat < 48 := UInt8.lt_iff_toNat_lt
          have hhi : 57 < s[j] ↔ 57 < s[j].toNat := UInt8.lt_iff_toNat_lt
          by_cases h1 : s[j].toNat < 48
          · as_aux_lemma =>
            have h1i : (s[j].toNat : Int) < 48 := by omega
            have h1d := decide_eq_true h1i
            have HR := Lib.hid (show numR s.data.toList = (0, false) from numR_none (by rw [numW_ok HNB.out]; exact HS.out (.inl (hlo.2 h1))))
            clear hlo hhi hg h1
            go_wp2_with fail
            go_ret2
            exact ⟨by rw [HR.out] <;> rfl, rfl⟩
          · have h1i : ¬ ((s[j].toNat : Int) < 48) := by omega
            have h1d := decide_eq_false h1i
            by_cases h2 : 57 < s[j].toNat
            · as_aux_lemma =>
              have h2i : (57 : Int) < (s[j].toNat : Int) := by omega
              have h2d := decide_eq_true h2i
              have HR := Lib.hid (show numR s.data.toList = (0, false) from numR_none (by rw [numW_ok HNB.out]; exact HS.out (.inr (hhi.2 h2))))
              clear hlo hhi hg h1 h2
              go_wp2_with fail
              go_ret2
              exact ⟨by rw [HR.out] <;> rfl, rfl⟩
            · as_aux_lemma =>
              have h2i : ¬ ((57 : Int) < (s[j].toNat : Int)) := by omega
              have h2d := decide_eq_false h2i
              have hge : (48 : Int) ≤ (s[j].toNat : Int) := by omega
              have hle : (s[j].toNat : Int) ≤ 57 := by omega
              have hw8 : IntKind.u8.wrap ((s[j].toNat : Int) - 48) = (s[j].toNat : Int) - 48 := wrap8 _ (by omega) (by omega)
              have HV2 := Lib.hid (show numV 0 (s.data.toList.take (j + 1)) = some (10 * n + (s[j].toNat - 48)) by
                rw [HT.out, if_neg (by rintro (k | k); exact h1 (hlo.1 k); exact h2 (hhi.1 k))])
              clear hlo hhi hg h1 h2
              go_wp2_with fail
              go_round
              case rel => exact ⟨j + 1, 10 * n + (s[j].toNat - 48), by omega, by go_num, by first | go_num | (congr 1; omega), HV2.out⟩
              case measure => simp [intOf]; omega
        · obtain rfl : j = s.size := by omega
          have hlt1 : ¬ ((s.size : Int) < (s.size : Int)) := by omega
          have HR := Lib.hid (show numR s.data.toList = ((n : Int), true) from numR_some (by
            rw [numW_ok HNB.out]
            have := HV.out
            rw [List.take_of_length_le (by rw [HL.out]; exact Nat.le_refl _)] at this
            exact this))
          go_wp2_with fail
          go_ret2
          exact ⟨by rw [HR.out] <;> rfl, rfl⟩
    · have HR := Lib.hid (show numR s.data.toList = (0, false) from numR_none (numW_bad (HB.out.1 rfl)))
      go_wp2_with fail
      go_ret2
      exact ⟨by rw [HR.out] <;> rfl, rfl⟩
end Go.Proofs.YtdfkbahlngijcaaDoor

namespace Go.Proofs.YtdfkbahlngijcaaDoor
open Go.RowKit
set_option linter.unusedVariables false

theorem halfC2 : ∀ n : Nat, n < 256 → Lib.indexByte [48, 49, 50, 51, 52, 53, 54, 55, 56, 57, 97, 98, 99, 100, 101, 102] (UInt8.ofNat n) = (match halfP (UInt8.ofNat n) with | some x => (x : Int) | none => -1) := by decide +kernel
/-- half a byte, or -1 -/
def halfI (c : UInt8) : Int := match halfP c with | some x => (x : Int) | none => -1
theorem half_index2 (c : UInt8) : Lib.indexByte [48, 49, 50, 51, 52, 53, 54, 55, 56, 57, 97, 98, 99, 100, 101, 102] c = halfI c := by
  have := halfC2 c.toNat (u8lt c)
  rwa [UInt8.ofNat_toNat] at this
theorem indexHex (c : UInt8) (w : World) : Calls Tryd.prog 108 #[.string ⟨#[48, 49, 50, 51, 52, 53, 54, 55, 56, 57, 97, 98, 99, 100, 101, 102]⟩, .int .u8 c.toNat] w fun e w' => e = .returned (.int .i64 (halfI c)) ∧ w = w' := by
  refine (Tryd.strings_IndexByte ⟨#[48, 49, 50, 51, 52, 53, 54, 55, 56, 57, 97, 98, 99, 100, 101, 102]⟩ c.toNat w).mono ?_
  rintro e w' ⟨rfl, rfl⟩
  refine ⟨?_, rfl⟩
  rw [← half_index2, show ((c.toNat : Int).toNat.toUInt8) = c from UInt8.ofNat_toNat]
theorem halfI_some {c : UInt8} {x : Nat} (h : halfP c = some x) : halfI c = x ∧ x < 16 := ⟨by unfold halfI; rw [h], (half_some _ _ h).1⟩
theorem halfI_none {c : UInt8} (h : halfP c = none) : halfI c = -1 := by unfold halfI; rw [h]
theorem or16b : ∀ x : Nat, x < 16 → ∀ y : Nat, y < 16 → bits BinOp.or IntKind.i64 ((x : Int) * 16) (y : Int) = ((16 * x + y : Nat) : Int) := by decide +kernel
theorem byteCells_app2 (l m : List UInt8) : Lib.byteCells l ++ Lib.byteCells m = Lib.byteCells (l ++ m) := by simp [Lib.byteCells]
theorem hex_two2 {wd : List UInt8} {t : List UInt8} {j : Nat} (hj : j + 1 < wd.length) {x y : Nat} (hx : halfP wd[j] = some x) (hy : halfP wd[j + 1] = some y) (h : hexP wd = (hexP (wd.drop j)).map (t ++ ·)) :
    hexP wd = (hexP (wd.drop (j + 2))).map ((t ++ [UInt8.ofNat (16 * x + y)]) ++ ·) := by
  have hd : wd.drop j = wd[j] :: wd[j + 1] :: wd.drop (j + 2) := by
    rw [List.drop_eq_getElem_cons (by omega), List.drop_eq_getElem_cons (by omega)]
  rw [h, hd]
  show Option.map _ (match halfP wd[j], halfP wd[j + 1] with
    | some x, some y => (hexP (wd.drop (j + 2))).map (UInt8.ofNat (16 * x + y) :: ·)
    | _, _ => none) = _
  rw [hx, hy]
  show Option.map _ (Option.map _ _) = _
  rw [Option.map_map]
  congr 1
  funext l
  simp
theorem hex_bad2 {wd : List UInt8} {t : List UInt8} {j : Nat} (hj : j + 1 < wd.length) (hx : halfP wd[j] = none ∨ halfP wd[j + 1] = none) (h : hexP wd = (hexP (wd.drop j)).map (t ++ ·)) : hexP wd = none := by
  have hd : wd.drop j = wd[j] :: wd[j + 1] :: wd.drop (j + 2) := by
    rw [List.drop_eq_getElem_cons (by omega), List.drop_eq_getElem_cons (by omega)]
  rw [h, hd]
  show Option.map _ (match halfP wd[j], halfP wd[j + 1] with
    | some x, some y => (hexP (wd.drop (j + 2))).map (UInt8.ofNat (16 * x + y) :: ·)
    | _, _ => none) = _
  rcases hx with hx | hx
  · rw [hx]; rfl
  · rw [hx]; rcases halfP wd[j] <;> rfl
theorem hexP_odd : ∀ (n : Nat) (l : List UInt8), l.length = 2 * n + 1 → hexP l = none
  | 0, l, h => by
    rcases l with _ | ⟨a, _ | ⟨b, l⟩⟩
    · simp at h
    · rfl
    · simp at h
  | n + 1, l, h => by
    rcases l with _ | ⟨a, _ | ⟨b, l⟩⟩
    · simp at h
    · simp at h
    · show (match halfP a, halfP b with
        | some x, some y => (hexP l).map (UInt8.ofNat (16 * x + y) :: ·)
        | _, _ => none) = none
      rw [hexP_odd n l (by simp at h; omega)]
      rcases halfP a <;> rcases halfP b <;> rfl
/-- what unquote gives -/
def unqR (l : List UInt8) : List UInt8 × Bool := match unqL l with | some t => (t, true) | none => ([], false)
theorem unqR_some {l t : List UInt8} (h : unqL l = some t) : unqR l = (t, true) := by unfold unqR; rw [h]
theorem unqR_none {l : List UInt8} (h : unqL l = none) : unqR l = ([], false) := by unfold unqR; rw [h]
theorem unqL_head {l : List UInt8} (h : ∀ r, l ≠ 43 :: r) : unqL l = none := by
  unfold unqL
  split
  · rename_i r; exact absurd rfl (h r)
  · rfl
theorem unqL_even {l : List UInt8} {n : Nat} (h : l.length = 2 * n) : unqL l = none := by
  unfold unqL
  split
  · rename_i r
    simp at h
    exact hexP_odd (n - 1) r (by omega)
  · rfl
theorem str_cons (s : ByteArray) (h : 0 < s.size) : s.data.toList = s[0] :: s.data.toList.drop 1 := by
  have hl : s.data.toList.length = s.size := Array.length_toList ..
  have h0 := byte_at s h
  rcases e : s.data.toList with _ | ⟨c, r⟩
  · rw [e] at hl; simp at hl; omega
  · rw [e] at h0
    rw [← Option.some.inj h0]; rfl
set_option maxRecDepth 100000 in
set_option maxHeartbeats 8000000 in
theorem unquote_any (s : ByteArray) (w : World) (hs : s.size ≤ 1000000000) :
    Calls Tryd.prog 81 #[.string s] w fun e w' => e = .returned (.tuple #[.string ⟨(unqR s.data.toList).1.toArray⟩, .bool (unqR s.data.toList).2]) ∧ Below w.heap.size w w' := by
  obtain ⟨i0, hi0, hz0, hz1, hz2⟩ := info_parts infoU8
  have hlen : s.data.toList.length = s.size := Array.length_toList ..
  have HL := Lib.hid hlen
  clear hlen
  have HB0 := Lib.hid (Below.refl w.heap.size w)
  have htm : Int.tmod (s.size : Int) 2 = (s.size : Int) % 2 := Int.tmod_eq_emod_of_nonneg (by omega)
  by_cases hev : s.size % 2 = 1
  · have h0n : 0 < s.size := by omega
    have hb1 : ((s.size : Int) % 2 == 1) = true := by rw [beq_iff_eq]; omega
    have hb2 : ((s.size : Int) % 2 != 1) = false := by rw [bne, hb1]; rfl
    by_cases h43 : s[0] = 43
    · have hc1 : ((s[0].toNat : Int) == 43) = true := by rw [h43]; rfl
      have hc2 : ((s[0].toNat : Int) != 43) = false := by rw [bne, hc1]; rfl
      have HU := Lib.hid (show unqL s.data.toList = hexP (s.data.toList.drop 1) by rw [str_cons s h0n, h43]; rfl)
      have HAT := Lib.hid (show ∀ j (h : j + 1 < s.size) (h2 : j < (s.data.toList.drop 1).length), (s.data.toList.drop 1)[j]'h2 = s[j + 1]'h from fun j h h2 => by
        have := byte_at s h
        rw [List.getElem_drop]
        rw [List.getElem?_eq_getElem (by rw [HL.out]; exact h)] at this
        have e := Option.some.inj this
        rw [← e]
        congr 1
        omega)
      have HRL := Lib.hid (show (s.data.toList.drop 1).length = s.size - 1 by rw [List.length_drop, HL.out])
      generalize s.data.toList.drop 1 = r at *
      clear h43
      go_enter Tryd.func81, Tryd.ntmps81
      go_wp2_with fail
      go_loopw [4, 5] (fun vb s5 wr => ∃ (t : List UInt8), 2 * t.length + 1 ≤ s.size ∧ s5 = .int .i64 ((2 * t.length + 1 : Nat) : Int) ∧ wr.ownsRow w.heap.size 5 1 vb t.length (Lib.byteCells t) ∧ hexP r = (hexP (r.drop (2 * t.length))).map (t ++ ·) ∧ Below w.heap.size w wr) (fun _ s5 _ => s.size - (intOf s5).toNat)
      case atStart => exact ⟨[], by simp; omega, rfl, World.ownsRow_nil _ _ _ _, by simp, HB0.out⟩
      case round =>
        obtain ⟨t, ht, rfl, hown, hhx, hbr⟩ := hrel
        obtain ⟨m, hm⟩ : ∃ m, m = t.length := ⟨_, rfl⟩
        have HM := Lib.hid hm
        rw [← hm] at ht hown hhx ⊢
        have HOW := Lib.hid hown
        have HHX := Lib.hid hhx
        have HBR := Lib.hid hbr
        have hsz := hbr.size
        clear hown hhx hbr hm
        obtain ⟨i, hi⟩ : ∃ i, i = 2 * m + 1 := ⟨_, rfl⟩
        rw [← hi]
        by_cases hlt : i < s.size
        · obtain ⟨i2, hi2e⟩ : ∃ i2, i2 = i + 1 := ⟨_, rfl⟩
          have hi2 : i2 < s.size := by omega
          have HE2 := Lib.hid (show (i : Int) + 1 = (i2 : Int) by omega)
          have hj1 : (i : Int) < (s.size : Int) := by omega
          have hj0 : (0 : Int) ≤ (i : Int) := by omega
          have hj2 : (i2 : Int) < (s.size : Int) := by omega
          have hj3 : (0 : Int) ≤ (i2 : Int) := by omega
          have hr1 : 2 * m + 1 < r.length := by rw [HRL.out]; omega
          have HA1 := Lib.hid (show r[2 * m]'(by omega) = s[i] from by
            have := HAT.out (2 * m) (by omega) (by omega)
            rw [this]
            congr 1
            omega)
          have HA2 := Lib.hid (show r[2 * m + 1]'hr1 = s[i2] from by
            have := HAT.out (2 * m + 1) (by omega) hr1
            rw [this]
            congr 1
            omega)
          have HN2 := Lib.hid (fun x y (hx : halfP s[i] = some x) (hy : halfP s[i2] = some y) => hex_two2 hr1 (by rw [HA1.out]; exact hx) (by rw [HA2.out]; exact hy) HHX.out)
          have HNB := Lib.hid (fun (hx : halfP s[i] = none ∨ halfP s[i2] = none) => hex_bad2 hr1 (by rw [HA1.out, HA2.out]; exact hx) HHX.out)
          have HI1 := Lib.hid (fun u => indexHex s[i] u)
          have HI2 := Lib.hid (fun u => indexHex s[i2] u)
          have HIM := Lib.hid hi
          clear hi hi2e
          rcases hx : halfP s[i] with _ | x
          · as_aux_lemma =>
            have HR := Lib.hid (show unqR s.data.toList = ([], false) from unqR_none (by rw [HU.out]; exact HNB.out (.inl hx)))
            have hneg : (-1 : Int) < 0 := by decide
            rw [halfI_none hx] at HI1
            clear hx HN2 HNB HA1 HA2
            go_upto_region 7 with (fail)
            refine wp_region_specs (by kernel_rfl) (by decide) (by kernel_rfl) ?_
            simp only [fill, Act.put, List.setIfInBounds_toArray, List.set_cons_zero, List.set_cons_succ, Nat.zero_add, Nat.reduceAdd]
            apply OpsOK.eq
            · intro vs u hb hd
              clear hd
              go_wp2_with fail
              exact ⟨rfl, _, rfl, Below.refl _ _, rfl⟩
            apply OpsOK.eq
            · intro vs u hb hd
              clear hd
              go_wp2_with fail
              exact ⟨rfl, _, rfl, Below.refl _ _, rfl⟩
            apply OpsOK.eq
            · intro vs u hb hd
              simp [Region.binds] at hd
              obtain ⟨e0, e1⟩ := hd
              simp only [e0, e1]
              go_wp2_with fail
              exact ⟨rfl, _, rfl, Below.refl _ _, rfl⟩
            apply OpsOK.eq
            · intro vs u hb hd
              simp [Region.binds] at hd
              have e2 := hd
              clear hd
              simp only [e2]
              go_wp2_with fail
              (refine (HI1.out u).mono ?_; rintro e w5 ⟨rfl, rfl⟩; go_wp2_with fail; exact ⟨rfl, _, rfl, Below.refl _ _, rfl⟩)
            apply OpsOK.eq
            · intro vs u hb hd
              clear hd
              go_wp2_with fail
              exact ⟨rfl, _, rfl, Below.refl _ _, rfl⟩
            apply OpsOK.eq
            · intro vs u hb hd
              clear hd
              go_wp2_with fail
              exact ⟨rfl, _, rfl, Below.refl _ _, rfl⟩
            apply OpsOK.eq
            · intro vs u hb hd
              simp [Region.binds] at hd
              have e5 := hd
              clear hd
              simp only [e5]
              go_wp2_with fail
              exact ⟨rfl, _, rfl, Below.refl _ _, rfl⟩
            apply OpsOK.eq
            · intro vs u hb hd
              simp [Region.binds] at hd
              obtain ⟨e4, e6⟩ := hd
              simp only [e4, e6]
              rw [HE2.out]
              go_wp2_with fail
              exact ⟨rfl, _, rfl, Below.refl _ _, rfl⟩
            apply OpsOK.eq
            · intro vs u hb hd
              simp [Region.binds] at hd
              obtain ⟨e7, e3⟩ := hd
              simp only [e7, e3]
              go_wp2_with fail
              (refine (HI2.out u).mono ?_; rintro e w5 ⟨rfl, rfl⟩; go_wp2_with fail; exact ⟨rfl, _, rfl, Below.refl _ _, rfl⟩)
            apply OpsOK.eq
            · intro vs u hb hd
              simp [Region.binds] at hd
              obtain ⟨e3, e8, e0, e1, e2, e3⟩ := hd
              simp only [e3, e8, e0, e1, e2]
              go_wp2_with fail
              exact ⟨rfl, _, rfl, Below.refl _ _, rfl⟩
            apply OpsOK.eq
            · intro vs u hb hd
              simp [Region.binds] at hd
              obtain ⟨e8, e9, e0, e1, e2, e3, e4, e5, e6, e7, e8, e9⟩ := hd
              simp only [e8, e9, e0, e1, e2, e3, e4, e5, e6, e7]
              go_wp2_with fail
              exact ⟨rfl, _, rfl, Below.refl _ _, rfl⟩
            refine OpsOK.done ?_
            intro vs u hbu hS
            have h9 := hS 9 (by decide)
            simp at h9
            simp only [h9]
            clear h9
            have h10 := hS 10 (by decide)
            simp at h10
            simp only [h10]
            clear h10
            clear hS
            go_wp2_with fail
            go_ret2
            exact ⟨by rw [HR.out] <;> rfl, below_two HBR.out hbu⟩
          · obtain ⟨hxi, hx16⟩ := halfI_some hx
            have HX16 := Lib.hid hx16
            clear hx16
            rcases hy : halfP s[i2] with _ | y
            · as_aux_lemma =>
              have HR := Lib.hid (show unqR s.data.toList = ([], false) from unqR_none (by rw [HU.out]; exact HNB.out (.inr hy)))
              have hneg : (-1 : Int) < 0 := by decide
              have HX0D := Lib.hid (decide_eq_false (show ¬ ((x : Int) < 0) by omega))
              rw [hxi] at HI1
              rw [halfI_none hy] at HI2
              clear hx hy hxi HN2 HNB HA1 HA2
              go_upto_region 7 with (fail)
              refine wp_region_specs (by kernel_rfl) (by decide) (by kernel_rfl) ?_
              simp only [fill, Act.put, List.setIfInBounds_toArray, List.set_cons_zero, List.set_cons_succ, Nat.zero_add, Nat.reduceAdd]
              apply OpsOK.eq
              · intro vs u hb hd
                clear hd
                go_wp2_with fail
                exact ⟨rfl, _, rfl, Below.refl _ _, rfl⟩
              apply OpsOK.eq
              · intro vs u hb hd
                clear hd
                go_wp2_with fail
                exact ⟨rfl, _, rfl, Below.refl _ _, rfl⟩
              apply OpsOK.eq
              · intro vs u hb hd
                simp [Region.binds] at hd
                obtain ⟨e0, e1⟩ := hd
                simp only [e0, e1]
                go_wp2_with fail
                exact ⟨rfl, _, rfl, Below.refl _ _, rfl⟩
              apply OpsOK.eq
              · intro vs u hb hd
                simp [Region.binds] at hd
                have e2 := hd
                clear hd
                simp only [e2]
                go_wp2_with fail
                (refine (HI1.out u).mono ?_; rintro e w5 ⟨rfl, rfl⟩; go_wp2_with fail; exact ⟨rfl, _, rfl, Below.refl _ _, rfl⟩)
              apply OpsOK.eq
              · intro vs u hb hd
                clear hd
                go_wp2_with fail
                exact ⟨rfl, _, rfl, Below.refl _ _, rfl⟩
              apply OpsOK.eq
              · intro vs u hb hd
                clear hd
                go_wp2_with fail
                exact ⟨rfl, _, rfl, Below.refl _ _, rfl⟩
              apply OpsOK.eq
              · intro vs u hb hd
                simp [Region.binds] at hd
                have e5 := hd
                clear hd
                simp only [e5]
                go_wp2_with fail
                exact ⟨rfl, _, rfl, Below.refl _ _, rfl⟩
              apply OpsOK.eq
              · intro vs u hb hd
                simp [Region.binds] at hd
                obtain ⟨e4, e6⟩ := hd
                simp only [e4, e6]
                rw [HE2.out]
                go_wp2_with fail
                exact ⟨rfl, _, rfl, Below.refl _ _, rfl⟩
              apply OpsOK.eq
              · intro vs u hb hd
                simp [Region.binds] at hd
                obtain ⟨e7, e3⟩ := hd
                simp only [e7, e3]
                go_wp2_with fail
                (refine (HI2.out u).mono ?_; rintro e w5 ⟨rfl, rfl⟩; go_wp2_with fail; exact ⟨rfl, _, rfl, Below.refl _ _, rfl⟩)
              apply OpsOK.eq
              · intro vs u hb hd
                simp [Region.binds] at hd
                obtain ⟨e3, e8, e0, e1, e2, e3⟩ := hd
                simp only [e3, e8, e0, e1, e2]
                go_wp2_with fail
                exact ⟨rfl, _, rfl, Below.refl _ _, rfl⟩
              apply OpsOK.eq
              · intro vs u hb hd
                simp [Region.binds] at hd
                obtain ⟨e8, e9, e0, e1, e2, e3, e4, e5, e6, e7, e8, e9⟩ := hd
                simp only [e8, e9, e0, e1, e2, e3, e4, e5, e6, e7]
                go_wp2_with fail
                exact ⟨rfl, _, rfl, Below.refl _ _, rfl⟩
              refine OpsOK.done ?_
              intro vs u hbu hS
              have h9 := hS 9 (by decide)
              simp at h9
              simp only [h9]
              clear h9
              have h10 := hS 10 (by decide)
              simp at h10
              simp only [h10]
              clear h10
              clear hS
              have hx0d := HX0D.out
              go_wp2_with fail
              go_ret2
              exact ⟨by rw [HR.out] <;> rfl, below_two HBR.out hbu⟩
            · as_aux_lemma =>
              obtain ⟨hyi, hy16⟩ := halfI_some hy
              have HNX := Lib.hid (HN2.out x y hx hy)
              obtain ⟨v, hv⟩ : ∃ v, v = 16 * x + y := ⟨_, rfl⟩
              have HOR := Lib.hid (show bits BinOp.or IntKind.i64 ((x : Int) * 16) (y : Int) = (v : Int) by rw [hv]; exact or16b x HX16.out y hy16)
              have HSH := Lib.hid (show wrap64 ((x : Int) * 16) = (x : Int) * 16 by
                have := HX16.out
                unfold wrap64
                omega)
              have HMD := Lib.hid (show (v : Int) % 256 = (v : Int) by have := HX16.out; omega)
              have HX0D := Lib.hid (decide_eq_false (show ¬ ((x : Int) < 0) by omega))
              have HY0D := Lib.hid (decide_eq_false (show ¬ ((y : Int) < 0) by omega))
              have HVL := Lib.hid (show v < 256 by have := HX16.out; omega)
              rw [← hv] at HNX
              clear hy16 hv
              rw [hxi] at HI1
              rw [hyi] at HI2
              clear hx hy hxi hyi HN2 HNB HA1 HA2
              go_upto_region 7 with (fail)
              refine wp_region_specs (by kernel_rfl) (by decide) (by kernel_rfl) ?_
              simp only [fill, Act.put, List.setIfInBounds_toArray, List.set_cons_zero, List.set_cons_succ, Nat.zero_add, Nat.reduceAdd]
              apply OpsOK.eq
              · intro vs u hb hd
                clear hd
                go_wp2_with fail
                exact ⟨rfl, _, rfl, Below.refl _ _, rfl⟩
              apply OpsOK.eq
              · intro vs u hb hd
                clear hd
                go_wp2_with fail
                exact ⟨rfl, _, rfl, Below.refl _ _, rfl⟩
              apply OpsOK.eq
              · intro vs u hb hd
                simp [Region.binds] at hd
                obtain ⟨e0, e1⟩ := hd
                simp only [e0, e1]
                go_wp2_with fail
                exact ⟨rfl, _, rfl, Below.refl _ _, rfl⟩
              apply OpsOK.eq
              · intro vs u hb hd
                simp [Region.binds] at hd
                have e2 := hd
                clear hd
                simp only [e2]
                go_wp2_with fail
                (refine (HI1.out u).mono ?_; rintro e w5 ⟨rfl, rfl⟩; go_wp2_with fail; exact ⟨rfl, _, rfl, Below.refl _ _, rfl⟩)
              apply OpsOK.eq
              · intro vs u hb hd
                clear hd
                go_wp2_with fail
                exact ⟨rfl, _, rfl, Below.refl _ _, rfl⟩
              apply OpsOK.eq
              · intro vs u hb hd
                clear hd
                go_wp2_with fail
                exact ⟨rfl, _, rfl, Below.refl _ _, rfl⟩
              apply OpsOK.eq
              · intro vs u hb hd
                simp [Region.binds] at hd
                have e5 := hd
                clear hd
                simp only [e5]
                go_wp2_with fail
                exact ⟨rfl, _, rfl, Below.refl _ _, rfl⟩
              apply OpsOK.eq
              · intro vs u hb hd
                simp [Region.binds] at hd
                obtain ⟨e4, e6⟩ := hd
                simp only [e4, e6]
                rw [HE2.out]
                go_wp2_with fail
                exact ⟨rfl, _, rfl, Below.refl _ _, rfl⟩
              apply OpsOK.eq
              · intro vs u hb hd
                simp [Region.binds] at hd
                obtain ⟨e7, e3⟩ := hd
                simp only [e7, e3]
                go_wp2_with fail
                (refine (HI2.out u).mono ?_; rintro e w5 ⟨rfl, rfl⟩; go_wp2_with fail; exact ⟨rfl, _, rfl, Below.refl _ _, rfl⟩)
              apply OpsOK.eq
              · intro vs u hb hd
                simp [Region.binds] at hd
                obtain ⟨e3, e8, e0, e1, e2, e3⟩ := hd
                simp only [e3, e8, e0, e1, e2]
                go_wp2_with fail
                exact ⟨rfl, _, rfl, Below.refl _ _, rfl⟩
              apply OpsOK.eq
              · intro vs u hb hd
                simp [Region.binds] at hd
                obtain ⟨e8, e9, e0, e1, e2, e3, e4, e5, e6, e7, e8, e9⟩ := hd
                simp only [e8, e9, e0, e1, e2, e3, e4, e5, e6, e7]
                go_wp2_with fail
                exact ⟨rfl, _, rfl, Below.refl _ _, rfl⟩
              refine OpsOK.done ?_
              intro vs u hbu hS
              have h9 := hS 9 (by decide)
              simp at h9
              simp only [h9]
              clear h9
              have h10 := hS 10 (by decide)
              simp at h10
              simp only [h10]
              clear h10
              clear hS
              have HO5 := Lib.hid (own_below HOW.out hbu)
              have HB5 := Lib.hid (below_two HBR.out hbu)
              have hsz5 := HB5.out.size
              have hx0d := HX0D.out
              have hy0d := HY0D.out
              have hor := HOR.out
              have hsh := HSH.out
              have hmd := HMD.out
              have hml : m ≤ 1000000000 := by have := HIM.out; omega
              clear hbu HOW HX0D HY0D HOR HSH HMD
              go_wp2_with (at_builtin; refine wpList_append_lies _ rfl _ _ 73 rfl w.heap.size 5 i0 (.int .u8 0) 1 1 Tryd.underlying73 hi0 hz0 hz1 hz2 rfl (by decide) _ m _ rfl (HO5.out.alloc _) ⟨u.heap.size, 0, none⟩ 1 1 [_] rfl rfl (World.news_of_block (cs := #[_]) (t := 5) (fr := (0, 0)) (heap_alloc_new u _)) (by simp [Value.oneCell']) (by omega) (by unfold maxLen; omega) (by omega) (by simp; omega) (u.heap.size + 1) (by simp) ?c1)
              case c1 =>
                intro gg cap w6 hown6 hgrow6 hat6 hlt6
                have hval : ((UInt8.ofNat v).toNat : Int) = (v : Int) := by
                  have := HVL.out
                  rw [UInt8.toNat_ofNat']
                  omega
                have HO6 := Lib.hid (show w6.ownsRow w.heap.size 5 1 (.slice (some ⟨gg, 0, none⟩) (m + 1) cap) (t ++ [UInt8.ofNat v]).length (Lib.byteCells (t ++ [UInt8.ofNat v])) by
                  rw [← byteCells_app2, List.length_append, ← HM.out]
                  show w6.ownsRow w.heap.size 5 1 _ (m + 1) (Lib.byteCells t ++ [.int .u8 ((UInt8.ofNat v).toNat : Int)])
                  rw [hval]
                  exact hown6)
                have HB6 := Lib.hid ((HB5.out.alloc hsz5 _).grown hgrow6 (by simp; omega) fun q hq => (own_typ1 HO5.out hq).1)
                have HTL := Lib.hid (show (t ++ [UInt8.ofNat v]).length = m + 1 by rw [List.length_append, ← HM.out]; rfl)
                clear hown6 hgrow6 hat6 hlt6 hval hor hsh hmd HO5 HB5 hx0d hy0d
                go_wp2_with fail
                go_roundw
                case rel =>
                  refine ⟨t ++ [UInt8.ofNat v], by rw [HTL.out]; have := HIM.out; have := HE2.out; omega, by (rw [HTL.out]; have := HIM.out; congr 1; omega), by rw [HTL.out]; have := HO6.out; rwa [HTL.out] at this, by rw [HTL.out]; exact HNX.out, HB6.out⟩
                case measure => simp [intOf]; omega
        · have hie : i = s.size := by omega
          have hlt1 : ¬ ((i : Int) < (s.size : Int)) := by omega
          have HR := Lib.hid (show unqR s.data.toList = (t, true) from unqR_some (by
            rw [HU.out, HHX.out, List.drop_eq_nil_of_le (by rw [HRL.out]; omega)]
            show some (t ++ []) = some t
            rw [List.append_nil]))
          obtain ⟨ao1, cap1, rfl, hconv⟩ := own_conv HOW.out HM.out.symm
          clear hi hie HOW
          go_wp2_with fail
          go_ret2
          exact ⟨by rw [HR.out] <;> rfl, HBR.out⟩
    · have h43n : s[0].toNat ≠ 43 := fun e => h43 (UInt8.toNat_inj.1 (by rw [e]; rfl))
      have hc1 : ((s[0].toNat : Int) == 43) = false := by rw [beq_eq_false_iff_ne]; omega
      have hc2 : ((s[0].toNat : Int) != 43) = true := by rw [bne, hc1]; rfl
      have HR := Lib.hid (show unqR s.data.toList = ([], false) from unqR_none (unqL_head fun r e => by
        rw [str_cons s h0n] at e
        injection e with e _
        exact h43 e))
      clear h43 h43n
      go_enter Tryd.func81, Tryd.ntmps81
      go_wp2_with fail
      go_ret2
      exact ⟨by rw [HR.out] <;> rfl, HB0.out⟩
  · have hb1 : ((s.size : Int) % 2 == 1) = false := by rw [beq_eq_false_iff_ne]; omega
    have hb2 : ((s.size : Int) % 2 != 1) = true := by rw [bne, hb1]; rfl
    have HR := Lib.hid (show unqR s.data.toList = ([], false) from unqR_none (unqL_even (n := s.size / 2) (by rw [HL.out]; omega)))
    clear hev
    go_enter Tryd.func81, Tryd.ntmps81
    go_wp2_with fail
    go_ret2
    exact ⟨by rw [HR.out] <;> rfl, HB0.out⟩
end Go.Proofs.YtdfkbahlngijcaaDoor

namespace Go.Proofs.YtdfkbahlngijcaaDoor
open Go.RowKit
set_option linter.unusedVariables false

def digR (c : UInt8) : Int × Bool := match halfP c with | some x => ((x : Int), true) | none => (0, false)
theorem digR_some {c : UInt8} {x : Nat} (h : halfP c = some x) : digR c = ((x : Int), true) := by unfold digR; rw [h]
theorem digR_none {c : UInt8} (h : halfP c = none) : digR c = (0, false) := by unfold digR; rw [h]
set_option maxRecDepth 100000 in
set_option maxHeartbeats 2000000 in
theorem digit_any (c : UInt8) (w : World) : Calls Tryd.prog 85 #[.int .u8 c.toNat] w fun e w' => e = .returned (.tuple #[.int .u8 (digR c).1, .bool (digR c).2]) ∧ w = w' := by
  have hb := u8lt c
  obtain ⟨n, hn⟩ : ∃ n, n = c.toNat := ⟨_, rfl⟩
  have HE := Lib.hid (show halfP c = if 48 ≤ n ∧ n ≤ 57 then some (n - 48) else if 97 ≤ n ∧ n ≤ 102 then some (n - 87) else none by
    rw [hn]; unfold halfP; simp only [UInt8.le_iff_toNat_le]; rfl)
  rw [← hn] at hb ⊢
  clear hn
  by_cases h1 : 48 ≤ n ∧ n ≤ 57
  · have HV := Lib.hid (show digR c = ((n : Int) - 48, true) by rw [digR_some (by rw [HE.out, if_pos h1])]; congr 1; omega)
    have hW : IntKind.u8.wrap ((n : Int) - 48) = (n : Int) - 48 := wrap8 _ (by omega) (by omega)
    have g1 : (48 : Int) ≤ (n : Int) := by omega
    have g2 : (n : Int) ≤ 57 := by omega
    clear h1
    go_enter Tryd.func85, Tryd.ntmps85
    go_wp2_with fail
    go_ret2
    exact ⟨by rw [HV.out] <;> rfl, rfl⟩
  · by_cases h2 : 97 ≤ n ∧ n ≤ 102
    · have HV := Lib.hid (show digR c = ((n : Int) - 97 + 10, true) by rw [digR_some (by rw [HE.out, if_neg h1, if_pos h2])]; congr 1; omega)
      have hW : IntKind.u8.wrap ((n : Int) - 97) = (n : Int) - 97 := wrap8 _ (by omega) (by omega)
      have hW2 : IntKind.u8.wrap ((n : Int) - 97 + 10) = (n : Int) - 97 + 10 := wrap8 _ (by omega) (by omega)
      have g1 : (48 : Int) ≤ (n : Int) := by omega
      have g2 : ¬ ((n : Int) ≤ 57) := by omega
      have g3 : (97 : Int) ≤ (n : Int) := by omega
      have g4 : (n : Int) ≤ 102 := by omega
      clear h1 h2
      go_enter Tryd.func85, Tryd.ntmps85
      go_wp2_with fail
      go_ret2
      exact ⟨by rw [HV.out] <;> rfl, rfl⟩
    · have HV := Lib.hid (show digR c = (0, false) from digR_none (by rw [HE.out, if_neg h1, if_neg h2]))
      by_cases g1 : (48 : Int) ≤ (n : Int)
      · have g2 : ¬ ((n : Int) ≤ 57) := by omega
        by_cases g3 : (97 : Int) ≤ (n : Int)
        · have g4 : ¬ ((n : Int) ≤ 102) := by omega
          clear h1 h2
          go_enter Tryd.func85, Tryd.ntmps85
          go_wp2_with fail
          go_ret2
          exact ⟨by rw [HV.out] <;> rfl, rfl⟩
        · clear h1 h2
          go_enter Tryd.func85, Tryd.ntmps85
          go_wp2_with fail
          go_ret2
          exact ⟨by rw [HV.out] <;> rfl, rfl⟩
      · have g3 : ¬ ((97 : Int) ≤ (n : Int)) := by omega
        clear h1 h2
        go_enter Tryd.func85, Tryd.ntmps85
        go_wp2_with fail
        go_ret2
        exact ⟨by rw [HV.out] <;> rfl, rfl⟩
set_option maxRecDepth 100000 in
set_option maxHeartbeats 8000000 in
theorem reftext_any (s : ByteArray) (w : World) (hs : s.size ≤ 1000000000) :
    Calls Tryd.prog 60 #[.string s] w fun e w' => e = .returned (.tuple #[.string ⟨(unqR s.data.toList).1.toArray⟩, .bool (unqR s.data.toList).2]) ∧ Below w.heap.size w w' := by
  obtain ⟨i0, hi0, hz0, hz1, hz2⟩ := info_parts infoU8
  have hlen : s.data.toList.length = s.size := Array.length_toList ..
  have HL := Lib.hid hlen
  clear hlen
  have HB0 := Lib.hid (Below.refl w.heap.size w)
  have htm : Int.tmod (s.size : Int) 2 = (s.size : Int) % 2 := Int.tmod_eq_emod_of_nonneg (by omega)
  by_cases hev : s.size % 2 = 1
  · have h0n : 0 < s.size := by omega
    have hb1 : ((s.size : Int) % 2 == 1) = true := by rw [beq_iff_eq]; omega
    have hb2 : ((s.size : Int) % 2 != 1) = false := by rw [bne, hb1]; rfl
    by_cases h43 : s[0] = 43
    · have hc1 : ((s[0].toNat : Int) == 43) = true := by rw [h43]; rfl
      have hc2 : ((s[0].toNat : Int) != 43) = false := by rw [bne, hc1]; rfl
      have HU := Lib.hid (show unqL s.data.toList = hexP (s.data.toList.drop 1) by rw [str_cons s h0n, h43]; rfl)
      have HAT := Lib.hid (show ∀ j (h : j + 1 < s.size) (h2 : j < (s.data.toList.drop 1).length), (s.data.toList.drop 1)[j]'h2 = s[j + 1]'h from fun j h h2 => by
        have := byte_at s h
        rw [List.getElem_drop]
        rw [List.getElem?_eq_getElem (by rw [HL.out]; exact h)] at this
        have e := Option.some.inj this
        rw [← e]
        congr 1
        omega)
      have HRL := Lib.hid (show (s.data.toList.drop 1).length = s.size - 1 by rw [List.length_drop, HL.out])
      generalize s.data.toList.drop 1 = r at *
      clear h43
      go_enter Tryd.func60, Tryd.ntmps60
      go_wp2_with fail
      go_loopw [4, 5] (fun vb s5 wr => ∃ (t : List UInt8), 2 * t.length + 1 ≤ s.size ∧ s5 = .int .i64 ((2 * t.length + 1 : Nat) : Int) ∧ wr.ownsRow w.heap.size 5 1 vb t.length (Lib.byteCells t) ∧ hexP r = (hexP (r.drop (2 * t.length))).map (t ++ ·) ∧ Below w.heap.size w wr) (fun _ s5 _ => s.size - (intOf s5).toNat)
      case atStart => exact ⟨[], by simp; omega, rfl, World.ownsRow_nil _ _ _ _, by simp, HB0.out⟩
      case round =>
        obtain ⟨t, ht, rfl, hown, hhx, hbr⟩ := hrel
        obtain ⟨m, hm⟩ : ∃ m, m = t.length := ⟨_, rfl⟩
        have HM := Lib.hid hm
        rw [← hm] at ht hown hhx ⊢
        have HOW := Lib.hid hown
        have HHX := Lib.hid hhx
        have HBR := Lib.hid hbr
        have hsz := hbr.size
        clear hown hhx hbr hm
        obtain ⟨i, hi⟩ : ∃ i, i = 2 * m + 1 := ⟨_, rfl⟩
        rw [← hi]
        by_cases hlt : i < s.size
        · obtain ⟨i2, hi2e⟩ : ∃ i2, i2 = i + 1 := ⟨_, rfl⟩
          have hi2 : i2 < s.size := by omega
          have HE2 := Lib.hid (show (i : Int) + 1 = (i2 : Int) by omega)
          have hj1 : (i : Int) < (s.size : Int) := by omega
          have hj0 : (0 : Int) ≤ (i : Int) := by omega
          have hj2 : (i2 : Int) < (s.size : Int) := by omega
          have hj3 : (0 : Int) ≤ (i2 : Int) := by omega
          have hr1 : 2 * m + 1 < r.length := by rw [HRL.out]; omega
          have HA1 := Lib.hid (show r[2 * m]'(by omega) = s[i] from by
            have := HAT.out (2 * m) (by omega) (by omega)
            rw [this]
            congr 1
            omega)
          have HA2 := Lib.hid (show r[2 * m + 1]'hr1 = s[i2] from by
            have := HAT.out (2 * m + 1) (by omega) hr1
            rw [this]
            congr 1
            omega)
          have HN2 := Lib.hid (fun x y (hx : halfP s[i] = some x) (hy : halfP s[i2] = some y) => hex_two2 hr1 (by rw [HA1.out]; exact hx) (by rw [HA2.out]; exact hy) HHX.out)
          have HNB := Lib.hid (fun (hx : halfP s[i] = none ∨ halfP s[i2] = none) => hex_bad2 hr1 (by rw [HA1.out, HA2.out]; exact hx) HHX.out)
          have HI1 := Lib.hid (fun u => digit_any s[i] u)
          have HI2 := Lib.hid (fun u => digit_any s[i2] u)
          have HIM := Lib.hid hi
          clear hi hi2e
          rcases hx : halfP s[i] with _ | x
          · as_aux_lemma =>
            have HR := Lib.hid (show unqR s.data.toList = ([], false) from unqR_none (by rw [HU.out]; exact HNB.out (.inl hx)))
            rw [digR_none hx] at HI1
            have he2 := HE2.out
            clear hx HN2 HNB HA1 HA2
            go_wp2_with fail
            refine (HI1.out _).mono ?_; rintro e w3 ⟨rfl, rfl⟩
            go_wp2_with fail
            refine (HI2.out _).mono ?_; rintro e w3 ⟨rfl, rfl⟩
            go_wp2_with fail
            go_ret2
            exact ⟨by rw [HR.out] <;> rfl, HBR.out⟩
          · have HX16 := Lib.hid (half_some _ _ hx).1
            rcases hy : halfP s[i2] with _ | y
            · as_aux_lemma =>
              have HR := Lib.hid (show unqR s.data.toList = ([], false) from unqR_none (by rw [HU.out]; exact HNB.out (.inr hy)))
              rw [digR_some hx] at HI1
              rw [digR_none hy] at HI2
              have he2 := HE2.out
              clear hx hy HN2 HNB HA1 HA2
              go_wp2_with fail
              refine (HI1.out _).mono ?_; rintro e w3 ⟨rfl, rfl⟩
              go_wp2_with fail
              refine (HI2.out _).mono ?_; rintro e w3 ⟨rfl, rfl⟩
              go_wp2_with fail
              go_ret2
              exact ⟨by rw [HR.out] <;> rfl, HBR.out⟩
            · as_aux_lemma =>
              have hy16 := (half_some _ _ hy).1
              have HNX := Lib.hid (HN2.out x y hx hy)
              obtain ⟨v, hv⟩ : ∃ v, v = 16 * x + y := ⟨_, rfl⟩
              have HVE := Lib.hid (show (x : Int) * 16 + (y : Int) = (v : Int) by omega)
              have HW1 := Lib.hid (show IntKind.u8.wrap ((x : Int) * 16) = (x : Int) * 16 from wrap8 _ (by omega) (by have := HX16.out; omega))
              have HW2 := Lib.hid (show IntKind.u8.wrap ((x : Int) * 16 + (y : Int)) = (x : Int) * 16 + (y : Int) from wrap8 _ (by omega) (by have := HX16.out; omega))
              have HVL := Lib.hid (show v < 256 by have := HX16.out; omega)
              have HM1 := Lib.hid (show (x : Int) * 16 % 256 = (x : Int) * 16 by have := HX16.out; omega)
              have HM2 := Lib.hid (show ((x : Int) * 16 + (y : Int)) % 256 = (x : Int) * 16 + (y : Int) by have := HX16.out; omega)
              rw [← hv] at HNX
              clear hy16 hv
              rw [digR_some hx] at HI1
              rw [digR_some hy] at HI2
              have he2 := HE2.out
              clear hx hy HN2 HNB HA1 HA2
              go_wp2_with fail
              refine (HI1.out _).mono ?_; rintro e w3 ⟨rfl, rfl⟩
              go_wp2_with fail
              refine (HI2.out _).mono ?_; rintro e w3 ⟨rfl, rfl⟩
              have hw1 := HW1.out
              have hw2 := HW2.out
              have hmm1 := HM1.out
              have hmm2 := HM2.out
              have hml : m ≤ 1000000000 := by have := HIM.out; omega
              clear he2
              go_wp2_with (at_builtin; refine wpList_append_lies _ rfl _ _ 73 rfl w.heap.size 5 i0 (.int .u8 0) 1 1 Tryd.underlying73 hi0 hz0 hz1 hz2 rfl (by decide) _ m _ rfl (HOW.out.alloc _) ⟨wr.heap.size, 0, none⟩ 1 1 [_] rfl rfl (World.news_of_block (cs := #[_]) (t := 5) (fr := (0, 0)) (heap_alloc_new wr _)) (by simp [Value.oneCell']) (by omega) (by unfold maxLen; omega) (by omega) (by simp; omega) (wr.heap.size + 1) (by simp) ?c1)
              case c1 =>
                intro gg cap w6 hown6 hgrow6 hat6 hlt6
                have hval : ((UInt8.ofNat v).toNat : Int) = (v : Int) := by
                  have := HVL.out
                  rw [UInt8.toNat_ofNat']
                  omega
                have HO6 := Lib.hid (show w6.ownsRow w.heap.size 5 1 (.slice (some ⟨gg, 0, none⟩) (m + 1) cap) (t ++ [UInt8.ofNat v]).length (Lib.byteCells (t ++ [UInt8.ofNat v])) by
                  rw [← byteCells_app2, List.length_append, ← HM.out]
                  show w6.ownsRow w.heap.size 5 1 _ (m + 1) (Lib.byteCells t ++ [.int .u8 ((UInt8.ofNat v).toNat : Int)])
                  rw [hval, ← HVE.out]
                  exact hown6)
                have HB6 := Lib.hid ((HBR.out.alloc hsz _).grown hgrow6 (by simp; omega) fun q hq => (own_typ1 HOW.out hq).1)
                have HTL := Lib.hid (show (t ++ [UInt8.ofNat v]).length = m + 1 by rw [List.length_append, ← HM.out]; rfl)
                clear hown6 hgrow6 hat6 hlt6 hval hw1 hw2 hmm1 hmm2 HOW HBR
                go_wp2_with fail
                go_roundw
                case rel =>
                  refine ⟨t ++ [UInt8.ofNat v], by rw [HTL.out]; have := HIM.out; have := HE2.out; omega, by (rw [HTL.out]; have := HIM.out; congr 1; omega), by rw [HTL.out]; have := HO6.out; rwa [HTL.out] at this, by rw [HTL.out]; exact HNX.out, HB6.out⟩
                case measure => simp [intOf]; omega
        · have hie : i = s.size := by omega
          have hlt1 : ¬ ((i : Int) < (s.size : Int)) := by omega
          have HR := Lib.hid (show unqR s.data.toList = (t, true) from unqR_some (by
            rw [HU.out, HHX.out, List.drop_eq_nil_of_le (by rw [HRL.out]; omega)]
            show some (t ++ []) = some t
            rw [List.append_nil]))
          obtain ⟨ao1, cap1, rfl, hconv⟩ := own_conv HOW.out HM.out.symm
          clear hi hie HOW
          go_wp2_with fail
          go_ret2
          exact ⟨by rw [HR.out] <;> rfl, HBR.out⟩
    · have h43n : s[0].toNat ≠ 43 := fun e => h43 (UInt8.toNat_inj.1 (by rw [e]; rfl))
      have hc1 : ((s[0].toNat : Int) == 43) = false := by rw [beq_eq_false_iff_ne]; omega
      have hc2 : ((s[0].toNat : Int) != 43) = true := by rw [bne, hc1]; rfl
      have HR := Lib.hid (show unqR s.data.toList = ([], false) from unqR_none (unqL_head fun r e => by
        rw [str_cons s h0n] at e
        injection e with e _
        exact h43 e))
      clear h43 h43n
      go_enter Tryd.func60, Tryd.ntmps60
      go_wp2_with fail
      go_ret2
      exact ⟨by rw [HR.out] <;> rfl, HB0.out⟩
  · have hb1 : ((s.size : Int) % 2 == 1) = false := by rw [beq_eq_false_iff_ne]; omega
    have hb2 : ((s.size : Int) % 2 != 1) = true := by rw [bne, hb1]; rfl
    have HR := Lib.hid (show unqR s.data.toList = ([], false) from unqR_none (unqL_even (n := s.size / 2) (by rw [HL.out]; omega)))
    clear hev
    go_enter Tryd.func60, Tryd.ntmps60
    go_wp2_with fail
    go_ret2
    exact ⟨by rw [HR.out] <;> rfl, HB0.out⟩
end Go.Proofs.YtdfkbahlngijcaaDoor

namespace Go.Proofs.YtdfkbahlngijcaaDoor
open Go.RowKit
set_option linter.unusedVariables false

theorem splitK_cons32 {c : UInt8} (h : c ≠ 32) (k : Nat) (l : List UInt8) : Lib.splitK [32] 0 k (c :: l) = match Lib.splitK [32] 0 k l with
    | [] => [[c]]
    | r :: rs => (c :: r) :: rs := by
  cases k with
  | zero => rfl
  | succ k =>
    have hi : Lib.index (c :: l) [32] = if Lib.index l [32] == -1 then -1 else Lib.index l [32] + 1 := by
      show (if ([32] : List UInt8).isPrefixOf (c :: l) then (0 : Int) else if Lib.index l [32] == -1 then -1 else Lib.index l [32] + 1) = _
      rw [if_neg (by simp [List.isPrefixOf]; exact fun e => h e.symm)]
    have hg := Lib.index_ge l [32]
    unfold Lib.splitK
    rw [hi]
    by_cases hm : Lib.index l [32] = -1
    · rw [hm]; rfl
    · obtain ⟨i, hi2⟩ : ∃ i : Nat, Lib.index l [32] = i := ⟨(Lib.index l [32]).toNat, by omega⟩
      have e1 : (((i : Int)) == -1) = false := by rw [beq_eq_false_iff_ne]; omega
      have e2 : (((i : Int) + 1) == -1) = false := by rw [beq_eq_false_iff_ne]; omega
      have e3 : ((i : Int) + 1).toNat = i + 1 := by omega
      rw [hi2, e1]
      simp only [Bool.false_eq_true, if_false, e2, e3, Int.toNat_natCast]
      rfl
theorem splitK_32 : ∀ l : List UInt8, Lib.splitK [32] 0 (l.count 32) l = splitW l
  | [] => rfl
  | c :: l => by
    have ih := splitK_32 l
    by_cases h : c = 32
    · subst h
      rw [List.count_cons_self, splitW_cons, if_pos rfl, ← ih]
      have hi : Lib.index (32 :: l) [32] = 0 := by
        show (if ([32] : List UInt8).isPrefixOf (32 :: l) then (0 : Int) else _) = 0
        rw [if_pos (by simp [List.isPrefixOf])]
      conv => lhs; unfold Lib.splitK
      rw [hi]
      rfl
    · rw [List.count_cons_of_ne h, splitW_cons, if_neg h, splitK_cons32 h, ih]
      rcases splitW l <;> rfl
theorem split32 (s : ByteArray) : (Lib.splitB ⟨#[32]⟩ 0 (s.data.toList.count 32) s).map (·.data.toList) = splitW s.data.toList := by
  rw [Lib.splitB_data]
  exact splitK_32 _
theorem ba_list2 (l : List ByteArray) : l.map Value.string = (l.map (·.data.toList)).map fun x => Value.string ⟨x.toArray⟩ := by
  rw [List.map_map]
  congr 1
theorem splitW_len : ∀ l : List UInt8, (splitW l).length = l.count 32 + 1
  | [] => rfl
  | c :: l => by
    have ih := splitW_len l
    rw [splitW_cons]
    by_cases h : c = 32
    · subst h
      rw [if_pos rfl, List.count_cons_self, List.length_cons, ih]
    · rw [if_neg h, List.count_cons_of_ne h]
      rcases hh : splitW l with _ | ⟨w, ws⟩
      · rw [hh] at ih; simp at ih
      · rw [hh] at ih; simpa using ih
theorem gen_split32 (s : ByteArray) (w : World) (hs : s.size < 4294967281) :
    Calls Tryd.prog 79 #[.string s, .string ⟨#[32]⟩, .int .i64 0, .int .i64 (-1)] w fun e w' =>
      e = .returned (.slice (some ⟨w.heap.size, 0, none⟩) (splitW s.data.toList).length (splitW s.data.toList).length) ∧ w' = w.alloc (.cells ((splitW s.data.toList).map fun x => Value.string ⟨x.toArray⟩).toArray 9) := by
  have hc : Lib.countB s ⟨#[32]⟩ = s.data.toList.count 32 := Lib.count_one 32 _
  have hl : s.data.toList.length = s.size := Array.length_toList ..
  have hcl : s.data.toList.count 32 ≤ s.data.toList.length := List.count_le_length
  have h := Any.strings_genSplit_core (P := Tryd.prog) lays221 infoStr s ⟨#[32]⟩ 0 (-1) (s.data.toList.count 32 + 1) w hs (by decide) (by decide)
    (fun x c hx => (Any.strings_Index_one { lays221 with } x 32 _).mono fun e w' ⟨he, hw⟩ => ⟨by rw [he]; show _ = Ending.returned (.int .i64 (Lib.index x.data.toList [32])); rw [Lib.index_one], hw⟩)
    ((Any.strings_Count_one { lays221 with } s 32 w).mono fun e w' ⟨he, hw⟩ => ⟨by rw [he, hc]; rfl, hw⟩) (by decide) (by decide) (by rw [if_pos (by decide), hc]; omega)
  rw [Nat.add_sub_cancel] at h
  have hm := split32 s
  have hlen : (Lib.splitB ⟨#[32]⟩ 0 (s.data.toList.count 32) s).length = (splitW s.data.toList).length := by rw [← hm, List.length_map]
  refine h.mono fun e w' ⟨he, hw⟩ => ⟨by rw [he, hlen, ← splitW_len], ?_⟩
  rw [hw]
  unfold Lib.cellsOf
  rw [ba_list2, hm, hlen, ← splitW_len, Nat.sub_self, List.replicate_zero, List.append_nil]
  rfl
/-- words that lie in memory -/
def WdAt (w : World) (b : Nat) (ws : List (List UInt8)) : Prop := ∃ fr, w.heap[b]? = some (.cells (ws.map fun x => Value.string ⟨x.toArray⟩).toArray 9 fr)
theorem WdAt.below {B b : Nat} {w w' : World} {ws : List (List UInt8)} (h : WdAt w b ws) (hb : Below B w w') (hlt : b < B) : WdAt w' b ws := by
  obtain ⟨fr, h⟩ := h
  exact ⟨fr, block_below hb h hlt⟩
theorem WdAt.at {w : World} {b : Nat} {ws : List (List UInt8)} (h : WdAt w b ws) {j : Nat} (hj : j < ws.length) : w.cell? ⟨b, j, none⟩ = some (.string ⟨(ws[j]).toArray⟩) := by
  obtain ⟨fr, h⟩ := h
  rw [block_cell h, List.getElem?_toArray, List.getElem?_map, List.getElem?_eq_getElem hj]
  rfl
theorem WdAt.lt {w : World} {b : Nat} {ws : List (List UInt8)} (h : WdAt w b ws) : b < w.heap.size := by
  obtain ⟨fr, h⟩ := h
  exact block_lt h
set_option maxRecDepth 100000 in
set_option maxHeartbeats 2000000 in
theorem split_any (s : ByteArray) (w : World) (hs : s.size < 4294967281) :
    Calls Tryd.prog 44 #[.string s, .string ⟨#[32]⟩] w fun e w' =>
      e = .returned (.slice (some ⟨w.heap.size, 0, none⟩) (splitW s.data.toList).length (splitW s.data.toList).length) ∧ WdAt w' w.heap.size (splitW s.data.toList) ∧ Below w.heap.size w w' := by
  have HG := Lib.hid (gen_split32 s w hs)
  have HB := Lib.hid ((Below.refl w.heap.size w).alloc (Nat.le_refl _) (.cells ((splitW s.data.toList).map fun x => Value.string ⟨x.toArray⟩).toArray 9))
  have HN := Lib.hid (block_new w (.cells ((splitW s.data.toList).map fun x => Value.string ⟨x.toArray⟩).toArray 9))
  generalize splitW s.data.toList = ws at *
  generalize hn : ws.length = n at *
  have HNN := Lib.hid hn
  clear hn
  go_enter Tryd.func44, Tryd.ntmps44
  go_wp2_with fail
  refine (HG.out).mono ?_; rintro e w1 ⟨rfl, hw1⟩
  have HW := Lib.hid hw1
  clear hw1
  go_wp2_with fail
  go_ret
  exact ⟨rfl, by rw [HW.out]; exact ⟨_, HN.out⟩, by rw [HW.out]; exact HB.out⟩
theorem numR_rng (l : List UInt8) : 0 ≤ (numR l).1 ∧ (numR l).1 ≤ 9999999999 := by
  rcases h : numW l with _ | n
  · rw [numR_none h]; exact ⟨by decide, by decide⟩
  · rw [numR_some h]
    have := (numW_some h).2
    exact ⟨by show (0 : Int) ≤ n; omega, by show (n : Int) ≤ _; omega⟩
/-- an operation after a field was filled -/
def fillO (x : Ov) (c : UInt8) (wd : List UInt8) : Ov :=
  if c = 116 then { x with t := ⟨(unqR wd).1.toArray⟩ } else if c = 115 then { x with slot := (numR wd).1 } else if c = 97 then { x with at_ := (numR wd).1 } else if c = 110 then { x with n := (numR wd).1 }
  else if c = 105 then { x with id := (numR wd).1 % 4294967296 } else { x with g := (numR wd).1 % 256 }
def fillB (c : UInt8) (wd : List UInt8) : Bool :=
  if c = 116 then (unqR wd).2 else if c = 105 then (numR wd).2 && decide ((numR wd).1 ≤ 4294967295) else if c = 103 then (numR wd).2 && decide ((numR wd).1 ≤ 255) else (numR wd).2
set_option maxRecDepth 100000 in
set_option maxHeartbeats 4000000 in
theorem fill_t (x : Ov) (b : Nat) (wd : ByteArray) (w : World) (hb : w.heap[b]? = some (.cells (oC x) 51 (0, 0))) (hs : wd.size ≤ 1000000000) :
    Calls Tryd.prog 58 #[.pointer (some ⟨b, 0, none⟩), .int .u8 116, .string wd] w fun e w' => e = .returned (.bool (fillB 116 wd.data.toList)) ∧ w'.heap[b]? = some (.cells (oC (fillO x 116 wd.data.toList)) 51 (0, 0)) ∧ Below b w w' := by
  have HB := Lib.hid hb
  have hlt := block_lt hb
  have HF := Lib.hid (show fillB 116 wd.data.toList = (unqR wd.data.toList).2 from rfl)
  have HO := Lib.hid (show oC (fillO x 116 wd.data.toList) = (oC x).setIfInBounds 6 (.string ⟨(unqR wd.data.toList).1.toArray⟩) from rfl)
  have HU := Lib.hid (unquote_any wd w hs)
  have fb := block_free hb
  clear hb
  go_enter Tryd.func58, Tryd.ntmps58
  go_wp2_with fail
  refine (HU.out).mono ?_; rintro e w2 ⟨rfl, hb2⟩
  have HB2 := Lib.hid (block_below hb2 HB.out hlt)
  have HL2 := Lib.hid (hb2.mono (show b ≤ w.heap.size by omega))
  have f6 := block_free HB2.out 6
  have c6 := block_cell HB2.out 6
  simp [oC] at c6
  clear hb2 fb
  go_wp2_with fail
  go_ret
  exact ⟨by rw [HF.out] <;> rfl, by rw [HO.out]; exact block_setCell HB2.out 6 _, HL2.out.setCell (p := ⟨b, 6, none⟩) (Nat.le_refl b) _⟩
set_option maxRecDepth 100000 in
set_option maxHeartbeats 4000000 in
theorem fill_s (x : Ov) (b : Nat) (wd : ByteArray) (w : World) (hb : w.heap[b]? = some (.cells (oC x) 51 (0, 0))) (hs : wd.size ≤ 1000000000) :
    Calls Tryd.prog 58 #[.pointer (some ⟨b, 0, none⟩), .int .u8 115, .string wd] w fun e w' => e = .returned (.bool (fillB 115 wd.data.toList)) ∧ w'.heap[b]? = some (.cells (oC (fillO x 115 wd.data.toList)) 51 (0, 0)) ∧ Below b w w' := by
  have HB := Lib.hid hb
  have hlt := block_lt hb
  have HF := Lib.hid (show fillB 115 wd.data.toList = (numR wd.data.toList).2 from rfl)
  have HO := Lib.hid (show oC (fillO x 115 wd.data.toList) = (oC x).setIfInBounds 1 (.int .i64 (numR wd.data.toList).1) from rfl)
  have HU := Lib.hid (number_any wd w (by omega))
  have HR0 := Lib.hid (numR_rng wd.data.toList)
  generalize (numR wd.data.toList).1 = n at *
  generalize (numR wd.data.toList).2 = ok at *
  have fb := block_free hb
  clear hb
  go_enter Tryd.func58, Tryd.ntmps58
  go_wp2_with fail
  refine (HU.out).mono ?_; rintro e w2 ⟨rfl, rfl⟩
  have f6 := fb 1
  have c6 := block_cell HB.out 1
  simp [oC] at c6
  clear fb
  go_wp2_with fail
  go_ret
  exact ⟨by rw [HF.out] <;> rfl, by rw [HO.out]; exact block_setCell HB.out 1 _, (Below.refl b _).setCell (p := ⟨b, 1, none⟩) (Nat.le_refl b) _⟩
set_option maxRecDepth 100000 in
set_option maxHeartbeats 4000000 in
theorem fill_a (x : Ov) (b : Nat) (wd : ByteArray) (w : World) (hb : w.heap[b]? = some (.cells (oC x) 51 (0, 0))) (hs : wd.size ≤ 1000000000) :
    Calls Tryd.prog 58 #[.pointer (some ⟨b, 0, none⟩), .int .u8 97, .string wd] w fun e w' => e = .returned (.bool (fillB 97 wd.data.toList)) ∧ w'.heap[b]? = some (.cells (oC (fillO x 97 wd.data.toList)) 51 (0, 0)) ∧ Below b w w' := by
  have HB := Lib.hid hb
  have hlt := block_lt hb
  have HF := Lib.hid (show fillB 97 wd.data.toList = (numR wd.data.toList).2 from rfl)
  have HO := Lib.hid (show oC (fillO x 97 wd.data.toList) = (oC x).setIfInBounds 2 (.int .i64 (numR wd.data.toList).1) from rfl)
  have HU := Lib.hid (number_any wd w (by omega))
  have HR0 := Lib.hid (numR_rng wd.data.toList)
  generalize (numR wd.data.toList).1 = n at *
  generalize (numR wd.data.toList).2 = ok at *
  have fb := block_free hb
  clear hb
  go_enter Tryd.func58, Tryd.ntmps58
  go_wp2_with fail
  refine (HU.out).mono ?_; rintro e w2 ⟨rfl, rfl⟩
  have f6 := fb 2
  have c6 := block_cell HB.out 2
  simp [oC] at c6
  clear fb
  go_wp2_with fail
  go_ret
  exact ⟨by rw [HF.out] <;> rfl, by rw [HO.out]; exact block_setCell HB.out 2 _, (Below.refl b _).setCell (p := ⟨b, 2, none⟩) (Nat.le_refl b) _⟩
set_option maxRecDepth 100000 in
set_option maxHeartbeats 4000000 in
theorem fill_n (x : Ov) (b : Nat) (wd : ByteArray) (w : World) (hb : w.heap[b]? = some (.cells (oC x) 51 (0, 0))) (hs : wd.size ≤ 1000000000) :
    Calls Tryd.prog 58 #[.pointer (some ⟨b, 0, none⟩), .int .u8 110, .string wd] w fun e w' => e = .returned (.bool (fillB 110 wd.data.toList)) ∧ w'.heap[b]? = some (.cells (oC (fillO x 110 wd.data.toList)) 51 (0, 0)) ∧ Below b w w' := by
  have HB := Lib.hid hb
  have hlt := block_lt hb
  have HF := Lib.hid (show fillB 110 wd.data.toList = (numR wd.data.toList).2 from rfl)
  have HO := Lib.hid (show oC (fillO x 110 wd.data.toList) = (oC x).setIfInBounds 3 (.int .i64 (numR wd.data.toList).1) from rfl)
  have HU := Lib.hid (number_any wd w (by omega))
  have HR0 := Lib.hid (numR_rng wd.data.toList)
  generalize (numR wd.data.toList).1 = n at *
  generalize (numR wd.data.toList).2 = ok at *
  have fb := block_free hb
  clear hb
  go_enter Tryd.func58, Tryd.ntmps58
  go_wp2_with fail
  refine (HU.out).mono ?_; rintro e w2 ⟨rfl, rfl⟩
  have f6 := fb 3
  have c6 := block_cell HB.out 3
  simp [oC] at c6
  clear fb
  go_wp2_with fail
  go_ret
  exact ⟨by rw [HF.out] <;> rfl, by rw [HO.out]; exact block_setCell HB.out 3 _, (Below.refl b _).setCell (p := ⟨b, 3, none⟩) (Nat.le_refl b) _⟩
set_option maxRecDepth 100000 in
set_option maxHeartbeats 4000000 in
theorem fill_i (x : Ov) (b : Nat) (wd : ByteArray) (w : World) (hb : w.heap[b]? = some (.cells (oC x) 51 (0, 0))) (hs : wd.size ≤ 1000000000) :
    Calls Tryd.prog 58 #[.pointer (some ⟨b, 0, none⟩), .int .u8 105, .string wd] w fun e w' => e = .returned (.bool (fillB 105 wd.data.toList)) ∧ w'.heap[b]? = some (.cells (oC (fillO x 105 wd.data.toList)) 51 (0, 0)) ∧ Below b w w' := by
  have HB := Lib.hid hb
  have hlt := block_lt hb
  have HF := Lib.hid (show fillB 105 wd.data.toList = ((numR wd.data.toList).2 && decide ((numR wd.data.toList).1 ≤ 4294967295)) from rfl)
  have HO := Lib.hid (show oC (fillO x 105 wd.data.toList) = (oC x).setIfInBounds 4 (.int .u32 ((numR wd.data.toList).1 % 4294967296)) from rfl)
  have HU := Lib.hid (number_any wd w (by omega))
  have HR0 := Lib.hid (numR_rng wd.data.toList)
  generalize (numR wd.data.toList).1 = n at *
  generalize (numR wd.data.toList).2 = ok at *
  have fb := block_free hb
  clear hb
  go_enter Tryd.func58, Tryd.ntmps58
  go_wp2_with fail
  refine (HU.out).mono ?_; rintro e w2 ⟨rfl, rfl⟩
  have f6 := fb 4
  have c6 := block_cell HB.out 4
  simp [oC] at c6
  clear fb
  rcases ok with _ | _
  · go_wp2_with fail
    go_ret
    exact ⟨by rw [HF.out] <;> rfl, by rw [HO.out]; exact block_setCell HB.out 4 _, (Below.refl b _).setCell (p := ⟨b, 4, none⟩) (Nat.le_refl b) _⟩
  · go_wp2_with fail
    go_ret
    exact ⟨by rw [HF.out] <;> rfl, by rw [HO.out]; exact block_setCell HB.out 4 _, (Below.refl b _).setCell (p := ⟨b, 4, none⟩) (Nat.le_refl b) _⟩
set_option maxRecDepth 100000 in
set_option maxHeartbeats 4000000 in
theorem fill_g (x : Ov) (b : Nat) (wd : ByteArray) (w : World) (hb : w.heap[b]? = some (.cells (oC x) 51 (0, 0))) (hs : wd.size ≤ 1000000000) :
    Calls Tryd.prog 58 #[.pointer (some ⟨b, 0, none⟩), .int .u8 103, .string wd] w fun e w' => e = .returned (.bool (fillB 103 wd.data.toList)) ∧ w'.heap[b]? = some (.cells (oC (fillO x 103 wd.data.toList)) 51 (0, 0)) ∧ Below b w w' := by
  have HB := Lib.hid hb
  have hlt := block_lt hb
  have HF := Lib.hid (show fillB 103 wd.data.toList = ((numR wd.data.toList).2 && decide ((numR wd.data.toList).1 ≤ 255)) from rfl)
  have HO := Lib.hid (show oC (fillO x 103 wd.data.toList) = (oC x).setIfInBounds 5 (.int .u8 ((numR wd.data.toList).1 % 256)) from rfl)
  have HU := Lib.hid (number_any wd w (by omega))
  have HR0 := Lib.hid (numR_rng wd.data.toList)
  generalize (numR wd.data.toList).1 = n at *
  generalize (numR wd.data.toList).2 = ok at *
  have fb := block_free hb
  clear hb
  go_enter Tryd.func58, Tryd.ntmps58
  go_wp2_with fail
  refine (HU.out).mono ?_; rintro e w2 ⟨rfl, rfl⟩
  have f6 := fb 5
  have c6 := block_cell HB.out 5
  simp [oC] at c6
  clear fb
  rcases ok with _ | _
  · go_wp2_with fail
    go_ret
    exact ⟨by rw [HF.out] <;> rfl, by rw [HO.out]; exact block_setCell HB.out 5 _, (Below.refl b _).setCell (p := ⟨b, 5, none⟩) (Nat.le_refl b) _⟩
  · go_wp2_with fail
    go_ret
    exact ⟨by rw [HF.out] <;> rfl, by rw [HO.out]; exact block_setCell HB.out 5 _, (Below.refl b _).setCell (p := ⟨b, 5, none⟩) (Nat.le_refl b) _⟩
theorem fill_any (x : Ov) (b : Nat) (c : UInt8) (hc : ((c.toNat : Int) ∈ ([115, 97, 110, 105, 103, 116] : List Int))) (wd : ByteArray) (w : World) (hb : w.heap[b]? = some (.cells (oC x) 51 (0, 0))) (hs : wd.size ≤ 1000000000) :
    Calls Tryd.prog 58 #[.pointer (some ⟨b, 0, none⟩), .int .u8 c.toNat, .string wd] w fun e w' => e = .returned (.bool (fillB c wd.data.toList)) ∧ w'.heap[b]? = some (.cells (oC (fillO x c wd.data.toList)) 51 (0, 0)) ∧ Below b w w' := by
  have key : ∀ k : Nat, k < 256 → c.toNat = k → c = UInt8.ofNat k := fun k hk e => by rw [← e, UInt8.ofNat_toNat]
  simp at hc
  rcases hc with h | h | h | h | h | h
  · obtain rfl : c = 115 := key 115 (by decide) (by omega)
    exact fill_s x b wd w hb hs
  · obtain rfl : c = 97 := key 97 (by decide) (by omega)
    exact fill_a x b wd w hb hs
  · obtain rfl : c = 110 := key 110 (by decide) (by omega)
    exact fill_n x b wd w hb hs
  · obtain rfl : c = 105 := key 105 (by decide) (by omega)
    exact fill_i x b wd w hb hs
  · obtain rfl : c = 103 := key 103 (by decide) (by omega)
    exact fill_g x b wd w hb hs
  · obtain rfl : c = 116 := key 116 (by decide) (by omega)
    exact fill_t x b wd w hb hs
end Go.Proofs.YtdfkbahlngijcaaDoor

namespace Go.Proofs.YtdfkbahlngijcaaDoor
open Go.RowKit
set_option linter.unusedVariables false

def Six (c : UInt8) : Prop := c = 115 ∨ c = 97 ∨ c = 110 ∨ c = 105 ∨ c = 103 ∨ c = 116
theorem six_mem {k : Nat} (h : k < 17) {c : UInt8} (hc : c ∈ letL k) : Six c := by
  have := (letL_six k h c hc).2
  have key : ∀ m : Nat, m < 256 → c.toNat = m → c = UInt8.ofNat m := fun m hm e => by rw [← e, UInt8.ofNat_toNat]
  simp at this
  rcases this with h | h | h | h | h | h
  · exact .inl (key 115 (by decide) (by omega))
  · exact .inr (.inl (key 97 (by decide) (by omega)))
  · exact .inr (.inr (.inl (key 110 (by decide) (by omega))))
  · exact .inr (.inr (.inr (.inl (key 105 (by decide) (by omega)))))
  · exact .inr (.inr (.inr (.inr (.inl (key 103 (by decide) (by omega))))))
  · exact .inr (.inr (.inr (.inr (.inr (key 116 (by decide) (by omega))))))
theorem numR_true {l : List UInt8} (h : (numR l).2 = true) : numL (numR l).1 = l := by
  rcases e : numW l with _ | n
  · rw [numR_none e] at h; cases h
  · rw [numR_some e]; exact numL_numW e
theorem unqR_true {l : List UInt8} (h : (unqR l).2 = true) : quoteL ⟨(unqR l).1.toArray⟩ = l := by
  rcases e : unqL l with _ | t
  · rw [unqR_none e] at h; cases h
  · rw [unqR_some e]; exact unqL_some e
theorem fill_same_word {x : Ov} {c : UInt8} {wd : List UInt8} (hc : Six c) (h : fillB c wd = true) : letW (fillO x c wd) c = wd := by
  have hr := numR_rng wd
  rcases hc with rfl | rfl | rfl | rfl | rfl | rfl
  · exact numR_true h
  · exact numR_true h
  · exact numR_true h
  · have h' : ((numR wd).2 && decide ((numR wd).1 ≤ 4294967295)) = true := h
    simp at h'
    show numL ((numR wd).1 % 4294967296) = wd
    rw [show (numR wd).1 % 4294967296 = (numR wd).1 by omega]
    exact numR_true h'.1
  · have h' : ((numR wd).2 && decide ((numR wd).1 ≤ 255)) = true := h
    simp at h'
    show numL ((numR wd).1 % 256) = wd
    rw [show (numR wd).1 % 256 = (numR wd).1 by omega]
    exact numR_true h'.1
  · exact unqR_true h
theorem fill_other_word {x : Ov} {c d : UInt8} {wd : List UInt8} (hc : Six c) (hd : Six d) (h : d ≠ c) : letW (fillO x c wd) d = letW x d := by
  rcases hc with rfl | rfl | rfl | rfl | rfl | rfl <;> rcases hd with rfl | rfl | rfl | rfl | rfl | rfl <;> first | exact absurd rfl h | rfl
/-- a field that is as it began -/
def Unset (c : UInt8) (x : Ov) : Prop :=
  if c = 115 then x.slot = 0 else if c = 97 then x.at_ = 0 else if c = 110 then x.n = 0 else if c = 105 then x.id = 0 else if c = 103 then x.g = 0 else x.t.size = 0
theorem fill_other_unset {x : Ov} {c d : UInt8} {wd : List UInt8} (hc : Six c) (hd : Six d) (h : d ≠ c) (hx : Unset d x) : Unset d (fillO x c wd) := by
  rcases hc with rfl | rfl | rfl | rfl | rfl | rfl <;> rcases hd with rfl | rfl | rfl | rfl | rfl | rfl <;> first | exact absurd rfl h | exact hx
theorem fill_k {x : Ov} {c : UInt8} {wd : List UInt8} (hc : Six c) : (fillO x c wd).k = x.k := by
  rcases hc with rfl | rfl | rfl | rfl | rfl | rfl <;> rfl
theorem fill_big {x : Ov} {c : UInt8} {wd : List UInt8} (hc : Six c) (h : NumsBig x) : NumsBig (fillO x c wd) := by
  have hr := numR_rng wd
  have h1 : numOK ((numR wd).1 % 4294967296) := ⟨by omega, by omega⟩
  have h2 : numOK ((numR wd).1 % 256) := ⟨by omega, by omega⟩
  rcases hc with rfl | rfl | rfl | rfl | rfl | rfl
  · exact ⟨hr, h.at_, h.n, h.id, h.g⟩
  · exact ⟨h.slot, hr, h.n, h.id, h.g⟩
  · exact ⟨h.slot, h.at_, hr, h.id, h.g⟩
  · exact ⟨h.slot, h.at_, h.n, h1, h.g⟩
  · exact ⟨h.slot, h.at_, h.n, h.id, h2⟩
  · exact ⟨h.slot, h.at_, h.n, h.id, h.g⟩
theorem fill_ok {x : Ov} {c : UInt8} {wd : List UInt8} (hc : Six c) (h : OvOk x) : OvOk (fillO x c wd) := by
  have hr := numR_rng wd
  rcases hc with rfl | rfl | rfl | rfl | rfl | rfl
  · exact ⟨h.k, h.id, h.g⟩
  · exact ⟨h.k, h.id, h.g⟩
  · exact ⟨h.k, h.id, h.g⟩
  · exact ⟨h.k, ⟨by show 0 ≤ (numR wd).1 % 4294967296; omega, by show (numR wd).1 % 4294967296 < _; omega⟩, h.g⟩
  · exact ⟨h.k, h.id, ⟨by show 0 ≤ (numR wd).1 % 256; omega, by show (numR wd).1 % 256 < _; omega⟩⟩
  · exact ⟨h.k, h.id, h.g⟩
/-- the words of an operation can be read -/
theorem fill_reads {y : Ov} {c : UInt8} (hc : Six c) (ho : OvOk y) (hb : NumsBig y) : fillB c (letW y c) = true := by
  have key : ∀ {v : Int}, numOK v → numR (numL v) = (v, true) := fun {v} hv => by
    rw [numR_some (numW_numL hv)]
    congr 1
    have := hv.1
    omega
  rcases hc with rfl | rfl | rfl | rfl | rfl | rfl
  · show (numR (numL y.slot)).2 = true; rw [key hb.slot]
  · show (numR (numL y.at_)).2 = true; rw [key hb.at_]
  · show (numR (numL y.n)).2 = true; rw [key hb.n]
  · show ((numR (numL y.id)).2 && decide ((numR (numL y.id)).1 ≤ 4294967295)) = true
    rw [key hb.id]
    have := ho.id.2
    simp; omega
  · show ((numR (numL y.g)).2 && decide ((numR (numL y.g)).1 ≤ 255)) = true
    rw [key hb.g]
    have := ho.g.2
    simp; omega
  · show (unqR (quoteL y.t)).2 = true
    rw [unqR_some (unqL_quote y.t)]
/-- the letters of a kind: each once; its fields -/
theorem letL_nodup : ∀ k : Nat, k < 17 → (letL k).Nodup := by decide +kernel
theorem letL_fld : ∀ k : Nat, k < 17 → 1 ≤ k → ((115 ∈ letL k ↔ 0 ∈ fldK k) ∧ (97 ∈ letL k ↔ 1 ∈ fldK k) ∧ (110 ∈ letL k ↔ 2 ∈ fldK k) ∧ (105 ∈ letL k ↔ 3 ∈ fldK k) ∧ (103 ∈ letL k ↔ 4 ∈ fldK k) ∧ (116 ∈ letL k ↔ 5 ∈ fldK k)) := by
  intro k h1 h2
  rcases kind_cases h2 (by omega) with rfl | rfl | rfl | rfl | rfl | rfl | rfl | rfl | rfl | rfl | rfl | rfl | rfl | rfl | rfl | rfl <;> decide +kernel
/-- what holds when the first i fields were filled -/
structure FillInv (k : Nat) (ws : List (List UInt8)) (i : Nat) (x : Ov) : Prop where
  kk : x.k = k
  ok : OvOk x
  big : NumsBig x
  done : ∀ j (h1 : j < (letL k).length) (h2 : j < ws.length), j < i → letW x (letL k)[j] = ws[j]
  rest : ∀ c, Six c → c ∉ (letL k).take i → Unset c x
def kindO (k : Nat) : Ov := ⟨k, 0, 0, 0, 0, 0, ⟨#[]⟩⟩
theorem FillInv.start {k : Nat} (hk : k < 17) (ws : List (List UInt8)) : FillInv k ws 0 (kindO k) where
  kk := rfl
  ok := ⟨⟨by show (0 : Int) ≤ (k : Int); omega, by show (k : Int) < 256; omega⟩, ⟨Int.le_refl 0, by show (0 : Int) < 4294967296; decide⟩, ⟨Int.le_refl 0, by show (0 : Int) < 256; decide⟩⟩
  big := ⟨⟨Int.le_refl 0, by show (0 : Int) ≤ 9999999999; decide⟩, ⟨Int.le_refl 0, by show (0 : Int) ≤ 9999999999; decide⟩, ⟨Int.le_refl 0, by show (0 : Int) ≤ 9999999999; decide⟩, ⟨Int.le_refl 0, by show (0 : Int) ≤ 9999999999; decide⟩, ⟨Int.le_refl 0, by show (0 : Int) ≤ 9999999999; decide⟩⟩
  done := fun j _ _ h => absurd h (Nat.not_lt_zero _)
  rest := fun c hc _ => by
    rcases hc with rfl | rfl | rfl | rfl | rfl | rfl <;> rfl
theorem FillInv.step {k : Nat} {ws : List (List UInt8)} {i : Nat} {x : Ov} (hk : k < 17) (h : FillInv k ws i x) (h1 : i < (letL k).length) (h2 : i < ws.length) (hf : fillB (letL k)[i] ws[i] = true) : FillInv k ws (i + 1) (fillO x (letL k)[i] ws[i]) := by
  have hs : ∀ j (hj : j < (letL k).length), Six (letL k)[j] := fun j hj => six_mem hk (List.getElem_mem hj)
  have hnd := letL_nodup k hk
  refine ⟨by rw [fill_k (hs i h1)]; exact h.kk, fill_ok (hs i h1) h.ok, fill_big (hs i h1) h.big, fun j hj1 hj2 hji => ?_, fun c hc hn => ?_⟩
  · by_cases e : j = i
    · subst e; exact fill_same_word (hs j h1) hf
    · rw [fill_other_word (hs i h1) (hs j hj1) (fun e2 => e ((List.getElem_inj hnd).1 e2))]
      exact h.done j hj1 hj2 (by omega)
  · rw [List.take_succ_eq_append_getElem h1] at hn
    have hn1 : c ∉ (letL k).take i := fun e => hn (List.mem_append.2 (.inl e))
    have hn2 : c ≠ (letL k)[i] := fun e => hn (List.mem_append.2 (.inr (by rw [e]; exact List.mem_singleton.2 rfl)))
    exact fill_other_unset (hs i h1) hc hn2 (h.rest c hc hn1)
theorem FillInv.words {k : Nat} {ws : List (List UInt8)} {x : Ov} (h : FillInv k ws (letL k).length x) (hl : ws.length = (letL k).length) : opW x = nameL k :: ws := by
  unfold opW
  rw [h.kk, Int.toNat_natCast]
  congr 1
  refine List.ext_getElem (by rw [List.length_map, hl]) fun j h1 h2 => ?_
  rw [List.getElem_map]
  exact h.done j (by simpa using h1) h2 (by simpa using h1)
theorem FillInv.zero {k : Nat} {ws : List (List UInt8)} {x : Ov} (hk : k < 17) (hk1 : 1 ≤ k) (h : FillInv k ws (letL k).length x) : zeroU x := by
  have hr : ∀ c, Six c → c ∉ letL k → Unset c x := fun c hc hn => h.rest c hc (by rwa [List.take_length])
  obtain ⟨f0, f1, f2, f3, f4, f5⟩ := letL_fld k hk hk1
  unfold zeroU
  rw [h.kk, Int.toNat_natCast]
  exact ⟨fun n => hr 115 (.inl rfl) (fun e => n (f0.1 e)), fun n => hr 97 (.inr (.inl rfl)) (fun e => n (f1.1 e)), fun n => hr 110 (.inr (.inr (.inl rfl))) (fun e => n (f2.1 e)),
    fun n => hr 105 (.inr (.inr (.inr (.inl rfl)))) (fun e => n (f3.1 e)), fun n => hr 103 (.inr (.inr (.inr (.inr (.inl rfl))))) (fun e => n (f4.1 e)), fun n => hr 116 (.inr (.inr (.inr (.inr (.inr rfl))))) (fun e => n (f5.1 e))⟩
/-- all fields filled and plain: the operation of the line -/
theorem FillInv.line {k : Nat} {ws : List (List UInt8)} {x : Ov} {s : List UInt8} (h : FillInv k ws (letL k).length x) (hl : ws.length = (letL k).length) (hs : splitW s = nameL k :: ws) (hp : plainO x = true) : HasLine s x :=
  ⟨h.ok, hp, by unfold opL; rw [h.words hl, ← hs, join_split]⟩
theorem FillInv.noLine {k : Nat} {ws : List (List UInt8)} {x : Ov} {s : List UInt8} (hk : k < 17) (hk1 : 1 ≤ k) (h : FillInv k ws (letL k).length x) (hl : ws.length = (letL k).length) (hs : splitW s = nameL k :: ws) (hp : plainO x ≠ true) : ∀ y, ¬ HasLine s y := by
  intro y hy
  have hxk : x.k = k := h.kk
  have e := opW_inj (plain_zero hy.plain) (h.zero hk hk1) (plain_kind hy.plain) ⟨by omega, by omega⟩ hy.big h.big (by rw [hy.words, hs, h.words hl])
  rw [e] at hy
  exact hp hy.plain
/-- the line of an operation begins with its kind's name -/
theorem HasLine.head {s : List UInt8} {y : Ov} (h : HasLine s y) : splitW s = nameL y.k.toNat :: (letL y.k.toNat).map (letW y) := h.words.symm
theorem HasLine.kind {s : List UInt8} {y : Ov} (h : HasLine s y) {k : Nat} (hk1 : 1 ≤ k) (hk2 : k ≤ 16) {ws : List (List UInt8)} (hs : splitW s = nameL k :: ws) : y.k = k ∧ ws = (letL k).map (letW y) := by
  have e := h.head
  rw [hs] at e
  injection e with e1 e2
  obtain ⟨p1, p2⟩ := plain_kind h.plain
  have := nameL_inj hk1 hk2 (by omega) (by omega) e1
  refine ⟨by omega, ?_⟩
  rw [e2, ← this]
theorem no_name {s : List UInt8} {w : List UInt8} {ws : List (List UInt8)} (hs : splitW s = w :: ws) (h : ∀ k, 1 ≤ k → k ≤ 16 → nameL k ≠ w) : ∀ y, ¬ HasLine s y := by
  intro y hy
  have e := hy.head
  rw [hs] at e
  injection e with e1 e2
  obtain ⟨p1, p2⟩ := plain_kind hy.plain
  exact h y.k.toNat (by omega) (by omega) e1.symm
theorem no_count {s : List UInt8} {k : Nat} (hk1 : 1 ≤ k) (hk2 : k ≤ 16) {ws : List (List UInt8)} (hs : splitW s = nameL k :: ws) (h : ws.length ≠ (letL k).length) : ∀ y, ¬ HasLine s y := by
  intro y hy
  obtain ⟨_, e⟩ := hy.kind hk1 hk2 hs
  exact h (by rw [e, List.length_map])
theorem no_fill {s : List UInt8} {k : Nat} (hk1 : 1 ≤ k) (hk2 : k ≤ 16) {ws : List (List UInt8)} (hs : splitW s = nameL k :: ws) {i : Nat} (h1 : i < (letL k).length) (h2 : i < ws.length) (h : fillB (letL k)[i] ws[i] = false) : ∀ y, ¬ HasLine s y := by
  intro y hy
  obtain ⟨_, e⟩ := hy.kind hk1 hk2 hs
  have e2 : ws[i] = letW y (letL k)[i] := by
    subst e
    rw [List.getElem_map]
  rw [e2, fill_reads (six_mem (by omega) (List.getElem_mem h1)) hy.ok hy.big] at h
  cases h
theorem parR_some {s : List UInt8} {x : Ov} (h : HasLine s x) : parR s = (x, 0) := by unfold parR; rw [parO_some h]
theorem parR_none {s : List UInt8} (h : ∀ x, ¬ HasLine s x) : parR s = (zeroO, 4) := by unfold parR; rw [parO_none h]
end Go.Proofs.YtdfkbahlngijcaaDoor

