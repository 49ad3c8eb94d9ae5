/- Text: decimal digits: the reference's digits and Number. -/
import Derived.Test.YtdfkbahlngijcaaDoorTc
namespace Go.Proofs.YtdfkbahlngijcaaDoor
open Go.RowKit
set_option linter.unusedVariables false

def digC (n : Nat) : UInt8 := UInt8.ofNat (48 + n % 10)
theorem decDigits_small {n : Nat} (h : n < 10) : Lib.decDigits n = [digC n] := by
  rw [Lib.decDigits, dif_pos h]
  unfold digC
  rw [Nat.mod_eq_of_lt h]
theorem decDigits_step {n : Nat} (h : ¬ n < 10) : Lib.decDigits n = Lib.decDigits (n / 10) ++ [digC n] := by
  rw [Lib.decDigits, dif_neg h]
  rfl
theorem decDigits_len : ∀ (k n : Nat), 0 < k → n < 10 ^ k → (Lib.decDigits n).length ≤ k
  | 0, _, h, _ => absurd h (Nat.lt_irrefl 0)
  | k + 1, n, _, hn => by
    by_cases h : n < 10
    · rw [decDigits_small h]
      show 1 ≤ k + 1
      omega
    · rw [decDigits_step h, List.length_append]
      have hk : 0 < k := by
        rcases Nat.eq_zero_or_pos k with e | e
        · subst e; omega
        · exact e
      have := decDigits_len k (n / 10) hk (by rw [Nat.pow_succ] at hn; omega)
      show _ + 1 ≤ k + 1
      omega
theorem digC_val (n : Nat) : ((digC n).toNat : Int) = 48 + ((n % 10 : Nat) : Int) := by
  unfold digC
  rw [UInt8.toNat_ofNat']
  omega

set_option maxRecDepth 100000 in
set_option maxHeartbeats 4000000 in
theorem digits_nat : ∀ (n : Nat) (hn : n ≤ 9223372036854775807) (w : World),
    Calls Tryd.prog 70 #[.int .i64 n] w fun e w' => e = .returned (.string ⟨(Lib.decDigits n).toArray⟩) ∧ Below w.heap.size w w' := by
  intro n
  induction n using Nat.strongRecOn with
  | ind n ih =>
    intro hn w
    have HIH := Lib.hid ih
    have HB := Lib.hid ((Below.refl w.heap.size w).alloc (Nat.le_refl _) (.cells #[.int .u8 (digC n).toNat] 5))
    obtain ⟨g, cap, e, hconv⟩ := own_str (bytes_one w (digC n)) rfl (by decide)
    injection e with e1 e2 e3
    injection e1 with e1
    injection e1 with e1
    subst e1 e3
    have hT : Int.tmod (n : Int) 10 = (n : Int) % 10 := Int.tmod_eq_emod_of_nonneg (by omega)
    have hQ : Int.tdiv (n : Int) 10 = ((n / 10 : Nat) : Int) := by rw [Int.tdiv_eq_ediv_of_nonneg (by omega)]; rfl
    have hV : IntKind.u8.wrap (48 + (n : Int) % 10) = ((digC n).toNat : Int) := by
      rw [digC_val]
      rw [wrap8 _ (by omega) (by omega)]
      omega
    clear ih
    by_cases h10 : n < 10
    · have h1 : (n : Int) < 10 := by omega
      have HE := Lib.hid (decDigits_small h10)
      go_enter Tryd.func70, Tryd.ntmps70
      go_wp2_with fail
      go_ret
      exact ⟨by rw [HE.out] <;> rfl, HB.out⟩
    · have h1 : ¬ ((n : Int) < 10) := by omega
      have HE := Lib.hid (decDigits_step h10)
      have hl := decDigits_len 19 (n / 10) (by decide) (by omega)
      have HC := Lib.hid (HIH.out (n / 10) (by omega) (by omega))
      have hcat : ¬ (9223372036854775807 < (⟨(Lib.decDigits (n / 10)).toArray⟩ : ByteArray).size + (⟨#[digC n]⟩ : ByteArray).size) := by
        show ¬ (9223372036854775807 < (Lib.decDigits (n / 10)).length + 1)
        omega
      go_enter Tryd.func70, Tryd.ntmps70
      go_wp2_with fail
      refine (HC.out _).mono ?_; rintro e w1 ⟨rfl, hb⟩
      have HB1 := Lib.hid (below_two HB.out hb)
      clear hb
      go_wp2_with fail
      go_ret
      exact ⟨by rw [HE.out] <;> rfl, HB1.out⟩
end Go.Proofs.YtdfkbahlngijcaaDoor
