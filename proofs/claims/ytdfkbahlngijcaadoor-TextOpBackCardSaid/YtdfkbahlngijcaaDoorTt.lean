/- Text: results: Result of the program. -/
import Derived.Test.YtdfkbahlngijcaaDoorTs
namespace Go.Proofs.YtdfkbahlngijcaaDoor
open Go.RowKit
set_option linter.unusedVariables false

theorem join_is : ∀ ws : List (List UInt8), Lib.join ws [32] = joinW ws
  | [] => rfl
  | [x] => Lib.join_one x [32]
  | x :: y :: r => by
    have ih := join_is (y :: r)
    rw [Lib.join_cons] at ih ⊢
    show x ++ Lib.joinTail [32] (y :: r) = x ++ 32 :: joinW (y :: r)
    rw [← ih]
    rfl
theorem joinW_most : ∀ (ws : List (List UInt8)) (k : Nat), (∀ x ∈ ws, x.length ≤ k) → (joinW ws).length ≤ ws.length * (k + 1)
  | [], _, _ => Nat.zero_le _
  | [x], k, h => by
    have := h x (List.mem_cons_self ..)
    show x.length ≤ 1 * (k + 1)
    omega
  | x :: y :: r, k, h => by
    have h1 := h x (List.mem_cons_self ..)
    have h2 := joinW_most (y :: r) k fun z hz => h z (List.mem_cons_of_mem _ hz)
    show (x ++ 32 :: joinW (y :: r)).length ≤ ((y :: r).length + 1) * (k + 1)
    rw [List.length_append, List.length_cons, Nat.add_mul]
    omega
def itemV (r : Rs) (ao : Option Addr) (n c : Nat) : Array Value := #[.int .u8 r.ik, .int .i64 r.fr, .int .i64 r.tu, .slice ao n c]
structure ResS (r : Rs) (ao : Option Addr) (n c : Nat) (w0 : World) (v : Value) (ws : List (List UInt8)) (w : World) : Prop where
  box : w.heap[w0.heap.size]? = some (.cells (rsV r ao n c) 29 (0, 0))
  item : w.heap[w0.heap.size + 1]? = some (.cells (itemV r ao n c) 27 (0, 0))
  out : OutS (w0.heap.size + 2) (w0.heap.size + 3) v ws w
  low : Below w0.heap.size w0 w
  size : w0.heap.size + 4 ≤ w.heap.size
theorem ResS.kept {r : Rs} {ao : Option Addr} {n c : Nat} {w0 w w' : World} {v v' : Value} {ws ws' : List (List UInt8)} (h : ResS r ao n c w0 v ws w) (hb : Below (w0.heap.size + 2) w w') (ho : OutS (w0.heap.size + 2) (w0.heap.size + 3) v' ws' w') : ResS r ao n c w0 v' ws' w' :=
  ⟨by rw [hb.block _ (by omega)]; exact h.box, by rw [hb.block _ (by omega)]; exact h.item, ho, h.low.trans (hb.mono (by omega)), by have := hb.size; have := h.size; omega⟩
theorem ResS.later {r : Rs} {ao : Option Addr} {n c : Nat} {w0 w w' : World} {v : Value} {ws : List (List UInt8)} (h : ResS r ao n c w0 v ws w) (hb : Below w.heap.size w w') : ResS r ao n c w0 v ws w' :=
  h.kept (hb.mono (by have := h.size; omega)) (h.out.below hb)
theorem ResS.alloc {r : Rs} {ao : Option Addr} {n c : Nat} {w0 w : World} {v : Value} {ws : List (List UInt8)} (h : ResS r ao n c w0 v ws w) (o : Obj) : ResS r ao n c w0 v ws (w.alloc o) := h.later ((Below.refl _ _).alloc (Nat.le_refl _) o)
theorem ResS.drew {r : Rs} {ao : Option Addr} {n c : Nat} {w0 w : World} {v : Value} {ws : List (List UInt8)} (h : ResS r ao n c w0 v ws w) : ResS r ao n c w0 v ws w.drew := h.later (Below.refl _ _).drew


set_option maxRecDepth 100000 in
set_option maxHeartbeats 4000000 in
theorem result_err (r : Rs) (ao : Option Addr) (n c : Nat) (w : World) (hl : r.d.length = n) (ht : Tab w) (he : r.e ≠ 0) :
    Calls Tryd.prog 12 #[.agg (rsV r ao n c)] w fun e w' => e = .returned (.tuple #[.string ⟨(resR r).1.toArray⟩, .int .i64 (resR r).2]) ∧ Below w.heap.size w w' := by
  have HB := Lib.hid ((Below.refl w.heap.size w).alloc (Nat.le_refl _) (.cells (rsV r ao n c) 29))
  have HE := Lib.hid (empty_any r ao n c hl (w.alloc (.cells (rsV r ao n c) 29)))
  have HT := Lib.hid ht
  obtain ⟨e, rev, sl, a, gr, t, mb, mr, ml, ik, fr, tu, d⟩ := r
  simp only [rsV] at HB HE hl he ⊢
  have he2 : (e == 0) = false := by rw [beq_eq_false_iff_ne]; exact he
  clear ht
  by_cases h0 : e < 0
  · have HR := Lib.hid (show resR ⟨e, rev, sl, a, gr, t, mb, mr, ml, ik, fr, tu, d⟩ = ([], 2) by
      unfold resR; rw [if_pos he, if_pos (.inl h0)])
    clear he HE
    go_enter Tryd.func12, Tryd.ntmps12
    go_wp2_with fail
    go_ret2
    exact ⟨by rw [HR.out] <;> rfl, HB.out⟩
  · rcases hz : zeroR ⟨e, rev, sl, a, gr, t, mb, mr, ml, ik, fr, tu, d⟩ with _ | _
    · have HR := Lib.hid (show resR ⟨e, rev, sl, a, gr, t, mb, mr, ml, ik, fr, tu, d⟩ = ([], 2) by
        unfold resR; rw [if_pos he, if_pos (.inr (.inl hz))])
      rw [hz] at HE
      clear he hz
      go_enter Tryd.func12, Tryd.ntmps12
      go_wp2_with fail
      refine (HE.out).mono ?_; rintro e1 w1 ⟨rfl, hb1⟩
      have HB1 := Lib.hid (below_two HB.out hb1)
      clear hb1 HE
      go_wp2_with fail
      go_ret2
      exact ⟨by rw [HR.out] <;> rfl, HB1.out⟩
    · have HBX := Lib.hid (block_new w (.cells #[.int .i64 e, .int .i64 rev, .int .i64 sl, .int .i64 a, .int .u8 gr, .string t, .int .i64 mb, .int .i64 mr, .int .i64 ml, .int .u8 ik, .int .i64 fr, .int .i64 tu, .slice ao n c] 29))
      rw [hz] at HE
      by_cases h1 : 9999999999 < e
      · have HR := Lib.hid (show resR ⟨e, rev, sl, a, gr, t, mb, mr, ml, ik, fr, tu, d⟩ = ([], 2) by
          unfold resR; rw [if_pos he, if_pos (.inr (.inr h1))])
        clear he hz
        go_enter Tryd.func12, Tryd.ntmps12
        go_wp2_with fail
        refine (HE.out).mono ?_; rintro e1 w1 ⟨rfl, hb1⟩
        have HB1 := Lib.hid (below_two HB.out hb1)
        have hbx := block_below hb1 HBX.out (block_lt HBX.out)
        have q0 := block_cell hbx 0
        simp at q0
        clear hb1 HE hbx
        go_wp2_with fail
        go_ret2
        exact ⟨by rw [HR.out] <;> rfl, HB1.out⟩
      · obtain ⟨m, rfl⟩ : ∃ m : Nat, e = m := ⟨e.toNat, by omega⟩
        have HR := Lib.hid (show resR ⟨(m : Int), rev, sl, a, gr, t, mb, mr, ml, ik, fr, tu, d⟩ = ([101, 114, 114, 111, 114, 32] ++ Lib.decDigits m, 0) by
          unfold resR
          rw [if_pos he, if_neg (by rintro (k | k | k); exact h0 k; rw [hz] at k; cases k; exact h1 k)]
          rfl)
        have hm : m ≤ 9999999999 := by omega
        have hlen := decDigits_len 10 m (by decide) (by omega)
        have hcat : ¬ (9223372036854775807 < (⟨#[101, 114, 114, 111, 114, 32]⟩ : ByteArray).size + (⟨(Lib.decDigits m).toArray⟩ : ByteArray).size) := by
          show ¬ (9223372036854775807 < 6 + (Lib.decDigits m).length)
          omega
        clear he hz
        go_enter Tryd.func12, Tryd.ntmps12
        go_wp2_with fail
        refine (HE.out).mono ?_; rintro e1 w1 ⟨rfl, hb1⟩
        have HB1 := Lib.hid (below_two HB.out hb1)
        have HI := Lib.hid (itoa_nat m (by omega) w1 (HT.out.below HB1.out))
        have hbx := block_below hb1 HBX.out (block_lt HBX.out)
        have q0 := block_cell hbx 0
        simp at q0
        clear hb1 HE hbx
        go_wp2_with fail
        refine (HI.out).mono ?_; rintro e2 w2 ⟨rfl, hb2⟩
        have HB2 := Lib.hid (below_two HB1.out hb2)
        clear hb2
        go_wp2_with fail
        go_ret2
        exact ⟨by rw [HR.out] <;> rfl, HB2.out⟩
end Go.Proofs.YtdfkbahlngijcaaDoor
