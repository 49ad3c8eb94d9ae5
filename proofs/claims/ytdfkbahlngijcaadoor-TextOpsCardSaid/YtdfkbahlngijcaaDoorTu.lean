/- Text: results: Result of the program where Err is OK. -/
import Derived.Test.YtdfkbahlngijcaaDoorTt
namespace Go.Proofs.YtdfkbahlngijcaaDoor
open Go.RowKit
set_option linter.unusedVariables false

theorem flatS_map : ∀ ws : List (List UInt8), flatR fS ws = ws.map fun x => Value.string ⟨x.toArray⟩
  | [] => rfl
  | x :: l => by rw [show x :: l = [x] ++ l from rfl, flatS_app, flatS_map l, flatS_one]; rfl
theorem join_row {B : Nat} {v : Value} {ws : List (List UInt8)} {w : World} (h : w.ownsRow B 9 1 v ws.length (flatR fS ws)) (hne : 0 < ws.length) (hN : ws.length ≤ 1000) (hlen : (joinW ws).length ≤ 140737488355328) :
    Calls Tryd.prog 31 #[v, .string ⟨#[32]⟩] w fun e w' => e = .returned (.string ⟨(joinW ws).toArray⟩) ∧ Below w.heap.size w w' := by
  rcases h with ⟨_, ⟨_, h⟩ | ⟨g, cap, cur, rfl, hb, hg, hcap, hm, hs, htk⟩⟩
  · omega
  · have hl : (ws.map fun x => (⟨x.toArray⟩ : ByteArray)).length = ws.length := List.length_map ..
    have hmap : (ws.map fun x => (⟨x.toArray⟩ : ByteArray)).map (·.data.toList) = ws := by
      rw [List.map_map]
      conv => rhs; rw [← List.map_id ws]
      rfl
    have hfl := flatS_map ws
    have hJ := Tryd.strings_Join g 0 cap (ws.map fun x => (⟨x.toArray⟩ : ByteArray)) ⟨#[32]⟩ w (fun j x hj => by
      rw [block_cell hg, Nat.zero_add]
      rw [hfl] at htk
      have hjl : j < ws.length := by
        have := (List.getElem?_eq_some_iff.1 hj).1
        omega
      have e := congrArg (fun l => l[j]?) htk
      rw [List.getElem?_take_of_lt (by omega), Array.getElem?_toList] at e
      rw [e]
      rw [List.getElem?_map] at hj ⊢
      rcases hw : ws[j]? with _ | y
      · rw [hw] at hj; cases hj
      · rw [hw] at hj
        obtain rfl := Option.some.inj hj
        rfl) (block_lt hg) (by rw [hl]; omega) (by rw [hl]; exact hcap) (by
      rw [hmap]
      show (Lib.join ws [32]).length ≤ _
      rw [join_is]; exact hlen)
    rw [hl, hmap] at hJ
    have e : Lib.join ws (⟨#[32]⟩ : ByteArray).data.toList = joinW ws := join_is ws
    rw [e] at hJ
    exact hJ
theorem numL_len (v : Int) : (numL v).length ≤ 10 := by
  unfold numL
  by_cases h : numOK v
  · rw [if_pos h]
    obtain ⟨h1, h2⟩ := h
    exact decDigits_len 10 _ (by decide) (by omega)
  · rw [if_neg h]
    exact Nat.zero_le _
theorem words_len (r : Rs) (ht : r.t.size ≤ 1000000) (hc : checkP r.d = 0) : (joinW (wordsR r)).length ≤ 100000000 ∧ (wordsR r).length ≤ 13 := by
  have h13 : (wordsR r).length ≤ 13 := by
    unfold wordsR
    simp only [List.length_append, List.length_map, List.length_singleton]
    have h1 : (nums1 r).length = 4 := rfl
    have h2 : (nums2 r).length = 6 := rfl
    by_cases hd : textL r.d = []
    · rw [if_pos hd, h1, h2]; simp
    · rw [if_neg hd, h1, h2]; simp
  have hq := quote_len r.t
  have htx := text_short hc r.d.length
  rw [List.take_length] at htx
  have hk : ∀ x ∈ wordsR r, x.length ≤ 3000001 := by
    intro x hx
    unfold wordsR at hx
    simp only [List.mem_append, List.mem_map, List.mem_singleton] at hx
    rcases hx with (((rfl | ⟨v, _, rfl⟩) | rfl) | ⟨v, _, rfl⟩) | hx
    · show 2 ≤ _; omega
    · have := numL_len v; omega
    · omega
    · have := numL_len v; omega
    · by_cases hd : textL r.d = []
      · rw [if_pos hd] at hx; exact absurd hx List.not_mem_nil
      · rw [if_neg hd, List.mem_singleton] at hx
        subst hx; omega
  have h := joinW_most (wordsR r) 3000001 hk
  refine ⟨Nat.le_trans h ?_, h13⟩
  have := Nat.mul_le_mul_right (3000001 + 1) h13
  omega
theorem ResS.low_of {r : Rs} {ao : Option Addr} {n c : Nat} {w0 w : World} {v : Value} {ws : List (List UInt8)} (h : ResS r ao n c w0 v ws w) : Below w0.heap.size w0 w := h.low
/-- the world in which put is called first -/
def resW (r : Rs) (ao : Option Addr) (n c : Nat) (w : World) : World :=
  (((w.alloc (.cells (rsV r ao n c) 29)).alloc (.cells (itemV r ao n c) 27)).alloc (.cells #[.string ⟨#[111, 107]⟩] 9)).alloc (.cells #[.slice (some ⟨w.heap.size + 2, 0, none⟩) 1 1] 59)
theorem resW_is (r : Rs) (ao : Option Addr) (n c : Nat) (w : World) : ResS r ao n c w (.slice (some ⟨w.heap.size + 2, 0, none⟩) 1 1) [[111, 107]] (resW r ao n c w) := by
  unfold resW
  refine ⟨block_alloc (block_alloc (block_alloc (block_new _ _) _) _) _, block_alloc (block_alloc (block_new' _ _ _ (by simp)) _) _, ⟨block_new' _ _ _ (by simp), ?_⟩, ((((Below.refl _ w).alloc (Nat.le_refl _) _).alloc (by simp) _).alloc (by simp; omega) _).alloc (by simp; omega) _, by simp⟩
  exact ⟨rfl, .inr ⟨w.heap.size + 2, 1, #[.string ⟨#[111, 107]⟩], rfl, Nat.le_refl _, block_alloc (block_new' _ _ _ (by simp)) _, Nat.le_refl _, by decide, rfl, rfl⟩⟩
/-- put at a state of Result, with its numbers in a block of their own -/
theorem put_at {r : Rs} {ao : Option Addr} {n c : Nat} {w0 w : World} {v : Value} {ws : List (List UInt8)} (h : ResS r ao n c w0 v ws w) (ht : Tab w0) (hw : ws.length ≤ 100) (l : List Int) (hl : l.length ≤ 100) (cs : Array Value) (hcs : cs = (l.map (Value.int .i64)).toArray) (b k : Nat) (hb : b = w.heap.size) (hk : k = l.length) :
    Calls Tryd.prog 28 #[.slice (some ⟨b, 0, none⟩) k k, .pointer (some ⟨w0.heap.size + 3, 0, none⟩)] (w.alloc (.cells cs 3)) fun e w' =>
      e = .returned (.bool (allOK l)) ∧ Below w0.heap.size w0 w' ∧ (allOK l = true → ∃ v', ResS r ao n c w0 v' (ws ++ l.map numL) w') := by
  subst hb
  subst hcs
  subst hk
  have hA := h.alloc (.cells (l.map (Value.int .i64)).toArray 3)
  have hs := h.size
  refine (put_any (w0.heap.size + 2) (w0.heap.size + 3) w.heap.size l.length v ws l w0 _ hA.out (block_new _ _) (by omega) (by omega) (by simp; omega) hA.low ht hw hl).mono ?_
  rintro e w' ⟨rfl, hb, ho⟩
  refine ⟨rfl, hA.low.trans (hb.mono (by omega)), fun hk => ?_⟩
  obtain ⟨v', hv⟩ := ho hk
  exact ⟨v', hA.kept hb hv⟩

end Go.Proofs.YtdfkbahlngijcaaDoor
