/- The contract of slices.Clone. -/
import Derived.Test.YtbodacjhhkjdfaaNn
namespace Go.Proofs.Ytbodacjhhkjdfaa
open Go.RowKit

theorem IsKs.row {w : World} {a : Option Addr} {n : Nat} {l : List Kid} (h : IsKs w a n l) : IsR fK w a n l := by
  obtain ⟨h1, _, h2⟩ := h
  refine ⟨h1, fun hn => ?_⟩
  obtain ⟨b, off, e, h3⟩ := h2 hn
  refine ⟨b, off, e, cellK_lt (h3 0 (by omega)), fun j u hj => ?_⟩
  have hlen := (List.getElem?_eq_some_iff.1 hj).1
  rw [flatR_len fK_len] at hlen
  have hk : j / 4 < l.length := by omega
  have ej : j / 4 * 4 + j % 4 = j := by omega
  have hj2 := flatR_at fK_len l (j / 4) (j % 4) hk (by omega)
  rw [ej, hj] at hj2
  obtain ⟨c0, c1, c2, c3⟩ := h3 (j / 4) hk
  have eo : off + j = off + j / 4 * 4 + j % 4 := by omega
  rw [eo]
  rcases (show j % 4 = 0 ∨ j % 4 = 1 ∨ j % 4 = 2 ∨ j % 4 = 3 by omega) with e | e | e | e
  · rw [e] at hj2 ⊢; exact c0.trans hj2.symm
  · rw [e] at hj2 ⊢; exact c1.trans hj2.symm
  · rw [e] at hj2 ⊢; exact c2.trans hj2.symm
  · rw [e] at hj2 ⊢; exact c3.trans hj2.symm
theorem IsR.newsAll {α : Type} {f : α → List Value} {w : World} {ad : Addr} {n : Nat} {l : List α} (h : IsR f w (some ad) n l) : ∀ j u, (flatR f l)[j]? = some u → w.cell? (ad.add j) = some u := by
  rcases Nat.eq_zero_or_pos n with e | e
  · obtain rfl : l = [] := List.length_eq_zero_iff.1 (h.1.trans e)
    intro j u hj
    simp [flatR] at hj
  · exact h.news e
theorem own_empty {w : World} {base b : Nat} {e : TypeId} {size : Nat} (hb : base ≤ b) (h : w.heap[b]? = some (.cells #[] e (0, 0))) : w.ownsRow base e size (.slice (some ⟨b, 0, none⟩) 0 0) 0 [] :=
  ⟨by simp, .inr ⟨b, 0, #[], rfl, hb, h, Nat.le_refl _, Nat.zero_le _, by simp, by simp⟩⟩

theorem run_nil_none (w : World) : (binOp .eql 22 (.slice none 0 0) (.slice none 0 0)).run Try.prog w = .ok (.bool true) w := by kernel_rfl
theorem run_nil_some (ad : Addr) (n c : Nat) (w : World) : (binOp .eql 22 (.slice (some ad) n c) (.slice none 0 0)).run Try.prog w = .ok (.bool false) w := by kernel_rfl
set_option maxRecDepth 100000 in
set_option maxHeartbeats 2000000 in
theorem clone_any (l : List Kid) (ao : Option Addr) (n c : Nat) (w : World) (hk : IsKs w ao n l) (hno : ao = none → c = 0) (hreach : n * 32 ≤ 140737488351232) :
    Calls Try.prog 72 #[.slice ao n c] w fun e w' => ∃ v, e = .returned v ∧ OwnKs w.heap.size w' v n l ∧ Below w.heap.size w w' := by
  cases ao with
  | none =>
    have hn : n = 0 := by
      rcases Nat.eq_zero_or_pos n with e | e
      · exact e
      · obtain ⟨b, off, e, _⟩ := hk.2.2 e
        simp at e
    have hc := hno rfl
    subst hn hc
    have hl : l = [] := List.length_eq_zero_iff.1 hk.1
    subst hl
    clear hk
    have hnil := run_nil_none
    go_enter Try.func72, Try.ntmps72
    go_wp2_with fail
    go_ret
    exact ⟨_, rfl, ⟨rfl, by simp, World.ownsRow_nil _ _ _ _⟩, Below.refl _ _⟩
  | some ad =>
    obtain ⟨i0, hi, hz0, hz1, hz2⟩ := info_parts infoK
    have HO : (w.alloc (.cells #[] 49)).ownsRow w.heap.size 49 4 (.slice (some ⟨w.heap.size, 0, none⟩) 0 0) 0 (flatR fK []) := own_empty (Nat.le_refl _) (block_new _ _)
    have HN : IsR fK (w.alloc (.cells #[] 49)) (some ad) n l := (hk.row).later ((Below.refl _ _).alloc (Nat.le_refl _) _)
    have HHO := Lib.hid HO
    have HHN := Lib.hid HN
    have HK := Lib.hid hk
    have HLEN := Lib.hid (show (flatR fK l).length = n * 4 by rw [flatR_len fK_len, hk.1])
    clear HO HN hk
    have hnil := run_nil_some ad n c
    go_enter Try.func72, Try.ntmps72
    go_wp2_with (at_builtin; refine wpList_append_own _ rfl _ _ 22 rfl w.heap.size 49 i0 (.agg #[.int .u64 0, .int .i64 0, .int .i64 0, .int .i64 0]) 4 32 Try.underlying22 hi hz0 hz1 hz2 rfl (by decide) _ 0 (flatR fK []) rfl HHO.out ad n _ (flatR fK l) rfl HLEN.out HHN.out.newsAll (fK_one _) ?c3 ?c4 ?c5 ?_)
    case c3 => unfold maxLen; omega
    case c4 => omega
    case c5 => simp
    intro v' w1 hown1 hgrow _
    have hown : OwnKs w.heap.size w1 v' n l := ⟨HK.out.1, HK.out.2.1, by simpa [flatR] using hown1⟩
    have hbel : Below w.heap.size w w1 := ((Below.refl _ _).alloc (Nat.le_refl _) _).grown hgrow (by simp) (fun j hj => by simp [Value.ownBlock] at hj; omega)
    have HOWN := Lib.hid hown
    have HBEL := Lib.hid hbel
    clear hown1 hgrow hown hbel
    go_wp2_with fail
    go_ret
    exact ⟨_, rfl, HOWN.out, HBEL.out⟩
end Go.Proofs.Ytbodacjhhkjdfaa
