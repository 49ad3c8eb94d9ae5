/- Text: Format of the program: what its calls keep. -/
import Derived.Test.YtdfkbahlngijcaaDoorKf
namespace Go.Proofs.YtdfkbahlngijcaaDoor
open Go.RowKit
set_option linter.unusedVariables false

theorem fmtU_num (v : Int) (h : numOK v) (w : World) (ht : Tab w) : Calls Tryd.prog 38 #[.int .u64 v, .int .i64 10] w fun e w' => e = .returned (.string ⟨(numL v).toArray⟩) ∧ Below w.heap.size w w' := by
  obtain ⟨m, rfl⟩ : ∃ m : Nat, v = m := ⟨v.toNat, by have := h.1; omega⟩
  have e : numL (m : Int) = Lib.decDigits m := if_pos h
  rw [e]
  exact fmtUint_any m (by have := h.2; omega) w ht
set_option maxRecDepth 100000 in
set_option maxHeartbeats 2000000 in
theorem bd_len {B b : Nat} {v : Value} {l : List UInt8} {w : World} (h : Bd B b v l w) : Calls Tryd.prog 39 #[.pointer (some ⟨b, 0, none⟩)] w fun e w' => e = .returned (.int .i64 (l.length : Nat)) ∧ w = w' := by
  have h1 : w.cell? ⟨b, 1, none⟩ = some v := by rcases h.cells with e | e <;> exact block_cell e 1
  obtain ⟨ao, cap, rfl, -⟩ := own_form h.own
  clear h
  generalize l.length = n at *
  go_enter Tryd.func39, Tryd.ntmps39
  go_wp2_with fail
  go_ret
  exact ⟨rfl, rfl⟩
section
variable {c : Cf} {po : Option Addr} {pn pc : Nat} {qo : Option Addr} {qn qc bS b bC : Nat} {l : List UInt8} {w0 w w' : World}
theorem FmtS.len (h : FmtS c po pn pc qo qn qc w0 bS b bC l w) : Calls Tryd.prog 39 #[.pointer (some ⟨b, 0, none⟩)] w fun e w' => e = .returned (.int .i64 (l.length : Nat)) ∧ w = w' := by
  obtain ⟨v, hv⟩ := h.bd
  exact bd_len hv
theorem FmtS.string (h : FmtS c po pn pc qo qn qc w0 bS b bC l w) : Calls Tryd.prog 40 #[.pointer (some ⟨b, 0, none⟩)] w fun e w' => e = .returned (.string ⟨l.toArray⟩) ∧ Below w0.heap.size w0 w' := by
  obtain ⟨v, hv⟩ := h.bd
  refine (string_own w0.heap.size b v l w hv).mono ?_
  rintro e w' ⟨rfl, k⟩
  exact ⟨rfl, Kept2.below h.low k h.low.size (fun q e => by cases e) hv.ge⟩
theorem FmtS.grown {v : Value} {n : Nat} {xs : List Value} (h : FmtS c po pn pc qo qn qc w0 bS b bC l w) (ho : w.ownsRow w0.heap.size 9 1 v n xs) (hg : w.grownBy w' v.ownBlock) : FmtS c po pn pc qo qn qc w0 bS b bC l w' := by
  obtain ⟨u, hu⟩ := h.bd
  have k : Kept2 w w' none v.ownBlock := Kept2.of_grown hg
  have hne : ∀ q, v.ownBlock = some q → ∃ cur, w.heap[q]? = some (.cells cur 9 (0, 0)) := fun q hq => (own_typ1 ho hq).2
  have hd : some b ≠ v.ownBlock := fun e => by
    obtain ⟨cur, hc⟩ := hne b e.symm
    rcases hu.cells with k | k
    · rw [hc] at k; injection k with k; injection k with _ k _; exact absurd k (by decide)
    · rw [hc] at k; injection k with k; injection k with _ k _; exact absurd k (by decide)
  have hq : ∀ q, u.ownBlock = some q → v.ownBlock ≠ some q := fun q h1 h2 => by
    obtain ⟨cur, hc⟩ := hne q h2
    obtain ⟨-, cur2, hc2⟩ := own_typ1 hu.own h1
    rw [hc] at hc2; injection hc2 with hc2; injection hc2 with _ hc2 _; exact absurd hc2 (by decide)
  exact ⟨⟨keep_append ho h.box.box (by decide) hg h.box.box, keep_append ho h.box.cfg (by decide) hg h.box.cfg⟩, ⟨u, hu.kept k (by simp) hd (fun _ _ => by simp) hq⟩,
    Kept2.below h.low k h.low.size (fun q e => by cases e) (fun q e => (own_typ1 ho e).1), h.ge⟩
/-- put of an own row of words -/
theorem put_own (h : FmtS c po pn pc qo qn qc w0 bS b bC l w) {v : Value} {ws : List (List UInt8)} (ho : w.ownsRow w0.heap.size 9 1 v ws.length (flatR fS ws)) (hp : 0 < ws.length) (hN : ws.length ≤ 1000) (hlen : l.length + (joinW ws).length ≤ 1000000000) :
    Calls Tryd.prog 36 #[v, .pointer (some ⟨b, 0, none⟩)] w fun e w' => e = .returned (.tuple #[]) ∧ FmtS c po pn pc qo qn qc w0 bS b bC (l ++ lineL ws) w' := by
  rcases ho with ⟨_, ⟨_, hz⟩ | ⟨g, cap, cur, rfl, hb, hg, hcap, hm, hs, htk⟩⟩
  · omega
  · refine put_fmt h g 0 cap ws.length ws (fun j x hj => ?_) (block_lt hg) rfl hN hcap hlen
    have hjl : j < ws.length := (List.getElem?_eq_some_iff.1 hj).1
    rw [block_cell hg, Nat.zero_add]
    rw [flatS_map] at htk
    have e := congrArg (fun l => l[j]?) htk
    rw [List.getElem?_take_of_lt (by omega), Array.getElem?_toList] at e
    rw [e, List.getElem?_map, hj]
    rfl
/-- put of a literal of words -/
theorem put_lit (h : FmtS c po pn pc qo qn qc w0 bS b bC l w) (ws : List (List UInt8)) (cs : Array Value) (n k : Nat) (hcs : cs = (ws.map fun x => Value.string ⟨x.toArray⟩).toArray) (hn : ws.length = n) (hN : n ≤ 1000) (hk : k = w.heap.size) (hlen : l.length + (joinW ws).length ≤ 1000000000) :
    Calls Tryd.prog 36 #[.slice (some ⟨k, 0, none⟩) n n, .pointer (some ⟨b, 0, none⟩)] (w.alloc (.cells cs 9)) fun e w' => e = .returned (.tuple #[]) ∧ FmtS c po pn pc qo qn qc w0 bS b bC (l ++ lineL ws) w' := by
  subst hk
  subst hcs
  refine put_fmt (h.later ((Below.refl _ _).alloc (Nat.le_refl _) _)) w.heap.size 0 n n ws (fun j x hj => ?_) (by simp) hn hN (Nat.le_refl _) hlen
  rw [block_cell (block_new w _), Nat.zero_add, List.getElem?_toArray, List.getElem?_map, hj]
  rfl
end
theorem own_lit (w : World) (B : Nat) (ws : List (List UInt8)) (cs : Array Value) (n : Nat) (hcs : cs = (ws.map fun x => Value.string ⟨x.toArray⟩).toArray) (hn : ws.length = n) (hm : n ≤ maxLen) (hB : B ≤ w.heap.size) :
    (w.alloc (.cells cs 9)).ownsRow B 9 1 (.slice (some ⟨w.heap.size, 0, none⟩) n n) n (flatR fS ws) := by
  subst hcs
  subst hn
  rw [flatS_map]
  refine ⟨by simp, .inr ⟨w.heap.size, ws.length, _, rfl, hB, block_new _ _, Nat.le_refl _, hm, by simp, ?_⟩⟩
  rw [List.take_of_length_le]
  simp
def lenOf : Value → Nat
  | .slice _ n _ => n
  | _ => 0
theorem flatI_map : ∀ l : List Int, flatR fI l = l.map fun q => Value.int .i64 q
  | [] => rfl
  | x :: l => by
    show fI x ++ flatR fI l = _
    rw [flatI_map l]; rfl
theorem isI_drop {w : World} {b off n m : Nat} {l : List Int} (h : IsR fI w (some ⟨b, off, none⟩) n l) (hm : m ≤ n) : IsR fI w (some ⟨b, off + m, none⟩) (n - m) (l.drop m) := by
  refine ⟨by rw [List.length_drop, h.1], fun hn => ?_⟩
  obtain ⟨b', off', e, hlt, h3⟩ := h.2 (by omega)
  injection e with e
  injection e with e1 e2
  subst e1 e2
  refine ⟨b, off + m, rfl, hlt, fun j u hj => ?_⟩
  rw [Nat.add_assoc]
  refine h3 (m + j) u ?_
  rw [flatI_map] at hj ⊢
  rw [List.map_drop, List.getElem?_drop] at hj
  exact hj
end Go.Proofs.YtdfkbahlngijcaaDoor

