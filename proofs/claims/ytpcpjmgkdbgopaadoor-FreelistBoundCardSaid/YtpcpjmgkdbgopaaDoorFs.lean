/- The freelist: New of the reference. -/
import Derived.Test.YtpcpjmgkdbgopaaDoorFr
namespace Go.Proofs.YtpcpjmgkdbgopaaDoor
open Go.RowKit

def repI (k : Nat) : List Value := List.replicate k (encI 0)
def repU (k : Nat) : List Value := List.replicate k (encU 1)
def repS (n k : Nat) : List Value := (List.range k).map fun i => encI (n - 1 - i)
theorem repI_snoc (k : Nat) : repI (k + 1) = repI k ++ [encI 0] := List.replicate_succ'
theorem repU_snoc (k : Nat) : repU (k + 1) = repU k ++ [encU 1] := List.replicate_succ'
theorem repS_snoc (n k : Nat) : repS n (k + 1) = repS n k ++ [encI (n - 1 - k)] := by
  unfold repS
  rw [List.range_succ, List.map_append]
  rfl
theorem cell_one_at {w : World} {S : Nat} (hS : S = w.heap.size) (x : Value) (t : TypeId) : ∀ j u, [x][j]? = some u → (w.alloc (.cells #[x] t)).cell? ((⟨S, 0, none⟩ : Addr).add j) = some u := by
  subst hS
  exact cell_one_new w x t
theorem head_grown {w w1 : World} {o : Obj} {B : Nat} {x : Obj} {row : Option Nat} (hp : w.heap[B]? = some x) (hg : (w.alloc o).grownBy w1 row) (hr : some B ≠ row) : w1.heap[B]? = some x :=
  (hg.block B (Nat.lt_of_lt_of_le (block_lt hp) (by simp)) hr).trans (block_alloc hp o)
def Ap (a b : Option Addr) (n m c d : Nat) : Prop := ∀ q, (Value.slice a n c).ownBlock = some q → (Value.slice b m d).ownBlock ≠ some q
theorem Ap.symm {a b : Option Addr} {n m c d : Nat} (h : Ap a b n m c d) : Ap b a m n d c := fun q h1 h2 => h q h2 h1
theorem ap_block {a b : Option Addr} {n m c d : Nat} (h : Ap a b n m c d) {q : Nat} (hq : (Value.slice b m d).ownBlock = some q) : some q ≠ (Value.slice a n c).ownBlock := fun e => h q e.symm hq
theorem Ap.other {a b : Option Addr} {n m c d : Nat} (h : Ap a b n m c d) (n' m' c' d' : Nat) : Ap a b n' m' c' d' := fun q h1 h2 => by
  refine h q ?_ ?_
  · cases a with
    | none => exact h1
    | some p => exact h1
  · cases b with
    | none => exact h2
    | some p => exact h2
/-- the value's block lies at B or above, and is there -/
def Lt (B : Nat) (w : World) (v : Value) : Prop := ∀ q, v.ownBlock = some q → B ≤ q ∧ q < w.heap.size
theorem own_lt {w : World} {B : Nat} {t : TypeId} {v : Value} {n : Nat} {l : List Value} (h : w.ownsRow B t 1 v n l) : Lt B w v := by
  intro q hq
  obtain ⟨-, ⟨h, -⟩ | ⟨g, cap', cur, h1, hg, h2, -⟩⟩ := h
  · subst h; cases hq
  · subst h1; cases hq; exact ⟨hg, block_lt h2⟩
theorem own_ne {w : World} {B : Nat} {v : Value} (h : Lt B w v) {q : Nat} (hq : q < B) : some q ≠ v.ownBlock := fun e => by
  have := (h q e.symm).1
  omega
theorem own_keep {w w' : World} {B : Nat} {t : TypeId} {v : Value} {n : Nat} {l : List Value} (h : w.ownsRow B t 1 v n l) (hk : ∀ q, v.ownBlock = some q → w'.heap[q]? = w.heap[q]?) : w'.ownsRow B t 1 v n l := by
  obtain ⟨h0, h | ⟨g, cap', cur, h1, hg, h2, h3⟩⟩ := h
  · exact ⟨h0, .inl h⟩
  · exact ⟨h0, .inr ⟨g, cap', cur, h1, hg, by rw [hk g (by rw [h1]; rfl)]; exact h2, h3⟩⟩
theorem own_set {w : World} {B : Nat} {t : TypeId} {v : Value} {n : Nat} {l : List Value} (h : w.ownsRow (B + 1) t 1 v n l) {i : Nat} {x : Value} : (w.setCell ⟨B, i, none⟩ x).ownsRow (B + 1) t 1 v n l := by
  have hl := own_lt h
  exact own_keep h (fun q hq => Below.heap_setCell _ _ _ _ (by have := (hl q hq).1; show q ≠ B; omega))
theorem own_form {w : World} {B : Nat} {t : TypeId} {v : Value} {k : Nat} {l : List Value} (h : w.ownsRow B t 1 v (k + 1) l) : ∃ g c, v = .slice (some ⟨g, 0, none⟩) (k + 1) c := by
  obtain ⟨-, ⟨-, h⟩ | ⟨g, cap', cur, h1, -⟩⟩ := h
  · omega
  · exact ⟨g, cap', h1⟩
theorem ap_new {w : World} {B : Nat} {a b : Option Addr} {n m c d q n' c' m' d' : Nat} (hb : Lt B w (.slice b m d)) (hq : some q = (Value.slice a n c).ownBlock ∨ some q = some (w.heap.size + 1)) (h : Ap b a m n d c) : Ap b (some ⟨q, 0, none⟩) m' n' d' c' := by
  intro r h1 h2
  have h1' : (Value.slice b m d).ownBlock = some r := by
    cases b with
    | none => exact h1
    | some p => exact h1
  have e : some q = some r := h2
  rcases hq with hq | hq
  · exact h r h1' (hq.symm.trans e)
  · have := (hb r h1').2
    rw [hq] at e
    injection e with e
    omega
/-- the new list of the reference, k1, k2, k3 elements appended -/
def NewR (n g k1 k2 k3 B : Nat) (a1 a2 a3 : Option Addr) (c1 c2 c3 : Nat) (w : World) : Prop :=
  w.heap[B]? = some (.cells #[.int .u64 g, .slice a1 k1 c1, .slice a2 k2 c2, .slice a3 k3 c3] 65 (0, 0)) ∧
  w.ownsRow (B + 1) 3 1 (.slice a1 k1 c1) k1 (repI k1) ∧ w.ownsRow (B + 1) 28 1 (.slice a2 k2 c2) k2 (repU k2) ∧ w.ownsRow (B + 1) 3 1 (.slice a3 k3 c3) k3 (repS n k3) ∧
  Ap a1 a2 k1 k2 c1 c2 ∧ Ap a1 a3 k1 k3 c1 c3 ∧ Ap a2 a3 k2 k3 c2 c3
theorem ap_nil : Ap none none 0 0 0 0 := fun _ h => nomatch h
theorem newR_zero (w : World) (g n : Nat) : NewR n g 0 0 0 w.heap.size none none none 0 0 0 (w.alloc (.cells #[.int .u64 g, .slice none 0 0, .slice none 0 0, .slice none 0 0] 65)) :=
  ⟨block_new w _, ⟨rfl, .inl ⟨rfl, rfl⟩⟩, ⟨rfl, .inl ⟨rfl, rfl⟩⟩, ⟨rfl, .inl ⟨rfl, rfl⟩⟩, ap_nil, ap_nil, ap_nil⟩
theorem newR_step1 {n g k B : Nat} {a1 a2 a3 : Option Addr} {c1 c2 c3 : Nat} {w w1 : World} {o : Obj} {q c S : Nat} (hS : S = w.heap.size) (h : NewR n g k k k B a1 a2 a3 c1 c2 c3 w)
    (hw : w1.ownsRow (B + 1) 3 1 (.slice (some ⟨q, 0, none⟩) (k + 1) c) (k + 1) (repI k ++ [encI 0])) (hg : (w.alloc o).grownBy w1 (Value.slice a1 k c1).ownBlock)
    (hq : some q = (Value.slice a1 k c1).ownBlock ∨ some q = some (S + 1)) :
    NewR n g (k + 1) k k B (some ⟨q, 0, none⟩) a2 a3 c c2 c3 (w1.setCell ⟨B, 1, none⟩ (.slice (some ⟨q, 0, none⟩) (k + 1) c)) := by
  subst hS
  obtain ⟨hp, h1, h2, h3, h12, h13, h23⟩ := h
  have hb1 := own_lt h1
  have hb2 := own_lt h2
  have hb3 := own_lt h3
  have hB := block_lt hp
  have hp1 : w1.heap[B]? = _ := (hg.block B (by simp; omega) (own_ne hb1 (by omega))).trans (block_alloc hp o)
  refine ⟨?_, own_set (by rw [repI_snoc]; exact hw), own_set (own_keep (h2.alloc o) (fun q hq => hg.block q (by have := (hb2 _ hq).2; simp; omega) (ap_block h12 hq))), own_set (own_keep (h3.alloc o) (fun q hq => hg.block q (by have := (hb3 _ hq).2; simp; omega) (ap_block h13 hq))), (ap_new hb2 hq h12.symm).symm, (ap_new hb3 hq h13.symm).symm, h23⟩
  have := block_setCell hp1 1 (.slice (some ⟨q, 0, none⟩) (k + 1) c)
  rw [this]
  rfl
theorem newR_step2 {n g k B : Nat} {a1 a2 a3 : Option Addr} {c1 c2 c3 : Nat} {w w1 : World} {o : Obj} {q c S : Nat} (hS : S = w.heap.size) (h : NewR n g (k + 1) k k B a1 a2 a3 c1 c2 c3 w)
    (hw : w1.ownsRow (B + 1) 28 1 (.slice (some ⟨q, 0, none⟩) (k + 1) c) (k + 1) (repU k ++ [encU 1])) (hg : (w.alloc o).grownBy w1 (Value.slice a2 k c2).ownBlock)
    (hq : some q = (Value.slice a2 k c2).ownBlock ∨ some q = some (S + 1)) :
    NewR n g (k + 1) (k + 1) k B a1 (some ⟨q, 0, none⟩) a3 c1 c c3 (w1.setCell ⟨B, 2, none⟩ (.slice (some ⟨q, 0, none⟩) (k + 1) c)) := by
  subst hS
  obtain ⟨hp, h1, h2, h3, h12, h13, h23⟩ := h
  have hb1 := own_lt h1
  have hb2 := own_lt h2
  have hb3 := own_lt h3
  have hB := block_lt hp
  have hp1 : w1.heap[B]? = _ := (hg.block B (by simp; omega) (own_ne hb2 (by omega))).trans (block_alloc hp o)
  refine ⟨?_, own_set (own_keep (h1.alloc o) (fun q hq => hg.block q (by have := (hb1 _ hq).2; simp; omega) (ap_block h12.symm hq))), own_set (by rw [repU_snoc]; exact hw), own_set (own_keep (h3.alloc o) (fun q hq => hg.block q (by have := (hb3 _ hq).2; simp; omega) (ap_block h23 hq))), (ap_new hb1 hq h12), h13, (ap_new hb3 hq h23.symm).symm⟩
  have := block_setCell hp1 2 (.slice (some ⟨q, 0, none⟩) (k + 1) c)
  rw [this]
  rfl
theorem newR_step3 {n g k B : Nat} {a1 a2 a3 : Option Addr} {c1 c2 c3 : Nat} {w w1 : World} {o : Obj} {q c S : Nat} (hS : S = w.heap.size) (h : NewR n g (k + 1) (k + 1) k B a1 a2 a3 c1 c2 c3 w)
    (hw : w1.ownsRow (B + 1) 3 1 (.slice (some ⟨q, 0, none⟩) (k + 1) c) (k + 1) (repS n k ++ [encI (n - 1 - k)])) (hg : (w.alloc o).grownBy w1 (Value.slice a3 k c3).ownBlock)
    (hq : some q = (Value.slice a3 k c3).ownBlock ∨ some q = some (S + 1)) :
    NewR n g (k + 1) (k + 1) (k + 1) B a1 a2 (some ⟨q, 0, none⟩) c1 c2 c (w1.setCell ⟨B, 3, none⟩ (.slice (some ⟨q, 0, none⟩) (k + 1) c)) := by
  subst hS
  obtain ⟨hp, h1, h2, h3, h12, h13, h23⟩ := h
  have hb1 := own_lt h1
  have hb2 := own_lt h2
  have hb3 := own_lt h3
  have hB := block_lt hp
  have hp1 : w1.heap[B]? = _ := (hg.block B (by simp; omega) (own_ne hb3 (by omega))).trans (block_alloc hp o)
  refine ⟨?_, own_set (own_keep (h1.alloc o) (fun q hq => hg.block q (by have := (hb1 _ hq).2; simp; omega) (ap_block h13.symm hq))), own_set (own_keep (h2.alloc o) (fun q hq => hg.block q (by have := (hb2 _ hq).2; simp; omega) (ap_block h23.symm hq))), own_set (by rw [repS_snoc]; exact hw), h12, (ap_new hb1 hq h13), (ap_new hb2 hq h23)⟩
  have := block_setCell hp1 3 (.slice (some ⟨q, 0, none⟩) (k + 1) c)
  rw [this]
  rfl

/-- what New of the reference returns, where the numbers are in range: the blocks are new -/
def NewY (w : World) (n g : Nat) (e : Ending) (w' : World) : Prop :=
  ∃ b : YB, e = .returned (.tuple #[.pointer (some ⟨b.p, 0, none⟩), .int .i64 0]) ∧ IsY w' b (newL n g) ∧ Below w.heap.size w w' ∧ w.heap.size ≤ b.p ∧ w.heap.size ≤ b.s ∧ w.heap.size ≤ b.t ∧ w.heap.size ≤ b.g ∧ b.cs ≤ maxLen

theorem rep_arr {w : World} {B b : Nat} {t : TypeId} {n c : Nat} {l : List Value} {f : Nat → Value} (h : w.ownsRow B t 1 (.slice (some ⟨b, 0, none⟩) n c) n l) (hl : ∀ i, i < n → l[i]? = some (f i)) : B ≤ b ∧ Arr w b t c n f ∧ n ≤ c ∧ c ≤ maxLen := by
  obtain ⟨-, ⟨h, -⟩ | ⟨g, cap', cur, h1, hg, h2, h3, h4, h5, h6⟩⟩ := h
  · cases h
  · cases h1
    refine ⟨hg, ⟨cur, h2, by omega, h3, fun i hi => ?_⟩, h3, h4⟩
    have := congrArg (fun l => l[i]?) h6
    simp only [List.getElem?_take, Array.getElem?_toList] at this
    rw [if_pos (by omega)] at this
    rw [this]
    exact hl i hi
theorem newR_end {n g : Nat} {a1 a2 a3 : Option Addr} {c1 c2 c3 : Nat} {w w' : World} (hn : 1 ≤ n) (h : NewR n g n n n w.heap.size a1 a2 a3 c1 c2 c3 w') (hb : Below w.heap.size w w') :
    NewY w n g (.returned (.tuple #[.pointer (some ⟨w.heap.size, 0, none⟩), .int .i64 0])) w' := by
  obtain ⟨m, rfl⟩ : ∃ m, n = m + 1 := ⟨n - 1, by omega⟩
  obtain ⟨hp, h1, h2, h3, h12, h13, h23⟩ := h
  obtain ⟨b1, d1, e1⟩ := own_form h1
  obtain ⟨b2, d2, e2⟩ := own_form h2
  obtain ⟨b3, d3, e3⟩ := own_form h3
  cases e1
  cases e2
  cases e3
  obtain ⟨l1, r1, s1, t1⟩ := rep_arr (f := fun _ => encI 0) h1 (fun i hi => by simp [repI, hi])
  obtain ⟨l2, r2, s2, t2⟩ := rep_arr (f := fun _ => encU 1) h2 (fun i hi => by simp [repU, hi])
  obtain ⟨l3, r3, s3, t3⟩ := rep_arr (f := fun i => encI (m + 1 - 1 - i)) h3 (fun i hi => by simp [repS, hi])
  exact ⟨{ p := w.heap.size, s := b3, t := b1, g := b2, cs := c3, ct := c1, cg := c2 }, rfl, ⟨hp, r3, r1, r2, fun e => h13 b1 rfl (congrArg some (show b3 = b1 from e)), s3⟩, hb, Nat.le_refl _, Nat.le_of_succ_le l3, Nat.le_of_succ_le l1, Nat.le_of_succ_le l2, t3⟩

set_option maxRecDepth 100000 in
set_option maxHeartbeats 2000000 in
theorem refNew_n (n g : Int) (w : World) (h : n < 1 ∨ 16384 < n) :
    Calls Tryd.prog 12 #[.int .i64 n, .int .u64 g] w fun e w' => e = .returned (.tuple #[.pointer none, .int .i64 3]) ∧ w = w' := by
  by_cases c1 : n < 1
  · clear h
    go_enter Tryd.func12, Tryd.ntmps12
    go_wp2_with fail
    go_ret2
    exact ⟨rfl, rfl⟩
  · have c2 : 16384 < n := by omega
    clear h
    go_enter Tryd.func12, Tryd.ntmps12
    go_wp2_with fail
    go_ret2
    exact ⟨rfl, rfl⟩

set_option maxRecDepth 100000 in
set_option maxHeartbeats 2000000 in
theorem refNew_g (n g : Int) (w : World) (h1 : 1 ≤ n) (h2 : n ≤ 16384) (h : g < 1 ∨ 4294967295 < g) :
    Calls Tryd.prog 12 #[.int .i64 n, .int .u64 g] w fun e w' => e = .returned (.tuple #[.pointer none, .int .i64 3]) ∧ w = w' := by
  by_cases c1 : g < 1
  · clear h
    go_enter Tryd.func12, Tryd.ntmps12
    go_wp2_with fail
    go_ret2
    exact ⟨rfl, rfl⟩
  · have c2 : 4294967295 < g := by omega
    clear h
    go_enter Tryd.func12, Tryd.ntmps12
    go_wp2_with fail
    go_ret2
    exact ⟨rfl, rfl⟩

set_option maxRecDepth 100000 in
set_option maxHeartbeats 2000000 in
theorem refNew_ok (n g : Nat) (w : World) (h1 : 1 ≤ n) (h2 : n ≤ 16384) (h3 : 1 ≤ g) (h4 : g ≤ 4294967295) :
    Calls Tryd.prog 12 #[.int .i64 n, .int .u64 g] w fun e w' => NewY w n g e w' := by
  obtain ⟨i0, hi, hz0, hz1, hz2⟩ := info_parts infoI
  obtain ⟨j0, hj, hw0, hw1, hw2⟩ := info_parts infoU
  have k1 : (1 : Int) ≤ n := by omega
  have k2 : (n : Int) ≤ 16384 := by omega
  have k3 : (1 : Int) ≤ g := by omega
  have k4 : (g : Int) ≤ 4294967295 := by omega
  have HB0 := Lib.hid (Below.refl w.heap.size w)
  go_enter Tryd.func12, Tryd.ntmps12
  go_wp2_with fail
  go_loopw [7] (fun i wr => ∃ k : Nat, k ≤ n ∧ i = .int .i64 k ∧ (∃ a1 a2 a3 c1 c2 c3, NewR n g k k k w.heap.size a1 a2 a3 c1 c2 c3 wr) ∧ Below w.heap.size w wr) (fun i _ => n - (intOf i).toNat)
  case atStart =>
    exact ⟨0, Nat.zero_le _, rfl, ⟨none, none, none, 0, 0, 0, newR_zero w g n⟩, HB0.out.alloc (Nat.le_refl _) _⟩
  case round =>
    obtain ⟨k, hk, rfl, ⟨a1, a2, a3, c1, c2, c3, hr⟩, hbr⟩ := hrel
    have HBR := Lib.hid hbr
    have HR := Lib.hid hr
    by_cases hlt : k < n
    · have hp := hr.1
      have hlt' : (k : Int) < (n : Int) := by omega
      have HNK := Lib.hid (show Value.int .i64 ((n : Int) - 1 - k) = encI (n - 1 - k) by unfold encI; congr 1; omega)
      (have q0 := block_cell hp 0; have q1 := block_cell hp 1; have q2 := block_cell hp 2; have q3 := block_cell hp 3; have f0 := block_free hp 0; have f1 := block_free hp 1; have f2 := block_free hp 2; have f3 := block_free hp 3; have hz := block_lt hp; simp at q0 q1 q2 q3)
      clear hp hr hbr
      have HHO1 := Lib.hid (fun A => (HR.out.2.1).alloc A)
      have HHN1 := Lib.hid (cell_one_new wr (encI 0) 3)
      go_wp2_with (at_builtin; refine wpList_append_own_at _ rfl _ _ 45 rfl (w.heap.size + 1) 3 i0 (.int .i64 0) 1 8 Tryd.underlying45 hi hz0 hz1 hz2 rfl (by decide) _ k (repI k) rfl (HHO1.out _) ⟨wr.heap.size, 0, none⟩ 1 _ [encI 0] rfl rfl HHN1.out (by intro u hu; simp at hu; subst hu; rfl) ?c3 ?c4 ?c5 ?_)
      case c3 => unfold maxLen; omega
      case c4 => omega
      case c5 => have := block_lt HR.out.1; simp; omega
      intro v' w1 hown hgrow _ hblk
      obtain ⟨g1, d1, rfl⟩ := own_form hown
      have hp := head_grown HR.out.1 hgrow (own_ne (own_lt HR.out.2.1) (Nat.lt_succ_self _))
      have HR2 := Lib.hid (newR_step1 rfl HR.out hown hgrow hblk)
      have HB2 := Lib.hid (((HBR.out.alloc HBR.out.size _).grown hgrow (Nat.le_trans HBR.out.size (by simp)) (fun q hq => Nat.le_of_succ_le (own_lt HR.out.2.1 q hq).1)).setCell (p := ⟨w.heap.size, 1, none⟩) (Nat.le_refl _) (.slice (some ⟨g1, 0, none⟩) (k + 1) d1))
      clear hown hgrow hblk q0 q1 q2 q3 f0 f1 f2 f3 hz
      (have q0 := block_cell hp 0; have q1 := block_cell hp 1; have q2 := block_cell hp 2; have q3 := block_cell hp 3; have f0 := block_free hp 0; have f1 := block_free hp 1; have f2 := block_free hp 2; have f3 := block_free hp 3; have hz := block_lt hp; simp at q0 q1 q2 q3)
      clear hp
      have HHO2 := Lib.hid (fun A => (HR2.out.2.2.1).alloc A)
      have HSZ2 := Lib.hid (show w1.heap.size = (w1.setCell ⟨w.heap.size, 1, none⟩ (.slice (some ⟨g1, 0, none⟩) (k + 1) d1)).heap.size by simp [World.setCell])
      have HHN2 := Lib.hid (cell_one_at HSZ2.out (encU 1) 28)
      go_wp2_with (at_builtin; refine wpList_append_own_at _ rfl _ _ 61 rfl (w.heap.size + 1) 28 j0 (.int .u64 0) 1 8 Tryd.underlying61 hj hw0 hw1 hw2 rfl (by decide) _ k (repU k) rfl (HHO2.out _) ⟨w1.heap.size, 0, none⟩ 1 _ [encU 1] rfl rfl HHN2.out (by intro u hu; simp at hu; subst hu; rfl) ?c3 ?c4 ?c5 ?_)
      case c3 => unfold maxLen; omega
      case c4 => omega
      case c5 => have := block_lt HR2.out.1; simp; omega
      intro v' w2 hown hgrow _ hblk
      obtain ⟨g2, d2, rfl⟩ := own_form hown
      have hp := head_grown HR2.out.1 hgrow (own_ne (own_lt HR2.out.2.2.1) (Nat.lt_succ_self _))
      have HR3 := Lib.hid (newR_step2 HSZ2.out HR2.out hown hgrow hblk)
      have HB3 := Lib.hid (((HB2.out.alloc HB2.out.size _).grown hgrow (Nat.le_trans HB2.out.size (by simp)) (fun q hq => Nat.le_of_succ_le (own_lt HR2.out.2.2.1 q hq).1)).setCell (p := ⟨w.heap.size, 2, none⟩) (Nat.le_refl _) (.slice (some ⟨g2, 0, none⟩) (k + 1) d2))
      clear hown hgrow hblk q0 q1 q2 q3 f0 f1 f2 f3 hz
      (have q0 := block_cell hp 0; have q1 := block_cell hp 1; have q2 := block_cell hp 2; have q3 := block_cell hp 3; have f0 := block_free hp 0; have f1 := block_free hp 1; have f2 := block_free hp 2; have f3 := block_free hp 3; have hz := block_lt hp; simp at q0 q1 q2 q3)
      clear hp
      have HHO3 := Lib.hid (fun A => (HR3.out.2.2.2.1).alloc A)
      have HSZ3 := Lib.hid (show w2.heap.size = (w2.setCell ⟨w.heap.size, 2, none⟩ (.slice (some ⟨g2, 0, none⟩) (k + 1) d2)).heap.size by simp [World.setCell])
      have HHN3 := Lib.hid (cell_one_at HSZ3.out (.int .i64 ((n : Int) - 1 - k)) 3)
      go_wp2_with (at_builtin; refine wpList_append_own_at _ rfl _ _ 45 rfl (w.heap.size + 1) 3 i0 (.int .i64 0) 1 8 Tryd.underlying45 hi hz0 hz1 hz2 rfl (by decide) _ k (repS n k) rfl (HHO3.out _) ⟨w2.heap.size, 0, none⟩ 1 _ [.int .i64 ((n : Int) - 1 - k)] rfl rfl HHN3.out (by intro u hu; simp at hu; subst hu; rfl) ?c3 ?c4 ?c5 ?_)
      case c3 => unfold maxLen; omega
      case c4 => omega
      case c5 => have := block_lt HR3.out.1; simp; omega
      intro v' w3 hown hgrow _ hblk
      obtain ⟨g3, d3, rfl⟩ := own_form hown
      rw [HNK.out] at hown
      have hp := head_grown HR3.out.1 hgrow (own_ne (own_lt HR3.out.2.2.2.1) (Nat.lt_succ_self _))
      have HR4 := Lib.hid (newR_step3 HSZ3.out HR3.out hown hgrow hblk)
      have HB4 := Lib.hid (((HB3.out.alloc HB3.out.size _).grown hgrow (Nat.le_trans HB3.out.size (by simp)) (fun q hq => Nat.le_of_succ_le (own_lt HR3.out.2.2.2.1 q hq).1)).setCell (p := ⟨w.heap.size, 3, none⟩) (Nat.le_refl _) (.slice (some ⟨g3, 0, none⟩) (k + 1) d3))
      clear hown hgrow hblk q0 q1 q2 q3 f0 f1 f2 f3 hz
      (have q0 := block_cell hp 0; have q1 := block_cell hp 1; have q2 := block_cell hp 2; have q3 := block_cell hp 3; have f0 := block_free hp 0; have f1 := block_free hp 1; have f2 := block_free hp 2; have f3 := block_free hp 3; have hz := block_lt hp; simp at q0 q1 q2 q3)
      clear hp
      go_wp2_with fail
      go_roundw
      case rel => exact ⟨k + 1, by omega, by go_num, ⟨_, _, _, _, _, _, HR4.out⟩, HB4.out⟩
      case measure => simp [intOf]; omega
    · obtain rfl : k = n := by omega
      clear hr hbr
      go_wp2_with fail
      go_ret2
      exact newR_end h1 HR.out HBR.out
end Go.Proofs.YtpcpjmgkdbgopaaDoor
