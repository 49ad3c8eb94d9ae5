/- Text: script.size: its walk; the sizes of operations. -/
import Derived.Test.YtdfkbahlngijcaaDoorSd
namespace Go.Proofs.YtdfkbahlngijcaaDoor
open Go.RowKit
set_option linter.unusedVariables false

/-- the bytes that a field takes -/
def szF (x : Ov) : Nat → Nat
  | 0 => 1
  | 1 => 2
  | 2 => 2
  | 3 => 4
  | 4 => 1
  | _ => 2 + x.t.size
theorem fldK_lt (k : Nat) : ∀ f ∈ fldK k, f ≤ 5 := by
  unfold fldK
  split <;> simp
set_option maxRecDepth 100000 in
set_option maxHeartbeats 4000000 in
theorem size_any (x : Ov) (f : Nat) (w : World) (hf : f ≤ 5) (ht : x.t.size ≤ 140737488355328) :
    Calls Tryd.prog 91 #[.agg #[.int .u8 x.k, .int .i64 x.slot, .int .i64 x.at_, .int .i64 x.n, .int .u32 x.id, .int .u8 x.g, .string x.t], .int .u8 f] w fun e w' => e = .returned (.int .i64 (szF x f : Nat)) ∧ Below w.heap.size w w' := by
  have HB := Lib.hid ((Below.refl w.heap.size w).alloc (Nat.le_refl _) (.cells (oC x) 51))
  have hnb := block_new w (.cells (oC x) 51)
  have q6 := block_cell hnb 6
  have HE := Lib.hid (fun (v : Nat) (h : v = szF x f) => (show Ending.returned (.int .i64 (v : Nat)) = .returned (.int .i64 (szF x f : Nat)) by rw [h]))
  have HX := Lib.hid (show szF x 5 = 2 + x.t.size from rfl)
  obtain ⟨k, s, a, n, id, g, t⟩ := x
  replace ht : t.size ≤ 140737488355328 := ht
  unfold oC at q6
  simp at q6
  clear hnb
  have hcs : f = 0 ∨ f = 1 ∨ f = 2 ∨ f = 3 ∨ f = 4 ∨ f = 5 := by omega
  rcases hcs with rfl | rfl | rfl | rfl | rfl | rfl
  · go_enter Tryd.func91, Tryd.ntmps91
    go_wp2_with fail
    go_ret
    exact ⟨rfl, HB.out⟩
  · go_enter Tryd.func91, Tryd.ntmps91
    go_wp2_with fail
    go_ret
    exact ⟨rfl, HB.out⟩
  · go_enter Tryd.func91, Tryd.ntmps91
    go_wp2_with fail
    go_ret
    exact ⟨rfl, HB.out⟩
  · go_enter Tryd.func91, Tryd.ntmps91
    go_wp2_with fail
    go_ret
    exact ⟨rfl, HB.out⟩
  · go_enter Tryd.func91, Tryd.ntmps91
    go_wp2_with fail
    go_ret
    exact ⟨rfl, HB.out⟩
  · have hw : IntKind.i64.wrap (2 + (t.size : Int)) = 2 + (t.size : Int) := by rw [IntKind.wrap_i64]; omega
    go_enter Tryd.func91, Tryd.ntmps91
    go_wp2_with fail
    go_ret
    exact ⟨rfl, HB.out⟩
/-- the bytes that an operation takes -/
def szO (x : Ov) : Nat := 1 + ((fldK x.k.toNat).map (szF x)).sum
/-- a program of a script: a slice of operations -/
structure Pg where
  a : Option Addr
  n : Nat
  c : Nat
  l : List Ov
def fPg (s : Pg) : List Value := [.slice s.a s.n s.c]
theorem fPg_len (s : Pg) : (fPg s).length = 1 := rfl
/-- a slice of programs in memory -/
def IsPg (w : World) (ao : Option Addr) (m : Nat) (ss : List Pg) : Prop := IsR fPg w ao m ss ∧ ∀ s ∈ ss, IsR fO w s.a s.n s.l
theorem IsPg.later {w w' : World} {ao : Option Addr} {m : Nat} {ss : List Pg} (h : IsPg w ao m ss) (hb : Below w.heap.size w w') : IsPg w' ao m ss :=
  ⟨h.1.later hb, fun s hs => (h.2 s hs).later hb⟩
def szP (p : Pg) : Nat := 2 + (p.l.map szO).sum
/-- a script's length as script.length reckons it -/
def lenSc (c : Cf) (ss : List Pg) (picks : Nat) : Nat := 15 + c.t.size + picks + (ss.map szP).sum
/-- an operation at a place of a row, laid open -/
theorem IsR.op {w w' : World} {ao : Option Addr} {len : Nat} {l : List Ov} (h : IsR fO w ao len l) (hb : Below w.heap.size w w') {j : Nat} (hj : j < len) :
    ∃ b off, ao = some ⟨b, off, none⟩ ∧ b < w.heap.size ∧ ∀ (hjl : j < l.length), ∀ i u, (fO l[j])[i]? = some u → w'.cell? ⟨b, off + j * 7 + i, none⟩ = some u := by
  obtain ⟨b, off, e, hlt, h3⟩ := h.2 (by omega)
  refine ⟨b, off, e, hlt, fun hjl i u hi => ?_⟩
  have hi' : i < 7 := by
    have := (List.getElem?_eq_some_iff.1 hi).1
    rw [fO_len] at this; exact this
  have := h3 (j * 7 + i) u (by rw [flatR_at fO_len l j i hjl hi']; exact hi)
  rw [← Nat.add_assoc] at this
  exact (hb.cell (p := ⟨b, off + j * 7 + i, none⟩) hlt).trans this
theorem IsPg.at {w w' : World} {ao : Option Addr} {m : Nat} {ss : List Pg} (h : IsPg w ao m ss) (hb : Below w.heap.size w w') {j : Nat} (hj : j < m) :
    ∃ b off, ao = some ⟨b, off, none⟩ ∧ b < w.heap.size ∧ ∀ (hjl : j < ss.length), w'.cell? ⟨b, off + j, none⟩ = some (.slice ss[j].a ss[j].n ss[j].c) := by
  obtain ⟨b, off, e, hlt, h3⟩ := h.1.2 (by omega)
  refine ⟨b, off, e, hlt, fun hjl => ?_⟩
  have := h3 (j * 1 + 0) (.slice ss[j].a ss[j].n ss[j].c) (by rw [flatR_at fPg_len ss j 0 hjl (by decide)]; rfl)
  rw [Nat.mul_one, Nat.add_zero] at this
  exact (hb.cell (p := ⟨b, off + j, none⟩) hlt).trans this
end Go.Proofs.YtdfkbahlngijcaaDoor
