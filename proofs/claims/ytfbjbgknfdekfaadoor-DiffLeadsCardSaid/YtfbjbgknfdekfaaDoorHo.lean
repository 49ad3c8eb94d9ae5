/- Diff: apply.parts and apply.Apply: their walks. -/
import Derived.Test.YtfbjbgknfdekfaaDoorHn
import Derived.MapKept
namespace Go.Proofs.YtfbjbgknfdekfaaDoor
open Go.RowKit
set_option linter.unusedVariables false

def setO (w : World) (r : Nat) (o : Obj) : World := { w with heap := w.heap.setIfInBounds r o }
theorem setO_at {w : World} {r : Nat} {o o' : Obj} (h : w.heap[r]? = some o) : (setO w r o').heap[r]? = some o' := (MapKept.heap_set h).1
theorem setO_kept {w : World} {r : Nat} {o o' : Obj} (h : w.heap[r]? = some o) (r2 : Option Nat) : Kept2 w (setO w r o') (some r) r2 :=
  ⟨rfl, rfl, rfl, by simp [setO], fun k _ h1 _ => (MapKept.heap_set h).2 k (fun e => h1 (by rw [e]))⟩
theorem underMp : ∃ e, Tryd.prog.underlying 81 = some (.map 5 e) := ⟨_, Tryd.underlying81⟩
theorem run_put {w : World} {r : Nat} {es : Array MapEntry} {clk : Nat} (hb : w.heap[r]? = some (.map es clk)) (z : Int) (v : Value) (hf : Instr.findNow (.int .u8) (.int .u8 z) es.toList 0 = some none) :
    (Instr.mapUpdate 81 (.map (some r)) (.int .u8 z) v).run Tryd.prog w = .ok () (setO w r (.map (es.push { key := .int .u8 z, val := v, born := clk }) (clk + 1))) := by
  obtain ⟨e, he⟩ := underMp
  have hu := Tryd.underlying5
  simp [Instr.mapUpdate, run_underlying he, MapKept.run_getObj_map hb, MapKept.run_checkKey hu (show MapKept.IsKey (.int .u8) (.int .u8 z) from rfl), MapKept.run_findKey hu hf, MapKept.run_setObj_map _ hb, Result.andThen]
  rfl
theorem run_look {w : World} {r : Nat} {es : Array MapEntry} {clk : Nat} (hb : w.heap[r]? = some (.map es clk)) (z : Int) (i : Nat) (v : Value) (hf : Instr.findNow (.int .u8) (.int .u8 z) es.toList 0 = some (some (i, v))) :
    (Instr.lookup 81 (.map (some r)) (.int .u8 z) false).run Tryd.prog w = .ok v w := by
  obtain ⟨e, he⟩ := underMp
  have hu := Tryd.underlying5
  simp [Instr.lookup, run_underlying he, MapKept.run_getObj_map hb, MapKept.run_checkKey hu (show MapKept.IsKey (.int .u8) (.int .u8 z) from rfl), MapKept.run_findKey hu hf, Result.andThen]
def fR (h : Nat) : Value := .func (.func 54) #[] #[.pointer (some ⟨h + 1, 0, none⟩), .pointer (some ⟨h + 4, 0, none⟩)]
def fD (h : Nat) : Value := .func (.func 56) #[] #[.pointer (some ⟨h + 2, 0, none⟩), .pointer (some ⟨h + 4, 0, none⟩)]
def fI (h : Nat) : Value := .func (.func 57) #[] #[.pointer (some ⟨h + 1, 0, none⟩), .pointer (some ⟨h + 3, 0, none⟩)]
def esP (h : Nat) : Array MapEntry := #[⟨.int .u8 1, fR h, 0⟩, ⟨.int .u8 3, fD h, 1⟩, ⟨.int .u8 2, fI h, 2⟩]
theorem look_ret (h : Nat) : Instr.findNow (.int .u8) (.int .u8 1) (esP h).toList 0 = some (some (0, fR h)) := rfl
theorem look_del (h : Nat) : Instr.findNow (.int .u8) (.int .u8 3) (esP h).toList 0 = some (some (1, fD h)) := rfl
theorem look_ins (h : Nat) : Instr.findNow (.int .u8) (.int .u8 2) (esP h).toList 0 = some (some (2, fI h)) := rfl
/-- the six blocks, the map still empty -/
structure Pre5 (h : Nat) (s : ByteArray) (w : World) : Prop where
  s : w.heap[h]? = some (.cells #[.string s] 9 (0, 0))
  b1 : w.heap[h + 1]? = some (.cells #[.pointer none, .slice none 0 0] 74 (0, 0))
  b2 : w.heap[h + 2]? = some (.cells #[.pointer none, .slice none 0 0] 74 (0, 0))
  b3 : w.heap[h + 3]? = some (.cells #[.pointer none, .slice none 0 0] 74 (0, 0))
  ft : w.heap[h + 4]? = some (.cells #[.func (.func 53) #[] #[.pointer (some ⟨h, 0, none⟩)]] 75 (0, 0))
  size : w.heap.size = h + 5
theorem bd_new {B b : Nat} {w : World} (h : w.heap[b]? = some (.cells #[.pointer none, .slice none 0 0] 74 (0, 0))) : Bd B b (.slice none 0 0) [] w :=
  ⟨.inl h, ⟨rfl, .inl ⟨rfl, rfl⟩⟩, fun _ => rfl⟩
/-- the three closures laid in the map -/
theorem pre_map {h : Nat} {s : ByteArray} {w5 : World} (k : Pre5 h s w5) (w0 : World) (hb : Below h w0 w5) : ∃ w7 w8 w9,
    (Instr.mapUpdate 81 (.map (some w5.heap.size)) (.int .u8 1) (fR h)).run Tryd.prog (w5.alloc (.map #[] 0)) = .ok () w7 ∧
    (Instr.mapUpdate 81 (.map (some w5.heap.size)) (.int .u8 3) (fD h)).run Tryd.prog w7 = .ok () w8 ∧
    (Instr.mapUpdate 81 (.map (some w5.heap.size)) (.int .u8 2) (fI h)).run Tryd.prog w8 = .ok () w9 ∧
    Pt h (esP h) 3 s [] [] [] (.slice none 0 0) (.slice none 0 0) (.slice none 0 0) w9 ∧ Below h w0 w9 := by
  have hm := block_new w5 (.map #[] 0)
  have k1 := setO_kept hm (o' := .map #[⟨.int .u8 1, fR h, 0⟩] 1) none
  have hm1 := setO_at hm (o' := .map #[⟨.int .u8 1, fR h, 0⟩] 1)
  have k2 := setO_kept hm1 (o' := .map #[⟨.int .u8 1, fR h, 0⟩, ⟨.int .u8 3, fD h, 1⟩] 2) none
  have hm2 := setO_at hm1 (o' := .map #[⟨.int .u8 1, fR h, 0⟩, ⟨.int .u8 3, fD h, 1⟩] 2)
  have k3 := setO_kept hm2 (o' := .map (esP h) 3) none
  have hm3 := setO_at hm2 (o' := .map (esP h) 3)
  have r1 := run_put hm 1 (fR h) rfl
  have r2 := run_put hm1 3 (fD h) rfl
  have r3 := run_put hm2 2 (fI h) rfl
  refine ⟨_, _, _, r1, r2, r3, ?_, ?_⟩
  · have hk := (Kept2.alloc w5 (.map #[] 0) (some w5.heap.size) none).trans ((k1.trans k2).trans k3)
    have hs := k.size
    have g : ∀ {q : Nat} {o : Obj}, w5.heap[q]? = some o → q < h + 5 → (setO (setO (setO (w5.alloc (.map #[] 0)) w5.heap.size (.map #[⟨.int .u8 1, fR h, 0⟩] 1)) w5.heap.size (.map #[⟨.int .u8 1, fR h, 0⟩, ⟨.int .u8 3, fD h, 1⟩] 2)) w5.heap.size (.map (esP h) 3)).heap[q]? = some o := fun {q o} e hq => by
      rw [hk.block q (block_lt e) (fun x => by injection x with x; omega) (fun x => by cases x)]
      exact e
    refine ⟨g k.s (by omega), bd_new (g k.b1 (by omega)), bd_new (g k.b2 (by omega)), bd_new (g k.b3 (by omega)), g k.ft (by omega), ?_, fun q e => (by cases e), fun q e => (by cases e), fun q e => (by cases e), ?_⟩
    · rw [← hs]
      exact hm3
    · rw [show h + 6 = w5.heap.size + 1 by omega]
      exact block_lt hm3
  · have hs := k.size
    exact Kept2.below (Kept2.below hb (Kept2.alloc w5 (.map #[] 0) none none) (by omega) (fun q e => by cases e) (fun q e => by cases e)) ((k1.trans k2).trans k3) (by simp; omega) (fun q e => by injection e with e; omega) (fun q e => by cases e)
end Go.Proofs.YtfbjbgknfdekfaaDoor
