/- Text: a map of strings with rune keys that the call makes, in a region that draws its order. (printed by slim.py.) -/
import Derived.Test.YtdfkbahlngijcaaDoorQKa
import Derived.MapKept
import Derived.Test.YtdfkbahlngijcaaDoorQKh
import Derived.Test.YtdfkbahlngijcaaDoorSh
import Derived.Test.YtdfkbahlngijcaaDoorQKg
import Derived.Test.YtdfkbahlngijcaaDoorQKb
import Derived.Lib.OthersKept
import Derived.Deep.CutRange
import Derived.Deep.DeepCutAuto
namespace Go.Proofs.YtdfkbahlngijcaaDoor
open Go.RowKit
set_option linter.unusedVariables false

def setM (w : World) (r : Nat) (o : Obj) : World := { w with heap := w.heap.setIfInBounds r o }
theorem underM : Tryd.prog.underlying 103 = some (.map 21 9) := Tryd.underlying103
/-- each entry has the value that V gives its key -/
def MOk (V : Int → Option Value) (es : Array MapEntry) : Prop := ∀ e ∈ es.toList, ∃ z, e.key = .int .i32 z ∧ V z = some e.val
def Has (es : Array MapEntry) (z : Int) : Prop := ∃ e ∈ es.toList, e.key = .int .i32 z
theorem MOk.nil (V : Int → Option Value) : MOk V #[] := fun e h => by simp at h
theorem MOk.keys {V : Int → Option Value} {es : Array MapEntry} (h : MOk V es) : ∀ x ∈ es.toList, MapKept.IsKey (.int .i32) x.key := fun x hx => by
  obtain ⟨z, hz, _⟩ := h x hx
  rw [hz]; rfl
set_option maxRecDepth 100000 in
theorem run_ins {V : Int → Option Value} {w : World} {r : Nat} {es : Array MapEntry} {clk : Nat} (hb : w.heap[r]? = some (.map es clk)) (h : MOk V es) {z : Int} {v : Value} (hv : V z = some v) :
    ∃ es' clk', (Instr.mapUpdate 103 (.map (some r)) (.int .i32 z) v).run Tryd.prog w = .ok () (setM w r (.map es' clk')) ∧ MOk V es' ∧ Has es' z ∧ ∀ y, Has es y → Has es' y := by
  have hu := Tryd.underlying21
  have hk : MapKept.IsKey (.int .i32) (.int .i32 z) := rfl
  rcases MapKept.findNow_spec hk es.toList 0 h.keys with ⟨h1, h2⟩ | ⟨j, e, h1, h2, h3⟩
  · refine ⟨es.push { key := .int .i32 z, val := v, born := clk }, clk + 1, ?_, ?_, ?_, ?_⟩
    · simp [Instr.mapUpdate, run_underlying underM, MapKept.run_getObj_map hb, MapKept.run_checkKey hu hk, MapKept.run_findKey hu h1, MapKept.run_setObj_map _ hb, Result.andThen]
      rfl
    · intro e he
      simp only [Array.toList_push, List.mem_append, List.mem_singleton] at he
      rcases he with he | rfl
      · exact h e he
      · exact ⟨z, rfl, hv⟩
    · exact ⟨_, by simp only [Array.toList_push, List.mem_append, List.mem_singleton]; exact .inr rfl, rfl⟩
    · rintro y ⟨e, he, hk⟩
      exact ⟨e, by simp only [Array.toList_push, List.mem_append]; exact .inl he, hk⟩
  · have hj : es[j]? = some e := by simpa using h2
    have hmem : ∀ (f : MapEntry → MapEntry) x, x ∈ (es.modify j f).toList → x ∈ es.toList ∨ x = f e := by
      intro f x hx
      obtain ⟨i, hi⟩ := List.mem_iff_getElem?.1 hx
      rw [Array.getElem?_toList, Array.getElem?_modify] at hi
      split at hi
      · rename_i hij
        subst hij
        rw [hj] at hi
        exact .inr (Option.some.inj hi).symm
      · exact .inl (List.mem_iff_getElem?.2 ⟨i, by rw [Array.getElem?_toList]; exact hi⟩)
    have hold : ∀ (f : MapEntry → MapEntry) x, x ∈ es.toList → x ∈ (es.modify j f).toList ∨ (x = e ∧ f e ∈ (es.modify j f).toList) := by
      intro f x hx
      obtain ⟨i, hi⟩ := List.mem_iff_getElem?.1 hx
      rw [Array.getElem?_toList] at hi
      by_cases hij : j = i
      · subst hij
        rw [hj] at hi
        refine .inr ⟨(Option.some.inj hi).symm, List.mem_iff_getElem?.2 ⟨j, ?_⟩⟩
        rw [Array.getElem?_toList, Array.getElem?_modify, if_pos rfl, hj]
        rfl
      · refine .inl (List.mem_iff_getElem?.2 ⟨i, ?_⟩)
        rw [Array.getElem?_toList, Array.getElem?_modify, if_neg hij]
        exact hi
    refine ⟨es.modify j fun e => { e with key := .int .i32 z, val := v }, clk, ?_, ?_, ?_, ?_⟩
    · simp [Instr.mapUpdate, run_underlying underM, MapKept.run_getObj_map hb, MapKept.run_checkKey hu hk, MapKept.run_findKey hu h1, hj, h3, MapKept.run_keyThatStays hk, MapKept.run_setObj_map _ hb, Result.andThen]
      rfl
    · intro x hx
      rcases hmem _ x hx with hx | rfl
      · exact h x hx
      · exact ⟨z, rfl, hv⟩
    · rcases hold (fun e => { e with key := .int .i32 z, val := v }) e (List.mem_iff_getElem?.2 ⟨j, h2⟩) with hh | ⟨_, hh⟩
      · exact ⟨e, hh, h3⟩
      · exact ⟨_, hh, rfl⟩
    · rintro y ⟨x, hx, hk2⟩
      rcases hold (fun e => { e with key := .int .i32 z, val := v }) x hx with hh | ⟨rfl, hh⟩
      · exact ⟨x, hh, hk2⟩
      · refine ⟨_, hh, ?_⟩
        rw [h3] at hk2
        exact hk2
set_option maxRecDepth 100000 in
theorem run_lk {V : Int → Option Value} {w : World} {r : Nat} {es : Array MapEntry} {clk : Nat} (hb : w.heap[r]? = some (.map es clk)) (h : MOk V es) {z : Int} {v : Value} (hv : V z = some v) (hz : Has es z) :
    (Instr.lookup 103 (.map (some r)) (.int .i32 z) false).run Tryd.prog w = .ok v w := by
  have hu := Tryd.underlying21
  have hk : MapKept.IsKey (.int .i32) (.int .i32 z) := rfl
  rcases MapKept.findNow_spec hk es.toList 0 h.keys with ⟨h1, h2⟩ | ⟨j, e, h1, h2, h3⟩
  · obtain ⟨e, he, hk⟩ := hz
    exact absurd hk (h2 e he)
  · obtain ⟨y, hy, hvy⟩ := h e (List.mem_iff_getElem?.2 ⟨j, h2⟩)
    rw [h3] at hy
    injection hy with _ hy
    rw [← hy, hv] at hvy
    have e2 : v = e.val := Option.some.inj hvy
    simp [Instr.lookup, run_underlying underM, MapKept.run_getObj_map hb, MapKept.run_checkKey hu hk, MapKept.run_findKey hu h1, Result.andThen, e2]
/-- the relation between the worlds of the region: what is older than b0 stays; new blocks other than maps stay; maps only gain keys, with the values of V -/
structure RlM (b0 : Nat) (V : Int → Option Value) (w w' : World) : Prop where
  low : Below b0 w w'
  cells : ∀ (i : Nat) c t fr, w.heap[i]? = some (.cells c t fr) → w'.heap[i]? = some (.cells c t fr)
  map : ∀ (i : Nat) es clk, w.heap[i]? = some (.map es clk) → MOk V es → ∃ es' clk', w'.heap[i]? = some (.map es' clk') ∧ MOk V es' ∧ ∀ z, Has es z → Has es' z
theorem RlM.trans {b0 : Nat} {V : Int → Option Value} {a b c : World} (h : RlM b0 V a b) (k : RlM b0 V b c) : RlM b0 V a c where
  low := h.low.trans k.low
  cells := fun i cs t fr e => k.cells i cs t fr (h.cells i cs t fr e)
  map := fun i es clk e ho => by
    obtain ⟨es1, c1, e1, o1, h1⟩ := h.map i es clk e ho
    obtain ⟨es2, c2, e2, o2, h2⟩ := k.map i es1 c1 e1 o1
    exact ⟨es2, c2, e2, o2, fun z hz => h2 z (h1 z hz)⟩
theorem RlM.of {b0 : Nat} {V : Int → Option Value} {w w' : World} (hb : b0 ≤ w.heap.size) (h : Below w.heap.size w w') : RlM b0 V w w' where
  low := h.mono hb
  cells := fun i cs t fr e => block_below h e (block_lt e)
  map := fun i es clk e ho => ⟨es, clk, block_below h e (block_lt e), ho, fun z hz => hz⟩
theorem below_setM {b0 : Nat} {w : World} {r : Nat} (hr : b0 ≤ r) (o : Obj) : Below b0 w (setM w r o) where
  os := rfl
  tape := rfl
  output := rfl
  size := by simp [setM]
  block := fun i hi => by
    show (w.heap.setIfInBounds r o)[i]? = w.heap[i]?
    rw [Array.getElem?_setIfInBounds, if_neg (by omega)]
theorem setM_at {w : World} {r : Nat} {o o' : Obj} (h : w.heap[r]? = some o) : (setM w r o').heap[r]? = some o' := (MapKept.heap_set h).1
theorem setM_other {w : World} {r i : Nat} {o' : Obj} (h : i ≠ r) : (setM w r o').heap[i]? = w.heap[i]? := by
  show (w.heap.setIfInBounds r o')[i]? = _
  rw [Array.getElem?_setIfInBounds, if_neg (fun e => h e.symm)]
theorem RlM.ins {b0 : Nat} {V : Int → Option Value} {w : World} {r : Nat} {es es' : Array MapEntry} {clk clk' : Nat} (hr : b0 ≤ r) (hb : w.heap[r]? = some (.map es clk)) (ho : MOk V es') (hh : ∀ y, Has es y → Has es' y) : RlM b0 V w (setM w r (.map es' clk')) where
  low := below_setM hr _
  cells := fun i cs t fr e => by
    rw [setM_other]
    · exact e
    · intro k
      subst k
      rw [hb] at e; cases e
  map := fun i es2 clk2 e ho2 => by
    by_cases k : i = r
    · subst k
      rw [hb] at e
      cases e
      exact ⟨es', clk', setM_at hb, ho, hh⟩
    · exact ⟨es2, clk2, by rw [setM_other k]; exact e, ho2, fun z hz => hz⟩
/-- the value is a map of the region's own, with these keys -/
def MapV (b0 : Nat) (V : Int → Option Value) (zs : List Int) (v : Value) (w : World) : Prop := ∃ r es clk, v = .map (some r) ∧ b0 ≤ r ∧ w.heap[r]? = some (.map es clk) ∧ MOk V es ∧ ∀ z ∈ zs, Has es z
theorem MapV.nil {b0 : Nat} {V : Int → Option Value} {w : World} (h : b0 ≤ w.heap.size) : MapV b0 V [] (.map (some w.heap.size)) (w.alloc (.map #[] 0)) :=
  ⟨_, _, _, rfl, h, block_new w _, MOk.nil V, fun z hz => by cases hz⟩
/-- a new key put in -/
theorem MapV.put {b0 : Nat} {V : Int → Option Value} {u : Value} {w : World} (h : MapV b0 V [] u w) {z : Int} {v : Value} (hv : V z = some v) :
    ∃ w', (Instr.mapUpdate 103 u (.int .i32 z) v).run Tryd.prog w = .ok () w' ∧ RlM b0 V w w' ∧ MapV b0 V [z] u w' := by
  obtain ⟨r, es, clk, rfl, hr, h1, h2, h3⟩ := h
  obtain ⟨es', clk', e1, e2, e3, e4⟩ := run_ins h1 h2 hv
  exact ⟨_, e1, RlM.ins hr h1 e2 e4, r, es', clk', rfl, hr, setM_at h1, e2, fun y hy => by rcases List.mem_singleton.1 hy with rfl; exact e3⟩
theorem MapV.look {b0 : Nat} {V : Int → Option Value} {zs : List Int} {u : Value} {w : World} (h : MapV b0 V zs u w) {z : Int} {v : Value} (hv : V z = some v) (hz : z ∈ zs) :
    (Instr.lookup 103 u (.int .i32 z) false).run Tryd.prog w = .ok v w := by
  obtain ⟨r, es, clk, rfl, hr, h1, h2, h3⟩ := h
  exact run_lk h1 h2 hv (h3 z hz)
end Go.Proofs.YtdfkbahlngijcaaDoor

namespace Go.Proofs.YtdfkbahlngijcaaDoor
open Go.RowKit
set_option linter.unusedVariables false

def c1 : Cf := ⟨1, 1, 1, 0, 1, 1, 1, ⟨#[]⟩⟩
theorem valid_nil : validB ([] : List UInt8) = true := by rw [validB_iff]; exact VL.nil
def pg1 (a : Option Addr) (x : Ov) : Pg := ⟨a, 1, 1, [x]⟩
theorem scE_one (x : Ov) (a : Option Addr) : scE c1 [pg1 a x] [] = if plainO x = true then 0 else 2 := by
  have h0 : cfgE c1 = 0 := by
    unfold cfgE
    rw [if_pos (by decide), if_neg (by decide), if_pos (by exact valid_nil)]
  have h1 : progE [pg1 a x] = if plainO x = true then 0 else 2 := by
    unfold progE
    rw [if_neg (show ¬ 256 < (pg1 a x).n from by show ¬ 256 < 1; decide)]
    by_cases h : plainO x = true
    · rw [if_pos h, if_pos (by simp [h, pg1])]; rfl
    · rw [if_neg h, if_neg (by simp [h, pg1])]
  unfold scE
  rw [if_neg (by rw [h0]; exact fun h => h rfl), if_neg (show ¬ (([pg1 a x].length : Int) ≠ c1.clients) from fun h => h rfl), h1]
  by_cases h : plainO x = true
  · rw [if_pos h, if_neg (fun h => h rfl), if_neg (show ¬ 65535 < ([] : List Int).length by decide), if_pos (show ([] : List Int).all _ = true from rfl), if_neg]
    have := szO_le h
    unfold lenSc szP
    simp [c1, pg1]
    have e : (ByteArray.mk #[]).size = 0 := rfl
    omega
  · rw [if_neg h, if_pos (by decide)]
theorem one_pg (x : Ov) (v : World) (m : Nat) (hm : m = v.heap.size) :
    IsPg ((v.alloc (.cells (oC x) 51)).alloc (.cells #[.slice (some ⟨m, 0, none⟩) 1 1] 60)) (some ⟨m + 1, 0, none⟩) 1 [pg1 (some ⟨m, 0, none⟩) x] := by
  have h1 := block_new v (.cells (oC x) 51)
  have h2 := block_alloc h1 (.cells #[.slice (some ⟨m, 0, none⟩) 1 1] 60)
  have h3 := block_new (v.alloc (.cells (oC x) 51)) (.cells #[.slice (some ⟨m, 0, none⟩) 1 1] 60)
  rw [World.size_alloc] at h3
  subst hm
  refine ⟨⟨rfl, fun _ => ⟨_, _, rfl, block_lt h3, fun j u hj => ?_⟩⟩, fun s hs => ?_⟩
  · rw [Nat.zero_add, block_cell h3]
    rw [flatR_one] at hj
    simpa [fPg, pg1] using hj
  · rcases List.mem_singleton.1 hs with rfl
    refine ⟨rfl, fun _ => ⟨_, _, rfl, block_lt h2, fun j u hj => ?_⟩⟩
    rw [Nat.zero_add, block_cell h2]
    have e : flatR fO (pg1 (some ⟨v.heap.size, 0, none⟩) x).l = fO x := flatR_one fO x
    rw [e] at hj
    simpa [fO, oC] using hj
theorem plainT_any (x : Ov) (w : World) (ht : x.t.size ≤ 140737488355328) :
    Calls Tryd.prog 52 #[.agg #[.int .u8 x.k, .int .i64 x.slot, .int .i64 x.at_, .int .i64 x.n, .int .u32 x.id, .int .u8 x.g, .string x.t]] w fun e w' => e = .returned (.bool (plainO x)) ∧ Below w.heap.size w w' := by
  have HCK := Lib.hid (fun (a b : Option Addr) (u : World) (hp : IsPg u a 1 [pg1 b x]) => check_sc c1 a 1 1 none 0 0 [pg1 b x] [] u hp (IsR.nil _ _ _) (by decide) (by
    intro s hs y hy
    rcases List.mem_singleton.1 hs with rfl
    rcases List.mem_singleton.1 hy with rfl
    exact ht) (by decide) (by decide))
  have HB0 := Lib.hid ((((((Below.refl w.heap.size w).alloc (Nat.le_refl _) (.cells (oC x) 51)).alloc (by simp) (.cells #[.int .i64 1, .int .u64 1, .int .i64 1, .int .i64 0, .int .i64 1, .int .i64 1, .int .i64 1, .string ⟨#[]⟩] 38)).alloc (by simp; omega) (.cells (oC x) 51)).alloc (by simp; omega) (.cells #[.slice (some ⟨w.heap.size + 1 + 1, 0, none⟩) 1 1] 60)))
  have HPG := Lib.hid (one_pg x ((w.alloc (.cells (oC x) 51)).alloc (.cells #[.int .i64 1, .int .u64 1, .int .i64 1, .int .i64 0, .int .i64 1, .int .i64 1, .int .i64 1, .string ⟨#[]⟩] 38)) (w.heap.size + 1 + 1) (by simp))
  have HSO := Lib.hid (fun b => scE_one x b)
  unfold oC at HB0 HPG
  go_enter Tryd.func52, Tryd.ntmps52
  go_wp2_with fail
  refine (HCK.out _ _ _ HPG.out).mono ?_; rintro e w2 ⟨rfl, hb2⟩
  rw [HSO.out]
  have HB2 := Lib.hid (HB0.out.trans (hb2.mono HB0.out.size))
  clear hb2
  by_cases h : plainO x = true
  · rw [if_pos h]
    go_wp2_with fail
    go_ret
    exact ⟨by rw [h] <;> rfl, HB2.out⟩
  · rw [if_neg h]
    have hf := Bool.eq_false_iff.2 h
    go_wp2_with fail
    go_ret
    exact ⟨by rw [hf] <;> rfl, HB2.out⟩
end Go.Proofs.YtdfkbahlngijcaaDoor

namespace Go.Proofs.YtdfkbahlngijcaaDoor
open Go.RowKit
set_option linter.unusedVariables false

/-- the words of a kind: its name and the letters of its fields -/
def wordsL : Nat → List UInt8
  | 1 => [105, 110, 115, 101, 114, 116, 32, 97, 116]
  | 2 => [100, 101, 108, 101, 116, 101, 32, 97, 110]
  | 3 => [115, 101, 116, 32, 105, 97, 103]
  | 4 => [100, 114, 111, 112, 32, 105]
  | 5 => [97, 99, 113, 117, 105, 114, 101, 32]
  | 6 => [108, 101, 110, 32, 115]
  | 7 => [114, 101, 97, 100, 32, 115, 97, 110]
  | 8 => [114, 117, 110, 101, 32, 115, 110]
  | 9 => [108, 105, 110, 101, 32, 115, 110]
  | 10 => [109, 97, 114, 107, 32, 115, 105]
  | 11 => [115, 101, 101, 107, 32, 115, 97]
  | 12 => [110, 101, 120, 116, 32, 115, 110]
  | 13 => [114, 101, 108, 101, 97, 115, 101, 32, 115]
  | 14 => [115, 117, 98, 115, 99, 114, 105, 98, 101, 32]
  | 15 => [114, 101, 99, 101, 105, 118, 101, 32]
  | 16 => [99, 108, 111, 115, 101, 32]
  | _ => []
def wordsS (k : Nat) : ByteArray := ⟨(wordsL k).toArray⟩
def wordsA : Array Value := #[.string ⟨#[105, 110, 115, 101, 114, 116, 32, 97, 116]⟩, .string ⟨#[100, 101, 108, 101, 116, 101, 32, 97, 110]⟩, .string ⟨#[115, 101, 116, 32, 105, 97, 103]⟩, .string ⟨#[100, 114, 111, 112, 32, 105]⟩, .string ⟨#[97, 99, 113, 117, 105, 114, 101, 32]⟩, .string ⟨#[108, 101, 110, 32, 115]⟩, .string ⟨#[114, 101, 97, 100, 32, 115, 97, 110]⟩, .string ⟨#[114, 117, 110, 101, 32, 115, 110]⟩, .string ⟨#[108, 105, 110, 101, 32, 115, 110]⟩, .string ⟨#[109, 97, 114, 107, 32, 115, 105]⟩, .string ⟨#[115, 101, 101, 107, 32, 115, 97]⟩, .string ⟨#[110, 101, 120, 116, 32, 115, 110]⟩, .string ⟨#[114, 101, 108, 101, 97, 115, 101, 32, 115]⟩, .string ⟨#[115, 117, 98, 115, 99, 114, 105, 98, 101, 32]⟩, .string ⟨#[114, 101, 99, 101, 105, 118, 101, 32]⟩, .string ⟨#[99, 108, 111, 115, 101, 32]⟩]
theorem wix1 (w : World) : (Instr.index 132 (.agg wordsA) (.int .u8 0)).run Tryd.prog w = .ok (.string (wordsS 1)) w := by kernel_rfl
set_option maxRecDepth 100000 in
set_option maxHeartbeats 16000000 in
theorem words_1 (w : World) : Calls Tryd.prog 54 #[.int .u8 1] w fun e w' => e = .returned (.string (wordsS 1)) ∧ w = w' := by
  have hix := wix1
  unfold wordsA at hix
  generalize wordsS 1 = S at *
  go_enter Tryd.func54, Tryd.ntmps54
  go_wp2_with fail
  go_ret
  exact ⟨rfl, rfl⟩
theorem wix2 (w : World) : (Instr.index 132 (.agg wordsA) (.int .u8 1)).run Tryd.prog w = .ok (.string (wordsS 2)) w := by kernel_rfl
set_option maxRecDepth 100000 in
set_option maxHeartbeats 16000000 in
theorem words_2 (w : World) : Calls Tryd.prog 54 #[.int .u8 2] w fun e w' => e = .returned (.string (wordsS 2)) ∧ w = w' := by
  have hix := wix2
  unfold wordsA at hix
  generalize wordsS 2 = S at *
  go_enter Tryd.func54, Tryd.ntmps54
  go_wp2_with fail
  go_ret
  exact ⟨rfl, rfl⟩
theorem wix3 (w : World) : (Instr.index 132 (.agg wordsA) (.int .u8 2)).run Tryd.prog w = .ok (.string (wordsS 3)) w := by kernel_rfl
set_option maxRecDepth 100000 in
set_option maxHeartbeats 16000000 in
theorem words_3 (w : World) : Calls Tryd.prog 54 #[.int .u8 3] w fun e w' => e = .returned (.string (wordsS 3)) ∧ w = w' := by
  have hix := wix3
  unfold wordsA at hix
  generalize wordsS 3 = S at *
  go_enter Tryd.func54, Tryd.ntmps54
  go_wp2_with fail
  go_ret
  exact ⟨rfl, rfl⟩
theorem wix4 (w : World) : (Instr.index 132 (.agg wordsA) (.int .u8 3)).run Tryd.prog w = .ok (.string (wordsS 4)) w := by kernel_rfl
set_option maxRecDepth 100000 in
set_option maxHeartbeats 16000000 in
theorem words_4 (w : World) : Calls Tryd.prog 54 #[.int .u8 4] w fun e w' => e = .returned (.string (wordsS 4)) ∧ w = w' := by
  have hix := wix4
  unfold wordsA at hix
  generalize wordsS 4 = S at *
  go_enter Tryd.func54, Tryd.ntmps54
  go_wp2_with fail
  go_ret
  exact ⟨rfl, rfl⟩
theorem wix5 (w : World) : (Instr.index 132 (.agg wordsA) (.int .u8 4)).run Tryd.prog w = .ok (.string (wordsS 5)) w := by kernel_rfl
set_option maxRecDepth 100000 in
set_option maxHeartbeats 16000000 in
theorem words_5 (w : World) : Calls Tryd.prog 54 #[.int .u8 5] w fun e w' => e = .returned (.string (wordsS 5)) ∧ w = w' := by
  have hix := wix5
  unfold wordsA at hix
  generalize wordsS 5 = S at *
  go_enter Tryd.func54, Tryd.ntmps54
  go_wp2_with fail
  go_ret
  exact ⟨rfl, rfl⟩
theorem wix6 (w : World) : (Instr.index 132 (.agg wordsA) (.int .u8 5)).run Tryd.prog w = .ok (.string (wordsS 6)) w := by kernel_rfl
set_option maxRecDepth 100000 in
set_option maxHeartbeats 16000000 in
theorem words_6 (w : World) : Calls Tryd.prog 54 #[.int .u8 6] w fun e w' => e = .returned (.string (wordsS 6)) ∧ w = w' := by
  have hix := wix6
  unfold wordsA at hix
  generalize wordsS 6 = S at *
  go_enter Tryd.func54, Tryd.ntmps54
  go_wp2_with fail
  go_ret
  exact ⟨rfl, rfl⟩
theorem wix7 (w : World) : (Instr.index 132 (.agg wordsA) (.int .u8 6)).run Tryd.prog w = .ok (.string (wordsS 7)) w := by kernel_rfl
set_option maxRecDepth 100000 in
set_option maxHeartbeats 16000000 in
theorem words_7 (w : World) : Calls Tryd.prog 54 #[.int .u8 7] w fun e w' => e = .returned (.string (wordsS 7)) ∧ w = w' := by
  have hix := wix7
  unfold wordsA at hix
  generalize wordsS 7 = S at *
  go_enter Tryd.func54, Tryd.ntmps54
  go_wp2_with fail
  go_ret
  exact ⟨rfl, rfl⟩
theorem wix8 (w : World) : (Instr.index 132 (.agg wordsA) (.int .u8 7)).run Tryd.prog w = .ok (.string (wordsS 8)) w := by kernel_rfl
set_option maxRecDepth 100000 in
set_option maxHeartbeats 16000000 in
theorem words_8 (w : World) : Calls Tryd.prog 54 #[.int .u8 8] w fun e w' => e = .returned (.string (wordsS 8)) ∧ w = w' := by
  have hix := wix8
  unfold wordsA at hix
  generalize wordsS 8 = S at *
  go_enter Tryd.func54, Tryd.ntmps54
  go_wp2_with fail
  go_ret
  exact ⟨rfl, rfl⟩
theorem wix9 (w : World) : (Instr.index 132 (.agg wordsA) (.int .u8 8)).run Tryd.prog w = .ok (.string (wordsS 9)) w := by kernel_rfl
set_option maxRecDepth 100000 in
set_option maxHeartbeats 16000000 in
theorem words_9 (w : World) : Calls Tryd.prog 54 #[.int .u8 9] w fun e w' => e = .returned (.string (wordsS 9)) ∧ w = w' := by
  have hix := wix9
  unfold wordsA at hix
  generalize wordsS 9 = S at *
  go_enter Tryd.func54, Tryd.ntmps54
  go_wp2_with fail
  go_ret
  exact ⟨rfl, rfl⟩
theorem wix10 (w : World) : (Instr.index 132 (.agg wordsA) (.int .u8 9)).run Tryd.prog w = .ok (.string (wordsS 10)) w := by kernel_rfl
set_option maxRecDepth 100000 in
set_option maxHeartbeats 16000000 in
theorem words_10 (w : World) : Calls Tryd.prog 54 #[.int .u8 10] w fun e w' => e = .returned (.string (wordsS 10)) ∧ w = w' := by
  have hix := wix10
  unfold wordsA at hix
  generalize wordsS 10 = S at *
  go_enter Tryd.func54, Tryd.ntmps54
  go_wp2_with fail
  go_ret
  exact ⟨rfl, rfl⟩
theorem wix11 (w : World) : (Instr.index 132 (.agg wordsA) (.int .u8 10)).run Tryd.prog w = .ok (.string (wordsS 11)) w := by kernel_rfl
set_option maxRecDepth 100000 in
set_option maxHeartbeats 16000000 in
theorem words_11 (w : World) : Calls Tryd.prog 54 #[.int .u8 11] w fun e w' => e = .returned (.string (wordsS 11)) ∧ w = w' := by
  have hix := wix11
  unfold wordsA at hix
  generalize wordsS 11 = S at *
  go_enter Tryd.func54, Tryd.ntmps54
  go_wp2_with fail
  go_ret
  exact ⟨rfl, rfl⟩
theorem wix12 (w : World) : (Instr.index 132 (.agg wordsA) (.int .u8 11)).run Tryd.prog w = .ok (.string (wordsS 12)) w := by kernel_rfl
set_option maxRecDepth 100000 in
set_option maxHeartbeats 16000000 in
theorem words_12 (w : World) : Calls Tryd.prog 54 #[.int .u8 12] w fun e w' => e = .returned (.string (wordsS 12)) ∧ w = w' := by
  have hix := wix12
  unfold wordsA at hix
  generalize wordsS 12 = S at *
  go_enter Tryd.func54, Tryd.ntmps54
  go_wp2_with fail
  go_ret
  exact ⟨rfl, rfl⟩
theorem wix13 (w : World) : (Instr.index 132 (.agg wordsA) (.int .u8 12)).run Tryd.prog w = .ok (.string (wordsS 13)) w := by kernel_rfl
set_option maxRecDepth 100000 in
set_option maxHeartbeats 16000000 in
theorem words_13 (w : World) : Calls Tryd.prog 54 #[.int .u8 13] w fun e w' => e = .returned (.string (wordsS 13)) ∧ w = w' := by
  have hix := wix13
  unfold wordsA at hix
  generalize wordsS 13 = S at *
  go_enter Tryd.func54, Tryd.ntmps54
  go_wp2_with fail
  go_ret
  exact ⟨rfl, rfl⟩
theorem wix14 (w : World) : (Instr.index 132 (.agg wordsA) (.int .u8 13)).run Tryd.prog w = .ok (.string (wordsS 14)) w := by kernel_rfl
set_option maxRecDepth 100000 in
set_option maxHeartbeats 16000000 in
theorem words_14 (w : World) : Calls Tryd.prog 54 #[.int .u8 14] w fun e w' => e = .returned (.string (wordsS 14)) ∧ w = w' := by
  have hix := wix14
  unfold wordsA at hix
  generalize wordsS 14 = S at *
  go_enter Tryd.func54, Tryd.ntmps54
  go_wp2_with fail
  go_ret
  exact ⟨rfl, rfl⟩
theorem wix15 (w : World) : (Instr.index 132 (.agg wordsA) (.int .u8 14)).run Tryd.prog w = .ok (.string (wordsS 15)) w := by kernel_rfl
set_option maxRecDepth 100000 in
set_option maxHeartbeats 16000000 in
theorem words_15 (w : World) : Calls Tryd.prog 54 #[.int .u8 15] w fun e w' => e = .returned (.string (wordsS 15)) ∧ w = w' := by
  have hix := wix15
  unfold wordsA at hix
  generalize wordsS 15 = S at *
  go_enter Tryd.func54, Tryd.ntmps54
  go_wp2_with fail
  go_ret
  exact ⟨rfl, rfl⟩
theorem wix16 (w : World) : (Instr.index 132 (.agg wordsA) (.int .u8 15)).run Tryd.prog w = .ok (.string (wordsS 16)) w := by kernel_rfl
set_option maxRecDepth 100000 in
set_option maxHeartbeats 16000000 in
theorem words_16 (w : World) : Calls Tryd.prog 54 #[.int .u8 16] w fun e w' => e = .returned (.string (wordsS 16)) ∧ w = w' := by
  have hix := wix16
  unfold wordsA at hix
  generalize wordsS 16 = S at *
  go_enter Tryd.func54, Tryd.ntmps54
  go_wp2_with fail
  go_ret
  exact ⟨rfl, rfl⟩
theorem words_any (k : Nat) (h1 : 1 ≤ k) (h2 : k ≤ 16) (w : World) : Calls Tryd.prog 54 #[.int .u8 k] w fun e w' => e = .returned (.string (wordsS k)) ∧ w = w' := by
  have h : k = 1 ∨ k = 2 ∨ k = 3 ∨ k = 4 ∨ k = 5 ∨ k = 6 ∨ k = 7 ∨ k = 8 ∨ k = 9 ∨ k = 10 ∨ k = 11 ∨ k = 12 ∨ k = 13 ∨ k = 14 ∨ k = 15 ∨ k = 16 := by omega
  rcases h with rfl | rfl | rfl | rfl | rfl | rfl | rfl | rfl | rfl | rfl | rfl | rfl | rfl | rfl | rfl | rfl
  · exact words_1 w
  · exact words_2 w
  · exact words_3 w
  · exact words_4 w
  · exact words_5 w
  · exact words_6 w
  · exact words_7 w
  · exact words_8 w
  · exact words_9 w
  · exact words_10 w
  · exact words_11 w
  · exact words_12 w
  · exact words_13 w
  · exact words_14 w
  · exact words_15 w
  · exact words_16 w
end Go.Proofs.YtdfkbahlngijcaaDoor

namespace Go.Proofs.YtdfkbahlngijcaaDoor
open Go.RowKit
set_option linter.unusedVariables false

/-- a kind's name -/
def nameL (k : Nat) : List UInt8 := (wordsL k).takeWhile (fun c => c != 32)
/-- the letters of a kind's fields -/
def letL (k : Nat) : List UInt8 := ((wordsL k).dropWhile (fun c => c != 32)).drop 1
theorem letL_len (k : Nat) : (letL k).length ≤ 3 := by
  by_cases h : k ≤ 16
  · have h : k = 0 ∨ k = 1 ∨ k = 2 ∨ k = 3 ∨ k = 4 ∨ k = 5 ∨ k = 6 ∨ k = 7 ∨ k = 8 ∨ k = 9 ∨ k = 10 ∨ k = 11 ∨ k = 12 ∨ k = 13 ∨ k = 14 ∨ k = 15 ∨ k = 16 := by omega
    rcases h with rfl | rfl | rfl | rfl | rfl | rfl | rfl | rfl | rfl | rfl | rfl | rfl | rfl | rfl | rfl | rfl | rfl <;> decide
  · have e : wordsL k = [] := by unfold wordsL; split <;> first | omega | rfl
    unfold letL; rw [e]; decide
theorem wordsL_len (k : Nat) : (wordsL k).length ≤ 10 := by
  by_cases h : k ≤ 16
  · have h : k = 0 ∨ k = 1 ∨ k = 2 ∨ k = 3 ∨ k = 4 ∨ k = 5 ∨ k = 6 ∨ k = 7 ∨ k = 8 ∨ k = 9 ∨ k = 10 ∨ k = 11 ∨ k = 12 ∨ k = 13 ∨ k = 14 ∨ k = 15 ∨ k = 16 := by omega
    rcases h with rfl | rfl | rfl | rfl | rfl | rfl | rfl | rfl | rfl | rfl | rfl | rfl | rfl | rfl | rfl | rfl | rfl <;> decide
  · have e : wordsL k = [] := by unfold wordsL; split <;> first | omega | rfl
    rw [e]; decide
end Go.Proofs.YtdfkbahlngijcaaDoor

namespace Go.Proofs.YtdfkbahlngijcaaDoor
open Go.RowKit
set_option linter.unusedVariables false

set_option maxRecDepth 100000 in
set_option maxHeartbeats 2000000 in
theorem cutlite_any (s : ByteArray) (i : Nat) (w : World) (hi : i < s.size) (hix : Lib.indexByte s.data.toList 32 = (i : Int)) (hs : s.size ≤ 1000000) :
    Calls Tryd.prog 84 #[.string s, .string ⟨#[32]⟩] w fun e w' => e = .returned (.tuple #[.string (s.extract 0 i), .string (s.extract (i + 1) s.size), .bool true]) ∧ ∃ n, w' = w.drewN n := by
  have HI := Lib.hid (Tryd.stringslite_Index_one s 32 w)
  rw [hix] at HI
  clear hix
  have h0 : (0 : Int) ≤ (i : Int) := by omega
  have hle : (i : Int) ≤ (s.size : Int) := by omega
  have hle1 : (i : Int) + 1 ≤ (s.size : Int) := by omega
  have h1 : (0 : Int) ≤ (i : Int) + 1 := by omega
  go_enter Tryd.func84, Tryd.ntmps84
  go_wp2_with fail
  refine (HI.out).mono ?_; rintro e w2 ⟨rfl, rfl⟩
  go_wp2_with fail
  go_quiet (fail)
  go_wp2_with fail
  go_ret3
  exact ⟨rfl, _, rfl⟩
set_option maxRecDepth 100000 in
set_option maxHeartbeats 2000000 in
theorem cutstr_any (s : ByteArray) (i : Nat) (w : World) (hi : i < s.size) (hix : Lib.indexByte s.data.toList 32 = (i : Int)) (hs : s.size ≤ 1000000) :
    Calls Tryd.prog 53 #[.string s, .string ⟨#[32]⟩] w fun e w' => e = .returned (.tuple #[.string (s.extract 0 i), .string (s.extract (i + 1) s.size), .bool true]) ∧ ∃ n, w' = w.drewN n := by
  have HI := Lib.hid (cutlite_any s i w hi hix hs)
  clear hix hi
  go_enter Tryd.func53, Tryd.ntmps53
  go_wp2_with fail
  refine (HI.out).mono ?_; rintro e w2 ⟨rfl, n, hw⟩
  have HW := Lib.hid hw
  clear hw
  go_wp2_with fail
  go_ret3
  exact ⟨rfl, n, HW.out⟩
theorem wordsS_list (k : Nat) : (wordsS k).data.toList = wordsL k := by simp [wordsS]
theorem cutK_facts : ∀ k : Nat, k < 17 → 1 ≤ k → Lib.indexByte (wordsL k) 32 = ((nameL k).length : Int) ∧ (nameL k).length < (wordsL k).length ∧ (wordsL k).take (nameL k).length = nameL k ∧ (wordsL k).drop ((nameL k).length + 1) = letL k := by
  intro k h1 h2
  have h : k = 1 ∨ k = 2 ∨ k = 3 ∨ k = 4 ∨ k = 5 ∨ k = 6 ∨ k = 7 ∨ k = 8 ∨ k = 9 ∨ k = 10 ∨ k = 11 ∨ k = 12 ∨ k = 13 ∨ k = 14 ∨ k = 15 ∨ k = 16 := by omega
  rcases h with rfl | rfl | rfl | rfl | rfl | rfl | rfl | rfl | rfl | rfl | rfl | rfl | rfl | rfl | rfl | rfl <;> decide +kernel
theorem extract_list (s : ByteArray) (a b : Nat) : s.extract a b = ⟨((s.data.toList.take b).drop a).toArray⟩ := by
  apply ByteArray.ext
  rw [ByteArray.data_extract]
  apply Array.toList_inj.1
  rw [List.toList_toArray]
  rw [Array.toList_extract, List.extract_eq_take_drop, List.drop_take]
theorem cutK_any (k : Nat) (h1 : 1 ≤ k) (h2 : k ≤ 16) (w : World) :
    Calls Tryd.prog 53 #[.string (wordsS k), .string ⟨#[32]⟩] w fun e w' => e = .returned (.tuple #[.string ⟨(nameL k).toArray⟩, .string ⟨(letL k).toArray⟩, .bool true]) ∧ ∃ n, w' = w.drewN n := by
  obtain ⟨f1, f2, f3, f4⟩ := cutK_facts k (by omega) h1
  have hsz : (wordsS k).size = (wordsL k).length := by show (wordsL k).toArray.size = _; simp
  have := wordsL_len k
  have h := cutstr_any (wordsS k) (nameL k).length w (by rw [hsz]; exact f2) (by rw [wordsS_list]; exact f1) (by rw [hsz]; omega)
  rw [extract_list, extract_list, wordsS_list, hsz, List.take_length, f4, List.drop_zero, f3] at h
  exact h
end Go.Proofs.YtdfkbahlngijcaaDoor

namespace Go.Proofs.YtdfkbahlngijcaaDoor
open Go.RowKit
set_option linter.unusedVariables false

/-- the word of a field, by its letter -/
def letW (x : Ov) (c : UInt8) : List UInt8 :=
  if c = 115 then numL x.slot else if c = 97 then numL x.at_ else if c = 110 then numL x.n else if c = 105 then numL x.id else if c = 103 then numL x.g else quoteL x.t
/-- the words of an operation -/
def opW (x : Ov) : List (List UInt8) := nameL x.k.toNat :: (letL x.k.toNat).map (letW x)
/-- the line of an operation -/
def opL (x : Ov) : List UInt8 := joinW (opW x)
structure OvOk (x : Ov) : Prop where
  k : 0 ≤ x.k ∧ x.k < 256
  id : 0 ≤ x.id ∧ x.id < 4294967296
  g : 0 ≤ x.g ∧ x.g < 256
def zeroU (x : Ov) : Prop := (0 ∉ fldK x.k.toNat → x.slot = 0) ∧ (1 ∉ fldK x.k.toNat → x.at_ = 0) ∧ (2 ∉ fldK x.k.toNat → x.n = 0) ∧ (3 ∉ fldK x.k.toNat → x.id = 0) ∧ (4 ∉ fldK x.k.toNat → x.g = 0) ∧ (5 ∉ fldK x.k.toNat → x.t.size = 0)
theorem plain_parts {x : Ov} (h : plainO x = true) : p0 x = true ∧ p1 x = true ∧ p2 x = true ∧ p3 x = true ∧ p4 x = true ∧ p5 x = true := by
  unfold plainO at h
  split at h
  · cases h
  · simpa only [Bool.and_eq_true] using h
theorem hasB_no {l : List Nat} {f : Nat} {a b : Bool} (h : hasB l f a b = true) (hn : f ∉ l) : a = true := by
  unfold hasB at h; rwa [if_neg hn] at h
theorem hasB_or {l : List Nat} {f : Nat} {a b : Bool} (h : hasB l f a b = true) : a = true ∨ b = true := by
  unfold hasB at h; split at h
  · exact .inr h
  · exact .inl h
theorem plain_zero {x : Ov} (h : plainO x = true) : zeroU x := by
  obtain ⟨h0, h1, h2, h3, h4, h5⟩ := plain_parts h
  refine ⟨fun k => ?_, fun k => ?_, fun k => ?_, fun k => ?_, fun k => ?_, fun k => ?_⟩
  · simpa using hasB_no h0 k
  · simpa using hasB_no h1 k
  · simpa using hasB_no h2 k
  · simpa using hasB_no h3 k
  · simpa using hasB_no h4 k
  · simpa using hasB_no h5 k
/-- the numbers of a plain operation -/
structure NumsOk (x : Ov) : Prop where
  slot : 0 ≤ x.slot ∧ x.slot ≤ 65535
  at_ : 0 ≤ x.at_ ∧ x.at_ ≤ 65535
  n : 0 ≤ x.n ∧ x.n ≤ 65535
theorem plain_nums {x : Ov} (h : plainO x = true) : NumsOk x := by
  obtain ⟨h0, h1, h2, h3, h4, h5⟩ := plain_parts h
  refine ⟨?_, ?_, ?_⟩
  · rcases hasB_or h0 with k | k
    · simp at k; omega
    · simp at k; omega
  · rcases hasB_or h1 with k | k
    · simp at k; omega
    · simp at k; omega
  · rcases hasB_or h2 with k | k
    · simp at k; omega
    · simp at k; omega
theorem kind_cases {k : Nat} (h1 : 1 ≤ k) (h2 : k ≤ 16) : k = 1 ∨ k = 2 ∨ k = 3 ∨ k = 4 ∨ k = 5 ∨ k = 6 ∨ k = 7 ∨ k = 8 ∨ k = 9 ∨ k = 10 ∨ k = 11 ∨ k = 12 ∨ k = 13 ∨ k = 14 ∨ k = 15 ∨ k = 16 := by omega
theorem nameL_inj_aux : ∀ a : Nat, a < 17 → ∀ b : Nat, b < 17 → 1 ≤ a → 1 ≤ b → nameL a = nameL b → a = b := by decide +kernel
theorem nameL_inj {a b : Nat} (h1 : 1 ≤ a) (h2 : a ≤ 16) (h3 : 1 ≤ b) (h4 : b ≤ 16) (h : nameL a = nameL b) : a = b := nameL_inj_aux a (by omega) b (by omega) h1 h3 h
theorem nameL_no32 : ∀ a : Nat, a < 17 → ∀ c ∈ nameL a, c ≠ 32 := by decide +kernel
theorem ov_ext {x y : Ov} (h0 : x.k = y.k) (h1 : x.slot = y.slot) (h2 : x.at_ = y.at_) (h3 : x.n = y.n) (h4 : x.id = y.id) (h5 : x.g = y.g) (h6 : x.t = y.t) : x = y := by
  cases x; cases y; simp only at *; subst h0; subst h1; subst h2; subst h3; subst h4; subst h5; subst h6; rfl
structure NumsBig (x : Ov) : Prop where
  slot : numOK x.slot
  at_ : numOK x.at_
  n : numOK x.n
  id : numOK x.id
  g : numOK x.g
theorem NumsOk.big {x : Ov} (h : NumsOk x) (ho : OvOk x) : NumsBig x :=
  ⟨⟨h.slot.1, by have := h.slot.2; omega⟩, ⟨h.at_.1, by have := h.at_.2; omega⟩, ⟨h.n.1, by have := h.n.2; omega⟩, ⟨ho.id.1, by have := ho.id.2; omega⟩, ⟨ho.g.1, by have := ho.g.2; omega⟩⟩
theorem letW_s (x : Ov) : letW x 115 = numL x.slot := rfl
theorem letW_a (x : Ov) : letW x 97 = numL x.at_ := rfl
theorem letW_n (x : Ov) : letW x 110 = numL x.n := rfl
theorem letW_i (x : Ov) : letW x 105 = numL x.id := rfl
theorem letW_g (x : Ov) : letW x 103 = numL x.g := rfl
theorem letW_t (x : Ov) : letW x 116 = quoteL x.t := rfl
/-- the words of an operation determine it -/
theorem opW_inj {x y : Ov} (hx : zeroU x) (hy : zeroU y) (hx1 : 1 ≤ x.k ∧ x.k ≤ 16) (hy1 : 1 ≤ y.k ∧ y.k ≤ 16) (nx : NumsBig x) (ny : NumsBig y) (h : opW x = opW y) : x = y := by
  unfold opW at h
  injection h with hn hl
  have hk := nameL_inj (by omega) (by omega) (by omega) (by omega) hn
  have hk2 : x.k = y.k := by omega
  obtain ⟨k, hkx⟩ : ∃ k : Nat, x.k.toNat = k := ⟨_, rfl⟩
  unfold zeroU at hx hy
  rw [← hk] at hl hy
  rw [hkx] at hl hx hy
  have te : ∀ {a b : ByteArray}, a.size = 0 → b.size = 0 → a = b := fun {a b} ha hb => by rw [str_empty ha, str_empty hb]
  rcases kind_cases (k := k) (by omega) (by omega) with rfl | rfl | rfl | rfl | rfl | rfl | rfl | rfl | rfl | rfl | rfl | rfl | rfl | rfl | rfl | rfl
  all_goals
    simp [fldK] at hx hy
    first
      | rw [show letL _ = [97, 116] by decide] at hl
      | rw [show letL _ = [97, 110] by decide] at hl
      | rw [show letL _ = [105, 97, 103] by decide] at hl
      | rw [show letL _ = [105] by decide] at hl
      | rw [show letL _ = [] by decide] at hl
      | rw [show letL _ = [115] by decide] at hl
      | rw [show letL _ = [115, 97, 110] by decide] at hl
      | rw [show letL _ = [115, 110] by decide] at hl
      | rw [show letL _ = [115, 105] by decide] at hl
      | rw [show letL _ = [115, 97] by decide] at hl
    simp only [List.map_cons, List.map_nil, letW_s, letW_a, letW_n, letW_i, letW_g, letW_t, List.cons.injEq, and_true] at hl
    apply ov_ext hk2
    all_goals first
      | exact numL_inj nx.slot ny.slot (by first | exact hl | exact hl.1)
      | exact numL_inj nx.at_ ny.at_ (by first | exact hl | exact hl.1 | exact hl.2 | exact hl.2.1)
      | exact numL_inj nx.n ny.n (by first | exact hl | exact hl.1 | exact hl.2 | exact hl.2.2)
      | exact numL_inj nx.id ny.id (by first | exact hl | exact hl.1 | exact hl.2)
      | exact numL_inj nx.g ny.g (by first | exact hl.2.2)
      | exact quoteL_inj (by first | exact hl.2)
      | (simp only [hx, hy]; done)
      | exact te (by simp [hx]) (by simp [hy])
theorem letW_no32 (x : Ov) (c : UInt8) : ∀ d ∈ letW x c, d ≠ 32 := by
  intro d hd
  unfold letW at hd
  split at hd
  · exact numL_no32 _ d hd
  split at hd
  · exact numL_no32 _ d hd
  split at hd
  · exact numL_no32 _ d hd
  split at hd
  · exact numL_no32 _ d hd
  split at hd
  · exact numL_no32 _ d hd
  exact quote_no32 _ d hd
theorem opW_no32 {x : Ov} (hk : 1 ≤ x.k ∧ x.k ≤ 16) : ∀ w ∈ opW x, ∀ c ∈ w, c ≠ 32 := by
  intro w hw c hc
  unfold opW at hw
  rcases List.mem_cons.1 hw with rfl | hw
  · exact nameL_no32 _ (by omega) c hc
  · obtain ⟨d, _, rfl⟩ := List.mem_map.1 hw
    exact letW_no32 x d c hc
theorem opW_split {x : Ov} (hk : 1 ≤ x.k ∧ x.k ≤ 16) : splitW (opL x) = opW x := split_join (opW x) (by unfold opW; simp) (opW_no32 hk)
/-- an operation that has the line s -/
structure HasLine (s : List UInt8) (x : Ov) : Prop where
  ok : OvOk x
  plain : plainO x = true
  line : opL x = s
theorem HasLine.big {s : List UInt8} {x : Ov} (h : HasLine s x) : NumsBig x := (plain_nums h.plain).big h.ok
theorem HasLine.words {s : List UInt8} {x : Ov} (h : HasLine s x) : opW x = splitW s := by rw [← h.line, opW_split (plain_kind h.plain)]
theorem HasLine.only {s : List UInt8} {x y : Ov} (hx : HasLine s x) (hy : HasLine s y) : x = y :=
  opW_inj (plain_zero hx.plain) (plain_zero hy.plain) (plain_kind hx.plain) (plain_kind hy.plain) hx.big hy.big (by rw [hx.words, hy.words])
/-- what text.Op gives -/
def opR (x : Ov) : List UInt8 × Int := if plainO x = true then (opL x, 0) else ([], 2)
def zeroO : Ov := ⟨0, 0, 0, 0, 0, 0, ⟨#[]⟩⟩
/-- what text.ParseOp gives -/
noncomputable def parO (s : List UInt8) : Option Ov := by
  classical exact if h : ∃ x, HasLine s x then some h.choose else none
theorem parO_some {s : List UInt8} {x : Ov} (h : HasLine s x) : parO s = some x := by
  classical
  unfold parO
  have hx : ∃ x, HasLine s x := ⟨x, h⟩
  rw [dif_pos hx]
  rw [hx.choose_spec.only h]
theorem parO_none {s : List UInt8} (h : ∀ x, ¬ HasLine s x) : parO s = none := by
  classical
  unfold parO
  rw [dif_neg (fun ⟨x, hx⟩ => h x hx)]
theorem parO_inv {s : List UInt8} {x : Ov} (h : parO s = some x) : HasLine s x := by
  classical
  unfold parO at h
  split at h
  · rename_i hx
    injection h with h
    rw [← h]; exact hx.choose_spec
  · cases h
noncomputable def parR (s : List UInt8) : Ov × Int := match parO s with | some x => (x, 0) | none => (zeroO, 4)
end Go.Proofs.YtdfkbahlngijcaaDoor

namespace Go.Proofs.YtdfkbahlngijcaaDoor
open Go.RowKit
set_option linter.unusedVariables false

theorem RlM.refl (b0 : Nat) (V : Int → Option Value) (w : World) : RlM b0 V w w := ⟨Below.refl _ _, fun _ _ _ _ h => h, fun _ es clk h ho => ⟨es, clk, h, ho, fun _ hz => hz⟩⟩
theorem letL_six : ∀ k : Nat, k < 17 → ∀ c ∈ letL k, c.toNat < 128 ∧ ((c.toNat : Int) ∈ ([115, 97, 110, 105, 103, 116] : List Int)) := by decide +kernel
structure OpS (x : Ov) (w0 : World) (B pos : Nat) (v : Value) (ws : List (List UInt8)) (w : World) : Prop where
  box : w.heap[w0.heap.size]? = some (.cells (oC x) 51 (0, 0))
  it : w.heap[B + 1]? = some (.stringIter ⟨(letL x.k.toNat).toArray⟩ pos)
  own : w.ownsRow B 9 1 v ws.length (flatR fS ws)
  low : Below w0.heap.size w0 w
  base : w0.heap.size + 1 ≤ B
theorem OpS.later {x : Ov} {w0 : World} {B pos : Nat} {v : Value} {ws : List (List UInt8)} {w w' : World} (h : OpS x w0 B pos v ws w) (hb : Below w.heap.size w w') : OpS x w0 B pos v ws w' :=
  ⟨block_below hb h.box (block_lt h.box), block_below hb h.it (block_lt h.it), own_below h.own hb, h.low.trans (hb.mono h.low.size), h.base⟩
theorem OpS.next {x : Ov} {w0 : World} {B pos : Nat} {v : Value} {ws : List (List UInt8)} {w : World} (h : OpS x w0 B pos v ws w) (pos' : Nat) : OpS x w0 B pos' v ws (w.iterAt (B + 1) ⟨(letL x.k.toNat).toArray⟩ pos') := by
  have hb := h.base
  have ho : ∀ (b : Nat) cs T fr, w.heap[b]? = some (.cells cs T fr) → (w.iterAt (B + 1) ⟨(letL x.k.toNat).toArray⟩ pos').heap[b]? = some (.cells cs T fr) := fun b cs T fr e => by
    rw [Lib.iterAt_other w (B + 1) b _ pos' (fun k => by rw [k, h.it] at e; cases e)]; exact e
  refine ⟨ho _ _ _ _ h.box, Lib.iterAt_heap w (B + 1) _ pos pos' h.it, ?_, Lib.below_iterAt h.low (by omega) _ _, hb⟩
  obtain ⟨h0, hk | ⟨g, cap', cur, h1, hg, h2, h3⟩⟩ := h.own
  · exact ⟨h0, .inl hk⟩
  · exact ⟨h0, .inr ⟨g, cap', cur, h1, hg, ho _ _ _ _ h2, h3⟩⟩
theorem keep_iter {w w1 w' : World} {B k n i : Nat} {t : TypeId} {v : Value} {xs : List Value} {s : ByteArray} {p : Nat} (h : w.ownsRow B t k v n xs) (hg : w.grownBy w' v.ownBlock) (e : w.heap[i]? = some (.stringIter s p)) : w'.heap[i]? = some (.stringIter s p) := by
  rw [hg.block i (block_lt e) (fun e' => by
    obtain ⟨-, c1, h1⟩ := own_typ1 h e'.symm
    rw [e] at h1; cases h1)]
  exact e
theorem OpS.grown {x : Ov} {w0 : World} {B pos : Nat} {v v' : Value} {ws : List (List UInt8)} {s : List UInt8} {w w' : World} (h : OpS x w0 B pos v ws w) (hg : w.grownBy w' v.ownBlock) (ho : w'.ownsRow B 9 1 v' (ws.length + 1) (flatR fS ws ++ [.string ⟨s.toArray⟩])) : OpS x w0 B pos v' (ws ++ [s]) w' := by
  have hB : B ≤ w.heap.size := by have := block_lt h.it; omega
  have hbl : Below B w w' := (Below.refl B w).grown hg hB fun q hq => (own_typ1 h.own hq).1
  refine ⟨keep_append h.own h.box (by decide) hg h.box, keep_iter (w1 := w) h.own hg h.it, ?_, h.low.trans (hbl.mono (by have := h.base; omega)), h.base⟩
  rw [flatS_app, flatS_one, List.length_append]
  exact ho
theorem OpS.start (x : Ov) (w0 w3 : World) (nm : List UInt8) (hbox : w3.heap[w0.heap.size]? = some (.cells (oC x) 51 (0, 0))) (hlow : Below w0.heap.size w0 w3) :
    OpS x w0 w3.heap.size 0 (.slice (some ⟨w3.heap.size, 0, none⟩) 1 1) [nm] ((w3.alloc (.cells #[.string ⟨nm.toArray⟩] 9)).iter ⟨(letL x.k.toNat).toArray⟩ 0) := by
  have h1 := block_new w3 (.cells #[.string ⟨nm.toArray⟩] 9)
  have hb : Below w3.heap.size w3 ((w3.alloc (.cells #[.string ⟨nm.toArray⟩] 9)).iter ⟨(letL x.k.toNat).toArray⟩ 0) := ((Below.refl _ _).alloc (Nat.le_refl _) _).alloc (by simp) _
  refine ⟨block_below hb hbox (block_lt hbox), ?_, ?_, hlow.trans (hb.mono hlow.size), block_lt hbox⟩
  · have := World.iter_heap (w3.alloc (.cells #[.string ⟨nm.toArray⟩] 9)) ⟨(letL x.k.toNat).toArray⟩ 0
    simpa using this
  · have h2 := block_alloc h1 (.stringIter ⟨(letL x.k.toNat).toArray⟩ 0)
    exact ⟨rfl, .inr ⟨w3.heap.size, 1, _, rfl, Nat.le_refl _, h2, by simp, by decide, by show (1 : Nat) = _; rfl, rfl⟩⟩
end Go.Proofs.YtdfkbahlngijcaaDoor

namespace Go.Proofs.YtdfkbahlngijcaaDoor
open Go.RowKit
set_option linter.unusedVariables false

/-- a result of six cells in memory -/
theorem res6 {P : Program} {fn : Func} {p : Tmp} {ty : TypeId} (hr : fn.results = #[.cell p ty]) {tmps : Array Value} {W : World} {b : Nat} {x0 x1 x2 x3 x4 x5 : Value} {e : TypeId} {fr : Nat × Nat}
    (hg : (isAgg ty).run P W = .ok true W) (hs : (sizeOf ty).run P W = .ok 6 W) (ht : tmps.getD p undef = .pointer (some ⟨b, 0, none⟩))
    (hb : W.heap[b]? = some (.cells #[x0, x1, x2, x3, x4, x5] e fr)) : (results fn tmps).run P W = .ok (.agg #[x0, x1, x2, x3, x4, x5]) W := by
  have h0 : W.cell? ⟨b, 0, none⟩ = some x0 := block_cell hb 0
  have h1 : W.cell? ⟨b, 1, none⟩ = some x1 := block_cell hb 1
  have h2 : W.cell? ⟨b, 2, none⟩ = some x2 := block_cell hb 2
  have h3 : W.cell? ⟨b, 3, none⟩ = some x3 := block_cell hb 3
  have h4 : W.cell? ⟨b, 4, none⟩ = some x4 := block_cell hb 4
  have h5 : W.cell? ⟨b, 5, none⟩ = some x5 := block_cell hb 5
  have ht' : tmps[p]?.getD undef = .pointer (some ⟨b, 0, none⟩) := by simpa using ht
  simp only [results, hr]
  simp [ht', hg, hs, h0, h1, h2, h3, h4, h5, go_sem]
/-- the fields that a kind uses -/
def usesA (k : Nat) : Array Value := #[.bool (decide (0 ∈ fldK k)), .bool (decide (1 ∈ fldK k)), .bool (decide (2 ∈ fldK k)), .bool (decide (3 ∈ fldK k)), .bool (decide (4 ∈ fldK k)), .bool (decide (5 ∈ fldK k))]
set_option maxRecDepth 100000 in
set_option maxHeartbeats 4000000 in
theorem uses_1 (w : World) : Calls Tryd.prog 57 #[.int .u8 1] w fun e w' => e = .returned (.agg (usesA 1)) ∧ Below w.heap.size w w' := by
  rw [show usesA 1 = #[.bool false, .bool true, .bool false, .bool false, .bool false, .bool true] by rfl]
  go_enter Tryd.func57, Tryd.ntmps57
  go_wp2_with fail
  exact bodyPost_ret (res6 Tryd.results57 (Tryd.isAgg104 _) (Tryd.sizeOf104 _) rfl (block_new w (.cells #[.bool false, .bool true, .bool false, .bool false, .bool false, .bool true] 104))) rfl ⟨rfl, by go_grown⟩
set_option maxRecDepth 100000 in
set_option maxHeartbeats 4000000 in
theorem uses_2 (w : World) : Calls Tryd.prog 57 #[.int .u8 2] w fun e w' => e = .returned (.agg (usesA 2)) ∧ Below w.heap.size w w' := by
  rw [show usesA 2 = #[.bool false, .bool true, .bool true, .bool false, .bool false, .bool false] by rfl]
  go_enter Tryd.func57, Tryd.ntmps57
  go_wp2_with fail
  exact bodyPost_ret (res6 Tryd.results57 (Tryd.isAgg104 _) (Tryd.sizeOf104 _) rfl (block_new w (.cells #[.bool false, .bool true, .bool true, .bool false, .bool false, .bool false] 104))) rfl ⟨rfl, by go_grown⟩
set_option maxRecDepth 100000 in
set_option maxHeartbeats 4000000 in
theorem uses_3 (w : World) : Calls Tryd.prog 57 #[.int .u8 3] w fun e w' => e = .returned (.agg (usesA 3)) ∧ Below w.heap.size w w' := by
  rw [show usesA 3 = #[.bool false, .bool true, .bool false, .bool true, .bool true, .bool false] by rfl]
  go_enter Tryd.func57, Tryd.ntmps57
  go_wp2_with fail
  exact bodyPost_ret (res6 Tryd.results57 (Tryd.isAgg104 _) (Tryd.sizeOf104 _) rfl (block_new w (.cells #[.bool false, .bool true, .bool false, .bool true, .bool true, .bool false] 104))) rfl ⟨rfl, by go_grown⟩
set_option maxRecDepth 100000 in
set_option maxHeartbeats 4000000 in
theorem uses_4 (w : World) : Calls Tryd.prog 57 #[.int .u8 4] w fun e w' => e = .returned (.agg (usesA 4)) ∧ Below w.heap.size w w' := by
  rw [show usesA 4 = #[.bool false, .bool false, .bool false, .bool true, .bool false, .bool false] by rfl]
  go_enter Tryd.func57, Tryd.ntmps57
  go_wp2_with fail
  exact bodyPost_ret (res6 Tryd.results57 (Tryd.isAgg104 _) (Tryd.sizeOf104 _) rfl (block_new w (.cells #[.bool false, .bool false, .bool false, .bool true, .bool false, .bool false] 104))) rfl ⟨rfl, by go_grown⟩
set_option maxRecDepth 100000 in
set_option maxHeartbeats 4000000 in
theorem uses_5 (w : World) : Calls Tryd.prog 57 #[.int .u8 5] w fun e w' => e = .returned (.agg (usesA 5)) ∧ Below w.heap.size w w' := by
  rw [show usesA 5 = #[.bool false, .bool false, .bool false, .bool false, .bool false, .bool false] by rfl]
  go_enter Tryd.func57, Tryd.ntmps57
  go_wp2_with fail
  exact bodyPost_ret (res6 Tryd.results57 (Tryd.isAgg104 _) (Tryd.sizeOf104 _) rfl (block_new w (.cells #[.bool false, .bool false, .bool false, .bool false, .bool false, .bool false] 104))) rfl ⟨rfl, by go_grown⟩
set_option maxRecDepth 100000 in
set_option maxHeartbeats 4000000 in
theorem uses_6 (w : World) : Calls Tryd.prog 57 #[.int .u8 6] w fun e w' => e = .returned (.agg (usesA 6)) ∧ Below w.heap.size w w' := by
  rw [show usesA 6 = #[.bool true, .bool false, .bool false, .bool false, .bool false, .bool false] by rfl]
  go_enter Tryd.func57, Tryd.ntmps57
  go_wp2_with fail
  exact bodyPost_ret (res6 Tryd.results57 (Tryd.isAgg104 _) (Tryd.sizeOf104 _) rfl (block_new w (.cells #[.bool true, .bool false, .bool false, .bool false, .bool false, .bool false] 104))) rfl ⟨rfl, by go_grown⟩
set_option maxRecDepth 100000 in
set_option maxHeartbeats 4000000 in
theorem uses_7 (w : World) : Calls Tryd.prog 57 #[.int .u8 7] w fun e w' => e = .returned (.agg (usesA 7)) ∧ Below w.heap.size w w' := by
  rw [show usesA 7 = #[.bool true, .bool true, .bool true, .bool false, .bool false, .bool false] by rfl]
  go_enter Tryd.func57, Tryd.ntmps57
  go_wp2_with fail
  exact bodyPost_ret (res6 Tryd.results57 (Tryd.isAgg104 _) (Tryd.sizeOf104 _) rfl (block_new w (.cells #[.bool true, .bool true, .bool true, .bool false, .bool false, .bool false] 104))) rfl ⟨rfl, by go_grown⟩
set_option maxRecDepth 100000 in
set_option maxHeartbeats 4000000 in
theorem uses_8 (w : World) : Calls Tryd.prog 57 #[.int .u8 8] w fun e w' => e = .returned (.agg (usesA 8)) ∧ Below w.heap.size w w' := by
  rw [show usesA 8 = #[.bool true, .bool false, .bool true, .bool false, .bool false, .bool false] by rfl]
  go_enter Tryd.func57, Tryd.ntmps57
  go_wp2_with fail
  exact bodyPost_ret (res6 Tryd.results57 (Tryd.isAgg104 _) (Tryd.sizeOf104 _) rfl (block_new w (.cells #[.bool true, .bool false, .bool true, .bool false, .bool false, .bool false] 104))) rfl ⟨rfl, by go_grown⟩
set_option maxRecDepth 100000 in
set_option maxHeartbeats 4000000 in
theorem uses_9 (w : World) : Calls Tryd.prog 57 #[.int .u8 9] w fun e w' => e = .returned (.agg (usesA 9)) ∧ Below w.heap.size w w' := by
  rw [show usesA 9 = #[.bool true, .bool false, .bool true, .bool false, .bool false, .bool false] by rfl]
  go_enter Tryd.func57, Tryd.ntmps57
  go_wp2_with fail
  exact bodyPost_ret (res6 Tryd.results57 (Tryd.isAgg104 _) (Tryd.sizeOf104 _) rfl (block_new w (.cells #[.bool true, .bool false, .bool true, .bool false, .bool false, .bool false] 104))) rfl ⟨rfl, by go_grown⟩
set_option maxRecDepth 100000 in
set_option maxHeartbeats 4000000 in
theorem uses_10 (w : World) : Calls Tryd.prog 57 #[.int .u8 10] w fun e w' => e = .returned (.agg (usesA 10)) ∧ Below w.heap.size w w' := by
  rw [show usesA 10 = #[.bool true, .bool false, .bool false, .bool true, .bool false, .bool false] by rfl]
  go_enter Tryd.func57, Tryd.ntmps57
  go_wp2_with fail
  exact bodyPost_ret (res6 Tryd.results57 (Tryd.isAgg104 _) (Tryd.sizeOf104 _) rfl (block_new w (.cells #[.bool true, .bool false, .bool false, .bool true, .bool false, .bool false] 104))) rfl ⟨rfl, by go_grown⟩
set_option maxRecDepth 100000 in
set_option maxHeartbeats 4000000 in
theorem uses_11 (w : World) : Calls Tryd.prog 57 #[.int .u8 11] w fun e w' => e = .returned (.agg (usesA 11)) ∧ Below w.heap.size w w' := by
  rw [show usesA 11 = #[.bool true, .bool true, .bool false, .bool false, .bool false, .bool false] by rfl]
  go_enter Tryd.func57, Tryd.ntmps57
  go_wp2_with fail
  exact bodyPost_ret (res6 Tryd.results57 (Tryd.isAgg104 _) (Tryd.sizeOf104 _) rfl (block_new w (.cells #[.bool true, .bool true, .bool false, .bool false, .bool false, .bool false] 104))) rfl ⟨rfl, by go_grown⟩
set_option maxRecDepth 100000 in
set_option maxHeartbeats 4000000 in
theorem uses_12 (w : World) : Calls Tryd.prog 57 #[.int .u8 12] w fun e w' => e = .returned (.agg (usesA 12)) ∧ Below w.heap.size w w' := by
  rw [show usesA 12 = #[.bool true, .bool false, .bool true, .bool false, .bool false, .bool false] by rfl]
  go_enter Tryd.func57, Tryd.ntmps57
  go_wp2_with fail
  exact bodyPost_ret (res6 Tryd.results57 (Tryd.isAgg104 _) (Tryd.sizeOf104 _) rfl (block_new w (.cells #[.bool true, .bool false, .bool true, .bool false, .bool false, .bool false] 104))) rfl ⟨rfl, by go_grown⟩
set_option maxRecDepth 100000 in
set_option maxHeartbeats 4000000 in
theorem uses_13 (w : World) : Calls Tryd.prog 57 #[.int .u8 13] w fun e w' => e = .returned (.agg (usesA 13)) ∧ Below w.heap.size w w' := by
  rw [show usesA 13 = #[.bool true, .bool false, .bool false, .bool false, .bool false, .bool false] by rfl]
  go_enter Tryd.func57, Tryd.ntmps57
  go_wp2_with fail
  exact bodyPost_ret (res6 Tryd.results57 (Tryd.isAgg104 _) (Tryd.sizeOf104 _) rfl (block_new w (.cells #[.bool true, .bool false, .bool false, .bool false, .bool false, .bool false] 104))) rfl ⟨rfl, by go_grown⟩
set_option maxRecDepth 100000 in
set_option maxHeartbeats 4000000 in
theorem uses_14 (w : World) : Calls Tryd.prog 57 #[.int .u8 14] w fun e w' => e = .returned (.agg (usesA 14)) ∧ Below w.heap.size w w' := by
  rw [show usesA 14 = #[.bool false, .bool false, .bool false, .bool false, .bool false, .bool false] by rfl]
  go_enter Tryd.func57, Tryd.ntmps57
  go_wp2_with fail
  exact bodyPost_ret (res6 Tryd.results57 (Tryd.isAgg104 _) (Tryd.sizeOf104 _) rfl (block_new w (.cells #[.bool false, .bool false, .bool false, .bool false, .bool false, .bool false] 104))) rfl ⟨rfl, by go_grown⟩
set_option maxRecDepth 100000 in
set_option maxHeartbeats 4000000 in
theorem uses_15 (w : World) : Calls Tryd.prog 57 #[.int .u8 15] w fun e w' => e = .returned (.agg (usesA 15)) ∧ Below w.heap.size w w' := by
  rw [show usesA 15 = #[.bool false, .bool false, .bool false, .bool false, .bool false, .bool false] by rfl]
  go_enter Tryd.func57, Tryd.ntmps57
  go_wp2_with fail
  exact bodyPost_ret (res6 Tryd.results57 (Tryd.isAgg104 _) (Tryd.sizeOf104 _) rfl (block_new w (.cells #[.bool false, .bool false, .bool false, .bool false, .bool false, .bool false] 104))) rfl ⟨rfl, by go_grown⟩
set_option maxRecDepth 100000 in
set_option maxHeartbeats 4000000 in
theorem uses_16 (w : World) : Calls Tryd.prog 57 #[.int .u8 16] w fun e w' => e = .returned (.agg (usesA 16)) ∧ Below w.heap.size w w' := by
  rw [show usesA 16 = #[.bool false, .bool false, .bool false, .bool false, .bool false, .bool false] by rfl]
  go_enter Tryd.func57, Tryd.ntmps57
  go_wp2_with fail
  exact bodyPost_ret (res6 Tryd.results57 (Tryd.isAgg104 _) (Tryd.sizeOf104 _) rfl (block_new w (.cells #[.bool false, .bool false, .bool false, .bool false, .bool false, .bool false] 104))) rfl ⟨rfl, by go_grown⟩
theorem uses_any (k : Nat) (h1 : 1 ≤ k) (h2 : k ≤ 16) (w : World) : Calls Tryd.prog 57 #[.int .u8 k] w fun e w' => e = .returned (.agg (usesA k)) ∧ Below w.heap.size w w' := by
  rcases kind_cases h1 h2 with rfl | rfl | rfl | rfl | rfl | rfl | rfl | rfl | rfl | rfl | rfl | rfl | rfl | rfl | rfl | rfl
  · exact uses_1 w
  · exact uses_2 w
  · exact uses_3 w
  · exact uses_4 w
  · exact uses_5 w
  · exact uses_6 w
  · exact uses_7 w
  · exact uses_8 w
  · exact uses_9 w
  · exact uses_10 w
  · exact uses_11 w
  · exact uses_12 w
  · exact uses_13 w
  · exact uses_14 w
  · exact uses_15 w
  · exact uses_16 w
def wordA : Array Value := #[.string ⟨#[]⟩, .string ⟨#[105, 110, 115, 101, 114, 116]⟩, .string ⟨#[100, 101, 108, 101, 116, 101]⟩, .string ⟨#[115, 101, 116]⟩, .string ⟨#[100, 114, 111, 112]⟩, .string ⟨#[97, 99, 113, 117, 105, 114, 101]⟩, .string ⟨#[108, 101, 110]⟩, .string ⟨#[114, 101, 97, 100]⟩, .string ⟨#[114, 117, 110, 101]⟩, .string ⟨#[108, 105, 110, 101]⟩, .string ⟨#[109, 97, 114, 107]⟩, .string ⟨#[115, 101, 101, 107]⟩, .string ⟨#[110, 101, 120, 116]⟩, .string ⟨#[114, 101, 108, 101, 97, 115, 101]⟩, .string ⟨#[115, 117, 98, 115, 99, 114, 105, 98, 101]⟩, .string ⟨#[114, 101, 99, 101, 105, 118, 101]⟩, .string ⟨#[99, 108, 111, 115, 101]⟩]
set_option maxRecDepth 100000 in
set_option maxHeartbeats 16000000 in
theorem word_any (k : Nat) (h1 : 1 ≤ k) (h2 : k ≤ 16) (w : World) : Calls Tryd.prog 56 #[.int .u8 k] w fun e w' => e = .returned (.string ⟨(nameL k).toArray⟩) ∧ Below w.heap.size w w' := by
  go_enter Tryd.func56, Tryd.ntmps56
  go_upto_region 2 with (fail)
  generalize hW : World.alloc _ _ = W
  have hB : Below w.heap.size w W := by
    rw [← hW]
    exact (Below.refl _ _).alloc (Nat.le_refl _) _
  have eA : W.heap[w.heap.size]? = some (.cells wordA 133 (0, 0)) := by
    rw [← hW]
    exact block_new _ _
  clear hW
  have HB := Lib.hid hB
  clear hB
  generalize Value.agg #[_, _, _, _, _, _, _, _, _, _, _, _, _, _, _, _, _] = va
  rcases kind_cases h1 h2 with rfl | rfl | rfl | rfl | rfl | rfl | rfl | rfl | rfl | rfl | rfl | rfl | rfl | rfl | rfl | rfl
  · have q := block_cell eA 1
    rw [show wordA[1]? = some (.string ⟨#[105, 110, 115, 101, 114, 116]⟩) from rfl] at q
    clear eA
    go_wp2_with fail
    go_ret
    exact ⟨by rw [show (nameL 1).toArray = (ByteArray.mk #[105, 110, 115, 101, 114, 116]).data by decide +kernel] <;> rfl, HB.out⟩
  · have q := block_cell eA 2
    rw [show wordA[2]? = some (.string ⟨#[100, 101, 108, 101, 116, 101]⟩) from rfl] at q
    clear eA
    go_wp2_with fail
    go_ret
    exact ⟨by rw [show (nameL 2).toArray = (ByteArray.mk #[100, 101, 108, 101, 116, 101]).data by decide +kernel] <;> rfl, HB.out⟩
  · have q := block_cell eA 3
    rw [show wordA[3]? = some (.string ⟨#[115, 101, 116]⟩) from rfl] at q
    clear eA
    go_wp2_with fail
    go_ret
    exact ⟨by rw [show (nameL 3).toArray = (ByteArray.mk #[115, 101, 116]).data by decide +kernel] <;> rfl, HB.out⟩
  · have q := block_cell eA 4
    rw [show wordA[4]? = some (.string ⟨#[100, 114, 111, 112]⟩) from rfl] at q
    clear eA
    go_wp2_with fail
    go_ret
    exact ⟨by rw [show (nameL 4).toArray = (ByteArray.mk #[100, 114, 111, 112]).data by decide +kernel] <;> rfl, HB.out⟩
  · have q := block_cell eA 5
    rw [show wordA[5]? = some (.string ⟨#[97, 99, 113, 117, 105, 114, 101]⟩) from rfl] at q
    clear eA
    go_wp2_with fail
    go_ret
    exact ⟨by rw [show (nameL 5).toArray = (ByteArray.mk #[97, 99, 113, 117, 105, 114, 101]).data by decide +kernel] <;> rfl, HB.out⟩
  · have q := block_cell eA 6
    rw [show wordA[6]? = some (.string ⟨#[108, 101, 110]⟩) from rfl] at q
    clear eA
    go_wp2_with fail
    go_ret
    exact ⟨by rw [show (nameL 6).toArray = (ByteArray.mk #[108, 101, 110]).data by decide +kernel] <;> rfl, HB.out⟩
  · have q := block_cell eA 7
    rw [show wordA[7]? = some (.string ⟨#[114, 101, 97, 100]⟩) from rfl] at q
    clear eA
    go_wp2_with fail
    go_ret
    exact ⟨by rw [show (nameL 7).toArray = (ByteArray.mk #[114, 101, 97, 100]).data by decide +kernel] <;> rfl, HB.out⟩
  · have q := block_cell eA 8
    rw [show wordA[8]? = some (.string ⟨#[114, 117, 110, 101]⟩) from rfl] at q
    clear eA
    go_wp2_with fail
    go_ret
    exact ⟨by rw [show (nameL 8).toArray = (ByteArray.mk #[114, 117, 110, 101]).data by decide +kernel] <;> rfl, HB.out⟩
  · have q := block_cell eA 9
    rw [show wordA[9]? = some (.string ⟨#[108, 105, 110, 101]⟩) from rfl] at q
    clear eA
    go_wp2_with fail
    go_ret
    exact ⟨by rw [show (nameL 9).toArray = (ByteArray.mk #[108, 105, 110, 101]).data by decide +kernel] <;> rfl, HB.out⟩
  · have q := block_cell eA 10
    rw [show wordA[10]? = some (.string ⟨#[109, 97, 114, 107]⟩) from rfl] at q
    clear eA
    go_wp2_with fail
    go_ret
    exact ⟨by rw [show (nameL 10).toArray = (ByteArray.mk #[109, 97, 114, 107]).data by decide +kernel] <;> rfl, HB.out⟩
  · have q := block_cell eA 11
    rw [show wordA[11]? = some (.string ⟨#[115, 101, 101, 107]⟩) from rfl] at q
    clear eA
    go_wp2_with fail
    go_ret
    exact ⟨by rw [show (nameL 11).toArray = (ByteArray.mk #[115, 101, 101, 107]).data by decide +kernel] <;> rfl, HB.out⟩
  · have q := block_cell eA 12
    rw [show wordA[12]? = some (.string ⟨#[110, 101, 120, 116]⟩) from rfl] at q
    clear eA
    go_wp2_with fail
    go_ret
    exact ⟨by rw [show (nameL 12).toArray = (ByteArray.mk #[110, 101, 120, 116]).data by decide +kernel] <;> rfl, HB.out⟩
  · have q := block_cell eA 13
    rw [show wordA[13]? = some (.string ⟨#[114, 101, 108, 101, 97, 115, 101]⟩) from rfl] at q
    clear eA
    go_wp2_with fail
    go_ret
    exact ⟨by rw [show (nameL 13).toArray = (ByteArray.mk #[114, 101, 108, 101, 97, 115, 101]).data by decide +kernel] <;> rfl, HB.out⟩
  · have q := block_cell eA 14
    rw [show wordA[14]? = some (.string ⟨#[115, 117, 98, 115, 99, 114, 105, 98, 101]⟩) from rfl] at q
    clear eA
    go_wp2_with fail
    go_ret
    exact ⟨by rw [show (nameL 14).toArray = (ByteArray.mk #[115, 117, 98, 115, 99, 114, 105, 98, 101]).data by decide +kernel] <;> rfl, HB.out⟩
  · have q := block_cell eA 15
    rw [show wordA[15]? = some (.string ⟨#[114, 101, 99, 101, 105, 118, 101]⟩) from rfl] at q
    clear eA
    go_wp2_with fail
    go_ret
    exact ⟨by rw [show (nameL 15).toArray = (ByteArray.mk #[114, 101, 99, 101, 105, 118, 101]).data by decide +kernel] <;> rfl, HB.out⟩
  · have q := block_cell eA 16
    rw [show wordA[16]? = some (.string ⟨#[99, 108, 111, 115, 101]⟩) from rfl] at q
    clear eA
    go_wp2_with fail
    go_ret
    exact ⟨by rw [show (nameL 16).toArray = (ByteArray.mk #[99, 108, 111, 115, 101]).data by decide +kernel] <;> rfl, HB.out⟩
end Go.Proofs.YtdfkbahlngijcaaDoor

namespace Go.Proofs.YtdfkbahlngijcaaDoor
open Go.RowKit
set_option linter.unusedVariables false

def lineL (ws : List (List UInt8)) : List UInt8 := joinW ws ++ [10]
def cfgV (c : Cf) : List Int := [c.slots, c.gens, c.clients, c.readers, c.queue, c.batch, c.feed]
def cfgW (c : Cf) : List (List UInt8) := [[99, 111, 110, 102, 105, 103]] ++ (cfgV c).map numL ++ [quoteL c.t]
def clientW (i : Nat) : List (List UInt8) := [[99, 108, 105, 101, 110, 116], numL i]
def pickW (q : Int) (n : Nat) : List (List UInt8) := [[112, 105, 99, 107], numL q, numL n]
def opsT (l : List Ov) : List UInt8 := l.flatMap fun x => lineL [opL x]
def progT : Nat → List Pg → List UInt8
  | _, [] => []
  | i, p :: r => lineL (clientW i) ++ (opsT p.l ++ progT (i + 1) r)
/-- the lines of picks: n times q so far -/
def picksG : Int → Nat → List Int → List UInt8
  | q, n, [] => lineL (pickW q n)
  | q, n, x :: r => if x = q then picksG q (n + 1) r else lineL (pickW q n) ++ picksG x 1 r
def picksT : List Int → List UInt8
  | [] => []
  | q :: r => picksG q 1 r
/-- the lines of a script -/
def fmtL (c : Cf) (ss : List Pg) (ps : List Int) : List UInt8 := lineL (cfgW c) ++ (progT 0 ss ++ picksT ps)
theorem picksG_run (q : Int) : ∀ (m n : Nat) (l : List Int), (l = [] ∨ ∃ x r, l = x :: r ∧ x ≠ q) → picksG q n (List.replicate m q ++ l) = lineL (pickW q (n + m)) ++ picksT l
  | 0, n, l, h => by
    rcases h with rfl | ⟨x, r, rfl, hx⟩
    · show lineL (pickW q n) = lineL (pickW q (n + 0)) ++ []
      rw [List.append_nil]; rfl
    · show (if x = q then _ else lineL (pickW q n) ++ picksG x 1 r) = lineL (pickW q n) ++ picksG x 1 r
      rw [if_neg hx]
  | m + 1, n, l, h => by
    show (if q = q then picksG q (n + 1) (List.replicate m q ++ l) else _) = _
    rw [if_pos rfl, picksG_run q m (n + 1) l h, show n + 1 + m = n + (m + 1) by omega]
structure ScZ (c : Cf) (ss : List Pg) (ps : List Int) : Prop where
  cfg : cfgE c = 0
  num : (ss.length : Int) = c.clients
  prog : progE ss = 0
  pn : ps.length ≤ 65535
  pk : ∀ q ∈ ps, 0 ≤ q ∧ q ≤ c.clients
  len : lenSc c ss ps.length ≤ 65536
theorem scE_zero {c : Cf} {ss : List Pg} {ps : List Int} (h : scE c ss ps = 0) : ScZ c ss ps := by
  unfold scE at h
  by_cases h1 : cfgE c = 0
  · rw [if_neg (fun k => k h1)] at h
    by_cases h2 : (ss.length : Int) = c.clients
    · rw [if_neg (fun k => k h2)] at h
      by_cases h3 : progE ss = 0
      · rw [if_neg (fun k => k h3)] at h
        by_cases h4 : 65535 < ps.length
        · rw [if_pos h4] at h; exact absurd h (by decide)
        · rw [if_neg h4] at h
          by_cases h5 : ps.all (fun q => inR q 0 c.clients) = true
          · rw [if_pos h5] at h
            by_cases h6 : 65536 < lenSc c ss ps.length
            · rw [if_pos h6] at h; exact absurd h (by decide)
            · refine ⟨h1, h2, h3, by omega, fun q hq => ?_, by omega⟩
              have := List.all_eq_true.1 h5 q hq
              unfold inR at this
              simpa using this
          · rw [if_neg h5] at h; exact absurd h (by decide)
      · rw [if_pos h3] at h; exact absurd h h3
    · rw [if_pos h2] at h; exact absurd h (by decide)
  · rw [if_pos h1] at h; exact absurd h h1
end Go.Proofs.YtdfkbahlngijcaaDoor

