/- Text: a kind's name and letters. Text: operations: their lines, in plain words. Text: a map of strings with rune keys that the call makes, in a region that draws its order. Text: strings.Cut at a blank, without a look at the greatest length. Text: text.Op: its walk. -/
import Derived.Test.YtdfkbahlngijcaaDoorSl
import Derived.Test.YtdfkbahlngijcaaDoorSh
import Derived.Test.YtdfkbahlngijcaaDoorTr
import Derived.Test.YtdfkbahlngijcaaDoorRegW
import Derived.MapKept
import Derived.Test.YtdfkbahlngijcaaDoorSw
import Derived.Test.YtdfkbahlngijcaaDoorTu
import Derived.Lib.OthersKept
import Derived.Deep.CutRange
import Derived.Deep.DeepCutAuto
namespace Go.Proofs.YtdfkbahlngijcaaDoor
open Go.RowKit
set_option linter.unusedVariables false

/-- a kind's name -/
def nameL (k : Nat) : List UInt8 := (wordsL k).takeWhile (fun c => c != 32)
/-- the letters of a kind's fields -/
def letL (k : Nat) : List UInt8 := ((wordsL k).dropWhile (fun c => c != 32)).drop 1
theorem cut_words (k : Nat) (h1 : 1 ≤ k) (h2 : k ≤ 16) : Lib.cut (wordsL k) [32] = (nameL k, letL k, true) := by
  have h : k = 1 ∨ k = 2 ∨ k = 3 ∨ k = 4 ∨ k = 5 ∨ k = 6 ∨ k = 7 ∨ k = 8 ∨ k = 9 ∨ k = 10 ∨ k = 11 ∨ k = 12 ∨ k = 13 ∨ k = 14 ∨ k = 15 ∨ k = 16 := by omega
  rcases h with rfl | rfl | rfl | rfl | rfl | rfl | rfl | rfl | rfl | rfl | rfl | rfl | rfl | rfl | rfl | rfl <;> decide
theorem letL_len (k : Nat) : (letL k).length ≤ 3 := by
  by_cases h : k ≤ 16
  · have h : k = 0 ∨ k = 1 ∨ k = 2 ∨ k = 3 ∨ k = 4 ∨ k = 5 ∨ k = 6 ∨ k = 7 ∨ k = 8 ∨ k = 9 ∨ k = 10 ∨ k = 11 ∨ k = 12 ∨ k = 13 ∨ k = 14 ∨ k = 15 ∨ k = 16 := by omega
    rcases h with rfl | rfl | rfl | rfl | rfl | rfl | rfl | rfl | rfl | rfl | rfl | rfl | rfl | rfl | rfl | rfl | rfl <;> decide
  · have e : wordsL k = [] := by unfold wordsL; split <;> first | omega | rfl
    unfold letL; rw [e]; decide
theorem wordsL_len (k : Nat) : (wordsL k).length ≤ 10 := by
  by_cases h : k ≤ 16
  · have h : k = 0 ∨ k = 1 ∨ k = 2 ∨ k = 3 ∨ k = 4 ∨ k = 5 ∨ k = 6 ∨ k = 7 ∨ k = 8 ∨ k = 9 ∨ k = 10 ∨ k = 11 ∨ k = 12 ∨ k = 13 ∨ k = 14 ∨ k = 15 ∨ k = 16 := by omega
    rcases h with rfl | rfl | rfl | rfl | rfl | rfl | rfl | rfl | rfl | rfl | rfl | rfl | rfl | rfl | rfl | rfl | rfl <;> decide
  · have e : wordsL k = [] := by unfold wordsL; split <;> first | omega | rfl
    rw [e]; decide
theorem wordsS_size (k : Nat) : (wordsS k).size ≤ 10 := by
  have := wordsL_len k
  show (wordsL k).toArray.size ≤ 10
  simpa using this
end Go.Proofs.YtdfkbahlngijcaaDoor

namespace Go.Proofs.YtdfkbahlngijcaaDoor
open Go.RowKit
set_option linter.unusedVariables false

/-- the word of a field, by its letter -/
def letW (x : Ov) (c : UInt8) : List UInt8 :=
  if c = 115 then numL x.slot else if c = 97 then numL x.at_ else if c = 110 then numL x.n else if c = 105 then numL x.id else if c = 103 then numL x.g else quoteL x.t
/-- the words of an operation -/
def opW (x : Ov) : List (List UInt8) := nameL x.k.toNat :: (letL x.k.toNat).map (letW x)
/-- the line of an operation -/
def opL (x : Ov) : List UInt8 := joinW (opW x)
structure OvOk (x : Ov) : Prop where
  k : 0 ≤ x.k ∧ x.k < 256
  id : 0 ≤ x.id ∧ x.id < 4294967296
  g : 0 ≤ x.g ∧ x.g < 256
def zeroU (x : Ov) : Prop := (0 ∉ fldK x.k.toNat → x.slot = 0) ∧ (1 ∉ fldK x.k.toNat → x.at_ = 0) ∧ (2 ∉ fldK x.k.toNat → x.n = 0) ∧ (3 ∉ fldK x.k.toNat → x.id = 0) ∧ (4 ∉ fldK x.k.toNat → x.g = 0) ∧ (5 ∉ fldK x.k.toNat → x.t.size = 0)
theorem plain_parts {x : Ov} (h : plainO x = true) : p0 x = true ∧ p1 x = true ∧ p2 x = true ∧ p3 x = true ∧ p4 x = true ∧ p5 x = true := by
  unfold plainO at h
  split at h
  · cases h
  · simpa only [Bool.and_eq_true] using h
theorem hasB_no {l : List Nat} {f : Nat} {a b : Bool} (h : hasB l f a b = true) (hn : f ∉ l) : a = true := by
  unfold hasB at h; rwa [if_neg hn] at h
theorem hasB_or {l : List Nat} {f : Nat} {a b : Bool} (h : hasB l f a b = true) : a = true ∨ b = true := by
  unfold hasB at h; split at h
  · exact .inr h
  · exact .inl h
theorem plain_zero {x : Ov} (h : plainO x = true) : zeroU x := by
  obtain ⟨h0, h1, h2, h3, h4, h5⟩ := plain_parts h
  refine ⟨fun k => ?_, fun k => ?_, fun k => ?_, fun k => ?_, fun k => ?_, fun k => ?_⟩
  · simpa using hasB_no h0 k
  · simpa using hasB_no h1 k
  · simpa using hasB_no h2 k
  · simpa using hasB_no h3 k
  · simpa using hasB_no h4 k
  · simpa using hasB_no h5 k
/-- the numbers of a plain operation -/
structure NumsOk (x : Ov) : Prop where
  slot : 0 ≤ x.slot ∧ x.slot ≤ 65535
  at_ : 0 ≤ x.at_ ∧ x.at_ ≤ 65535
  n : 0 ≤ x.n ∧ x.n ≤ 65535
theorem plain_nums {x : Ov} (h : plainO x = true) : NumsOk x := by
  obtain ⟨h0, h1, h2, h3, h4, h5⟩ := plain_parts h
  refine ⟨?_, ?_, ?_⟩
  · rcases hasB_or h0 with k | k
    · simp at k; omega
    · simp at k; omega
  · rcases hasB_or h1 with k | k
    · simp at k; omega
    · simp at k; omega
  · rcases hasB_or h2 with k | k
    · simp at k; omega
    · simp at k; omega
theorem kind_cases {k : Nat} (h1 : 1 ≤ k) (h2 : k ≤ 16) : k = 1 ∨ k = 2 ∨ k = 3 ∨ k = 4 ∨ k = 5 ∨ k = 6 ∨ k = 7 ∨ k = 8 ∨ k = 9 ∨ k = 10 ∨ k = 11 ∨ k = 12 ∨ k = 13 ∨ k = 14 ∨ k = 15 ∨ k = 16 := by omega
theorem nameL_inj_aux : ∀ a : Nat, a < 17 → ∀ b : Nat, b < 17 → 1 ≤ a → 1 ≤ b → nameL a = nameL b → a = b := by decide +kernel
theorem nameL_inj {a b : Nat} (h1 : 1 ≤ a) (h2 : a ≤ 16) (h3 : 1 ≤ b) (h4 : b ≤ 16) (h : nameL a = nameL b) : a = b := nameL_inj_aux a (by omega) b (by omega) h1 h3 h
theorem nameL_no32 : ∀ a : Nat, a < 17 → ∀ c ∈ nameL a, c ≠ 32 := by decide +kernel
theorem ov_ext {x y : Ov} (h0 : x.k = y.k) (h1 : x.slot = y.slot) (h2 : x.at_ = y.at_) (h3 : x.n = y.n) (h4 : x.id = y.id) (h5 : x.g = y.g) (h6 : x.t = y.t) : x = y := by
  cases x; cases y; simp only at *; subst h0; subst h1; subst h2; subst h3; subst h4; subst h5; subst h6; rfl
theorem numOK_of {v : Int} (h : 0 ≤ v ∧ v ≤ 4294967295) : numOK v := ⟨h.1, by omega⟩
structure NumsBig (x : Ov) : Prop where
  slot : numOK x.slot
  at_ : numOK x.at_
  n : numOK x.n
  id : numOK x.id
  g : numOK x.g
theorem NumsOk.big {x : Ov} (h : NumsOk x) (ho : OvOk x) : NumsBig x :=
  ⟨⟨h.slot.1, by have := h.slot.2; omega⟩, ⟨h.at_.1, by have := h.at_.2; omega⟩, ⟨h.n.1, by have := h.n.2; omega⟩, ⟨ho.id.1, by have := ho.id.2; omega⟩, ⟨ho.g.1, by have := ho.g.2; omega⟩⟩
theorem letW_s (x : Ov) : letW x 115 = numL x.slot := rfl
theorem letW_a (x : Ov) : letW x 97 = numL x.at_ := rfl
theorem letW_n (x : Ov) : letW x 110 = numL x.n := rfl
theorem letW_i (x : Ov) : letW x 105 = numL x.id := rfl
theorem letW_g (x : Ov) : letW x 103 = numL x.g := rfl
theorem letW_t (x : Ov) : letW x 116 = quoteL x.t := rfl
/-- the words of an operation determine it -/
theorem opW_inj {x y : Ov} (hx : zeroU x) (hy : zeroU y) (hx1 : 1 ≤ x.k ∧ x.k ≤ 16) (hy1 : 1 ≤ y.k ∧ y.k ≤ 16) (nx : NumsBig x) (ny : NumsBig y) (h : opW x = opW y) : x = y := by
  unfold opW at h
  injection h with hn hl
  have hk := nameL_inj (by omega) (by omega) (by omega) (by omega) hn
  have hk2 : x.k = y.k := by omega
  obtain ⟨k, hkx⟩ : ∃ k : Nat, x.k.toNat = k := ⟨_, rfl⟩
  unfold zeroU at hx hy
  rw [← hk] at hl hy
  rw [hkx] at hl hx hy
  have te : ∀ {a b : ByteArray}, a.size = 0 → b.size = 0 → a = b := fun {a b} ha hb => by rw [str_empty ha, str_empty hb]
  rcases kind_cases (k := k) (by omega) (by omega) with rfl | rfl | rfl | rfl | rfl | rfl | rfl | rfl | rfl | rfl | rfl | rfl | rfl | rfl | rfl | rfl
  all_goals
    simp [fldK] at hx hy
    first
      | rw [show letL _ = [97, 116] by decide] at hl
      | rw [show letL _ = [97, 110] by decide] at hl
      | rw [show letL _ = [105, 97, 103] by decide] at hl
      | rw [show letL _ = [105] by decide] at hl
      | rw [show letL _ = [] by decide] at hl
      | rw [show letL _ = [115] by decide] at hl
      | rw [show letL _ = [115, 97, 110] by decide] at hl
      | rw [show letL _ = [115, 110] by decide] at hl
      | rw [show letL _ = [115, 105] by decide] at hl
      | rw [show letL _ = [115, 97] by decide] at hl
    simp only [List.map_cons, List.map_nil, letW_s, letW_a, letW_n, letW_i, letW_g, letW_t, List.cons.injEq, and_true] at hl
    apply ov_ext hk2
    all_goals first
      | exact numL_inj nx.slot ny.slot (by first | exact hl | exact hl.1)
      | exact numL_inj nx.at_ ny.at_ (by first | exact hl | exact hl.1 | exact hl.2 | exact hl.2.1)
      | exact numL_inj nx.n ny.n (by first | exact hl | exact hl.1 | exact hl.2 | exact hl.2.2)
      | exact numL_inj nx.id ny.id (by first | exact hl | exact hl.1 | exact hl.2)
      | exact numL_inj nx.g ny.g (by first | exact hl.2.2)
      | exact quoteL_inj (by first | exact hl.2)
      | (simp only [hx, hy]; done)
      | exact te (by simp [hx]) (by simp [hy])
theorem letW_no32 (x : Ov) (c : UInt8) : ∀ d ∈ letW x c, d ≠ 32 := by
  intro d hd
  unfold letW at hd
  split at hd
  · exact numL_no32 _ d hd
  split at hd
  · exact numL_no32 _ d hd
  split at hd
  · exact numL_no32 _ d hd
  split at hd
  · exact numL_no32 _ d hd
  split at hd
  · exact numL_no32 _ d hd
  exact quote_no32 _ d hd
theorem opW_no32 {x : Ov} (hk : 1 ≤ x.k ∧ x.k ≤ 16) : ∀ w ∈ opW x, ∀ c ∈ w, c ≠ 32 := by
  intro w hw c hc
  unfold opW at hw
  rcases List.mem_cons.1 hw with rfl | hw
  · exact nameL_no32 _ (by omega) c hc
  · obtain ⟨d, _, rfl⟩ := List.mem_map.1 hw
    exact letW_no32 x d c hc
theorem opW_split {x : Ov} (hk : 1 ≤ x.k ∧ x.k ≤ 16) : splitW (opL x) = opW x := split_join (opW x) (by unfold opW; simp) (opW_no32 hk)
/-- an operation that has the line s -/
structure HasLine (s : List UInt8) (x : Ov) : Prop where
  ok : OvOk x
  plain : plainO x = true
  line : opL x = s
theorem HasLine.big {s : List UInt8} {x : Ov} (h : HasLine s x) : NumsBig x := (plain_nums h.plain).big h.ok
theorem HasLine.words {s : List UInt8} {x : Ov} (h : HasLine s x) : opW x = splitW s := by rw [← h.line, opW_split (plain_kind h.plain)]
theorem HasLine.only {s : List UInt8} {x y : Ov} (hx : HasLine s x) (hy : HasLine s y) : x = y :=
  opW_inj (plain_zero hx.plain) (plain_zero hy.plain) (plain_kind hx.plain) (plain_kind hy.plain) hx.big hy.big (by rw [hx.words, hy.words])
/-- what text.Op gives -/
def opR (x : Ov) : List UInt8 × Int := if plainO x = true then (opL x, 0) else ([], 2)
def zeroO : Ov := ⟨0, 0, 0, 0, 0, 0, ⟨#[]⟩⟩
/-- what text.ParseOp gives -/
noncomputable def parO (s : List UInt8) : Option Ov := by
  classical exact if h : ∃ x, HasLine s x then some h.choose else none
theorem parO_some {s : List UInt8} {x : Ov} (h : HasLine s x) : parO s = some x := by
  classical
  unfold parO
  have hx : ∃ x, HasLine s x := ⟨x, h⟩
  rw [dif_pos hx]
  rw [hx.choose_spec.only h]
theorem parO_none {s : List UInt8} (h : ∀ x, ¬ HasLine s x) : parO s = none := by
  classical
  unfold parO
  rw [dif_neg (fun ⟨x, hx⟩ => h x hx)]
theorem parO_inv {s : List UInt8} {x : Ov} (h : parO s = some x) : HasLine s x := by
  classical
  unfold parO at h
  split at h
  · rename_i hx
    injection h with h
    rw [← h]; exact hx.choose_spec
  · cases h
noncomputable def parR (s : List UInt8) : Ov × Int := match parO s with | some x => (x, 0) | none => (zeroO, 4)
end Go.Proofs.YtdfkbahlngijcaaDoor

namespace Go.Proofs.YtdfkbahlngijcaaDoor
open Go.RowKit
set_option linter.unusedVariables false

def setM (w : World) (r : Nat) (o : Obj) : World := { w with heap := w.heap.setIfInBounds r o }
theorem underM : Tryd.prog.underlying 103 = some (.map 21 9) := Tryd.underlying103
/-- each entry has the value that V gives its key -/
def MOk (V : Int → Option Value) (es : Array MapEntry) : Prop := ∀ e ∈ es.toList, ∃ z, e.key = .int .i32 z ∧ V z = some e.val
def Has (es : Array MapEntry) (z : Int) : Prop := ∃ e ∈ es.toList, e.key = .int .i32 z
theorem MOk.nil (V : Int → Option Value) : MOk V #[] := fun e h => by simp at h
theorem MOk.keys {V : Int → Option Value} {es : Array MapEntry} (h : MOk V es) : ∀ x ∈ es.toList, MapKept.IsKey (.int .i32) x.key := fun x hx => by
  obtain ⟨z, hz, _⟩ := h x hx
  rw [hz]; rfl
set_option maxRecDepth 100000 in
theorem run_ins {V : Int → Option Value} {w : World} {r : Nat} {es : Array MapEntry} {clk : Nat} (hb : w.heap[r]? = some (.map es clk)) (h : MOk V es) {z : Int} {v : Value} (hv : V z = some v) :
    ∃ es' clk', (Instr.mapUpdate 103 (.map (some r)) (.int .i32 z) v).run Tryd.prog w = .ok () (setM w r (.map es' clk')) ∧ MOk V es' ∧ Has es' z ∧ ∀ y, Has es y → Has es' y := by
  have hu := Tryd.underlying21
  have hk : MapKept.IsKey (.int .i32) (.int .i32 z) := rfl
  rcases MapKept.findNow_spec hk es.toList 0 h.keys with ⟨h1, h2⟩ | ⟨j, e, h1, h2, h3⟩
  · refine ⟨es.push { key := .int .i32 z, val := v, born := clk }, clk + 1, ?_, ?_, ?_, ?_⟩
    · simp [Instr.mapUpdate, run_underlying underM, MapKept.run_getObj_map hb, MapKept.run_checkKey hu hk, MapKept.run_findKey hu h1, MapKept.run_setObj_map _ hb, Result.andThen]
      rfl
    · intro e he
      simp only [Array.toList_push, List.mem_append, List.mem_singleton] at he
      rcases he with he | rfl
      · exact h e he
      · exact ⟨z, rfl, hv⟩
    · exact ⟨_, by simp only [Array.toList_push, List.mem_append, List.mem_singleton]; exact .inr rfl, rfl⟩
    · rintro y ⟨e, he, hk⟩
      exact ⟨e, by simp only [Array.toList_push, List.mem_append]; exact .inl he, hk⟩
  · have hj : es[j]? = some e := by simpa using h2
    have hmem : ∀ (f : MapEntry → MapEntry) x, x ∈ (es.modify j f).toList → x ∈ es.toList ∨ x = f e := by
      intro f x hx
      obtain ⟨i, hi⟩ := List.mem_iff_getElem?.1 hx
      rw [Array.getElem?_toList, Array.getElem?_modify] at hi
      split at hi
      · rename_i hij
        subst hij
        rw [hj] at hi
        exact .inr (Option.some.inj hi).symm
      · exact .inl (List.mem_iff_getElem?.2 ⟨i, by rw [Array.getElem?_toList]; exact hi⟩)
    have hold : ∀ (f : MapEntry → MapEntry) x, x ∈ es.toList → x ∈ (es.modify j f).toList ∨ (x = e ∧ f e ∈ (es.modify j f).toList) := by
      intro f x hx
      obtain ⟨i, hi⟩ := List.mem_iff_getElem?.1 hx
      rw [Array.getElem?_toList] at hi
      by_cases hij : j = i
      · subst hij
        rw [hj] at hi
        refine .inr ⟨(Option.some.inj hi).symm, List.mem_iff_getElem?.2 ⟨j, ?_⟩⟩
        rw [Array.getElem?_toList, Array.getElem?_modify, if_pos rfl, hj]
        rfl
      · refine .inl (List.mem_iff_getElem?.2 ⟨i, ?_⟩)
        rw [Array.getElem?_toList, Array.getElem?_modify, if_neg hij]
        exact hi
    refine ⟨es.modify j fun e => { e with key := .int .i32 z, val := v }, clk, ?_, ?_, ?_, ?_⟩
    · simp [Instr.mapUpdate, run_underlying underM, MapKept.run_getObj_map hb, MapKept.run_checkKey hu hk, MapKept.run_findKey hu h1, hj, h3, MapKept.run_keyThatStays hk, MapKept.run_setObj_map _ hb, Result.andThen]
      rfl
    · intro x hx
      rcases hmem _ x hx with hx | rfl
      · exact h x hx
      · exact ⟨z, rfl, hv⟩
    · rcases hold (fun e => { e with key := .int .i32 z, val := v }) e (List.mem_iff_getElem?.2 ⟨j, h2⟩) with hh | ⟨_, hh⟩
      · exact ⟨e, hh, h3⟩
      · exact ⟨_, hh, rfl⟩
    · rintro y ⟨x, hx, hk2⟩
      rcases hold (fun e => { e with key := .int .i32 z, val := v }) x hx with hh | ⟨rfl, hh⟩
      · exact ⟨x, hh, hk2⟩
      · refine ⟨_, hh, ?_⟩
        rw [h3] at hk2
        exact hk2
set_option maxRecDepth 100000 in
theorem run_lk {V : Int → Option Value} {w : World} {r : Nat} {es : Array MapEntry} {clk : Nat} (hb : w.heap[r]? = some (.map es clk)) (h : MOk V es) {z : Int} {v : Value} (hv : V z = some v) (hz : Has es z) :
    (Instr.lookup 103 (.map (some r)) (.int .i32 z) false).run Tryd.prog w = .ok v w := by
  have hu := Tryd.underlying21
  have hk : MapKept.IsKey (.int .i32) (.int .i32 z) := rfl
  rcases MapKept.findNow_spec hk es.toList 0 h.keys with ⟨h1, h2⟩ | ⟨j, e, h1, h2, h3⟩
  · obtain ⟨e, he, hk⟩ := hz
    exact absurd hk (h2 e he)
  · obtain ⟨y, hy, hvy⟩ := h e (List.mem_iff_getElem?.2 ⟨j, h2⟩)
    rw [h3] at hy
    injection hy with _ hy
    rw [← hy, hv] at hvy
    have e2 : v = e.val := Option.some.inj hvy
    simp [Instr.lookup, run_underlying underM, MapKept.run_getObj_map hb, MapKept.run_checkKey hu hk, MapKept.run_findKey hu h1, Result.andThen, e2]
/-- the relation between the worlds of the region: what is older than b0 stays; new blocks other than maps stay; maps only gain keys, with the values of V -/
structure RlM (b0 : Nat) (V : Int → Option Value) (w w' : World) : Prop where
  low : Below b0 w w'
  cells : ∀ (i : Nat) c t fr, w.heap[i]? = some (.cells c t fr) → w'.heap[i]? = some (.cells c t fr)
  map : ∀ (i : Nat) es clk, w.heap[i]? = some (.map es clk) → MOk V es → ∃ es' clk', w'.heap[i]? = some (.map es' clk') ∧ MOk V es' ∧ ∀ z, Has es z → Has es' z
theorem RlM.trans {b0 : Nat} {V : Int → Option Value} {a b c : World} (h : RlM b0 V a b) (k : RlM b0 V b c) : RlM b0 V a c where
  low := h.low.trans k.low
  cells := fun i cs t fr e => k.cells i cs t fr (h.cells i cs t fr e)
  map := fun i es clk e ho => by
    obtain ⟨es1, c1, e1, o1, h1⟩ := h.map i es clk e ho
    obtain ⟨es2, c2, e2, o2, h2⟩ := k.map i es1 c1 e1 o1
    exact ⟨es2, c2, e2, o2, fun z hz => h2 z (h1 z hz)⟩
theorem RlM.of {b0 : Nat} {V : Int → Option Value} {w w' : World} (hb : b0 ≤ w.heap.size) (h : Below w.heap.size w w') : RlM b0 V w w' where
  low := h.mono hb
  cells := fun i cs t fr e => block_below h e (block_lt e)
  map := fun i es clk e ho => ⟨es, clk, block_below h e (block_lt e), ho, fun z hz => hz⟩
theorem below_setM {b0 : Nat} {w : World} {r : Nat} (hr : b0 ≤ r) (o : Obj) : Below b0 w (setM w r o) where
  os := rfl
  tape := rfl
  output := rfl
  size := by simp [setM]
  block := fun i hi => by
    show (w.heap.setIfInBounds r o)[i]? = w.heap[i]?
    rw [Array.getElem?_setIfInBounds, if_neg (by omega)]
theorem setM_at {w : World} {r : Nat} {o o' : Obj} (h : w.heap[r]? = some o) : (setM w r o').heap[r]? = some o' := (MapKept.heap_set h).1
theorem setM_other {w : World} {r i : Nat} {o' : Obj} (h : i ≠ r) : (setM w r o').heap[i]? = w.heap[i]? := by
  show (w.heap.setIfInBounds r o')[i]? = _
  rw [Array.getElem?_setIfInBounds, if_neg (fun e => h e.symm)]
theorem RlM.ins {b0 : Nat} {V : Int → Option Value} {w : World} {r : Nat} {es es' : Array MapEntry} {clk clk' : Nat} (hr : b0 ≤ r) (hb : w.heap[r]? = some (.map es clk)) (ho : MOk V es') (hh : ∀ y, Has es y → Has es' y) : RlM b0 V w (setM w r (.map es' clk')) where
  low := below_setM hr _
  cells := fun i cs t fr e => by
    rw [setM_other]
    · exact e
    · intro k
      subst k
      rw [hb] at e; cases e
  map := fun i es2 clk2 e ho2 => by
    by_cases k : i = r
    · subst k
      rw [hb] at e
      cases e
      exact ⟨es', clk', setM_at hb, ho, hh⟩
    · exact ⟨es2, clk2, by rw [setM_other k]; exact e, ho2, fun z hz => hz⟩
/-- the value is a map of the region's own, with these keys -/
def MapV (b0 : Nat) (V : Int → Option Value) (zs : List Int) (v : Value) (w : World) : Prop := ∃ r es clk, v = .map (some r) ∧ b0 ≤ r ∧ w.heap[r]? = some (.map es clk) ∧ MOk V es ∧ ∀ z ∈ zs, Has es z
theorem MapV.stab (b0 : Nat) (V : Int → Option Value) (zs : List Int) : ∀ v w w', MapV b0 V zs v w → RlM b0 V w w' → MapV b0 V zs v w' := by
  rintro v w w' ⟨r, es, clk, rfl, hr, h1, h2, h3⟩ hl
  obtain ⟨es', clk', e1, e2, e3⟩ := hl.map r es clk h1 h2
  exact ⟨r, es', clk', rfl, hr, e1, e2, fun z hz => e3 z (h3 z hz)⟩
theorem MapV.nil {b0 : Nat} {V : Int → Option Value} {w : World} (h : b0 ≤ w.heap.size) : MapV b0 V [] (.map (some w.heap.size)) (w.alloc (.map #[] 0)) :=
  ⟨_, _, _, rfl, h, block_new w _, MOk.nil V, fun z hz => by cases hz⟩
theorem MapV.app {b0 : Nat} {V : Int → Option Value} {zs ys : List Int} {v : Value} {w : World} (h : MapV b0 V zs v w) (k : MapV b0 V ys v w) : MapV b0 V (zs ++ ys) v w := by
  obtain ⟨r, es, clk, rfl, hr, h1, h2, h3⟩ := h
  obtain ⟨r', es', clk', e, _, k1, _, k3⟩ := k
  injection e with e
  injection e with e
  subst e
  rw [h1] at k1
  cases k1
  refine ⟨r, es, clk, rfl, hr, h1, h2, fun z hz => ?_⟩
  rcases List.mem_append.1 hz with hz | hz
  · exact h3 z hz
  · exact k3 z hz
/-- a new key put in -/
theorem MapV.put {b0 : Nat} {V : Int → Option Value} {u : Value} {w : World} (h : MapV b0 V [] u w) {z : Int} {v : Value} (hv : V z = some v) :
    ∃ w', (Instr.mapUpdate 103 u (.int .i32 z) v).run Tryd.prog w = .ok () w' ∧ RlM b0 V w w' ∧ MapV b0 V [z] u w' := by
  obtain ⟨r, es, clk, rfl, hr, h1, h2, h3⟩ := h
  obtain ⟨es', clk', e1, e2, e3, e4⟩ := run_ins h1 h2 hv
  exact ⟨_, e1, RlM.ins hr h1 e2 e4, r, es', clk', rfl, hr, setM_at h1, e2, fun y hy => by rcases List.mem_singleton.1 hy with rfl; exact e3⟩
theorem MapV.look {b0 : Nat} {V : Int → Option Value} {zs : List Int} {u : Value} {w : World} (h : MapV b0 V zs u w) {z : Int} {v : Value} (hv : V z = some v) (hz : z ∈ zs) :
    (Instr.lookup 103 u (.int .i32 z) false).run Tryd.prog w = .ok v w := by
  obtain ⟨r, es, clk, rfl, hr, h1, h2, h3⟩ := h
  exact run_lk h1 h2 hv (h3 z hz)
end Go.Proofs.YtdfkbahlngijcaaDoor

namespace Go.Proofs.YtdfkbahlngijcaaDoor
open Go.RowKit
set_option linter.unusedVariables false

set_option maxRecDepth 100000 in
set_option maxHeartbeats 2000000 in
theorem cutlite_any (s : ByteArray) (i : Nat) (w : World) (hi : i < s.size) (hix : Lib.indexByte s.data.toList 32 = (i : Int)) (hs : s.size ≤ 1000000) :
    Calls Tryd.prog 84 #[.string s, .string ⟨#[32]⟩] w fun e w' => e = .returned (.tuple #[.string (s.extract 0 i), .string (s.extract (i + 1) s.size), .bool true]) ∧ ∃ n, w' = w.drewN n := by
  have HI := Lib.hid (Tryd.stringslite_Index_one s 32 w)
  rw [hix] at HI
  clear hix
  have h0 : (0 : Int) ≤ (i : Int) := by omega
  have hle : (i : Int) ≤ (s.size : Int) := by omega
  have hle1 : (i : Int) + 1 ≤ (s.size : Int) := by omega
  have h1 : (0 : Int) ≤ (i : Int) + 1 := by omega
  go_enter Tryd.func84, Tryd.ntmps84
  go_wp2_with fail
  refine (HI.out).mono ?_; rintro e w2 ⟨rfl, rfl⟩
  go_wp2_with fail
  go_quiet (fail)
  go_wp2_with fail
  go_ret3
  exact ⟨rfl, _, rfl⟩
set_option maxRecDepth 100000 in
set_option maxHeartbeats 2000000 in
theorem cutstr_any (s : ByteArray) (i : Nat) (w : World) (hi : i < s.size) (hix : Lib.indexByte s.data.toList 32 = (i : Int)) (hs : s.size ≤ 1000000) :
    Calls Tryd.prog 53 #[.string s, .string ⟨#[32]⟩] w fun e w' => e = .returned (.tuple #[.string (s.extract 0 i), .string (s.extract (i + 1) s.size), .bool true]) ∧ ∃ n, w' = w.drewN n := by
  have HI := Lib.hid (cutlite_any s i w hi hix hs)
  clear hix hi
  go_enter Tryd.func53, Tryd.ntmps53
  go_wp2_with fail
  refine (HI.out).mono ?_; rintro e w2 ⟨rfl, n, hw⟩
  have HW := Lib.hid hw
  clear hw
  go_wp2_with fail
  go_ret3
  exact ⟨rfl, n, HW.out⟩
theorem wordsS_list (k : Nat) : (wordsS k).data.toList = wordsL k := by simp [wordsS]
theorem cutK_facts : ∀ k : Nat, k < 17 → 1 ≤ k → Lib.indexByte (wordsL k) 32 = ((nameL k).length : Int) ∧ (nameL k).length < (wordsL k).length ∧ (wordsL k).take (nameL k).length = nameL k ∧ (wordsL k).drop ((nameL k).length + 1) = letL k := by
  intro k h1 h2
  have h : k = 1 ∨ k = 2 ∨ k = 3 ∨ k = 4 ∨ k = 5 ∨ k = 6 ∨ k = 7 ∨ k = 8 ∨ k = 9 ∨ k = 10 ∨ k = 11 ∨ k = 12 ∨ k = 13 ∨ k = 14 ∨ k = 15 ∨ k = 16 := by omega
  rcases h with rfl | rfl | rfl | rfl | rfl | rfl | rfl | rfl | rfl | rfl | rfl | rfl | rfl | rfl | rfl | rfl <;> decide +kernel
theorem extract_list (s : ByteArray) (a b : Nat) : s.extract a b = ⟨((s.data.toList.take b).drop a).toArray⟩ := by
  apply ByteArray.ext
  rw [ByteArray.data_extract]
  apply Array.toList_inj.1
  rw [List.toList_toArray]
  rw [Array.toList_extract, List.extract_eq_take_drop, List.drop_take]
theorem cutK_any (k : Nat) (h1 : 1 ≤ k) (h2 : k ≤ 16) (w : World) :
    Calls Tryd.prog 53 #[.string (wordsS k), .string ⟨#[32]⟩] w fun e w' => e = .returned (.tuple #[.string ⟨(nameL k).toArray⟩, .string ⟨(letL k).toArray⟩, .bool true]) ∧ ∃ n, w' = w.drewN n := by
  obtain ⟨f1, f2, f3, f4⟩ := cutK_facts k (by omega) h1
  have hsz : (wordsS k).size = (wordsL k).length := by show (wordsL k).toArray.size = _; simp
  have := wordsL_len k
  have h := cutstr_any (wordsS k) (nameL k).length w (by rw [hsz]; exact f2) (by rw [wordsS_list]; exact f1) (by rw [hsz]; omega)
  rw [extract_list, extract_list, wordsS_list, hsz, List.take_length, f4, List.drop_zero, f3] at h
  exact h
end Go.Proofs.YtdfkbahlngijcaaDoor

namespace Go.Proofs.YtdfkbahlngijcaaDoor
open Go.RowKit
set_option linter.unusedVariables false

def vO (x : Ov) (z : Int) : Option Value := some (.string ⟨(letW x (UInt8.ofNat z.toNat)).toArray⟩)
theorem RlM.refl (b0 : Nat) (V : Int → Option Value) (w : World) : RlM b0 V w w := ⟨Below.refl _ _, fun _ _ _ _ h => h, fun _ es clk h ho => ⟨es, clk, h, ho, fun _ hz => hz⟩⟩
theorem itoa_num (v : Int) (h : numOK v) (u : World) (ht : Tab u) : Calls Tryd.prog 27 #[.int .i64 v] u fun e w' => e = .returned (.string ⟨(numL v).toArray⟩) ∧ Below u.heap.size u w' := by
  obtain ⟨n, rfl⟩ : ∃ n : Nat, v = n := ⟨v.toNat, by have := h.1; omega⟩
  have e : numL (n : Int) = Lib.decDigits n := by unfold numL; rw [if_pos h]; rfl
  rw [e]
  exact itoa_nat n (by have := h.2; omega) u ht
theorem letL_six : ∀ k : Nat, k < 17 → ∀ c ∈ letL k, c.toNat < 128 ∧ ((c.toNat : Int) ∈ ([115, 97, 110, 105, 103, 116] : List Int)) := by decide +kernel
structure OpS (x : Ov) (w0 : World) (B pos : Nat) (v : Value) (ws : List (List UInt8)) (w : World) : Prop where
  box : w.heap[w0.heap.size]? = some (.cells (oC x) 51 (0, 0))
  it : w.heap[B + 1]? = some (.stringIter ⟨(letL x.k.toNat).toArray⟩ pos)
  own : w.ownsRow B 9 1 v ws.length (flatR fS ws)
  low : Below w0.heap.size w0 w
  base : w0.heap.size + 1 ≤ B
theorem OpS.later {x : Ov} {w0 : World} {B pos : Nat} {v : Value} {ws : List (List UInt8)} {w w' : World} (h : OpS x w0 B pos v ws w) (hb : Below w.heap.size w w') : OpS x w0 B pos v ws w' :=
  ⟨block_below hb h.box (block_lt h.box), block_below hb h.it (block_lt h.it), own_below h.own hb, h.low.trans (hb.mono h.low.size), h.base⟩
theorem OpS.next {x : Ov} {w0 : World} {B pos : Nat} {v : Value} {ws : List (List UInt8)} {w : World} (h : OpS x w0 B pos v ws w) (pos' : Nat) : OpS x w0 B pos' v ws (w.iterAt (B + 1) ⟨(letL x.k.toNat).toArray⟩ pos') := by
  have hb := h.base
  have ho : ∀ (b : Nat) cs T fr, w.heap[b]? = some (.cells cs T fr) → (w.iterAt (B + 1) ⟨(letL x.k.toNat).toArray⟩ pos').heap[b]? = some (.cells cs T fr) := fun b cs T fr e => by
    rw [Lib.iterAt_other w (B + 1) b _ pos' (fun k => by rw [k, h.it] at e; cases e)]; exact e
  refine ⟨ho _ _ _ _ h.box, Lib.iterAt_heap w (B + 1) _ pos pos' h.it, ?_, Lib.below_iterAt h.low (by omega) _ _, hb⟩
  obtain ⟨h0, hk | ⟨g, cap', cur, h1, hg, h2, h3⟩⟩ := h.own
  · exact ⟨h0, .inl hk⟩
  · exact ⟨h0, .inr ⟨g, cap', cur, h1, hg, ho _ _ _ _ h2, h3⟩⟩
theorem keep_iter {w w1 w' : World} {B k n i : Nat} {t : TypeId} {v : Value} {xs : List Value} {s : ByteArray} {p : Nat} (h : w.ownsRow B t k v n xs) (hg : w.grownBy w' v.ownBlock) (e : w.heap[i]? = some (.stringIter s p)) : w'.heap[i]? = some (.stringIter s p) := by
  rw [hg.block i (block_lt e) (fun e' => by
    obtain ⟨-, c1, h1⟩ := own_typ1 h e'.symm
    rw [e] at h1; cases h1)]
  exact e
theorem OpS.grown {x : Ov} {w0 : World} {B pos : Nat} {v v' : Value} {ws : List (List UInt8)} {s : List UInt8} {w w' : World} (h : OpS x w0 B pos v ws w) (hg : w.grownBy w' v.ownBlock) (ho : w'.ownsRow B 9 1 v' (ws.length + 1) (flatR fS ws ++ [.string ⟨s.toArray⟩])) : OpS x w0 B pos v' (ws ++ [s]) w' := by
  have hB : B ≤ w.heap.size := by have := block_lt h.it; omega
  have hbl : Below B w w' := (Below.refl B w).grown hg hB fun q hq => (own_typ1 h.own hq).1
  refine ⟨keep_append h.own h.box (by decide) hg h.box, keep_iter (w1 := w) h.own hg h.it, ?_, h.low.trans (hbl.mono (by have := h.base; omega)), h.base⟩
  rw [flatS_app, flatS_one, List.length_append]
  exact ho
theorem OpS.start (x : Ov) (w0 w3 : World) (nm : List UInt8) (hbox : w3.heap[w0.heap.size]? = some (.cells (oC x) 51 (0, 0))) (hlow : Below w0.heap.size w0 w3) :
    OpS x w0 w3.heap.size 0 (.slice (some ⟨w3.heap.size, 0, none⟩) 1 1) [nm] ((w3.alloc (.cells #[.string ⟨nm.toArray⟩] 9)).iter ⟨(letL x.k.toNat).toArray⟩ 0) := by
  have h1 := block_new w3 (.cells #[.string ⟨nm.toArray⟩] 9)
  have hb : Below w3.heap.size w3 ((w3.alloc (.cells #[.string ⟨nm.toArray⟩] 9)).iter ⟨(letL x.k.toNat).toArray⟩ 0) := ((Below.refl _ _).alloc (Nat.le_refl _) _).alloc (by simp) _
  refine ⟨block_below hb hbox (block_lt hbox), ?_, ?_, hlow.trans (hb.mono hlow.size), block_lt hbox⟩
  · have := World.iter_heap (w3.alloc (.cells #[.string ⟨nm.toArray⟩] 9)) ⟨(letL x.k.toNat).toArray⟩ 0
    simpa using this
  · have h2 := block_alloc h1 (.stringIter ⟨(letL x.k.toNat).toArray⟩ 0)
    exact ⟨rfl, .inr ⟨w3.heap.size, 1, _, rfl, Nat.le_refl _, h2, by simp, by decide, by show (1 : Nat) = _; rfl, rfl⟩⟩
theorem joinW_opW (x : Ov) (h : plainO x = true) : (joinW (opW x)).length ≤ 100000 ∧ (opW x).length ≤ 4 := by
  obtain ⟨k1, k2⟩ := plain_kind h
  have h4 : (opW x).length ≤ 4 := by
    unfold opW
    have := letL_len x.k.toNat
    simp; omega
  have ht := plain_text h
  have hq := quote_len x.t
  have hk : ∀ w ∈ opW x, w.length ≤ 600 := by
    intro w hw
    unfold opW at hw
    rcases List.mem_cons.1 hw with rfl | hw
    · have h1 := wordsL_len x.k.toNat
      have h2 : (nameL x.k.toNat).length ≤ (wordsL x.k.toNat).length := (List.takeWhile_sublist _).length_le
      omega
    · obtain ⟨d, _, rfl⟩ := List.mem_map.1 hw
      unfold letW
      have hn := fun v => numL_len v
      split
      · have := hn x.slot; omega
      split
      · have := hn x.at_; omega
      split
      · have := hn x.n; omega
      split
      · have := hn x.id; omega
      split
      · have := hn x.g; omega
      omega
  have hj := joinW_most (opW x) 600 hk
  have := Nat.mul_le_mul_right (600 + 1) h4
  exact ⟨by omega, h4⟩

/-- a slice of one new string -/
def NewS (s : List UInt8) (v : Value) (w : World) : Prop := ∃ g, v = .slice (some ⟨g, 0, none⟩) 1 1 ∧ w.heap[g]? = some (.cells #[.string ⟨s.toArray⟩] 9 (0, 0))
theorem NewS.stab (s : List UInt8) (b0 : Nat) (V : Int → Option Value) : ∀ v w w', NewS s v w → RlM b0 V w w' → NewS s v w' := by
  rintro v w w' ⟨g, rfl, h⟩ hl
  exact ⟨g, rfl, hl.cells _ _ _ _ h⟩

set_option maxRecDepth 100000 in
set_option maxHeartbeats 8000000 in
theorem opT_plain (x : Ov) (w : World) (kn : Nat) (hk : x.k = kn) (ho : OvOk x) (ht : x.t.size ≤ 140737488355328) (hp : plainO x = true) (htab : Tab w) :
    Calls Tryd.prog 21 #[.agg #[.int .u8 x.k, .int .i64 x.slot, .int .i64 x.at_, .int .i64 x.n, .int .u32 x.id, .int .u8 x.g, .string x.t]] w fun e w' => e = .returned (.tuple #[.string ⟨(opL x).toArray⟩, .int .i64 0]) ∧ Below w.heap.size w w' := by
  obtain ⟨i0, hi0, hz0, hz1, hz2⟩ := info_parts infoStr
  have HB0 := Lib.hid ((Below.refl w.heap.size w).alloc (Nat.le_refl _) (.cells (oC x) 51))
  have HNB := Lib.hid (block_new w (.cells (oC x) 51))
  have HP := Lib.hid (plainT_any x (w.alloc (.cells (oC x) 51)) ht)
  have HT := Lib.hid htab
  rw [hp] at HP
  unfold oC at HB0 HP
  obtain ⟨k1, k2⟩ := plain_kind hp
  have HW := Lib.hid (fun u => words_any kn (by omega) (by omega) u)
  have HC := Lib.hid (cut_words kn (by omega) (by omega))
  have HNM := Lib.hid ((plain_nums hp).big ho)
  have HTX := Lib.hid (plain_text hp)
  have HJW := Lib.hid (joinW_opW x hp)
  have HK := Lib.hid (show x.k.toNat = kn by omega)
  have HSIX := Lib.hid (letL_six kn (by omega))
  have HOW := Lib.hid (show opW x = nameL kn :: (letL kn).map (letW x) by unfold opW; rw [HK.out])
  have hwid : IntKind.i64.wrap x.id = x.id := by rw [IntKind.wrap_i64]; have := ho.id; omega
  have hwg : IntKind.i64.wrap x.g = x.g := by rw [IntKind.wrap_i64]; have := ho.g; omega
  have HWI := Lib.hid hwid
  have HWG := Lib.hid hwg
  clear ho hwid hwg htab
  rw [hk] at HB0 HP ⊢
  go_enter Tryd.func21, Tryd.ntmps21
  have HNB2 := Lib.hid (show (w.alloc (.cells #[.int .u8 kn, .int .i64 x.slot, .int .i64 x.at_, .int .i64 x.n, .int .u32 x.id, .int .u8 x.g, .string x.t] 51)).heap[w.heap.size]? = some (.cells (oC x) 51 (0, 0)) by
    have := HNB.out
    unfold oC at this ⊢
    rw [← hk]; exact this)
  go_wp2_with fail
  refine (HP.out).mono ?_; rintro e w2 ⟨rfl, hb2⟩
  have HO2 := Lib.hid (block_below hb2 HNB2.out (by simp))
  have HB2 := Lib.hid (HB0.out.trans (hb2.mono HB0.out.size))
  have e0 := block_cell HO2.out 0
  simp [oC] at e0
  rw [hk] at e0
  clear hb2
  go_wp2_with fail
  refine (HW.out w2).mono ?_; rintro e w3 ⟨rfl, rfl⟩
  have HCUT := Lib.hid (cutK_any kn (by omega) (by omega) w2)
  go_wp2_with fail
  refine (HCUT.out).mono ?_; rintro e w3 ⟨rfl, n3, hw3⟩
  have HB3 := Lib.hid (show Below w.heap.size w w3 by rw [hw3]; exact below_drewN HB2.out n3)
  have HO3 := Lib.hid (show w3.heap[w.heap.size]? = some (.cells (oC x) 51 (0, 0)) by rw [hw3]; exact HO2.out)
  clear hw3 e0
  go_wp2_with fail
  have HST := Lib.hid (OpS.start x w w3 (nameL kn) HO3.out HB3.out)
  rw [HK.out] at HST
  generalize hBB : w3.heap.size = B at *
  generalize hnm : nameL kn = nm at *
  generalize hlt : letL kn = lt at *
  have HLT := Lib.hid hlt
  clear hlt hBB hnm
  generalize World.iter _ _ _ = w4 at *
  go_loopw [7] (fun s wr => ∃ (pos : Nat), pos ≤ lt.length ∧ OpS x w B pos s (nm :: (lt.take pos).map (letW x)) wr) (fun s wr => lt.length - wr.iterPos (B + 1))
  case atStart => exact ⟨0, Nat.zero_le _, by simpa using HST.out⟩
  case round =>
    obtain ⟨pos, hpos, hS⟩ := hrel
    clear HST
    have hit : wr.heap[B + 1]? = some (.stringIter ⟨lt.toArray⟩ pos) := by have := hS.it; rw [HK.out, HLT.out] at this; exact this
    have hmu : wr.iterPos (B + 1) = pos := by simp [World.iterPos, hit]
    by_cases hlt : pos < lt.length
    · have hp2 : pos < (⟨lt.toArray⟩ : ByteArray).size := by show pos < lt.toArray.size; simpa using hlt
      obtain ⟨c, hc⟩ : ∃ c, c = lt[pos]'hlt := ⟨_, rfl⟩
      have hsix := HSIX.out c (by rw [hc]; exact List.getElem_mem _)
      have hcs : (⟨lt.toArray⟩ : ByteArray)[pos]'hp2 = c := by rw [hc]; rfl
      have hnext : ∀ ty, (Instr.next (.pointer (some ⟨B + 1, 0, none⟩)) true ty).run Tryd.prog wr = _ := fun ty => Lib.run_next_ascii_at wr (B + 1) ⟨lt.toArray⟩ pos ty hit hp2 (by rw [hcs]; exact hsix.1)
      rw [hcs] at hnext
      have hS1 := hS.next (pos + 1)
      rw [HK.out, HLT.out] at hS1
      have HSIX2 := Lib.hid hsix.2
      have HCC := Lib.hid hc
      have HV := Lib.hid (show vO x (c.toNat : Int) = some (.string ⟨(letW x c).toArray⟩) by unfold vO; simp)
      clear hsix hcs hS hit hp2 hc
      generalize wr.iterAt (B + 1) ⟨lt.toArray⟩ (pos + 1) = W1 at hnext hS1
      have HS1 := Lib.hid hS1
      have HLEN := Lib.hid (show (nm :: (lt.take pos).map (letW x)).length ≤ 5 by
        have := HJW.out.2
        rw [HOW.out] at this
        simp at this ⊢
        omega)
      have HTK := Lib.hid (show nm :: (lt.take (pos + 1)).map (letW x) = (nm :: (lt.take pos).map (letW x)) ++ [letW x c] by rw [List.take_succ_eq_append_getElem hlt, List.map_append, HCC.out]; rfl)
      have hlt2 : ¬ lt.length ≤ pos := by omega
      generalize nm :: (lt.take pos).map (letW x) = ws at *
      have hcl : ∀ (u : World), Below W1.heap.size W1 u → OpS x w B (pos + 1) u7 ws u := fun u hu => HS1.out.later hu
      have HCL := Lib.hid hcl
      have hW1 : W1.heap.size = W1.heap.size := rfl
      clear hcl hS1 hW1
      go_upto_region 8 with (go_wp2)
      refine wp_region_rel (RlM W1.heap.size (vO x)) 32 1 (RlM.of (Nat.le_refl _) (Below.refl _ _).drew) (fun _ _ _ h k => h.trans k) (by kernel_rfl) (by decide) (by decide) (by kernel_rfl) (by kernel_rfl) ?_
      simp only [List.take_succ_cons, List.take_zero, List.drop_succ_cons, List.drop_zero, fill, Act.put, List.setIfInBounds_toArray, List.set_cons_zero, List.set_cons_succ, Nat.zero_add, Nat.reduceAdd]
      apply OpsOKM.eq
      · intro vs u hb hd
        clear hd
        go_wp2_with fail
        exact ⟨rfl, _, rfl, RlM.refl _ _ _, rfl⟩
      refine OpsOKM.step (fun v w => MapV W1.heap.size (vO x) [] v w) (MapV.stab _ _ _) ?_ ?_
      · intro vs u hb hd
        clear hd
        have hmk := run_makeMap (P := Tryd.prog) 103 u
        go_wp2_with fail
        exact ⟨rfl, _, rfl, RlM.of hb.low.size ((Below.refl _ _).alloc (Nat.le_refl _) _), MapV.nil hb.low.size⟩
      apply OpsOKM.eq
      · intro vs u hb hd
        clear hd
        go_wp2_with fail
        exact ⟨rfl, _, rfl, RlM.refl _ _ _, rfl⟩
      apply OpsOKM.eq
      · intro vs u hb hd
        have e2 := hd ⟨2, .data⟩ (by simp) (by decide)
        simp at e2
        clear hd
        simp only [e2]
        have hlow := hb.low
        have q := block_cell (HCL.out u hlow).box 1
        simp [oC] at q
        go_wp2_with fail
        exact ⟨rfl, _, rfl, RlM.refl _ _ _, rfl⟩
      apply OpsOKM.eq
      · intro vs u hb hd
        have e3 := hd ⟨3, .data⟩ (by simp) (by decide)
        simp at e3
        clear hd
        simp only [e3]
        go_wp2_with fail
        refine (itoa_num x.slot HNM.out.slot u (HT.out.below ((HS1.out.later hb.low).low))).mono ?_
        rintro e w5 ⟨rfl, hb5⟩
        go_wp2_with fail
        exact ⟨rfl, _, rfl, RlM.of hb.low.size hb5, rfl⟩
      refine OpsOKM.lead (fun v w => MapV W1.heap.size (vO x) [115] v w) (MapV.stab _ _ _) (by kernel_rfl) (by decide) ?_ ?_
      · intro vs u hb hd
        have hm1 := hd ⟨1, .data⟩ (by simp) (by decide)
        have e4 := hd ⟨4, .data⟩ (by simp) (by decide)
        simp at e4
        clear hd
        simp only [e4]
        obtain ⟨W, hW, hrl, hmv⟩ := MapV.put hm1 (show vO x 115 = some (.string ⟨(numL x.slot).toArray⟩) from rfl)
        go_wp2_with fail
        exact ⟨rfl, undef, rfl, hrl, hmv⟩
      apply OpsOKM.eq
      · intro vs u hb hd
        clear hd
        go_wp2_with fail
        exact ⟨rfl, _, rfl, RlM.refl _ _ _, rfl⟩
      apply OpsOKM.eq
      · intro vs u hb hd
        have e6 := hd ⟨6, .data⟩ (by simp) (by decide)
        simp at e6
        clear hd
        simp only [e6]
        have hlow := hb.low
        have q := block_cell (HCL.out u hlow).box 2
        simp [oC] at q
        go_wp2_with fail
        exact ⟨rfl, _, rfl, RlM.refl _ _ _, rfl⟩
      apply OpsOKM.eq
      · intro vs u hb hd
        have e7 := hd ⟨7, .data⟩ (by simp) (by decide)
        simp at e7
        have e4 := hd ⟨4, .chain⟩ (by simp) (by decide)
        simp at e4
        clear hd
        simp only [e7, e4]
        go_wp2_with fail
        refine (itoa_num x.at_ HNM.out.at_ u (HT.out.below ((HS1.out.later hb.low).low))).mono ?_
        rintro e w5 ⟨rfl, hb5⟩
        go_wp2_with fail
        exact ⟨rfl, _, rfl, RlM.of hb.low.size hb5, rfl⟩
      refine OpsOKM.lead (fun v w => MapV W1.heap.size (vO x) [97] v w) (MapV.stab _ _ _) (by kernel_rfl) (by decide) ?_ ?_
      · intro vs u hb hd
        have hm1 := hd ⟨1, .data⟩ (by simp) (by decide)
        have e8 := hd ⟨8, .data⟩ (by simp) (by decide)
        simp at e8
        clear hd
        simp only [e8]
        obtain ⟨W, hW, hrl, hmv⟩ := MapV.put hm1 (show vO x 97 = some (.string ⟨(numL x.at_).toArray⟩) from rfl)
        go_wp2_with fail
        exact ⟨rfl, undef, rfl, hrl, hmv⟩
      apply OpsOKM.eq
      · intro vs u hb hd
        clear hd
        go_wp2_with fail
        exact ⟨rfl, _, rfl, RlM.refl _ _ _, rfl⟩
      apply OpsOKM.eq
      · intro vs u hb hd
        have e10 := hd ⟨10, .data⟩ (by simp) (by decide)
        simp at e10
        clear hd
        simp only [e10]
        have hlow := hb.low
        have q := block_cell (HCL.out u hlow).box 3
        simp [oC] at q
        go_wp2_with fail
        exact ⟨rfl, _, rfl, RlM.refl _ _ _, rfl⟩
      apply OpsOKM.eq
      · intro vs u hb hd
        have e11 := hd ⟨11, .data⟩ (by simp) (by decide)
        simp at e11
        have e8 := hd ⟨8, .chain⟩ (by simp) (by decide)
        simp at e8
        clear hd
        simp only [e11, e8]
        go_wp2_with fail
        refine (itoa_num x.n HNM.out.n u (HT.out.below ((HS1.out.later hb.low).low))).mono ?_
        rintro e w5 ⟨rfl, hb5⟩
        go_wp2_with fail
        exact ⟨rfl, _, rfl, RlM.of hb.low.size hb5, rfl⟩
      refine OpsOKM.lead (fun v w => MapV W1.heap.size (vO x) [110] v w) (MapV.stab _ _ _) (by kernel_rfl) (by decide) ?_ ?_
      · intro vs u hb hd
        have hm1 := hd ⟨1, .data⟩ (by simp) (by decide)
        have e12 := hd ⟨12, .data⟩ (by simp) (by decide)
        simp at e12
        clear hd
        simp only [e12]
        obtain ⟨W, hW, hrl, hmv⟩ := MapV.put hm1 (show vO x 110 = some (.string ⟨(numL x.n).toArray⟩) from rfl)
        go_wp2_with fail
        exact ⟨rfl, undef, rfl, hrl, hmv⟩
      apply OpsOKM.eq
      · intro vs u hb hd
        clear hd
        go_wp2_with fail
        exact ⟨rfl, _, rfl, RlM.refl _ _ _, rfl⟩
      apply OpsOKM.eq
      · intro vs u hb hd
        have e14 := hd ⟨14, .data⟩ (by simp) (by decide)
        simp at e14
        clear hd
        simp only [e14]
        have hlow := hb.low
        have q := block_cell (HCL.out u hlow).box 4
        simp [oC] at q
        go_wp2_with fail
        exact ⟨rfl, _, rfl, RlM.refl _ _ _, rfl⟩
      apply OpsOKM.eq
      · intro vs u hb hd
        have e15 := hd ⟨15, .data⟩ (by simp) (by decide)
        simp at e15
        clear hd
        simp only [e15]
        have hwid := HWI.out
        go_wp2_with fail
        exact ⟨rfl, _, rfl, RlM.refl _ _ _, rfl⟩
      apply OpsOKM.eq
      · intro vs u hb hd
        have e16 := hd ⟨16, .data⟩ (by simp) (by decide)
        simp at e16
        have e12 := hd ⟨12, .chain⟩ (by simp) (by decide)
        simp at e12
        clear hd
        simp only [e16, e12]
        go_wp2_with fail
        refine (itoa_num x.id HNM.out.id u (HT.out.below ((HS1.out.later hb.low).low))).mono ?_
        rintro e w5 ⟨rfl, hb5⟩
        go_wp2_with fail
        exact ⟨rfl, _, rfl, RlM.of hb.low.size hb5, rfl⟩
      refine OpsOKM.lead (fun v w => MapV W1.heap.size (vO x) [105] v w) (MapV.stab _ _ _) (by kernel_rfl) (by decide) ?_ ?_
      · intro vs u hb hd
        have hm1 := hd ⟨1, .data⟩ (by simp) (by decide)
        have e17 := hd ⟨17, .data⟩ (by simp) (by decide)
        simp at e17
        clear hd
        simp only [e17]
        obtain ⟨W, hW, hrl, hmv⟩ := MapV.put hm1 (show vO x 105 = some (.string ⟨(numL x.id).toArray⟩) from rfl)
        go_wp2_with fail
        exact ⟨rfl, undef, rfl, hrl, hmv⟩
      apply OpsOKM.eq
      · intro vs u hb hd
        clear hd
        go_wp2_with fail
        exact ⟨rfl, _, rfl, RlM.refl _ _ _, rfl⟩
      apply OpsOKM.eq
      · intro vs u hb hd
        have e19 := hd ⟨19, .data⟩ (by simp) (by decide)
        simp at e19
        clear hd
        simp only [e19]
        have hlow := hb.low
        have q := block_cell (HCL.out u hlow).box 5
        simp [oC] at q
        go_wp2_with fail
        exact ⟨rfl, _, rfl, RlM.refl _ _ _, rfl⟩
      apply OpsOKM.eq
      · intro vs u hb hd
        have e20 := hd ⟨20, .data⟩ (by simp) (by decide)
        simp at e20
        clear hd
        simp only [e20]
        have hwg := HWG.out
        go_wp2_with fail
        exact ⟨rfl, _, rfl, RlM.refl _ _ _, rfl⟩
      apply OpsOKM.eq
      · intro vs u hb hd
        have e21 := hd ⟨21, .data⟩ (by simp) (by decide)
        simp at e21
        have e17 := hd ⟨17, .chain⟩ (by simp) (by decide)
        simp at e17
        clear hd
        simp only [e21, e17]
        go_wp2_with fail
        refine (itoa_num x.g HNM.out.g u (HT.out.below ((HS1.out.later hb.low).low))).mono ?_
        rintro e w5 ⟨rfl, hb5⟩
        go_wp2_with fail
        exact ⟨rfl, _, rfl, RlM.of hb.low.size hb5, rfl⟩
      refine OpsOKM.lead (fun v w => MapV W1.heap.size (vO x) [103] v w) (MapV.stab _ _ _) (by kernel_rfl) (by decide) ?_ ?_
      · intro vs u hb hd
        have hm1 := hd ⟨1, .data⟩ (by simp) (by decide)
        have e22 := hd ⟨22, .data⟩ (by simp) (by decide)
        simp at e22
        clear hd
        simp only [e22]
        obtain ⟨W, hW, hrl, hmv⟩ := MapV.put hm1 (show vO x 103 = some (.string ⟨(numL x.g).toArray⟩) from rfl)
        go_wp2_with fail
        exact ⟨rfl, undef, rfl, hrl, hmv⟩
      apply OpsOKM.eq
      · intro vs u hb hd
        clear hd
        go_wp2_with fail
        exact ⟨rfl, _, rfl, RlM.refl _ _ _, rfl⟩
      apply OpsOKM.eq
      · intro vs u hb hd
        have e24 := hd ⟨24, .data⟩ (by simp) (by decide)
        simp at e24
        clear hd
        simp only [e24]
        have hlow := hb.low
        have q := block_cell (HCL.out u hlow).box 6
        simp [oC] at q
        go_wp2_with fail
        exact ⟨rfl, _, rfl, RlM.refl _ _ _, rfl⟩
      apply OpsOKM.eq
      · intro vs u hb hd
        have e25 := hd ⟨25, .data⟩ (by simp) (by decide)
        simp at e25
        have e22 := hd ⟨22, .chain⟩ (by simp) (by decide)
        simp at e22
        clear hd
        simp only [e25, e22]
        go_wp2_with fail
        refine (quote_any x.t u (by have := HTX.out; omega)).mono ?_
        rintro e w5 ⟨rfl, hb5⟩
        go_wp2_with fail
        exact ⟨rfl, _, rfl, RlM.of hb.low.size hb5, rfl⟩
      refine OpsOKM.lead (fun v w => MapV W1.heap.size (vO x) [116] v w) (MapV.stab _ _ _) (by kernel_rfl) (by decide) ?_ ?_
      · intro vs u hb hd
        have hm1 := hd ⟨1, .data⟩ (by simp) (by decide)
        have e26 := hd ⟨26, .data⟩ (by simp) (by decide)
        simp at e26
        clear hd
        simp only [e26]
        obtain ⟨W, hW, hrl, hmv⟩ := MapV.put hm1 (show vO x 116 = some (.string ⟨(quoteL x.t).toArray⟩) from rfl)
        go_wp2_with fail
        exact ⟨rfl, undef, rfl, hrl, hmv⟩
      refine OpsOKM.step (fun v w => MapV W1.heap.size (vO x) [115, 97, 110, 105, 103, 116] v w) (MapV.stab _ _ _) ?_ ?_
      · intro vs u hb hd
        have hm1 := hd ⟨1, .data⟩ (by simp) (by decide)
        have hm5 := hd ⟨5, .data⟩ (by simp) (by decide)
        have hm9 := hd ⟨9, .data⟩ (by simp) (by decide)
        have hm13 := hd ⟨13, .data⟩ (by simp) (by decide)
        have hm18 := hd ⟨18, .data⟩ (by simp) (by decide)
        have hm23 := hd ⟨23, .data⟩ (by simp) (by decide)
        have hm27 := hd ⟨27, .data⟩ (by simp) (by decide)
        clear hd
        go_wp2_with fail
        exact ⟨rfl, _, rfl, RlM.refl _ _ _, ((((hm5.app hm9).app hm13).app hm18).app hm23).app hm27⟩
      apply OpsOKM.eq
      · intro vs u hb hd
        clear hd
        go_wp2_with fail
        exact ⟨rfl, _, rfl, RlM.refl _ _ _, rfl⟩
      apply OpsOKM.eq
      · intro vs u hb hd
        have hm28 := hd ⟨28, .data⟩ (by simp) (by decide)
        have e29 := hd ⟨29, .data⟩ (by simp) (by decide)
        simp at e29
        clear hd
        simp only [e29]
        have hlk := MapV.look hm28 HV.out HSIX2.out
        go_wp2_with fail
        exact ⟨rfl, _, rfl, RlM.refl _ _ _, rfl⟩
      refine OpsOKM.step (fun v w => NewS (letW x c) v w) (NewS.stab _ _ _) ?_ ?_
      · intro vs u hb hd
        have e30 := hd ⟨30, .data⟩ (by simp) (by decide)
        simp at e30
        clear hd
        simp only [e30]
        go_wp2_with fail
        exact ⟨rfl, _, rfl, RlM.of hb.low.size ((Below.refl _ _).alloc (Nat.le_refl _) _), _, rfl, block_new _ _⟩
      refine OpsOKM.done ?_
      intro vs u hbu hS
      have hm31 := hS 31 (by decide)
      have h0 := hS 0 (by decide)
      simp at h0 hm31
      obtain ⟨g, hg, hgc⟩ := hm31
      simp only [h0, hg]
      clear hS h0 hg
      have HS2 := Lib.hid (HCL.out u hbu.low)
      have HGC := Lib.hid hgc
      have hB : B ≤ u.heap.size := by have := block_lt HS2.out.it; omega
      have hle := HLEN.out
      clear hbu hgc
      go_wp2_with (at_builtin; refine wpList_append_lies _ rfl _ _ 59 rfl B 9 i0 _ 1 16 Tryd.underlying59 hi0 hz0 hz1 hz2 rfl (by decide) _ ws.length _ rfl HS2.out.own ⟨g, 0, none⟩ 1 1 [.string ⟨(letW x c).toArray⟩] rfl rfl (World.news_of_block (cs := #[_]) (t := 9) (fr := (0, 0)) HGC.out) (by simp [Value.oneCell']) (by omega) (by unfold maxLen; omega) (by omega) hB u.heap.size rfl ?c1)
      case c1 =>
        intro gg cap w8 hown8 hgrow8 hat8 hlt8
        have HS9 := Lib.hid (HS2.out.grown hgrow8 hown8)
        clear hown8 hgrow8 hat8 hlt8
        go_wp2_with fail
        go_roundw
        case rel => exact ⟨pos + 1, by omega, by rw [HTK.out]; exact HS9.out⟩
        case measure =>
          have h9 := HS9.out.it
          have hmu2 : w8.iterPos (B + 1) = pos + 1 := by simp [World.iterPos, h9]
          rw [hmu, hmu2]
          omega
    · obtain rfl : pos = lt.length := by omega
      have hnext : ∀ ty, (Instr.next (.pointer (some ⟨B + 1, 0, none⟩)) true ty).run Tryd.prog wr = _ := fun ty => Lib.run_next_end_at wr (B + 1) ⟨lt.toArray⟩ lt.length ty hit (by show ¬ _ < lt.toArray.size; simp)
      have HOE := Lib.hid (show opW x = nm :: (lt.take lt.length).map (letW x) by rw [HOW.out, List.take_length])
      have HS1 := Lib.hid hS
      have HJ := Lib.hid (join_row hS.own (by simp) (by
        have := HJW.out.2; rw [HOE.out] at this; omega) (by have := HJW.out.1; rw [HOE.out] at this; omega))
      clear hS hit
      go_wp2_with fail
      refine (HJ.out).mono ?_; rintro e w8 ⟨rfl, hb8⟩
      have HB8 := Lib.hid (below_two HS1.out.low hb8)
      clear hb8
      go_wp2_with fail
      go_ret2
      exact ⟨by rw [show opL x = joinW (opW x) from rfl, HOW.out] <;> rfl, HB8.out⟩
set_option maxRecDepth 100000 in
set_option maxHeartbeats 4000000 in
theorem opT_any (x : Ov) (w : World) (ho : OvOk x) (ht : x.t.size ≤ 140737488355328) (htab : Tab w) :
    Calls Tryd.prog 21 #[.agg #[.int .u8 x.k, .int .i64 x.slot, .int .i64 x.at_, .int .i64 x.n, .int .u32 x.id, .int .u8 x.g, .string x.t]] w fun e w' => e = .returned (.tuple #[.string ⟨(opR x).1.toArray⟩, .int .i64 (opR x).2]) ∧ Below w.heap.size w w' := by
  by_cases hp : plainO x = true
  · have e : opR x = (opL x, 0) := if_pos hp
    rw [e]
    exact opT_plain x w x.k.toNat (by have := ho.k; omega) ho ht hp htab
  · have HE := Lib.hid (show opR x = ([], 2) from if_neg hp)
    have HB0 := Lib.hid ((Below.refl w.heap.size w).alloc (Nat.le_refl _) (.cells (oC x) 51))
    have HP := Lib.hid (plainT_any x (w.alloc (.cells (oC x) 51)) ht)
    rw [Bool.eq_false_iff.2 hp] at HP
    unfold oC at HB0 HP
    clear ho htab
    go_enter Tryd.func21, Tryd.ntmps21
    go_wp2_with fail
    refine (HP.out).mono ?_; rintro e w2 ⟨rfl, hb2⟩
    have HB2 := Lib.hid (HB0.out.trans (hb2.mono HB0.out.size))
    clear hb2
    go_wp2_with fail
    go_ret2
    exact ⟨by rw [HE.out] <;> rfl, HB2.out⟩
end Go.Proofs.YtdfkbahlngijcaaDoor

