/- Diff: the program's Lines: plain law of its loop: the cost so far and what is left make the least cost. Diff: the program's Lines: plain law of its pieces: what a put adds. Diff: the program's Lines: plain law: what its loop keeps of the pieces. Diff: what pieces make of a text: plain laws. Diff: what pieces make of a text does not change under the normal form. -/
import Derived.Test.YtfbjbgknfdekfaaDoorEl
import Derived.Test.YtfbjbgknfdekfaaDoorEf
namespace Go.Proofs.YtfbjbgknfdekfaaDoor
set_option linter.unusedVariables false

/-- at (i, k) the cost so far is c, and c and the least cost of the rest make the least cost of the whole -/
def LInv (xs ys : List Ln) (i k c : Nat) : Prop :=
  i ≤ xs.length ∧ k ≤ ys.length ∧ c + tot (xs.drop i) + tot (ys.drop k) + 2 * bst xs ys = tot xs + tot ys + 2 * bst (xs.drop i) (ys.drop k)
theorem linv_start (xs ys : List Ln) : LInv xs ys 0 0 0 := ⟨Nat.zero_le _, Nat.zero_le _, by rw [List.drop_zero, List.drop_zero]; omega⟩
theorem tot_next {xs : List Ln} {i : Nat} (h : i < xs.length) : tot (xs.drop i) = xs[i].length + tot (xs.drop (i + 1)) := by
  rw [List.drop_eq_getElem_cons h, tot_cons]
theorem linv_keep {xs ys : List Ln} {i k c : Nat} (h : LInv xs ys i k c) (hi : i < xs.length) (hk : k < ys.length) (he : xs[i] = ys[k])
    (hb : bst (xs.drop i) (ys.drop k) = bst (xs.drop (i + 1)) (ys.drop (k + 1)) + xs[i].length) : LInv xs ys (i + 1) (k + 1) c := by
  obtain ⟨_, _, h⟩ := h
  have e1 := tot_next hi
  have e2 := tot_next hk
  rw [← he] at e2
  exact ⟨hi, hk, by omega⟩
theorem linv_ins {xs ys : List Ln} {i k c : Nat} (h : LInv xs ys i k c) (hk : k < ys.length)
    (hb : i = xs.length ∨ bst (xs.drop i) (ys.drop k) = bst (xs.drop i) (ys.drop (k + 1))) : LInv xs ys i (k + 1) (c + ys[k].length) := by
  obtain ⟨h1, _, h⟩ := h
  have e2 := tot_next hk
  have hb' : bst (xs.drop i) (ys.drop k) = bst (xs.drop i) (ys.drop (k + 1)) := by
    rcases hb with hb | hb
    · rw [hb, List.drop_length, bst_nil, bst_nil]
    · exact hb
  rw [hb', e2] at h
  exact ⟨h1, hk, by omega⟩
theorem linv_del {xs ys : List Ln} {i k c : Nat} (h : LInv xs ys i k c) (hi : i < xs.length)
    (hn : ∀ hk : k < ys.length, ¬ (xs[i] = ys[k] ∧ bst (xs.drop i) (ys.drop k) = bst (xs.drop (i + 1)) (ys.drop (k + 1)) + xs[i].length))
    (hm : ∀ hk : k < ys.length, bst (xs.drop i) (ys.drop k) ≠ bst (xs.drop i) (ys.drop (k + 1))) : LInv xs ys (i + 1) k (c + xs[i].length) := by
  obtain ⟨_, h2, h⟩ := h
  have e1 := tot_next hi
  have hb : bst (xs.drop i) (ys.drop k) = bst (xs.drop (i + 1)) (ys.drop k) := by
    rcases Nat.lt_or_ge k ys.length with hk | hk
    · have a := hn hk
      have b := hm hk
      have d1 := List.drop_eq_getElem_cons hi
      have d2 := List.drop_eq_getElem_cons hk
      have e : bst (xs.drop i) (ys.drop k) = if xs[i] = ys[k] then max (max (bst (xs.drop (i + 1)) (ys.drop k)) (bst (xs.drop i) (ys.drop (k + 1)))) (bst (xs.drop (i + 1)) (ys.drop (k + 1)) + xs[i].length) else max (bst (xs.drop (i + 1)) (ys.drop k)) (bst (xs.drop i) (ys.drop (k + 1))) := by
        rw [d1, d2, bst_cons]
      by_cases he : xs[i] = ys[k]
      · rw [if_pos he] at e
        have a2 : bst (xs.drop i) (ys.drop k) ≠ bst (xs.drop (i + 1)) (ys.drop (k + 1)) + xs[i].length := fun q => a ⟨he, q⟩
        omega
      · rw [if_neg he] at e
        omega
    · rw [List.drop_eq_nil_of_le hk, bst_nil', bst_nil']
  rw [hb, e1] at h
  exact ⟨hi, h2, by omega⟩
theorem linv_end {xs ys : List Ln} {c : Nat} (h : LInv xs ys xs.length ys.length c) : c + 2 * bst xs ys = tot xs + tot ys := by
  obtain ⟨_, _, h⟩ := h
  rw [List.drop_length, List.drop_length, bst_nil] at h
  simp [tot] at h ⊢
  omega
end Go.Proofs.YtfbjbgknfdekfaaDoor

namespace Go.Proofs.YtfbjbgknfdekfaaDoor
set_option linter.unusedVariables false

theorem putL_one {p : Pc} (ds : List Pc) (h : okP p = true) : putL ds p = ds ++ [p] := by
  unfold putL
  refine if_neg fun e => ?_
  rcases okP_cases h with ⟨_, h2, _⟩ | ⟨_, h2, _⟩ | ⟨_, _, h3⟩
  · omega
  · omega
  · exact h3 e.2
theorem allOk_put {p : Pc} {ds : List Pc} (hd : AllOk ds) (h : okP p = true) : AllOk (putL ds p) := by
  rw [putL_one ds h]
  intro q hq
  rcases List.mem_append.1 hq with hq | hq
  · exact hd q hq
  · rw [List.mem_singleton.1 hq]; exact h
theorem costL_put {p : Pc} (ds : List Pc) (h : okP p = true) : costL (putL ds p) = costL ds + cstP p := by
  rw [putL_one ds h]
  unfold costL
  rw [List.map_append, List.sum_append]
  simp
/-- the three pieces that Lines puts for a line -/
def keepP (r : Ln) : Pc := ⟨1, (r.length : Nat), ⟨#[]⟩⟩
def insP (r : Ln) : Pc := ⟨2, 0, ⟨r.toArray⟩⟩
def delP (r : Ln) : Pc := ⟨3, (r.length : Nat), ⟨#[]⟩⟩
theorem len_pos {r : Ln} (h : r ≠ []) : 0 < r.length := List.length_pos_iff.2 h
theorem keepP_ok {r : Ln} (h : r ≠ []) : okP (keepP r) = true := by
  have := len_pos h
  have h1 : (1 : Int) ≤ ((r.length : Nat) : Int) := by omega
  unfold okP keepP
  rw [decide_eq_true h1]
  rfl
theorem delP_ok {r : Ln} (h : r ≠ []) : okP (delP r) = true := by
  have := len_pos h
  have h1 : (1 : Int) ≤ ((r.length : Nat) : Int) := by omega
  unfold okP delP
  rw [decide_eq_true h1]
  rfl
theorem insP_ok {r : Ln} (h : r ≠ []) : okP (insP r) = true := by
  have hs : (⟨r.toArray⟩ : ByteArray).size = r.length := by show r.toArray.size = _; exact List.size_toArray ..
  have := len_pos h
  unfold okP insP
  rw [hs]
  simp
  exact h
theorem keepP_cost (r : Ln) : cstP (keepP r) = 0 := rfl
theorem delP_cost (r : Ln) : cstP (delP r) = r.length := by
  show (r.length : Int).toNat + 0 = _
  omega
theorem insP_cost (r : Ln) : cstP (insP r) = r.length := by
  show (0 : Int).toNat + r.toArray.size = _
  rw [List.size_toArray]; omega
theorem sIP_put {p : Pc} (ds : List Pc) (h : okP p = true) : sIP (putL ds p) = sIP ds + sIP [p] := by rw [putL_one ds h, sIP_append]
theorem sOP_put {p : Pc} (ds : List Pc) (h : okP p = true) : sOP (putL ds p) = sOP ds + sOP [p] := by rw [putL_one ds h, sOP_append]
end Go.Proofs.YtfbjbgknfdekfaaDoor

namespace Go.Proofs.YtfbjbgknfdekfaaDoor
set_option linter.unusedVariables false

/-- at (i, k) the pieces ds: each is whole, they read the first i lines and write the first k, and cost as LInv says -/
def ScrI (xs ys : List Ln) (i k : Nat) (ds : List Pc) : Prop :=
  AllOk ds ∧ ds.length ≤ i + k ∧ LInv xs ys i k (costL ds) ∧ sIP ds = tot (xs.take i) ∧ sOP ds = tot (ys.take k)
theorem scr_start (xs ys : List Ln) : ScrI xs ys 0 0 [] :=
  ⟨fun p hp => absurd hp List.not_mem_nil, Nat.le_refl _, linv_start xs ys, rfl, rfl⟩
theorem tot_take {xs : List Ln} {i : Nat} (h : i < xs.length) : tot (xs.take (i + 1)) = tot (xs.take i) + xs[i].length := by
  rw [List.take_succ_eq_append_getElem h, tot_app]
  simp [tot]
theorem sIP_keep (r : Ln) : sIP [keepP r] = r.length := by
  show (r.length : Int).toNat + 0 = _
  omega
theorem sOP_keep (r : Ln) : sOP [keepP r] = r.length := by
  show (r.length : Int).toNat + 0 = _
  omega
theorem sIP_del (r : Ln) : sIP [delP r] = r.length := by
  show (r.length : Int).toNat + 0 = _
  omega
theorem sOP_del (r : Ln) : sOP [delP r] = 0 := rfl
theorem sIP_ins (r : Ln) : sIP [insP r] = 0 := rfl
theorem sOP_ins (r : Ln) : sOP [insP r] = r.length := by
  show r.toArray.toList.length + 0 = _
  simp
theorem scr_keep {xs ys : List Ln} {i k : Nat} {ds : List Pc} (h : ScrI xs ys i k ds) (hi : i < xs.length) (hk : k < ys.length) (hne : xs[i] ≠ []) (he : xs[i] = ys[k])
    (hb : bst (xs.drop i) (ys.drop k) = bst (xs.drop (i + 1)) (ys.drop (k + 1)) + xs[i].length) : ScrI xs ys (i + 1) (k + 1) (putL ds (keepP xs[i])) := by
  obtain ⟨h1, h2, h3, h4, h5⟩ := h
  have hok := keepP_ok hne
  refine ⟨allOk_put h1 hok, ?_, ?_, ?_, ?_⟩
  · have := putL_len ds (keepP xs[i]); omega
  · rw [costL_put ds hok, keepP_cost]; exact linv_keep h3 hi hk he hb
  · rw [sIP_put ds hok, sIP_keep, tot_take hi, h4]
  · rw [sOP_put ds hok, sOP_keep, tot_take hk, h5, he]
theorem scr_ins {xs ys : List Ln} {i k : Nat} {ds : List Pc} (h : ScrI xs ys i k ds) (hk : k < ys.length) (hne : ys[k] ≠ [])
    (hb : i = xs.length ∨ bst (xs.drop i) (ys.drop k) = bst (xs.drop i) (ys.drop (k + 1))) : ScrI xs ys i (k + 1) (putL ds (insP ys[k])) := by
  obtain ⟨h1, h2, h3, h4, h5⟩ := h
  have hok := insP_ok hne
  refine ⟨allOk_put h1 hok, ?_, ?_, ?_, ?_⟩
  · have := putL_len ds (insP ys[k]); omega
  · rw [costL_put ds hok, insP_cost]; exact linv_ins h3 hk hb
  · rw [sIP_put ds hok, sIP_ins, h4, Nat.add_zero]
  · rw [sOP_put ds hok, sOP_ins, tot_take hk, h5]
theorem scr_del {xs ys : List Ln} {i k : Nat} {ds : List Pc} (h : ScrI xs ys i k ds) (hi : i < xs.length) (hne : xs[i] ≠ [])
    (hn : ∀ hk : k < ys.length, ¬ (xs[i] = ys[k] ∧ bst (xs.drop i) (ys.drop k) = bst (xs.drop (i + 1)) (ys.drop (k + 1)) + xs[i].length))
    (hm : ∀ hk : k < ys.length, bst (xs.drop i) (ys.drop k) ≠ bst (xs.drop i) (ys.drop (k + 1))) : ScrI xs ys (i + 1) k (putL ds (delP xs[i])) := by
  obtain ⟨h1, h2, h3, h4, h5⟩ := h
  have hok := delP_ok hne
  refine ⟨allOk_put h1 hok, ?_, ?_, ?_, ?_⟩
  · have := putL_len ds (delP xs[i]); omega
  · rw [costL_put ds hok, delP_cost]; exact linv_del h3 hi hn hm
  · rw [sIP_put ds hok, sIP_del, tot_take hi, h4]
  · rw [sOP_put ds hok, sOP_del, h5, Nat.add_zero]
theorem scr_end {xs ys : List Ln} {ds : List Pc} (h : ScrI xs ys xs.length ys.length ds) : AllOk ds ∧ costL ds = lst xs ys ∧ sIP ds = tot xs ∧ sOP ds = tot ys := by
  obtain ⟨h1, h2, h3, h4, h5⟩ := h
  rw [List.take_length] at h4 h5
  have := linv_end h3
  exact ⟨h1, by unfold lst; omega, h4, h5⟩
end Go.Proofs.YtfbjbgknfdekfaaDoor

namespace Go.Proofs.YtfbjbgknfdekfaaDoor
set_option linter.unusedVariables false

def appD : List UInt8 → List Dp → List UInt8
  | _, [] => []
  | s, .ret n :: l => s.take n ++ appD (s.drop n) l
  | s, .del n :: l => appD (s.drop n) l
  | s, .ins t :: l => t ++ appD s l
theorem appD_app : ∀ (u v : List Dp) (s : List UInt8), appD s (u ++ v) = appD s u ++ appD (s.drop (Dp.sI u)) v
  | [], v, s => rfl
  | .ret n :: u, v, s => by
    show s.take n ++ appD (s.drop n) (u ++ v) = (s.take n ++ appD (s.drop n) u) ++ appD (s.drop (n + Dp.sI u)) v
    rw [appD_app u v, List.append_assoc, List.drop_drop]
  | .del n :: u, v, s => by
    show appD (s.drop n) (u ++ v) = appD (s.drop n) u ++ appD (s.drop (n + Dp.sI u)) v
    rw [appD_app u v, List.drop_drop]
  | .ins t :: u, v, s => by
    show t ++ appD s (u ++ v) = (t ++ appD s u) ++ appD (s.drop (0 + Dp.sI u)) v
    rw [appD_app u v, List.append_assoc, Nat.zero_add]
def appP (s : List UInt8) (l : List Pc) : List UInt8 := appD s (l.map ofP)
theorem appP_app (u v : List Pc) (s : List UInt8) : appP s (u ++ v) = appP s u ++ appP (s.drop (sIP u)) v := by
  unfold appP
  rw [List.map_append, appD_app]
  rfl
theorem flat_drop (xs : List Ln) (i : Nat) : xs.flatten.drop (tot (xs.take i)) = (xs.drop i).flatten := by
  have e : xs.flatten = (xs.take i).flatten ++ (xs.drop i).flatten := by rw [← List.flatten_append, List.take_append_drop]
  rw [e, tot_flat, List.drop_left]
theorem flat_take {ys : List Ln} {k : Nat} (hk : k < ys.length) : (ys.take (k + 1)).flatten = (ys.take k).flatten ++ ys[k] := by
  rw [List.take_succ_eq_append_getElem hk, List.flatten_append]
  simp
theorem app_keep {xs ys : List Ln} {i k : Nat} {ds : List Pc} (h : appP xs.flatten ds = (ys.take k).flatten) (hI : sIP ds = tot (xs.take i)) (hi : i < xs.length) (hk : k < ys.length) (hne : xs[i] ≠ []) (he : xs[i] = ys[k]) :
    appP xs.flatten (putL ds (keepP xs[i])) = (ys.take (k + 1)).flatten := by
  rw [putL_one ds (keepP_ok hne), appP_app, h, hI, flat_drop, List.drop_eq_getElem_cons hi, flat_take hk, ← he]
  congr 1
  show (xs[i] ++ (xs.drop (i + 1)).flatten).take xs[i].length ++ [] = xs[i]
  rw [List.append_nil, List.take_left]
theorem app_del {xs ys : List Ln} {i k : Nat} {ds : List Pc} (h : appP xs.flatten ds = (ys.take k).flatten) (hi : i < xs.length) (hne : xs[i] ≠ []) :
    appP xs.flatten (putL ds (delP xs[i])) = (ys.take k).flatten := by
  rw [putL_one ds (delP_ok hne), appP_app, h]
  exact List.append_nil _
theorem app_ins {xs ys : List Ln} {i k : Nat} {ds : List Pc} (h : appP xs.flatten ds = (ys.take k).flatten) (hk : k < ys.length) (hne : ys[k] ≠ []) :
    appP xs.flatten (putL ds (insP ys[k])) = (ys.take (k + 1)).flatten := by
  rw [putL_one ds (insP_ok hne), appP_app, h, flat_take hk]
  congr 1
  show ys[k].toArray.toList ++ [] = ys[k]
  simp
end Go.Proofs.YtfbjbgknfdekfaaDoor

namespace Go.Proofs.YtfbjbgknfdekfaaDoor
set_option linter.unusedVariables false

theorem take_add' (s : List UInt8) (n m : Nat) : s.take (n + m) = s.take n ++ (s.drop n).take m := List.take_add
theorem appD_cons (s : List UInt8) (p : Dp) (l : List Dp) : appD s (Dp.cons p l) = appD s (p :: l) := by
  unfold Dp.cons
  split
  · simp only [appD]
    rw [take_add', List.drop_drop, List.append_assoc]
  · simp only [appD]
    rw [List.append_assoc]
  · simp only [appD]
    rw [List.drop_drop]
  · simp only [appD]
    rw [List.drop_drop]
  · simp only [appD]
  · rfl
theorem appD_form : ∀ (l : List Dp) (s : List UInt8), appD s (Dp.form l) = appD s l
  | [], s => rfl
  | p :: l, s => by
    show appD s (Dp.cons p (Dp.form l)) = _
    rw [appD_cons]
    cases p with
    | ret n => show s.take n ++ appD (s.drop n) (Dp.form l) = s.take n ++ appD (s.drop n) l; rw [appD_form l]
    | ins t => show t ++ appD s (Dp.form l) = t ++ appD s l; rw [appD_form l]
    | del n => show appD (s.drop n) (Dp.form l) = appD (s.drop n) l; rw [appD_form l]
theorem appP_form (s : List UInt8) (l : List Pc) : appP s (formP l) = appP s l := by
  unfold appP
  rw [map_formP, appD_form]
end Go.Proofs.YtfbjbgknfdekfaaDoor

