/- The arena: what look-up, store, delete and len do to its map. -/
import Derived.Test.YtfgkbnnojogjpaaQa
namespace Go.Proofs.Ytfgkbnnojogjpaa
open Go.RowKit

def zN : Value := .agg #[.int .i64 0, .string ⟨#[]⟩, .slice none 0 0]
theorem underM : Try.prog.underlying 86 = some (.map 31 36) := Try.underlying86
theorem underH : Try.prog.underlying 31 = some (.int .u64) := Try.underlying31

theorem ents_key {w : World} {es : List MapEntry} {it : List (Int × Nd)} (h : Ents w es it) {i : Nat} {e : MapEntry} (he : es[i]? = some e) : ∃ hi : i < it.length, e.key = .int .u64 it[i].1 ∧ OwnN 0 w e.val it[i].2 := by
  have hi : i < it.length := by rw [← h.1]; exact (List.getElem?_eq_some_iff.1 he).1
  exact ⟨hi, h.2 i hi e he⟩
theorem find_no {w : World} {es : List MapEntry} {it : List (Int × Nd)} (h : Ents w es it) {k : Int} (hk : k ∉ it.map (·.1)) : Instr.findNow (.int .u64) (.int .u64 k) es 0 = some none := by
  rcases MapKept.findNow_spec (keyU k) es 0 h.keys with ⟨h1, _⟩ | ⟨j, e, _, h2, h3⟩
  · exact h1
  · obtain ⟨hi, h4, _⟩ := ents_key h h2
    rw [h4] at h3
    injection h3 with _ h3
    exact absurd (List.mem_map.2 ⟨_, List.getElem_mem hi, h3⟩) hk
theorem find_yes {w : World} {es : List MapEntry} {it : List (Int × Nd)} (h : Ents w es it) {k : Int} (hk : k ∈ it.map (·.1)) :
    ∃ (j : Nat) (e : MapEntry) (hi : j < it.length), Instr.findNow (.int .u64) (.int .u64 k) es 0 = some (some (j, e.val)) ∧ es[j]? = some e ∧ it[j].1 = k ∧ OwnN 0 w e.val it[j].2 := by
  rcases MapKept.findNow_spec (keyU k) es 0 h.keys with ⟨_, h2⟩ | ⟨j, e, h1, h2, h3⟩
  · exfalso
    obtain ⟨p, hp, e⟩ := List.mem_map.1 hk
    obtain ⟨i, hi, rfl⟩ := List.getElem_of_mem hp
    have hi' : i < es.length := by rw [h.1]; exact hi
    have := h.2 i hi es[i] (List.getElem?_eq_getElem hi')
    exact h2 _ (List.getElem_mem hi') (by rw [this.1, e])
  · obtain ⟨hi, h4, h5⟩ := ents_key h h2
    rw [h4] at h3
    injection h3 with _ h3
    rw [Nat.zero_add] at h1
    exact ⟨j, e, hi, h1, h2, h3, h5⟩

theorem look_no {w : World} {es : Array MapEntry} {clock r : Nat} {it : List (Int × Nd)} (h : Ents w es.toList it) {k : Int} (hk : k ∉ it.map (·.1)) (w' : World) (hb : w'.heap[r]? = some (.map es clock)) :
    (Instr.lookup 86 (.map (some r)) (.int .u64 k) true).run Try.prog w' = .ok (.tuple #[zN, .bool false]) w' := by
  have h1 := find_no h hk
  simp [Instr.lookup, run_underlying underM, MapKept.run_getObj_map hb, MapKept.run_checkKey underH (keyU k), MapKept.run_findKey underH h1, Result.andThen, zN]
theorem look_yes {w : World} {es : Array MapEntry} {clock r : Nat} {it : List (Int × Nd)} (h : Ents w es.toList it) {k : Int} (hk : k ∈ it.map (·.1)) :
    ∃ v nd, (k, nd) ∈ it ∧ OwnN 0 w v nd ∧ ∀ w', w'.heap[r]? = some (.map es clock) → (Instr.lookup 86 (.map (some r)) (.int .u64 k) true).run Try.prog w' = .ok (.tuple #[v, .bool true]) w' := by
  obtain ⟨j, e, hi, h1, h2, h3, h4⟩ := find_yes h hk
  refine ⟨e.val, it[j].2, ?_, h4, fun w' hb => ?_⟩
  · rw [← h3]; exact List.getElem_mem hi
  · simp [Instr.lookup, run_underlying underM, MapKept.run_getObj_map hb, MapKept.run_checkKey underH (keyU k), MapKept.run_findKey underH h1, Result.andThen]
theorem upd_new {w : World} {es : Array MapEntry} {clock r : Nat} {it : List (Int × Nd)} (h : Ents w es.toList it) {k : Int} (hk : k ∉ it.map (·.1)) (v : Value) (w' : World) (hb : w'.heap[r]? = some (.map es clock)) :
    (Instr.mapUpdate 86 (.map (some r)) (.int .u64 k) v).run Try.prog w' = .ok () (setB w' r (.map (es.push { key := .int .u64 k, val := v, born := clock }) (clock + 1))) := by
  have h1 := find_no h hk
  simp [Instr.mapUpdate, run_underlying underM, MapKept.run_getObj_map hb, MapKept.run_checkKey underH (keyU k), MapKept.run_findKey underH h1, MapKept.run_setObj_map _ hb, Result.andThen, setB]
theorem ents_push {w : World} {es : Array MapEntry} {clock : Nat} {it : List (Int × Nd)} (h : Ents w es.toList it) {k : Int} {v : Value} {nd : Nd} (hv : OwnN 0 w v nd) : Ents w (es.push { key := .int .u64 k, val := v, born := clock }).toList (it ++ [(k, nd)]) := by
  refine ⟨by rw [Array.toList_push, List.length_append, List.length_append, h.1]; rfl, fun i hi e he => ?_⟩
  rw [Array.toList_push] at he
  by_cases c : i < it.length
  · rw [List.getElem?_append_left (by rw [h.1]; exact c)] at he
    rw [List.getElem_append_left c]
    exact h.2 i c e he
  · simp at hi
    have e2 : i = it.length := by omega
    subst e2
    rw [List.getElem?_append_right (by rw [h.1]; exact Nat.le_refl _), h.1, Nat.sub_self] at he
    simp at he
    subst he
    simp
    exact hv
/-- an entry is struck -/
def delI (it : List (Int × Nd)) (k : Int) : List (Int × Nd) := it.eraseP fun p => p.1 == k
theorem erase_first : ∀ (it : List (Int × Nd)) (j : Nat) (hj : j < it.length), (it.map (·.1)).Nodup → it.eraseIdx j = delI it it[j].1
  | p :: it, 0, _, _ => by simp [delI]
  | p :: it, j + 1, hj, hn => by
    have hn' := List.nodup_cons.1 (show (p.1 :: it.map (·.1)).Nodup from hn)
    have hj' : j < it.length := by simpa using hj
    have hne : ¬ (p.1 == it[j].1) = true := by
      intro e
      have e' : p.1 = it[j].1 := by simpa using e
      exact hn'.1 (by rw [e']; exact List.mem_map.2 ⟨_, List.getElem_mem hj', rfl⟩)
    have ih := erase_first it j hj' hn'.2
    unfold delI at ih ⊢
    rw [List.eraseIdx_cons_succ, ih, List.getElem_cons_succ]
    exact (List.eraseP_cons_of_neg (p := fun q : Int × Nd => q.1 == it[j].1) hne).symm
theorem del_yes {w : World} {es : Array MapEntry} {clock r : Nat} {it : List (Int × Nd)} (h : Ents w es.toList it) (hn : (it.map (·.1)).Nodup) {k : Int} (hk : k ∈ it.map (·.1)) :
    ∃ es' : Array MapEntry, (∀ u : World, Ents u es.toList it → Ents u es'.toList (delI it k)) ∧ ∀ ty w', w'.heap[r]? = some (.map es clock) →
      (Builtin.delete_ #[86, 31] ty #[.map (some r), .int .u64 k]).run Try.prog w' = .ok (.tuple #[]) (setB w' r (.map es' clock)) := by
  obtain ⟨j, e, hi, h1, h2, h3, h4⟩ := find_yes h hk
  have hj : j < es.size := by have := (List.getElem?_eq_some_iff.1 h2).1; simpa using this
  refine ⟨es.eraseIdxIfInBounds j, fun u hu => ?_, fun ty w' hb => ?_⟩
  · have e1 : (es.eraseIdxIfInBounds j).toList = es.toList.eraseIdx j := by
      unfold Array.eraseIdxIfInBounds
      rw [dif_pos hj, Array.toList_eraseIdx]
    rw [e1, ← h3, ← erase_first it j hi hn]
    refine ⟨by rw [List.length_eraseIdx_of_lt (by simpa using hj), List.length_eraseIdx_of_lt hi, hu.1], fun i hi2 e' he => ?_⟩
    rw [List.getElem?_eraseIdx] at he
    rw [List.getElem_eraseIdx]
    by_cases c : i < j
    · rw [if_pos c] at he
      rw [dif_pos c]
      exact hu.2 i (by omega) e' he
    · rw [if_neg c] at he
      rw [dif_neg c]
      rw [List.length_eraseIdx_of_lt hi] at hi2
      exact hu.2 (i + 1) (by omega) e' he
  · simp [Builtin.delete_, run_underlying underM, MapKept.run_getObj_map hb, MapKept.run_checkKey underH (keyU k), MapKept.run_findKey underH h1, MapKept.run_setObj_map _ hb, Result.andThen, setB]
theorem len_map {es : Array MapEntry} {clock r : Nat} (ty : TypeId) (w' : World) (hb : w'.heap[r]? = some (.map es clock)) :
    (Builtin.len_ #[86] ty #[.map (some r)]).run Try.prog w' = .ok (.int .i64 es.size) w' := by
  simp [Builtin.len_, run_underlying underM, MapKept.run_getObj_map hb, Result.andThen, goInt]
end Go.Proofs.Ytfgkbnnojogjpaa
