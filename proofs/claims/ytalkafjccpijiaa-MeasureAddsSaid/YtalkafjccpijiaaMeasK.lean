/- The walk of the law MeasureSums. -/
import Derived.Test.YtalkafjccpijiaaOpenM
import Derived.Test.YtalkafjccpijiaaReg
import Derived.Laws.AppendOwnNone
namespace Go.Proofs.Ytalkafjccpijiaa
open Go.RowKit

set_option maxRecDepth 100000 in
set_option maxHeartbeats 400000 in
theorem refSub_err (a b c x y z : Int) (w : World) (h : a < x ∨ b < y ∨ c < z) :
    Calls Try.prog 25 #[.agg #[.int .i64 a, .int .i64 b, .int .i64 c], .agg #[.int .i64 x, .int .i64 y, .int .i64 z]] w fun e w' => e = .returned (.tuple #[.agg #[.int .i64 0, .int .i64 0, .int .i64 0], .int .i64 3]) ∧ Below w.heap.size w w' := by
  by_cases h1 : a < x
  · clear h
    go_enter Try.func25, Try.ntmps25
    go_wp2
    exact bodyPost_ret (v := .tuple #[.agg #[.int .i64 0, .int .i64 0, .int .i64 0], .int .i64 3]) (by simp [results, Try.results25, go_sem]) rfl ⟨rfl, by go_grown⟩
  · by_cases h2 : b < y
    · clear h
      go_enter Try.func25, Try.ntmps25
      go_wp2
      exact bodyPost_ret (v := .tuple #[.agg #[.int .i64 0, .int .i64 0, .int .i64 0], .int .i64 3]) (by simp [results, Try.results25, go_sem]) rfl ⟨rfl, by go_grown⟩
    · have h3 : c < z := by omega
      clear h
      go_enter Try.func25, Try.ntmps25
      go_wp2
      exact bodyPost_ret (v := .tuple #[.agg #[.int .i64 0, .int .i64 0, .int .i64 0], .int .i64 3]) (by simp [results, Try.results25, go_sem]) rfl ⟨rfl, by go_grown⟩

set_option maxRecDepth 100000 in
set_option maxHeartbeats 400000 in
theorem refSub_ok (a b c x y z : Int) (w : World) (h1 : ¬ a < x) (h2 : ¬ b < y) (h3 : ¬ c < z) :
    Calls Try.prog 25 #[.agg #[.int .i64 a, .int .i64 b, .int .i64 c], .agg #[.int .i64 x, .int .i64 y, .int .i64 z]] w fun e w' => e = .returned (.tuple #[.agg #[.int .i64 (wrap64 (a - x)), .int .i64 (wrap64 (b - y)), .int .i64 (wrap64 (c - z))], .int .i64 0]) ∧ Below w.heap.size w w' := by
  go_enter Try.func25, Try.ntmps25
  go_wp2
  exact bodyPost_ret (v := .tuple #[.agg #[.int .i64 (wrap64 (a - x)), .int .i64 (wrap64 (b - y)), .int .i64 (wrap64 (c - z))], .int .i64 0]) (by simp [results, Try.results25, go_sem]) rfl ⟨rfl, by go_grown⟩

/-- what both Subs return -/
def subR (x y : Trip) : Trip × Int := if x.1 < y.1 ∨ x.2.1 < y.2.1 ∨ x.2.2 < y.2.2 then ((0, 0, 0), 3) else ((wrap64 (x.1 - y.1), wrap64 (x.2.1 - y.2.1), wrap64 (x.2.2 - y.2.2)), 0)

theorem sub_any (x y : Trip) (w : World) :
    Calls Try.prog 24 #[aggM x, aggM y] w fun e w' => e = .returned (.tuple #[aggM (subR x y).1, .int .i64 (subR x y).2]) ∧ Below w.heap.size w w' := by
  by_cases h : x.1 < y.1 ∨ x.2.1 < y.2.1 ∨ x.2.2 < y.2.2
  · have e : subR x y = ((0, 0, 0), 3) := by unfold subR; rw [if_pos h]
    rw [e]; exact sub_err _ _ _ _ _ _ w h
  · have e : subR x y = ((wrap64 (x.1 - y.1), wrap64 (x.2.1 - y.2.1), wrap64 (x.2.2 - y.2.2)), 0) := by unfold subR; rw [if_neg h]
    rw [e]; exact sub_ok _ _ _ _ _ _ w (by omega) (by omega) (by omega)
theorem refSub_any (x y : Trip) (w : World) :
    Calls Try.prog 25 #[aggM x, aggM y] w fun e w' => e = .returned (.tuple #[aggM (subR x y).1, .int .i64 (subR x y).2]) ∧ Below w.heap.size w w' := by
  by_cases h : x.1 < y.1 ∨ x.2.1 < y.2.1 ∨ x.2.2 < y.2.2
  · have e : subR x y = ((0, 0, 0), 3) := by unfold subR; rw [if_pos h]
    rw [e]; exact refSub_err _ _ _ _ _ _ w h
  · have e : subR x y = ((wrap64 (x.1 - y.1), wrap64 (x.2.1 - y.2.1), wrap64 (x.2.2 - y.2.2)), 0) := by unfold subR; rw [if_neg h]
    rw [e]; exact refSub_ok _ _ _ _ _ _ w (by omega) (by omega) (by omega)

/-- the cells of measures in a row -/
def compM (l : List Trip) (j : Nat) : Value := if j % 3 = 0 then .int .i64 (l.getD (j / 3) (0, 0, 0)).1 else if j % 3 = 1 then .int .i64 (l.getD (j / 3) (0, 0, 0)).2.1 else .int .i64 (l.getD (j / 3) (0, 0, 0)).2.2
def flatM (l : List Trip) : List Value := (List.range (l.length * 3)).map (compM l)
theorem flatM_len (l : List Trip) : (flatM l).length = l.length * 3 := by simp [flatM]
theorem flatM_get (l : List Trip) (j : Nat) (u : Value) (h : (flatM l)[j]? = some u) : j < l.length * 3 ∧ u = compM l j := by
  unfold flatM at h
  rw [List.getElem?_map] at h
  by_cases hj : j < l.length * 3
  · rw [List.getElem?_range hj] at h
    simp at h
    exact ⟨hj, h.symm⟩
  · rw [List.getElem?_eq_none (by simp; omega)] at h
    simp at h
theorem flatM_at (l : List Trip) (k : Nat) (h : k < l.length) : (flatM l)[k * 3]? = some (.int .i64 l[k].1) ∧ (flatM l)[k * 3 + 1]? = some (.int .i64 l[k].2.1) ∧ (flatM l)[k * 3 + 2]? = some (.int .i64 l[k].2.2) := by
  unfold flatM
  have e : l.getD k (0, 0, 0) = l[k] := by simp [h]
  refine ⟨?_, ?_, ?_⟩
  · rw [List.getElem?_map, List.getElem?_range (by omega)]
    simp only [Option.map_some, compM, show k * 3 % 3 = 0 from by omega, show k * 3 / 3 = k from by omega, if_true, e]
  · rw [List.getElem?_map, List.getElem?_range (by omega)]
    simp only [Option.map_some, compM, show (k * 3 + 1) % 3 = 1 from by omega, show (k * 3 + 1) / 3 = k from by omega, if_true, e]
    rfl
  · rw [List.getElem?_map, List.getElem?_range (by omega)]
    simp only [Option.map_some, compM, show (k * 3 + 2) % 3 = 2 from by omega, show (k * 3 + 2) / 3 = k from by omega, e]
    rfl
theorem flatM_one (l : List Trip) : ∀ u ∈ flatM l, u.oneCell' = true := by
  intro u hu
  unfold flatM at hu
  rw [List.mem_map] at hu
  obtain ⟨j, _, rfl⟩ := hu
  unfold compM
  split
  · rfl
  · split <;> rfl

/-- the cells that an append reads -/
theorem IsMs.news {w : World} {ad : Addr} {n : Nat} {l : List Trip} (h : IsMs w (some ad) n l) : ∀ j u, (flatM l)[j]? = some u → w.cell? (ad.add j) = some u := by
  intro j u hj
  obtain ⟨hlt, rfl⟩ := flatM_get l j u hj
  obtain ⟨hl, hc⟩ := h
  obtain ⟨b, off, e, hcell⟩ := hc (by omega)
  cases e
  rw [add_at]
  have hk : j / 3 < l.length := by omega
  obtain ⟨h0, h1, h2⟩ := hcell (j / 3) hk
  have e : l.getD (j / 3) (0, 0, 0) = l[j / 3] := by simp [hk]
  unfold compM
  rw [e]
  by_cases c0 : j % 3 = 0
  · rw [if_pos c0, ← h0]; congr 2; omega
  · rw [if_neg c0]
    by_cases c1 : j % 3 = 1
    · rw [if_pos c1, ← h1]; congr 2; omega
    · rw [if_neg c1, ← h2]; congr 2; omega

/-- an owned row of measures reads as measures -/
theorem owns_ms {w : World} {base : Nat} {e : TypeId} {v : Value} {n : Nat} {l : List Trip} (hl : l.length = n) (h : w.ownsRow base e 3 v n (flatM l)) :
    ∃ ao cap, v = .slice ao n cap ∧ IsMs w ao n l ∧ (0 < n → ∃ g, ao = some ⟨g, 0, none⟩ ∧ base ≤ g ∧ g < w.heap.size) := by
  obtain ⟨_, h⟩ := h
  rcases h with ⟨rfl, rfl⟩ | ⟨g, cap, cur, rfl, hb, hg, hc, hm, hsz, htk⟩
  · exact ⟨none, 0, rfl, ⟨hl, fun h => absurd h (by omega)⟩, fun h => absurd h (by omega)⟩
  · refine ⟨some ⟨g, 0, none⟩, cap, rfl, ⟨hl, fun _ => ⟨g, 0, rfl, fun k hk => ?_⟩⟩, fun _ => ⟨g, rfl, hb, block_lt hg⟩⟩
    obtain ⟨f0, f1, f2⟩ := flatM_at l k hk
    have get : ∀ j, j < n * 3 → cur[j]? = (flatM l)[j]? := fun j hj => by
      rw [← htk, List.getElem?_take_of_lt hj, Array.getElem?_toList]
    refine ⟨?_, ?_, ?_⟩
    · rw [block_cell hg, Nat.zero_add, get _ (by omega), f0]
    · rw [block_cell hg, Nat.zero_add, get _ (by omega), f1]
    · rw [block_cell hg, Nat.zero_add, get _ (by omega), f2]

theorem IsMs.below {B : Nat} {w w' : World} {a : Option Addr} {n : Nat} {l : List Trip} (h : IsMs w a n l) (hb : Below B w w') (hB : ∀ b o, a = some ⟨b, o, none⟩ → 0 < n → b < B) : IsMs w' a n l := by
  refine ⟨h.1, fun hn => ?_⟩
  obtain ⟨b, off, e, hc⟩ := h.2 hn
  refine ⟨b, off, e, fun k hk => ?_⟩
  have hlt := hB b off e hn
  obtain ⟨g0, g1, g2⟩ := hc k hk
  exact ⟨(hb.cell (p := ⟨b, _, none⟩) hlt).trans g0, (hb.cell (p := ⟨b, _, none⟩) hlt).trans g1, (hb.cell (p := ⟨b, _, none⟩) hlt).trans g2⟩
theorem IsMs.lt {w : World} {n : Nat} {l : List Trip} {b off : Nat} (h : IsMs w (some ⟨b, off, none⟩) n l) (hn : 0 < n) : b < w.heap.size := by
  obtain ⟨b', off', e, hc⟩ := h.2 hn
  cases e
  have := (hc 0 (by have := h.1; omega)).1
  rcases Nat.lt_or_ge b w.heap.size with hb | hb
  · exact hb
  · simp [World.cell?, Array.getElem?_eq_none hb] at this
/-- in a world in which all that was there is as it was -/
theorem IsMs.later {w w' : World} {a : Option Addr} {n : Nat} {l : List Trip} (h : IsMs w a n l) (hb : Below w.heap.size w w') : IsMs w' a n l := by
  refine h.below hb fun b o e hn => ?_
  subst e
  exact h.lt hn

end Go.Proofs.Ytalkafjccpijiaa
