/- Diff: a delta that goes by lines is an alignment of the lines: plain laws. -/
import Derived.Test.YtfbjbgknfdekfaaDoorHd
namespace Go.Proofs.YtfbjbgknfdekfaaDoor
set_option linter.unusedVariables false

theorem rows_head : ∀ (l : List UInt8) (r : Ln) (rs : List Ln), rowsL l = r :: rs → ∃ n, n + 1 = r.length ∧ n < l.length ∧ r = l.take (n + 1) ∧ (∀ j, j < n → l[j]? ≠ some 10) ∧ (l[n]? = some 10 ∨ n + 1 = l.length) ∧ rs = rowsL (l.drop (n + 1))
  | [], r, rs, h => by cases h
  | c :: l, r, rs, h => by
    rw [rowsL_cons] at h
    by_cases hc : c = 10
    · rw [if_pos hc] at h
      injection h with h1 h2
      subst h1 h2
      exact ⟨0, rfl, by simp, by simp [hc], fun j hj => absurd hj (Nat.not_lt_zero _), .inl (by simp [hc]), rfl⟩
    · rw [if_neg hc] at h
      rcases hr : rowsL l with _ | ⟨q, qs⟩
      · rw [hr] at h
        injection h with h1 h2
        subst h1 h2
        have hl : l = [] := by rw [← rows_join l, hr]; rfl
        subst hl
        exact ⟨0, rfl, by simp, rfl, fun j hj => absurd hj (Nat.not_lt_zero _), .inr rfl, rfl⟩
      · rw [hr] at h
        injection h with h1 h2
        subst h1 h2
        obtain ⟨n, k1, k2, k3, k4, k5, k6⟩ := rows_head l q qs hr
        refine ⟨n + 1, by simp [k1], by simpa using k2, by rw [List.take_succ_cons, ← k3], fun j hj => ?_, by simpa using k5, by rw [List.drop_succ_cons]; exact k6⟩
        rcases j with _ | j
        · simp; exact hc
        · simpa using k4 j (by omega)
/-- lines as a text has them -/
def Gd (rs : List Ln) : Prop := rowsL rs.flatten = rs
theorem gd_rows (l : List UInt8) : Gd (rowsL l) := by
  unfold Gd
  rw [rows_join]
theorem gd_ne {rs : List Ln} (h : Gd rs) : ∀ r ∈ rs, r ≠ [] := by
  have := rowsL_ne rs.flatten
  rw [h] at this
  exact this
theorem gd_tail {r : Ln} {rs : List Ln} (h : Gd (r :: rs)) : Gd rs := by
  obtain ⟨n, k1, k2, k3, k4, k5, k6⟩ := rows_head _ r rs h
  unfold Gd
  rw [List.flatten_cons, k1, List.drop_left] at k6
  exact k6.symm
theorem gd_drop : ∀ (i : Nat) {rs : List Ln}, Gd rs → Gd (rs.drop i)
  | 0, rs, h => h
  | i + 1, [], h => h
  | i + 1, r :: rs, h => gd_drop i (gd_tail h)
theorem gd_take : ∀ (i : Nat) {rs : List Ln}, Gd rs → Gd (rs.take i)
  | 0, rs, h => rfl
  | i + 1, [], h => rfl
  | i + 1, r :: rs, h => by
    have ih := gd_take i (gd_tail h)
    obtain ⟨n, k1, k2, k3, k4, k5, k6⟩ := rows_head _ r rs h
    have hne := gd_ne h
    unfold Gd
    rw [List.take_succ_cons, List.flatten_cons]
    rw [List.flatten_cons] at k2 k4 k5
    have hlen : (r ++ (rs.take i).flatten).length = n + 1 + (rs.take i).flatten.length := by rw [List.length_append, k1]
    have hat : ∀ j, j < n + 1 → (r ++ (rs.take i).flatten)[j]? = (r ++ rs.flatten)[j]? := fun j hj => by
      rw [List.getElem?_append_left (by omega), List.getElem?_append_left (by omega)]
    have e := rows_step n (r ++ (rs.take i).flatten) (by omega) (fun j hj => by rw [hat j (by omega)]; exact k4 j hj) (by
      rw [hat n (by omega)]
      rcases k5 with k5 | k5
      · exact .inl k5
      · right
        rw [List.length_append, ← k1] at k5
        have hf : rs.flatten = [] := List.eq_nil_of_length_eq_zero (by omega)
        have hr : rs = [] := by
          rw [← gd_tail h, hf]
          rfl
        rw [hr]
        simp [k1])
    rw [e, k1, List.take_left, List.drop_left, ih]
theorem gd_inj {u v : List Ln} (hu : Gd u) (hv : Gd v) (h : u.flatten = v.flatten) : u = v := by rw [← hu, ← hv, h]
theorem tot_mono (xs : List Ln) {i j : Nat} (h : i ≤ j) : tot (xs.take i) ≤ tot (xs.take j) := by
  have e : xs.take i = (xs.take j).take i := by rw [List.take_take, Nat.min_eq_left h]
  rw [e]
  exact tot_takeL _ _
theorem edge_from {xs : List Ln} {i n : Nat} (hi : i ≤ xs.length) (h : EdgeL xs (tot (xs.take i) + n)) : ∃ j, i ≤ j ∧ j ≤ xs.length ∧ tot (xs.take j) = tot (xs.take i) + n := by
  obtain ⟨j, hj, e⟩ := h
  rcases Nat.lt_or_ge j i with h1 | h1
  · have := tot_mono xs (Nat.le_of_lt h1)
    exact ⟨i, Nat.le_refl _, hi, by omega⟩
  · exact ⟨j, h1, hj, e.symm⟩
/-- the lines between two places -/
def seg (xs : List Ln) (i j : Nat) : List Ln := (xs.drop i).take (j - i)
theorem seg_app {xs : List Ln} {i j : Nat} (h : i ≤ j) : xs.drop i = seg xs i j ++ xs.drop j := by
  have e : xs.drop j = (xs.drop i).drop (j - i) := by rw [List.drop_drop, show i + (j - i) = j by omega]
  rw [e]
  exact (List.take_append_drop _ _).symm
theorem seg_tot {xs : List Ln} {i j n : Nat} (h : i ≤ j) (e : tot (xs.take j) = tot (xs.take i) + n) : tot (seg xs i j) = n := by
  have h1 : xs.take j = xs.take i ++ seg xs i j := by
    have h2 : xs.take j = (xs.take j).take i ++ (xs.take j).drop i := (List.take_append_drop _ _).symm
    rw [List.take_take, Nat.min_eq_left h, List.drop_take] at h2
    exact h2
  rw [h1, tot_app] at e
  omega
theorem seg_flat {xs : List Ln} {i j : Nat} (h : i ≤ j) : (xs.drop i).flatten = (seg xs i j).flatten ++ (xs.drop j).flatten := by
  rw [← List.flatten_append, ← seg_app h]
theorem drop_nil {xs : List Ln} {i : Nat} (hx : Gd xs) (h : tot (xs.take i) = tot xs) : xs.drop i = [] := by
  have e := tot_app (xs.take i) (xs.drop i)
  rw [List.take_append_drop] at e
  have h2 : (xs.drop i).flatten = [] := List.eq_nil_of_length_eq_zero (by rw [← tot_flat]; omega)
  have h3 := gd_drop i hx
  unfold Gd at h3
  rw [h2] at h3
  exact h3.symm
/-- what a delta by lines is -/
theorem al_of {xs ys : List Ln} (hx : Gd xs) (hy : Gd ys) : ∀ (ds : List Dp) (i k : Nat), i ≤ xs.length → k ≤ ys.length → appD (xs.drop i).flatten ds = (ys.drop k).flatten →
    allI (EdgeL xs) (tot (xs.take i)) ds → allO (EdgeL ys) (tot (ys.take k)) ds → tot (xs.take i) + Dp.sI ds = tot xs → tot (ys.take k) + Dp.sO ds = tot ys → Al (xs.drop i) (ys.drop k) (costD ds)
  | [], i, k, _, _, _, _, _, h1, h2 => by
    rw [drop_nil hx (by have : Dp.sI [] = 0 := rfl; omega), drop_nil hy (by have : Dp.sO [] = 0 := rfl; omega)]
    exact .nil
  | .del n :: ds, i, k, hi, hk, ha, hI, hO, h1, h2 => by
    obtain ⟨j, hij, hj, e⟩ := edge_from hi hI.1
    have e' : tot (xs.take j) = tot (xs.take i) + n := e
    have ht := seg_tot hij e'
    have hf := seg_flat (xs := xs) hij
    have hd : (xs.drop i).flatten.drop n = (xs.drop j).flatten := by rw [hf, ← ht, tot_flat, List.drop_left]
    have s1 : Dp.sI (.del n :: ds) = n + Dp.sI ds := rfl
    have s2 : Dp.sO (.del n :: ds) = 0 + Dp.sO ds := rfl
    have ih := al_of hx hy ds j k hj hk (by rw [← hd]; exact ha) (by rw [e']; exact hI.2) hO.2 (by omega) (by omega)
    rw [seg_app (xs := xs) hij]
    have := (Al.all_del (seg xs i j)).app ih
    rw [ht] at this
    exact this
  | .ins t :: ds, i, k, hi, hk, ha, hI, hO, h1, h2 => by
    obtain ⟨j, hkj, hj, e⟩ := edge_from hk hO.1
    have e' : tot (ys.take j) = tot (ys.take k) + t.length := e
    have ht := seg_tot hkj e'
    have hf := seg_flat (xs := ys) hkj
    have ha' : t ++ appD (xs.drop i).flatten ds = (seg ys k j).flatten ++ (ys.drop j).flatten := by rw [← hf]; exact ha
    have hd : appD (xs.drop i).flatten ds = (ys.drop j).flatten := (List.append_inj ha' (by rw [← tot_flat, ht])).2
    have s1 : Dp.sI (.ins t :: ds) = 0 + Dp.sI ds := rfl
    have s2 : Dp.sO (.ins t :: ds) = t.length + Dp.sO ds := rfl
    have ih := al_of hx hy ds i j hi hj hd hI.2 (by rw [e']; exact hO.2) (by omega) (by omega)
    rw [seg_app (xs := ys) hkj]
    have := (Al.all_ins (seg ys k j)).app ih
    rw [ht] at this
    exact this
  | .ret n :: ds, i, k, hi, hk, ha, hI, hO, h1, h2 => by
    obtain ⟨j, hij, hj, e⟩ := edge_from hi hI.1
    obtain ⟨q, hkq, hq, f⟩ := edge_from hk hO.1
    have e' : tot (xs.take j) = tot (xs.take i) + n := e
    have f' : tot (ys.take q) = tot (ys.take k) + n := f
    have ht := seg_tot hij e'
    have hu := seg_tot hkq f'
    have hf := seg_flat (xs := xs) hij
    have hg := seg_flat (xs := ys) hkq
    have hd : (xs.drop i).flatten.drop n = (xs.drop j).flatten := by rw [hf, ← ht, tot_flat, List.drop_left]
    have hd2 : (xs.drop i).flatten.take n = (seg xs i j).flatten := by rw [hf, ← ht, tot_flat, List.take_left]
    have ha' : (xs.drop i).flatten.take n ++ appD ((xs.drop i).flatten.drop n) ds = (seg ys k q).flatten ++ (ys.drop q).flatten := by rw [← hg]; exact ha
    rw [hd, hd2] at ha'
    obtain ⟨g1, g2⟩ := List.append_inj ha' (by rw [← tot_flat, ← tot_flat, ht, hu])
    have hs : seg xs i j = seg ys k q := gd_inj (gd_take _ (gd_drop _ hx)) (gd_take _ (gd_drop _ hy)) g1
    have s1 : Dp.sI (.ret n :: ds) = n + Dp.sI ds := rfl
    have s2 : Dp.sO (.ret n :: ds) = n + Dp.sO ds := rfl
    have ih := al_of hx hy ds j q hj hq g2 (by rw [e']; exact hI.2) (by rw [f']; exact hO.2) (by omega) (by omega)
    rw [seg_app (xs := xs) hij, seg_app (xs := ys) hkq, hs]
    have := (Al.refl (seg ys k q)).app ih
    exact this
theorem allI_mono {E F : Nat → Prop} (h : ∀ p, E p → F p) : ∀ (l : List Dp) (i : Nat), allI E i l → allI F i l
  | [], _, _ => trivial
  | p :: l, i, k => ⟨h _ k.1, allI_mono h l _ k.2⟩
theorem allO_mono {E F : Nat → Prop} (h : ∀ p, E p → F p) : ∀ (l : List Dp) (i : Nat), allO E i l → allO F i l
  | [], _, _ => trivial
  | p :: l, i, k => ⟨h _ k.1, allO_mono h l _ k.2⟩
theorem byB_all {a b : ByteArray} {l : List Pc} (h : byB a b l = true) : (appR a l).2 = 0 ∧ (appR a l).1 = b ∧ edgesB a.data.toList b.data.toList 0 0 (l.map ofP) = true := by
  unfold byB at h
  by_cases h2 : (appR a l).2 = 0
  · rw [if_pos h2] at h
    by_cases h1 : (appR a l).1 = b
    · rw [if_pos h1] at h
      exact ⟨h2, h1, h⟩
    · rw [if_neg h1] at h; cases h
  · rw [if_neg h2] at h; cases h
/-- no delta by lines costs less -/
theorem byB_cost {a b : ByteArray} {l : List Pc} (h : byB a b l = true) : checkP l = 0 ∧ lst (rwS a) (rwS b) ≤ costP l := by
  obtain ⟨h1, h2, h3⟩ := byB_all h
  obtain ⟨k1, k2, k3, k4⟩ := app_ok h1 h2
  obtain ⟨m1, m2, m3, m4⟩ := check_inv k1
  obtain ⟨e1, e2⟩ := (edgesB_iff _ _ _).1 h3
  refine ⟨k1, ?_⟩
  have hal := al_of (gd_rows a.data.toList) (gd_rows b.data.toList) (l.map ofP) 0 0 (Nat.zero_le _) (Nat.zero_le _)
    (by rw [List.drop_zero, List.drop_zero, rows_join, rows_join]; exact k3)
    (allI_mono (fun p hp => (edge_text _ _).2 hp) _ _ e1) (allO_mono (fun p hp => (edge_text _ _).2 hp) _ _ e2)
    (by
      have : tot (rowsL a.data.toList) = a.size := rwS_tot a
      rw [this, ← k2, List.take_zero]
      show 0 + sIP l = _
      omega)
    (by
      have : tot (rowsL b.data.toList) = b.size := rwS_tot b
      rw [this, ← k4, List.take_zero]
      show 0 + sOP l = _
      omega)
  rw [List.drop_zero, List.drop_zero] at hal
  have := lst_le hal
  unfold costP
  rw [if_pos k1, cost_of m2]
  exact this
/-- the delta of Lines goes by lines -/
theorem lin_byB {a b : ByteArray} (h : ¬ linT a b) : byB a b (linL a b) = true := by
  have k := lin_ok h
  have e1 : fitE a.size (linL a b) = 0 := by unfold fitE; rw [if_pos k.check, if_pos k.inn]
  have e2 : appR a (linL a b) = (b, 0) := by
    unfold appR
    rw [if_pos e1, k.app]
  unfold byB
  rw [e2]
  show (if (0 : Int) = 0 then (if b = b then _ else _) else _) = true
  rw [if_pos rfl, if_pos rfl]
  refine (edgesB_iff _ _ _).2 ⟨allI_mono (fun p hp => (edge_text _ _).1 hp) _ _ k.byl.1, allO_mono (fun p hp => (edge_text _ _).1 hp) _ _ k.byl.2⟩
end Go.Proofs.YtfbjbgknfdekfaaDoor
