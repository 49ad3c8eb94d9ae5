/- Text: what Parse and Format give of each other: plain. -/
import Derived.Test.YtdfkbahlngijcaaDoorWq
namespace Go.Proofs.YtdfkbahlngijcaaDoor
open Go.RowKit
set_option linter.unusedVariables false

structure CfgZq (c : Cf) : Prop where
  slots : 1 ≤ c.slots ∧ c.slots ≤ 16384
  gens : 1 ≤ c.gens ∧ c.gens ≤ 4294967295
  clients : 0 ≤ c.clients ∧ c.clients ≤ 8
  readers : 0 ≤ c.readers ∧ c.readers ≤ 8
  queue : 1 ≤ c.queue ∧ c.queue ≤ 64
  batch : 1 ≤ c.batch ∧ c.batch ≤ 16
  feed : 1 ≤ c.feed ∧ c.feed ≤ 64
theorem cfgZq_of {c : Cf} (h : cfgE c = 0) : CfgZq c := by
  have hk : cfgOk c = true := by
    unfold cfgE at h
    by_cases hk : cfgOk c = true
    · exact hk
    · rw [if_neg hk] at h; exact absurd h (by decide)
  unfold cfgOk inR at hk
  simp only [Bool.and_eq_true, decide_eq_true_eq] at hk
  obtain ⟨h1, h2, h3, h4, h5, h6, h7⟩ := hk
  exact ⟨h1, h2, h3, h4, h5, h6, h7⟩
theorem progE_ne4 : ∀ ss : List Pg, progE ss ≠ 4
  | [] => by decide
  | p :: r => by
    have ih := progE_ne4 r
    show (if 256 < p.n then 5 else if p.l.all plainO = true then progE r else 2) ≠ (4 : Int)
    split
    · decide
    · split
      · exact ih
      · decide
theorem scE_ne4 (c : Cf) (ss : List Pg) (ps : List Int) : scE c ss ps ≠ 4 := by
  have hc : cfgE c ≠ 4 := by
    unfold cfgE
    split
    · split
      · decide
      · split <;> decide
    · decide
  unfold scE
  split
  · exact hc
  · split
    · decide
    · split
      · exact progE_ne4 ss
      · split
        · decide
        · split
          · split <;> decide
          · decide
theorem prs_err {s : List UInt8} {x : Rd} {k : Nat} {er : Int} (h : prsR s = (x, k, er)) (h0 : er ≠ 0) : (0 < k ↔ er = 4) := by
  unfold prsR at h
  split at h
  · injection h with _ h
    injection h with h1 h2
    subst h1; subst h2
    exact ⟨fun h => absurd h (by omega), fun h => absurd h (by decide)⟩
  · split at h
    · injection h with _ h
      injection h with h1 h2
      subst h1; subst h2
      exact ⟨fun _ => rfl, fun _ => by omega⟩
    · split at h
      · split at h
        · injection h with _ h
          injection h with h1 h2
          exact absurd h2.symm h0
        · injection h with _ h
          injection h with h1 h2
          subst h1; subst h2
          exact ⟨fun h => absurd h (by omega), fun h => absurd h (scE_ne4 _ _ _)⟩
      · rename_i hf
        injection h with _ h
        injection h with h1 h2
        subst h1; subst h2
        have := fold_pos _ _ _ _ _ hf
        exact ⟨fun _ => rfl, fun _ => by omega⟩
theorem prs_ok {s : List UInt8} {x : Rd} {k : Nat} (h : prsR s = (x, k, 0)) : k = 0 ∧ s.length ≤ 65536 ∧ scE x.c (x.ss.map pgOf) x.ps = 0 ∧ fmtL x.c (x.ss.map pgOf) x.ps = s ∧ ∀ l ∈ x.ss, ∀ o ∈ l, OvOk o ∧ plainO o = true := by
  unfold prsR at h
  split at h
  · injection h with _ h
    injection h with _ h
    exact absurd h (by decide)
  · rename_i hlen
    split at h
    · injection h with _ h
      injection h with _ h
      exact absurd h (by decide)
    · rename_i hs
      split at h
      · rename_i y n hf
        split at h
        · rename_i he
          injection h with h1 h
          injection h with h2 _
          subst h1; subst h2
          obtain ⟨h3, h4⟩ := fold_back hs hf
          exact ⟨rfl, by omega, he, h3, h4⟩
        · rename_i he
          injection h with _ h
          injection h with _ h
          exact absurd h he
      · injection h with _ h
        injection h with _ h
        exact absurd h (by decide)
theorem opsT_pg (l : List Ov) : (pgOf l).l = l := rfl
theorem progT_lists : ∀ (ss : List Pg) (i : Nat), progT i ss = progT i ((ss.map (·.l)).map pgOf)
  | [], _ => rfl
  | p :: r, i => by
    show lineL (clientW i) ++ (opsT p.l ++ progT (i + 1) r) = lineL (clientW i) ++ (opsT p.l ++ progT (i + 1) ((r.map (·.l)).map pgOf))
    rw [progT_lists r (i + 1)]
theorem fmtL_lists (c : Cf) (ss : List Pg) (ps : List Int) : fmtL c ss ps = fmtL c ((ss.map (·.l)).map pgOf) ps := by
  unfold fmtL
  rw [progT_lists ss 0]
/-- what Parse gives, written again -/
theorem fmt_prs {s : List UInt8} {x : Rd} {k : Nat} (h : prsR s = (x, k, 0)) {ss : List Pg} (hl : ∀ p ∈ ss, p.l.length = p.n) (hs : ss.map (·.l) = x.ss) : k = 0 ∧ scE x.c ss x.ps = 0 ∧ fmtR x.c ss x.ps = (s, 0) ∧ (∀ p ∈ ss, ∀ o ∈ p.l, OvOk o ∧ plainO o = true) := by
  obtain ⟨h1, h2, h3, h4, h5⟩ := prs_ok h
  have e : scE x.c ss x.ps = 0 := by rw [scE_lists hl, hs]; exact h3
  have e2 : fmtL x.c ss x.ps = s := by rw [fmtL_lists, hs]; exact h4
  refine ⟨h1, e, ?_, fun p hp o ho => h5 p.l (by rw [← hs]; exact List.mem_map_of_mem hp) o ho⟩
  unfold fmtR
  rw [if_neg (fun k => k e), e2, if_neg (by omega)]
theorem fmtL_ne (c : Cf) (ss : List Pg) (ps : List Int) : fmtL c ss ps ≠ [] := by
  unfold fmtL lineL
  simp
/-- a script's lines, read -/
theorem fold_scE {c : Cf} {ss : List Pg} {ps : List Int} (h : scE c ss ps = 0) (hov : ∀ s ∈ ss, ∀ x ∈ s.l, OvOk x) : ∃ la n, foldP zeroRd 0 (segs (fmtL c ss ps)) = (⟨c, ss.map (·.l), ps, la⟩, n, true) := by
  have hz := scE_zero h
  have hc := cfgZq_of hz.cfg
  refine fold_fmt (fun v hv => ?_) ?_ (fun s hs o ho => ⟨hov s hs o ho, ?_⟩) hz.pn (fun v hv => ?_)
  · unfold cfgV at hv
    simp only [List.mem_cons, List.not_mem_nil, or_false] at hv
    have h1 := hc.slots; have h2 := hc.gens; have h3 := hc.clients; have h4 := hc.readers; have h5 := hc.queue; have h6 := hc.batch; have h7 := hc.feed
    unfold numOK
    rcases hv with rfl | rfl | rfl | rfl | rfl | rfl | rfl <;> omega
  · have := hz.num; have := hc.clients; omega
  · exact List.all_eq_true.1 (progE_zero hz.prog s hs).2 o ho
  · have := hz.pk v hv; have := hc.clients
    unfold numOK; omega
theorem prs_fmt {c : Cf} {ss : List Pg} {ps : List Int} {l : List UInt8} (h : fmtR c ss ps = (l, 0)) (hl : ∀ p ∈ ss, p.l.length = p.n) (hov : ∀ s ∈ ss, ∀ x ∈ s.l, OvOk x) : l.length ≤ 65536 ∧ scE c ss ps = 0 ∧ l = fmtL c ss ps ∧ ∃ la, prsR l = (⟨c, ss.map (·.l), ps, la⟩, 0, 0) := by
  unfold fmtR at h
  split at h
  · rename_i h0
    injection h with _ h
    exact absurd h h0
  · rename_i h0
    have h0 : scE c ss ps = 0 := Decidable.of_not_not h0
    split at h
    · injection h with _ h
      exact absurd h (by decide)
    · rename_i h1
      injection h with h _
      subst h
      obtain ⟨la, n, hf⟩ := fold_scE h0 hov
      refine ⟨by omega, h0, rfl, la, ?_⟩
      unfold prsR
      rw [if_neg h1, if_neg (fmtL_ne c ss ps), hf]
      have e : scE c ((ss.map (·.l)).map pgOf) ps = 0 := by rw [← scE_lists hl]; exact h0
      show (if scE c ((ss.map (·.l)).map pgOf) ps = 0 then _ else _) = _
      rw [if_pos e]
theorem fmt_err {c : Cf} {ss : List Pg} {ps : List Int} {l : List UInt8} {e : Int} (h : fmtR c ss ps = (l, e)) (he : e ≠ 0) : scE c ss ps = 0 → e = 5 := by
  intro h0
  unfold fmtR at h
  rw [if_neg (fun k => k h0)] at h
  split at h
  · injection h with _ h; exact h.symm
  · injection h with _ h; exact absurd h.symm he
/-- a byte of a script's text replaced by an exclamation mark -/
theorem prs_spoiled {c : Cf} {ss : List Pg} {ps : List Int} {l : List UInt8} (h : fmtR c ss ps = (l, 0)) (hl : ∀ p ∈ ss, p.l.length = p.n) (hov : ∀ s ∈ ss, ∀ x ∈ s.l, OvOk x) {k : Nat} (hk : k < l.length) : prsR (l.take k ++ 33 :: l.drop (k + 1)) = (zeroRd, (l.take k).count 10 + 1, 4) := by
  obtain ⟨h1, h2, rfl, -⟩ := prs_fmt h hl hov
  obtain ⟨la, n, hf⟩ := fold_scE h2 hov
  obtain ⟨x', hx⟩ := spoiled hf hk
  have hlen : ((fmtL c ss ps).take k ++ 33 :: (fmtL c ss ps).drop (k + 1)).length = (fmtL c ss ps).length := by
    rw [List.length_append, List.length_take, List.length_cons, List.length_drop]; omega
  unfold prsR
  rw [if_neg (by rw [hlen]; omega), if_neg (by simp), hx]
end Go.Proofs.YtdfkbahlngijcaaDoor

