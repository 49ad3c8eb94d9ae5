/- Text: what Parse and Format give of each other: plain. (printed by slim.py.) -/
import Derived.Test.YtdfkbahlngijcaaDoorQWq
namespace Go.Proofs.YtdfkbahlngijcaaDoor
open Go.RowKit
set_option linter.unusedVariables false

structure CfgZq (c : Cf) : Prop where
  slots : 1 ≤ c.slots ∧ c.slots ≤ 16384
  gens : 1 ≤ c.gens ∧ c.gens ≤ 4294967295
  clients : 0 ≤ c.clients ∧ c.clients ≤ 8
  readers : 0 ≤ c.readers ∧ c.readers ≤ 8
  queue : 1 ≤ c.queue ∧ c.queue ≤ 64
  batch : 1 ≤ c.batch ∧ c.batch ≤ 16
  feed : 1 ≤ c.feed ∧ c.feed ≤ 64
theorem cfgZq_of {c : Cf} (h : cfgE c = 0) : CfgZq c := by
  have hk : cfgOk c = true := by
    unfold cfgE at h
    by_cases hk : cfgOk c = true
    · exact hk
    · rw [if_neg hk] at h; exact absurd h (by decide)
  unfold cfgOk inR at hk
  simp only [Bool.and_eq_true, decide_eq_true_eq] at hk
  obtain ⟨h1, h2, h3, h4, h5, h6, h7⟩ := hk
  exact ⟨h1, h2, h3, h4, h5, h6, h7⟩
theorem prs_ok {s : List UInt8} {x : Rd} {k : Nat} (h : prsR s = (x, k, 0)) : k = 0 ∧ s.length ≤ 65536 ∧ scE x.c (x.ss.map pgOf) x.ps = 0 ∧ fmtL x.c (x.ss.map pgOf) x.ps = s ∧ ∀ l ∈ x.ss, ∀ o ∈ l, OvOk o ∧ plainO o = true := by
  unfold prsR at h
  split at h
  · injection h with _ h
    injection h with _ h
    exact absurd h (by decide)
  · rename_i hlen
    split at h
    · injection h with _ h
      injection h with _ h
      exact absurd h (by decide)
    · rename_i hs
      split at h
      · rename_i y n hf
        split at h
        · rename_i he
          injection h with h1 h
          injection h with h2 _
          subst h1; subst h2
          obtain ⟨h3, h4⟩ := fold_back hs hf
          exact ⟨rfl, by omega, he, h3, h4⟩
        · rename_i he
          injection h with _ h
          injection h with _ h
          exact absurd h he
      · injection h with _ h
        injection h with _ h
        exact absurd h (by decide)
end Go.Proofs.YtdfkbahlngijcaaDoor

