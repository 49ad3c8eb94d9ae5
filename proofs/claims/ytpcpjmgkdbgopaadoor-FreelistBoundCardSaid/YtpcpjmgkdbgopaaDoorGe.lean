/- The freelist: the plain law of handles: every handle that was taken, and which of them live. -/
import Derived.Test.YtpcpjmgkdbgopaaDoorGc
namespace Go.Proofs.YtpcpjmgkdbgopaaDoor
open Go.RowKit

/-- what is known of the handles that were taken so far -/
structure HInv (x : FL) (hs : List Int) : Prop where
  nd : hs.Nodup
  old : ∀ h ∈ hs, ∃ s g, h = hMk s g ∧ s < x.n ∧ 1 ≤ g ∧ g ≤ x.gn s ∧ (g = x.gn s → x.st s ≠ 0)
  cur : ∀ s, s < x.n → x.st s = 1 → hMk s (x.gn s) ∈ hs

theorem mkOK_le {x : FL} (hf : FInv x) {s g : Nat} (hs : s < x.n) (h1 : 1 ≤ g) (h2 : g ≤ x.gn s) : mkOK s g := by
  have := hf.gn s hs
  have := hf.g2
  have := hf.n2
  unfold mkOK
  omega
theorem HInv.inU {x : FL} {hs : List Int} (hf : FInv x) (h : HInv x hs) : InU hs := by
  intro k hk
  obtain ⟨s, g, rfl, h1, h2, h3, -⟩ := h.old k hk
  exact hMk_le (mkOK_le hf h1 h2 h3)
theorem HInv.nil (n g : Nat) : HInv (newL n g) [] where
  nd := List.nodup_nil
  old := fun _ h => nomatch h
  cur := fun s _ h => by
    have h' : (0 : Nat) = 1 := h
    omega
theorem take_fresh {x : FL} {hs : List Int} (hf : FInv x) (h : HInv x hs) (hm : x.m ≠ 0) : hMk (x.sk (x.m - 1)) (x.gn (x.sk (x.m - 1))) ∉ hs := by
  intro hk
  have hl := hf.lo (x.m - 1) (by omega)
  obtain ⟨s, g, e, h1, h2, h3, h4⟩ := h.old _ hk
  have hg := hf.gn _ hl.1
  obtain ⟨e1, e2⟩ := hMk_inj (mkOK_le hf hl.1 hg.1 (Nat.le_refl _)) (mkOK_le hf h1 h2 h3) e
  rw [← e1, ← e2] at h4
  exact h4 rfl hl.2
theorem HInv.take {x : FL} {hs : List Int} (hf : FInv x) (h : HInv x hs) (hm : x.m ≠ 0) : HInv (takeL x) (hs ++ [hMk (x.sk (x.m - 1)) (x.gn (x.sk (x.m - 1)))]) := by
  have hl := hf.lo (x.m - 1) (by omega)
  refine { nd := ?_, old := fun k hk => ?_, cur := fun s hs' h1 => ?_ }
  · rw [List.nodup_append]
    refine ⟨h.nd, by simp, fun a ha c hc e => ?_⟩
    rw [List.mem_singleton.1 hc] at e
    rw [e] at ha
    exact take_fresh hf h hm ha
  · rcases List.mem_append.1 hk with hk | hk
    · obtain ⟨s, g, rfl, h1, h2, h3, h4⟩ := h.old _ hk
      refine ⟨s, g, rfl, h1, h2, h3, fun e => ?_⟩
      show updN x.st (x.sk (x.m - 1)) 1 s ≠ 0
      unfold updN
      split
      · decide
      · exact h4 e
    · rw [List.mem_singleton.1 hk]
      refine ⟨_, _, rfl, hl.1, (hf.gn _ hl.1).1, Nat.le_refl _, fun _ => ?_⟩
      show updN x.st (x.sk (x.m - 1)) 1 (x.sk (x.m - 1)) ≠ 0
      rw [updN_same]
      decide
  · by_cases e : s = x.sk (x.m - 1)
    · rw [e]
      exact List.mem_append_right _ (List.mem_singleton.2 rfl)
    · have h1' : updN x.st (x.sk (x.m - 1)) 1 s = 1 := h1
      rw [updN_other _ e] at h1'
      exact List.mem_append_left _ (h.cur s hs' h1')
theorem HInv.give {x : FL} {hs : List Int} (h : HInv x hs) {t : Nat} : HInv (giveL x t) hs := by
  unfold giveL
  split
  · refine { nd := h.nd, old := fun k hk => ?_, cur := fun s hs' h1 => ?_ }
    · obtain ⟨s, g, rfl, h1, h2, h3, h4⟩ := h.old _ hk
      refine ⟨s, g, rfl, h1, h2, h3, fun e => ?_⟩
      show updN x.st t 2 s ≠ 0
      unfold updN
      split
      · decide
      · exact h4 e
    · have h1' : updN x.st t 2 s = 1 := h1
      by_cases e : s = t
      · rw [e, updN_same] at h1'; omega
      · rw [updN_other _ e] at h1'; exact h.cur s hs' h1'
  · refine { nd := h.nd, old := fun k hk => ?_, cur := fun s hs' h1 => ?_ }
    · obtain ⟨s, g, rfl, h1, h2, h3, h4⟩ := h.old _ hk
      refine ⟨s, g, rfl, h1, h2, ?_, fun e => ?_⟩
      · show g ≤ updN x.gn t (x.gn t + 1) s
        unfold updN
        split
        · rename_i e; rw [e] at h3; omega
        · exact h3
      · show updN x.st t 0 s ≠ 0
        have e' : g = updN x.gn t (x.gn t + 1) s := e
        by_cases e2 : s = t
        · rw [e2, updN_same] at e'
          rw [e2] at h3
          omega
        · rw [updN_other _ e2] at e' ⊢
          exact h4 e'
    · have h1' : updN x.st t 0 s = 1 := h1
      show hMk s (updN x.gn t (x.gn t + 1) s) ∈ hs
      by_cases e : s = t
      · rw [e, updN_same] at h1'; omega
      · rw [updN_other _ e] at h1' ⊢; exact h.cur s hs' h1'
theorem HInv.giveS {x : FL} {hs : List Int} (h : HInv x hs) (k : Int) : HInv (giveS x k) hs := by
  unfold Go.Proofs.YtpcpjmgkdbgopaaDoor.giveS
  split
  · exact h.give
  · exact h
theorem takeS_n (x : FL) : (takeS x).n = x.n ∧ (takeS x).most = x.most := by
  unfold takeS
  split <;> exact ⟨rfl, rfl⟩
theorem giveL_n (x : FL) (s : Nat) : (giveL x s).n = x.n ∧ (giveL x s).most = x.most := by
  unfold giveL
  split <;> exact ⟨rfl, rfl⟩
theorem giveS_n (x : FL) (k : Int) : (giveS x k).n = x.n ∧ (giveS x k).most = x.most := by
  unfold giveS
  split
  · exact giveL_n x _
  · exact ⟨rfl, rfl⟩
/-- Take, in its two cases -/
theorem take_two (x : FL) (hf : FInv x) : (x.m = 0 ∧ takeR x = (0, 6) ∧ takeS x = x) ∨ (x.m ≠ 0 ∧ takeR x = (hMk (x.sk (x.m - 1)) (x.gn (x.sk (x.m - 1))), 0) ∧ takeS x = takeL x ∧ mkOK (x.sk (x.m - 1)) (x.gn (x.sk (x.m - 1)))) := by
  unfold takeR takeS
  by_cases h : x.m = 0
  · rw [if_pos h, if_pos h]; exact .inl ⟨h, rfl, rfl⟩
  · rw [if_neg h, if_neg h]
    have hl := hf.lo (x.m - 1) (by omega)
    exact .inr ⟨h, rfl, rfl, mkOK_of hf hl.1⟩

/-- a list, its blocks no older than w0 -/
def Solo (w0 w : World) (b : LB) (x : FL) : Prop := IsL w b x ∧ FInv x ∧ b.ge w0.heap.size ∧ Below w0.heap.size w0 w
theorem Solo.below {w0 w w' : World} {b : LB} {x : FL} (h : Solo w0 w b x) (k : Below w.heap.size w w') : Solo w0 w' b x := ⟨h.1.below k (Nat.le_refl _), h.2.1, h.2.2.1, below_two h.2.2.2 k⟩
theorem Solo.drewN {w0 w : World} {b : LB} {x : FL} (h : Solo w0 w b x) (n : Nat) : Solo w0 (w.drewN n) b x := ⟨h.1, h.2.1, h.2.2.1, below_drewN h.2.2.2 n⟩
theorem Solo.turn {w0 w w' : World} {b : LB} {x y : FL} (h : Solo w0 w b x) (hy : FInv y) (hl : IsL w' b y) (k : KeepL b w w') : Solo w0 w' b y := ⟨hl, hy, h.2.2.1, h.2.2.2.trans (k.below h.2.2.2.size h.2.2.1)⟩
theorem Solo.grown {w0 w w' : World} {b : LB} {x : FL} (h : Solo w0 w b x) {v : Value} {l : List Int} (ha : All w w0.heap.size v l) (hg : w.grownBy w' v.ownBlock) : Solo w0 w' b x := ⟨h.1.grown ha hg, h.2.1, h.2.2.1, grown_below h.2.2.2 h.2.2.2.size ha hg⟩
theorem Solo.of_new {w0 w1 : World} {b : LB} {n g : Nat} (h1 : 1 ≤ n) (h2 : n ≤ 16384) (h3 : 1 ≤ g) (h4 : g ≤ 4294967295) (hl : IsL w1 b (newL n g)) (hb : Below w0.heap.size w0 w1) (hg : b.ge w0.heap.size) : Solo w0 w1 b (newL n g) := ⟨hl, newL_inv h1 h2 h3 h4, hg, hb⟩

theorem results_tmp4 {fn : Func} {t u v z : Tmp} (h : fn.results = #[.tmp t, .tmp u, .tmp v, .tmp z]) (tmps : Array Value) (P : Program) (w : World) :
    (results fn tmps).run P w = .ok (.tuple #[tmps.getD t undef, tmps.getD u undef, tmps.getD v undef, tmps.getD z undef]) w := by
  simp [results, h]
end Go.Proofs.YtpcpjmgkdbgopaaDoor
