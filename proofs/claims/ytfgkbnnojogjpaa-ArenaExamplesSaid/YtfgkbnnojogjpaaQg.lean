/- The arena: plain facts of its state: what lives, the counts; Get, Free and Alloc of the program at any state. -/
import Derived.Test.YtfgkbnnojogjpaaQf
namespace Go.Proofs.Ytfgkbnnojogjpaa
open Go.RowKit

theorem live_iff {x : FL} (hf : FInv x) (h : Int) : liveL x h ↔ ∃ s, s < x.n ∧ x.st s = 1 ∧ h = hMk s (x.gn s) := by
  constructor
  · intro hl
    obtain ⟨s, g, hm, rfl⟩ := hOK_mk hl.1
    obtain ⟨h1, h2, h3⟩ := (liveL_mk hm).1 hl
    exact ⟨s, h1, h2, by rw [h3]⟩
  · rintro ⟨s, h1, h2, rfl⟩
    exact (liveL_mk (mkOK_of hf h1)).2 ⟨h1, h2, rfl⟩
set_option maxRecDepth 100000 in
theorem live_take {x : FL} (hf : FInv x) (hm : x.m ≠ 0) (h : Int) : liveL (takeL x) h ↔ liveL x h ∨ h = hMk (x.sk (x.m - 1)) (x.gn (x.sk (x.m - 1))) := by
  have hl := hf.lo (x.m - 1) (by omega)
  rw [live_iff (takeL_inv hf (by omega)), live_iff hf]
  constructor
  · rintro ⟨s, h1, h2, rfl⟩
    by_cases e : s = x.sk (x.m - 1)
    · right; rw [e]; rfl
    · left
      have h2' : updN x.st (x.sk (x.m - 1)) 1 s = 1 := h2
      rw [updN_other _ e] at h2'
      exact ⟨s, h1, h2', rfl⟩
  · rintro (⟨s, h1, h2, rfl⟩ | rfl)
    · refine ⟨s, h1, ?_, rfl⟩
      show updN x.st (x.sk (x.m - 1)) 1 s = 1
      unfold updN
      split
      · rfl
      · exact h2
    · exact ⟨_, hl.1, updN_same _ _ _, rfl⟩
set_option maxRecDepth 100000 in
theorem give_st (x : FL) (s t : Nat) : (giveL x s).st t = (if t = s then (if x.gn s = x.most then 2 else 0) else x.st t) ∧ (t ≠ s → (giveL x s).gn t = x.gn t) ∧ (giveL x s).gn s = (if x.gn s = x.most then x.gn s else x.gn s + 1) := by
  unfold giveL
  by_cases h : x.gn s = x.most
  · rw [if_pos h, if_pos h, if_pos h]
    exact ⟨rfl, fun _ => rfl, rfl⟩
  · rw [if_neg h, if_neg h, if_neg h]
    exact ⟨rfl, fun e => updN_other _ e, updN_same _ _ _⟩
set_option maxRecDepth 100000 in
theorem live_give {x : FL} (hf : FInv x) {k : Int} (hk : liveL x k) (h : Int) : liveL (giveS x k) h ↔ liveL x h ∧ h ≠ k := by
  obtain ⟨s, hs, h1, rfl⟩ := (live_iff hf k).1 hk
  have hm := mkOK_of hf hs
  rw [live_iff (giveS_inv hf _), live_iff hf]
  unfold giveS
  rw [if_pos hk, slotOf_mk hm]
  have hn := (giveL_n x s).1
  constructor
  · rintro ⟨t, t1, t2, rfl⟩
    rw [hn] at t1
    rw [(give_st x s t).1] at t2
    by_cases e : t = s
    · rw [if_pos e] at t2
      split at t2 <;> omega
    · rw [if_neg e] at t2
      rw [(give_st x s t).2.1 e]
      exact ⟨⟨t, t1, t2, rfl⟩, fun e2 => e (hMk_inj (mkOK_of hf t1) hm e2).1⟩
  · rintro ⟨⟨t, t1, t2, rfl⟩, hne⟩
    have e : t ≠ s := fun e => hne (by rw [e])
    exact ⟨t, by rw [hn]; exact t1, by rw [(give_st x s t).1, if_neg e]; exact t2, by rw [(give_st x s t).2.1 e]⟩

theorem delI_keys : ∀ (it : List (Int × Nd)) (k : Int), (delI it k).map (·.1) = (it.map (·.1)).erase k
  | [], _ => rfl
  | p :: it, k => by
    unfold delI
    by_cases e : p.1 = k
    · rw [List.eraseP_cons_of_pos (by simpa using e), List.map_cons, e, List.erase_cons_head]
    · rw [List.eraseP_cons_of_neg (by simpa using e), List.map_cons, List.map_cons, List.erase_cons_tail (by simpa using e)]
      have := delI_keys it k
      unfold delI at this
      rw [this]
theorem lookI_del : ∀ (it : List (Int × Nd)) (k h : Int), h ≠ k → lookI (delI it k) h = lookI it h
  | [], _, _, _ => rfl
  | p :: it, k, h, hne => by
    have ih := lookI_del it k h hne
    unfold delI at ih ⊢
    by_cases e : p.1 = k
    · rw [List.eraseP_cons_of_pos (by simpa using e)]
      unfold lookI
      rw [List.find?_cons_of_neg (by intro e2; exact hne ((show p.1 = h by simpa using e2).symm.trans e))]
    · rw [List.eraseP_cons_of_neg (by simpa using e)]
      unfold lookI at ih ⊢
      by_cases e2 : p.1 = h
      · rw [List.find?_cons_of_pos (by simpa using e2), List.find?_cons_of_pos (by simpa using e2)]
      · rw [List.find?_cons_of_neg (by simpa using e2), List.find?_cons_of_neg (by simpa using e2)]
        exact ih
theorem lookI_snoc {it : List (Int × Nd)} {k : Int} {x : Nd} (hk : k ∉ it.map (·.1)) (h : Int) : lookI (it ++ [(k, x)]) h = if h = k then some x else lookI it h := by
  unfold lookI
  rw [List.find?_append]
  by_cases e : h = k
  · rw [if_pos e]
    have := lookI_none (it := it) (h := h) (by rw [e]; exact hk)
    unfold lookI at this
    rw [Option.map_eq_none_iff] at this
    rw [this, e]
    simp
  · rw [if_neg e]
    have : ([(k, x)] : List (Int × Nd)).find? (fun p => p.1 == h) = none := by
      rw [List.find?_cons_of_neg (by intro e2; exact e (show k = h by simpa using e2).symm)]
      rfl
    rw [this, Option.or_none]
theorem lookI_some {it : List (Int × Nd)} {h : Int} (hh : h ∈ it.map (·.1)) : ∃ nd, lookI it h = some nd ∧ (h, nd) ∈ it := by
  unfold lookI
  cases e : it.find? (fun p => p.1 == h) with
  | none =>
    obtain ⟨p, hp, rfl⟩ := List.mem_map.1 hh
    have := List.find?_eq_none.1 e p hp
    simp at this
  | some p =>
    have h1 := List.find?_some e
    have h2 := List.mem_of_find?_eq_some e
    have h3 : p.1 = h := by simpa using h1
    exact ⟨p.2, rfl, by rw [← h3]; exact h2⟩

theorem nodup_lenI : ∀ (l m : List Int), l.Nodup → l ⊆ m → l.length ≤ m.length
  | [], _, _, _ => Nat.zero_le _
  | a :: l, m, hn, hs => by
    have hn' := List.nodup_cons.1 hn
    have ha : a ∈ m := hs (List.mem_cons_self)
    have := nodup_lenI l (m.erase a) hn'.2 (fun y hy => (List.mem_erase_of_ne (fun e => hn'.1 (by rw [← e]; exact hy))).2 (hs (List.mem_cons_of_mem _ hy)))
    rw [List.length_erase_of_mem ha] at this
    have : 0 < m.length := List.length_pos_of_mem ha
    rw [List.length_cons]
    omega
/-- as many items as live handles -/
theorem AInv.len {A : AS} (h : AInv A) : A.it.length = (slotsTo A.x 1 A.x.n).length := by
  have e1 : A.keys.length = A.it.length := by simp [AS.keys]
  have hh : ((slotsTo A.x 1 A.x.n).map fun s => hMk s (A.x.gn s)).length = (slotsTo A.x 1 A.x.n).length := by simp
  have hmem : ∀ k, k ∈ (slotsTo A.x 1 A.x.n).map (fun s => hMk s (A.x.gn s)) ↔ k ∈ A.keys := by
    intro k
    rw [← h.liv k, live_iff h.f, List.mem_map]
    constructor
    · rintro ⟨s, hs, rfl⟩
      have := List.mem_filter.1 hs
      exact ⟨s, List.mem_range.1 this.1, by simpa using this.2, rfl⟩
    · rintro ⟨s, h1, h2, rfl⟩
      exact ⟨s, List.mem_filter.2 ⟨List.mem_range.2 h1, by simpa using h2⟩, rfl⟩
  have hnd : ((slotsTo A.x 1 A.x.n).map fun s => hMk s (A.x.gn s)).Nodup := by
    rw [List.nodup_iff_pairwise_ne, List.pairwise_map]
    refine (List.nodup_iff_pairwise_ne.1 (show (slotsTo A.x 1 A.x.n).Nodup from List.nodup_range.filter _)).imp_of_mem ?_
    intro a b ha hb hne e
    have ha := List.mem_range.1 (List.mem_filter.1 ha).1
    have hb := List.mem_range.1 (List.mem_filter.1 hb).1
    exact hne (hMk_inj (mkOK_of h.f ha) (mkOK_of h.f hb) e).1
  have k1 := nodup_lenI _ _ hnd (fun y hy => (hmem y).1 hy)
  have k2 := nodup_lenI _ _ h.nd (fun y hy => (hmem y).2 hy)
  omega

/-! ### counts -/
def tot : Nat → (Nat → Nat) → Nat
  | 0, _ => 0
  | k + 1, f => tot k f + f k
theorem tot_congr {f g : Nat → Nat} : ∀ n, (∀ t, t < n → f t = g t) → tot n f = tot n g
  | 0, _ => rfl
  | n + 1, h => by
    unfold tot
    rw [tot_congr n (fun t ht => h t (by omega)), h n (by omega)]
theorem tot_one {f g : Nat → Nat} {s : Nat} : ∀ n, s < n → (∀ t, t < n → t ≠ s → f t = g t) → tot n f + g s = tot n g + f s
  | 0, hs, _ => absurd hs (Nat.not_lt_zero _)
  | n + 1, hs, h => by
    unfold tot
    by_cases e : s = n
    · subst e
      have := tot_congr s (fun t ht => h t (by omega) (by omega))
      omega
    · have := tot_one n (by omega) (fun t ht hne => h t (by omega) hne)
      have := h n (by omega) (fun h => e h.symm)
      omega
theorem tot_add (f g : Nat → Nat) : ∀ n, tot n (fun t => f t + g t) = tot n f + tot n g
  | 0 => rfl
  | n + 1 => by
    show tot n (fun t => f t + g t) + (f n + g n) = (tot n f + f n) + (tot n g + g n)
    rw [tot_add f g n]
    omega
theorem tot_le {f g : Nat → Nat} : ∀ n, (∀ t, t < n → f t ≤ g t) → tot n f ≤ tot n g
  | 0, _ => Nat.le_refl _
  | n + 1, h => by
    show tot n f + f n ≤ tot n g + g n
    have := tot_le n (fun t ht => h t (by omega))
    have := h n (by omega)
    omega
theorem tot_const (k : Nat) : ∀ n, tot n (fun _ => k) = n * k
  | 0 => by simp [tot]
  | n + 1 => by
    show tot n (fun _ => k) + k = _
    rw [tot_const k n, Nat.add_mul, Nat.one_mul]
def isS (x : FL) (v t : Nat) : Nat := if x.st t = v then 1 else 0
theorem slots_tot (x : FL) (v : Nat) : ∀ n, (slotsTo x v n).length = tot n (isS x v)
  | 0 => rfl
  | n + 1 => by
    by_cases e : x.st n = v
    · rw [slotsTo_yes e, List.length_append, slots_tot x v n]
      show _ = tot n _ + isS x v n
      unfold isS
      rw [if_pos e]
      rfl
    · rw [slotsTo_no e, slots_tot x v n]
      show _ = tot n _ + isS x v n
      unfold isS
      rw [if_neg e]
      rfl
/-- how often a slot was taken, and given back -/
def cA (x : FL) (t : Nat) : Nat := x.gn t - 1 + (if x.st t = 0 then 0 else 1)
def cF (x : FL) (t : Nat) : Nat := x.gn t - 1 + (if x.st t = 2 then 1 else 0)
structure CInv (A : AS) : Prop where
  a : A.al = tot A.x.n (cA A.x)
  f : A.fr = tot A.x.n (cF A.x)
theorem newA_c (n g : Nat) : CInv (newA n g) where
  a := (tot_const 0 n).symm.trans (tot_congr n fun _ _ => rfl)
  f := (tot_const 0 n).symm.trans (tot_congr n fun _ _ => rfl)
theorem free_len {x : FL} (hf : FInv x) : x.m = (slotsTo x 0 x.n).length := by
  have hinj : ((List.range x.m).map x.sk).Nodup := by
    rw [List.nodup_iff_pairwise_ne, List.pairwise_map]
    refine (List.nodup_iff_pairwise_ne.1 (List.nodup_range (n := x.m))).imp_of_mem ?_
    intro a b ha hb hne e
    exact hne (hf.inj a b (List.mem_range.1 ha) (List.mem_range.1 hb) e)
  have k1 := nodup_len _ (slotsTo x 0 x.n) hinj (fun y hy => by
    obtain ⟨i, hi, rfl⟩ := List.mem_map.1 hy
    have := hf.lo i (List.mem_range.1 hi)
    exact List.mem_filter.2 ⟨List.mem_range.2 this.1, by simpa using this.2⟩)
  have k2 := nodup_len (slotsTo x 0 x.n) ((List.range x.m).map x.sk) (List.nodup_range.filter _) (fun y hy => by
    have := List.mem_filter.1 hy
    obtain ⟨i, hi, e⟩ := hf.all y (List.mem_range.1 this.1) (by simpa using this.2)
    exact List.mem_map.2 ⟨i, List.mem_range.2 hi, e⟩)
  simp at k1 k2
  omega
theorem parts_n {x : FL} (hf : FInv x) : x.m + (slotsTo x 1 x.n).length + (slotsTo x 2 x.n).length = x.n := by
  rw [free_len hf, slots_tot, slots_tot, slots_tot, ← tot_add, ← tot_add]
  refine (tot_congr (g := fun _ => 1) x.n fun t ht => ?_).trans ((tot_const 1 x.n).trans (Nat.mul_one _))
  have := hf.s2 t ht
  unfold isS
  rcases (show x.st t = 0 ∨ x.st t = 1 ∨ x.st t = 2 by omega) with e | e | e <;> rw [e] <;> rfl
/-- the counts: Live is Allocs minus Frees, Withdrawn at most Frees, Allocs at most n times most -/
theorem CInv.facts {A : AS} (hc : CInv A) (hf : FInv A.x) : A.al = A.fr + (slotsTo A.x 1 A.x.n).length ∧ (slotsTo A.x 2 A.x.n).length ≤ A.fr ∧ A.al ≤ A.x.n * A.x.most := by
  rw [slots_tot, slots_tot, hc.a, hc.f, ← tot_add, ← tot_const]
  refine ⟨tot_congr _ fun t ht => ?_, tot_le _ fun t ht => ?_, tot_le _ fun t ht => ?_⟩
  · have := hf.s2 t ht
    unfold cA cF isS
    rcases (show A.x.st t = 0 ∨ A.x.st t = 1 ∨ A.x.st t = 2 by omega) with e | e | e <;> rw [e] <;> simp
  · unfold cF isS
    split <;> omega
  · have := hf.gn t ht
    unfold cA
    split <;> omega

/-! ### the state behind a call -/
set_option maxRecDepth 100000 in
theorem takeR_two {A : AS} (hi : AInv A) {x : Nd} (hx : (allocR A x).2 = 0) :
    checkN x = 0 ∧ kidsE A x.h x.kids = 0 ∧ A.x.m ≠ 0 ∧ (allocR A x).1 = hMk (A.x.sk (A.x.m - 1)) (A.x.gn (A.x.sk (A.x.m - 1))) ∧ allocS A x = { A with x := takeL A.x, it := A.it ++ [((allocR A x).1, x)], al := A.al + 1 } := by
  have hS : allocS A x = { A with x := takeL A.x, it := A.it ++ [((allocR A x).1, x)], al := A.al + 1 } := by
    unfold allocS
    exact if_neg (fun h => h hx)
  unfold allocR at hx
  by_cases c1 : checkN x ≠ 0
  · rw [if_pos c1] at hx; exact absurd hx c1
  · by_cases c2 : kidsE A x.h x.kids ≠ 0
    · rw [if_neg c1, if_pos c2] at hx; exact absurd hx c2
    · rw [if_neg c1, if_neg c2] at hx
      have c1 : checkN x = 0 := Decidable.not_not.1 c1
      have c2 : kidsE A x.h x.kids = 0 := Decidable.not_not.1 c2
      rcases take_two A.x hi.f with ⟨hm, ht, -⟩ | ⟨hm, ht, -, -⟩
      · rw [ht] at hx; cases hx
      · exact ⟨c1, c2, hm, by rw [allocR_take c1 c2, ht], hS⟩
theorem allocS_no {A : AS} {x : Nd} (hx : (allocR A x).2 ≠ 0) : allocS A x = A := if_pos hx
set_option maxRecDepth 100000 in
theorem allocR_no {A : AS} (hi : AInv A) {x : Nd} (hx : (allocR A x).2 ≠ 0) : (allocR A x).1 = 0 := by
  unfold allocR at hx ⊢
  split
  · rfl
  · split
    · rfl
    · rename_i c1 c2
      rw [if_neg c1, if_neg c2] at hx
      rcases take_two A.x hi.f with ⟨hm, ht, -⟩ | ⟨hm, ht, -, -⟩
      · rw [ht]
      · rw [ht] at hx; exact absurd rfl hx
set_option maxRecDepth 100000 in
theorem allocS_inv {A : AS} (hi : AInv A) (x : Nd) : AInv (allocS A x) := by
  by_cases hx : (allocR A x).2 = 0
  · obtain ⟨c1, c2, hm, e, hS⟩ := takeR_two hi hx
    rw [hS]
    have hfr := fresh_key hi hm
    rw [← e] at hfr
    refine { f := takeL_inv hi.f (by omega), nd := ?_, liv := fun h => ?_, ok := fun p hp => ?_ }
    · show ((A.it ++ [((allocR A x).1, x)]).map (·.1)).Nodup
      rw [List.map_append, List.nodup_append]
      refine ⟨hi.nd, by simp, fun a ha b hb e2 => ?_⟩
      have hb' : b = (allocR A x).1 := by simpa using hb
      rw [e2, hb'] at ha
      exact hfr ha
    · show liveL (takeL A.x) h ↔ h ∈ (A.it ++ [((allocR A x).1, x)]).map (·.1)
      rw [live_take hi.f hm, hi.liv, List.map_append, List.mem_append, ← e]
      simp [AS.keys]
    · rcases List.mem_append.1 hp with hp | hp
      · exact hi.ok p hp
      · rw [List.mem_singleton.1 hp]; exact c1
  · rw [allocS_no hx]; exact hi
set_option maxRecDepth 100000 in
theorem allocS_c {A : AS} (hi : AInv A) (hc : CInv A) (x : Nd) : CInv (allocS A x) := by
  by_cases hx : (allocR A x).2 = 0
  · obtain ⟨c1, c2, hm, e, hS⟩ := takeR_two hi hx
    rw [hS]
    have hl := hi.f.lo (A.x.m - 1) (by omega)
    refine ⟨?_, ?_⟩
    · show A.al + 1 = tot A.x.n (cA (takeL A.x))
      have := tot_one (f := cA (takeL A.x)) (g := cA A.x) A.x.n hl.1 (fun t _ hne => by
        unfold cA
        show A.x.gn t - 1 + (if updN A.x.st (A.x.sk (A.x.m - 1)) 1 t = 0 then 0 else 1) = _
        rw [updN_other _ hne])
      have k1 : cA (takeL A.x) (A.x.sk (A.x.m - 1)) = cA A.x (A.x.sk (A.x.m - 1)) + 1 := by
        unfold cA
        show A.x.gn _ - 1 + (if updN A.x.st (A.x.sk (A.x.m - 1)) 1 (A.x.sk (A.x.m - 1)) = 0 then 0 else 1) = _
        rw [updN_same, hl.2]
        simp
      have := hc.a
      omega
    · show A.fr = tot A.x.n (cF (takeL A.x))
      rw [hc.f]
      refine tot_congr _ fun t _ => ?_
      unfold cF
      show _ = A.x.gn t - 1 + (if updN A.x.st (A.x.sk (A.x.m - 1)) 1 t = 2 then 1 else 0)
      by_cases e : t = A.x.sk (A.x.m - 1)
      · rw [e, updN_same, hl.2]; simp
      · rw [updN_other _ e]
  · rw [allocS_no hx]; exact hc
def getE (A : AS) (h : Int) : Int := if liveL A.x h then 0 else 10
def getS (A : AS) (h : Int) : AS := if liveL A.x h then A else { A with st := A.st + 1 }
theorem getS_inv {A : AS} (hi : AInv A) (h : Int) : AInv (getS A h) := by
  unfold getS
  split
  · exact hi
  · exact ⟨hi.f, hi.nd, hi.liv, hi.ok⟩
theorem getS_c {A : AS} (hi : CInv A) (h : Int) : CInv (getS A h) := by
  unfold getS
  split
  · exact hi
  · exact ⟨hi.a, hi.f⟩
set_option maxRecDepth 100000 in
theorem freeS_inv {A : AS} (hi : AInv A) (h : Int) : AInv (freeS A h) := by
  unfold freeS
  split
  · rename_i hl
    have hk : (delI A.it h).map (·.1) = A.keys.erase h := delI_keys A.it h
    refine ⟨giveS_inv hi.f h, ?_, fun k => ?_, fun p hp => hi.ok p (List.mem_of_mem_eraseP hp)⟩
    · show ((delI A.it h).map (·.1)).Nodup
      rw [hk]
      exact hi.nd.erase h
    · show liveL (giveS A.x h) k ↔ k ∈ (delI A.it h).map (·.1)
      rw [hk, live_give hi.f hl, hi.liv, hi.nd.mem_erase_iff]
      exact ⟨fun h => ⟨h.2, h.1⟩, fun h => ⟨h.2, h.1⟩⟩
  · exact ⟨hi.f, hi.nd, hi.liv, hi.ok⟩
set_option maxRecDepth 100000 in
theorem freeS_c {A : AS} (hi : AInv A) (hc : CInv A) (h : Int) : CInv (freeS A h) := by
  unfold freeS
  split
  · rename_i hl
    obtain ⟨s, hs, h1, hK⟩ := (live_iff hi.f h).1 hl
    have hm := mkOK_of hi.f hs
    have hg := hi.f.gn s hs
    have e : giveS A.x h = giveL A.x s := by unfold giveS; rw [if_pos hl, hK, slotOf_mk hm]
    have hn := (giveL_n A.x s).1
    refine ⟨?_, ?_⟩
    · show A.al = tot (giveS A.x h).n (cA (giveS A.x h))
      rw [e, hn, hc.a]
      refine tot_congr _ fun t _ => ?_
      unfold cA
      by_cases et : t = s
      · rw [et, (give_st A.x s s).1, (give_st A.x s s).2.2, h1]
        by_cases eg : A.x.gn s = A.x.most
        · simp [eg]
        · simp [eg]; omega
      · rw [(give_st A.x s t).1, (give_st A.x s t).2.1 et, if_neg et]
    · show A.fr + 1 = tot (giveS A.x h).n (cF (giveS A.x h))
      rw [e, hn]
      have := tot_one (f := cF (giveL A.x s)) (g := cF A.x) A.x.n hs (fun t _ hne => by
        unfold cF
        rw [(give_st A.x s t).1, (give_st A.x s t).2.1 hne, if_neg hne])
      have k1 : cF (giveL A.x s) s = cF A.x s + 1 := by
        unfold cF
        rw [(give_st A.x s s).1, (give_st A.x s s).2.2, h1]
        by_cases eg : A.x.gn s = A.x.most
        · simp [eg]
        · simp [eg]; omega
      have := hc.f
      omega
  · exact ⟨hc.a, hc.f⟩
theorem nodeOf_live {A : AS} (hi : AInv A) {h : Int} (hd : liveL A.x h) : (h, nodeOf A h) ∈ A.it ∧ lookI A.it h = some (nodeOf A h) := by
  obtain ⟨nd, e, hm⟩ := lookI_some ((hi.liv h).1 hd)
  unfold nodeOf
  rw [e]
  exact ⟨hm, rfl⟩
theorem nodeOf_dead {A : AS} (hi : AInv A) {h : Int} (hd : ¬ liveL A.x h) : nodeOf A h = noN ∧ lookI A.it h = none := by
  have := lookI_none (it := A.it) (h := h) (fun hh => hd ((hi.liv h).2 hh))
  unfold nodeOf
  rw [this]
  exact ⟨rfl, rfl⟩

/-! ### the calls at any state -/
set_option maxRecDepth 100000 in
theorem getA_any (B : PB) (A : AS) (h : Int) (w : World) (ha : IsA w B A) (hi : AInv A) (hb : A.st + 1 ≤ 9223372036854775807) :
    Calls Try.prog 21 #[.pointer (some ⟨B.p, 0, none⟩), .int .u64 h] w fun e w' => ∃ v, e = .returned (.tuple #[v, .int .i64 (getE A h)]) ∧ OwnN w.heap.size w' v (nodeOf A h) ∧ IsA w' B (getS A h) ∧ KeepA B w w' := by
  unfold getE getS
  by_cases hd : liveL A.x h
  · rw [if_pos hd, if_pos hd]
    refine (getA_live B A h w ha hi hd).mono ?_
    rintro e w1 ⟨v, rfl, ho, hb⟩
    exact ⟨v, rfl, ho, ha.below hb, (KeepA.refl B w).below hb⟩
  · rw [if_neg hd, if_neg hd, (nodeOf_dead hi hd).1]
    refine (getA_dead B A h w ha hi hd hb).mono ?_
    rintro e w1 ⟨rfl, h1, h2⟩
    exact ⟨zN, rfl, ownN_none _ _, h1, h2⟩
set_option maxRecDepth 100000 in
theorem freeA_any (B : PB) (A : AS) (h : Int) (w : World) (h0 : 0 ≤ h) (h1 : h ≤ 18446744073709551615) (ha : IsA w B A) (hi : AInv A) (hs : A.st + 1 ≤ 9223372036854775807) (hf : A.fr + 1 ≤ 9223372036854775807) :
    Calls Try.prog 28 #[.pointer (some ⟨B.p, 0, none⟩), .int .u64 h] w fun e w' => e = .returned (.int .i64 (getE A h)) ∧ IsA w' B (freeS A h) ∧ KeepA B w w' := by
  unfold getE freeS
  by_cases hd : liveL A.x h
  · rw [if_pos hd, if_pos hd]
    exact freeA_live B A h w h0 h1 ha hi hd hf
  · rw [if_neg hd, if_neg hd]
    exact freeA_dead B A h w h0 h1 ha hd hs
set_option maxRecDepth 100000 in
theorem allocA_any (B : PB) (A : AS) (x : Nd) (ao : Option Addr) (n c : Nat) (w : World) (hk : IsKs w ao n x.kids) (hno : ao = none → c = 0) (hsep : ∀ b o, ao = some ⟨b, o, none⟩ → 0 < n → ¬ B.own b) (ha : IsA w B A) (hi : AInv A) (hal : A.al + 1 ≤ 9223372036854775807) :
    Calls Try.prog 13 #[.pointer (some ⟨B.p, 0, none⟩), aggN x.h x.text ao n c] w fun e w' => e = .returned (.tuple #[.int .u64 (allocR A x).1, .int .i64 (allocR A x).2]) ∧ IsA w' B (allocS A x) ∧ KeepA B w w' := by
  by_cases hc : checkN x = 0
  · exact allocA_ok B A x ao n c w hk hno hsep hc ha hi hal
  · have e : allocR A x = (0, checkN x) := if_pos hc
    rw [allocS_no (by rw [e]; exact hc), e]
    refine (allocA_check B x ao n c w hk hc).mono ?_
    rintro e w1 ⟨rfl, hb⟩
    exact ⟨rfl, ha.below hb, (KeepA.refl B w).below hb⟩
end Go.Proofs.Ytfgkbnnojogjpaa
