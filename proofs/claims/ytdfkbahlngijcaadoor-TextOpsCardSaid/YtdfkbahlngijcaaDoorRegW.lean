/- A region that draws its order: specifications that outlive a relation of one's own between worlds, and may name the value of one leading operation; the region's last operations, which wait for all others, are walked as they stand. A region as it stands, each operation by a specification of its own (for long regions with guards). A region as it stands, whose operations only compute: each by a specification of its own. -/
import Derived.Test.YtdfkbahlngijcaaDoorRegB
import Derived.MapKept
import Derived.Test.YtdfkbahlngijcaaDoorReg
namespace Go.Proofs.YtdfkbahlngijcaaDoor
open Go.RowKit
set_option linter.unusedVariables false

/-- what is said of a value (beside the leading one) in a world is still so in a later world -/
def StabM (Rl : World → World → Prop) (R : Value → Value → World → Prop) : Prop := ∀ u v w w', R u v w → Rl w w' → R u v w'
def FreeM (R : Value → Value → World → Prop) : Prop := ∀ u u' v w, R u v w → R u' v w
theorem StabM_eq (Rl : World → World → Prop) (c : Value) : StabM Rl (fun _ v _ => v = c) := fun _ _ _ _ h _ => h
theorem FreeM_eq (c : Value) : FreeM (fun _ v _ => v = c) := fun _ _ _ _ h => h
def GoesM (Rl : World → World → Prop) (a : Act) (o : Oper) (w : World) (R : Value → World → Prop) : Exit → Act → World → Prop :=
  fun ex a' w' => ex = .normal ∧ ∃ v, a' = a.put o.dst v ∧ Rl w w' ∧ R v w'
def waitsM (o : Oper) (m : Nat) : Bool := o.after.toList.any fun e => Region.binds .any e && decide (e.on = m)
/-- what is asked of an operation -/
def OpOKM (P : Program) (ops : Array Oper) (F : (Nat → Value) → Act) (Rl : World → World → Prop) (B : World) (m : Nat) (o : Oper) (S : Nat → Value → Value → World → Prop) (R : Value → Value → World → Prop) : Prop :=
  ∀ (vs : Nat → Value) (w : World), Rl B w → (∀ e ∈ o.after, Region.binds .any e = true → S e.on (vs m) (vs e.on) w) →
    wpList P ops (GoesM Rl (F vs) o w (R (vs m))) [o] (F vs) w
def OpsOKM (P : Program) (ops : Array Oper) (F : (Nat → Value) → Act) (Rl : World → World → Prop) (B : World) (m : Nat) (Fin : (Nat → Value → Value → World → Prop) → Prop) : List Oper → Nat → (Nat → Value → Value → World → Prop) → Prop
  | [], _, S => Fin S
  | o :: l, i, S => ∃ R, StabM Rl R ∧ (FreeM R ∨ (waitsM o m = true ∧ i ≠ m)) ∧ OpOKM P ops F Rl B m o S R ∧ OpsOKM P ops F Rl B m Fin l (i + 1) (fun k => if k = i then R else S k)

section
variable {P : Program} {ops : Array Oper} {F : (Nat → Value) → Act} {Rl : World → World → Prop} {B : World} {m : Nat} {Fin : (Nat → Value → Value → World → Prop) → Prop} {l : List Oper} {i : Nat} {o : Oper} {S : Nat → Value → Value → World → Prop}
/-- a specification that does not name the leading value -/
theorem OpsOKM.step (R : Value → World → Prop) (hst : ∀ v w w', R v w → Rl w w' → R v w') (hop : OpOKM P ops F Rl B m o S (fun _ => R)) (h : OpsOKM P ops F Rl B m Fin l (i + 1) (fun k => if k = i then (fun _ => R) else S k)) : OpsOKM P ops F Rl B m Fin (o :: l) i S :=
  ⟨fun _ => R, fun _ => hst, .inl fun _ _ _ _ h => h, hop, h⟩
/-- a specification of the leading value -/
theorem OpsOKM.lead (R : Value → World → Prop) (hst : ∀ v w w', R v w → Rl w w' → R v w') (hw : waitsM o m = true) (hi : i ≠ m) (hop : OpOKM P ops F Rl B m o S (fun u _ w => R u w)) (h : OpsOKM P ops F Rl B m Fin l (i + 1) (fun k => if k = i then (fun u _ w => R u w) else S k)) : OpsOKM P ops F Rl B m Fin (o :: l) i S :=
  ⟨fun u _ w => R u w, fun u _ w w' hr hl => hst u w w' hr hl, .inr ⟨hw, hi⟩, hop, h⟩
theorem OpsOKM.eq {c : Value} (hop : OpOKM P ops F Rl B m o S (fun _ v _ => v = c)) (h : OpsOKM P ops F Rl B m Fin l (i + 1) (fun k => if k = i then (fun _ v _ => v = c) else S k)) : OpsOKM P ops F Rl B m Fin (o :: l) i S :=
  ⟨_, StabM_eq Rl c, .inl (FreeM_eq c), hop, h⟩
theorem OpsOKM.done (h : Fin S) : OpsOKM P ops F Rl B m Fin [] i S := h
theorem OpOKM.mono {R : Value → Value → World → Prop} {S' : Nat → Value → Value → World → Prop} (h : OpOKM P ops F Rl B m o S R) (hs : ∀ k u v w, S' k u v w → S k u v w) : OpOKM P ops F Rl B m o S' R :=
  fun vs w hb hd => h vs w hb fun e he hbd => hs _ _ _ _ (hd e he hbd)
end

theorem OpsOKM.all {P : Program} {ops : Array Oper} {F : (Nat → Value) → Act} {Rl : World → World → Prop} {B : World} {m : Nat} {Fin : (Nat → Value → Value → World → Prop) → Prop} : ∀ (l : List Oper) (i : Nat) (S : Nat → Value → Value → World → Prop),
    (∀ k, k < i → StabM Rl (S k)) → (∀ k, i ≤ k → S k = fun _ _ _ => True) → OpsOKM P ops F Rl B m Fin l i S →
    ∃ S' : Nat → Value → Value → World → Prop, (∀ k, k < i → S' k = S k) ∧ (∀ k, StabM Rl (S' k)) ∧ (∀ j o, l[j]? = some o → (FreeM (S' (i + j)) ∨ (waitsM o m = true ∧ i + j ≠ m)) ∧ OpOKM P ops F Rl B m o S' (S' (i + j))) ∧ Fin S'
  | [], i, S, hst, hz, h => ⟨S, fun _ _ => rfl, fun k => by
      rcases Nat.lt_or_ge k i with hk | hk
      · exact hst k hk
      · rw [hz k hk]; exact fun _ _ _ _ _ _ => trivial, fun j o hj => by simp at hj, h⟩
  | o :: l, i, S, hst, hz, h => by
    obtain ⟨R, hR, hf, hop, hrest⟩ := h
    obtain ⟨S', h1, h2, h3, h4⟩ := OpsOKM.all l (i + 1) (fun k => if k = i then R else S k)
      (fun k hk => by by_cases e : k = i <;> simp only [e, if_true, if_false]; exact hR; exact hst k (by omega))
      (fun k hk => by rw [if_neg (by omega)]; exact hz k (by omega)) hrest
    have hi : S' i = R := by rw [h1 i (by omega), if_pos rfl]
    refine ⟨S', fun k hk => by rw [h1 k (by omega), if_neg (by omega)], h2, ?_, h4⟩
    intro j oj hj
    cases j with
    | zero =>
      simp at hj
      subst hj
      show (FreeM (S' i) ∨ (waitsM o m = true ∧ i ≠ m)) ∧ OpOKM P ops F Rl B m o S' (S' i)
      rw [hi]
      refine ⟨hf, hop.mono fun k u v w hk => ?_⟩
      rcases Nat.lt_or_ge k i with hlt | hge
      · rw [h1 k (by omega), if_neg (by omega)] at hk; exact hk
      · rw [hz k hge]; trivial
    | succ j =>
      have := h3 j oj (by simpa using hj)
      rw [show i + (j + 1) = i + 1 + j from by omega]
      exact this

/-- the operations from n on wait for all that stand before them -/
def tailB (l : List Oper) (n : Nat) : Bool := (List.range l.length).all fun i => decide (i < n) || closedB l i (List.range i)

theorem ready_some {l : List Oper} {listed : Array Bool} (hback : backB .any l = true) (hsz : listed.size = l.length) {n : Nat} (hn : n < l.length) (hl : listed.getD n true = false) : ∃ i, i ∈ Region.ready .any l.toArray listed ∧ i ≤ n := by
  induction n using Nat.strongRecOn with
  | ind n ih =>
    by_cases h : ∃ k, k < n ∧ listed.getD k true = false
    · obtain ⟨k, hk, hf⟩ := h
      obtain ⟨i, hi, hle⟩ := ih k hk (by omega) hf
      exact ⟨i, hi, by omega⟩
    · refine ⟨n, ?_, Nat.le_refl _⟩
      rw [mem_ready]
      refine ⟨hl, l[n], by simp [hn], fun e he hb => ?_⟩
      have hlt : e.on < n := by
        have := List.all_eq_true.1 hback n (List.mem_range.2 hn)
        rw [List.getElem?_eq_getElem hn] at this
        have := List.all_eq_true.1 this e (by simpa using he)
        rw [hb] at this
        simpa using this
      have h1 : listed.getD e.on true = true := by
        rcases hx : listed.getD e.on true with _ | _
        · exact absurd ⟨e.on, hlt, hx⟩ h
        · rfl
      have h2 : e.on < listed.size := by omega
      simp [h2] at h1 ⊢
      exact h1

theorem ready_lt {l : List Oper} {listed : Array Bool} {i : Nat} (hi : i ∈ Region.ready .any l.toArray listed) : i < l.length := by
  obtain ⟨_, o, ho, _⟩ := mem_ready.1 hi
  rcases Nat.lt_or_ge i l.length with h | h
  · exact h
  · simp [h] at ho

theorem ready_after {l : List Oper} {listed : Array Bool} {i : Nat} (hsz : listed.size = l.length) (hi : i ∈ Region.ready .any l.toArray listed) : ∀ o, l[i]? = some o → ∀ e ∈ o.after, Region.binds .any e = true → e.on < listed.size ∧ listed.getD e.on true = true := by
  obtain ⟨_, o, ho, hd⟩ := mem_ready.1 hi
  have ho' : l[i]? = some o := by simpa using ho
  intro o2 h2 e he hb
  rw [ho'] at h2
  cases h2
  have h2 := hd e he hb
  have h3 : e.on < listed.size := by
    rcases Nat.lt_or_ge e.on listed.size with hh | hh
    · exact hh
    · simp [hh] at h2
  refine ⟨h3, ?_⟩
  simp [h3] at h2 ⊢
  exact h2

theorem wpAny_tail {P : Program} {l : List Oper} {Q : Exit → Act → World → Prop} {n0 : Nat} (hback : backB .any l = true) (htail : tailB l n0 = true) :
    ∀ (rest : List Oper) (n fuel : Nat) (listed : Array Bool) (a : Act) (w : World), n0 ≤ n → l.drop n = rest → listed.size = l.length → rest.length ≤ fuel → (∀ k, k < l.length → listed.getD k true = decide (k < n)) → DownC l listed →
      wpList P l.toArray Q rest a w → wpAny P .any l.toArray Q fuel listed a w := by
  intro rest
  induction rest with
  | nil =>
    intro n fuel listed a w h0 hd hsz hf hl hdn h
    have hn : l.length ≤ n := by
      rcases Nat.lt_or_ge n l.length with hh | hh
      · have := congrArg List.length hd; simp at this; omega
      · exact hh
    have hr : Region.ready .any l.toArray listed = [] := by
      rw [List.eq_nil_iff_forall_not_mem]
      intro j hj
      have hjl := ready_lt hj
      have := (mem_ready.1 hj).1
      rw [hl j hjl, decide_eq_true (by omega)] at this
      cases this
    cases fuel with
    | zero => exact ⟨hr, h⟩
    | succ f => exact ⟨fun _ => h, fun i hi => (by rw [hr] at hi; cases hi)⟩
  | cons o rest ih =>
    intro n fuel listed a w h0 hd hsz hf hl hdn h
    cases fuel with
    | zero => simp at hf
    | succ f =>
    have hn : n < l.length := by
      rcases Nat.lt_or_ge n l.length with hh | hh
      · exact hh
      · rw [List.drop_of_length_le hh] at hd; cases hd
    have ho : l[n]? = some o := by
      have := congrArg (fun x => x[0]?) hd
      simpa using this
    have hd2 : l.drop (n + 1) = rest := by
      have := congrArg List.tail hd
      simpa using this
    have hln : listed.getD n true = false := by rw [hl n hn]; simp
    obtain ⟨i, hi, hle⟩ := ready_some hback hsz hn hln
    refine ⟨fun hr => (by rw [hr] at hi; cases hi), fun j hj => ?_⟩
    have hjl := ready_lt hj
    have hjn : j = n := by
      have h1 := (mem_ready.1 hj).1
      rw [hl j hjl] at h1
      have h2 : n ≤ j := by simpa using h1
      have h3 := List.all_eq_true.1 htail j (List.mem_range.2 hjl)
      rw [decide_eq_false (by omega), Bool.false_or] at h3
      have h4 := closed_listed (i := j) (listed := listed) h3 hdn fun o' ho' e he hb => (ready_after hsz hj o' ho' e he hb).2
      rcases Nat.lt_or_ge n j with h5 | h5
      · have := h4 n (List.mem_range.2 h5)
        rw [hln] at this; cases this
      · omega
    subst hjn
    have hset : ∀ k, k < l.length → (listed.setIfInBounds j true).getD k true = decide (k < j + 1) := by
      intro k hk
      by_cases e : j = k
      · subst e; rw [getD_set_same]; simp
      · rw [getD_set_ne true e, hl k hk]
        rcases Nat.lt_or_ge k j with hh | hh
        · rw [decide_eq_true hh, decide_eq_true (by omega)]
        · rw [decide_eq_false (by omega), decide_eq_false (by omega)]
    have hK : ∀ a w, wpList P l.toArray Q rest a w → wpAny P .any l.toArray Q f (listed.setIfInBounds j true) a w := fun a' w' hh =>
      ih (j + 1) f _ a' w' (by omega) hd2 (by simpa using hsz) (by simpa using hf) hset (hdn.set fun o' ho' e he hb => (ready_after hsz hj o' ho' e he hb).2) hh
    unfold wpOp
    rw [show l.toArray[j]? = some o by simpa using ho]
    simp only [wpList] at h
    simp only
    by_cases hwt : Region.wanted o (yielded l.toArray a.tmps) = true
    · rw [if_pos hwt] at h ⊢
      exact h.imp (Oper.wp_mono hK) id
    · rw [if_neg hwt] at h ⊢
      exact hK _ _ h

theorem wpAny_of_specsM {P : Program} {l l1 : List Oper} {n1 : Nat} {Q : Exit → Act → World → Prop} {a0 : Act} {Rl : World → World → Prop} {B : World} {m : Nat} {S : Nat → Value → Value → World → Prop}
    (htr : ∀ a b c, Rl a b → Rl b c → Rl a c) (hl1 : l.take n1 = l1) (hn1 : n1 ≤ l.length) (hnd : (l1.filterMap (·.dst)).Nodup) (hback : backB .any l = true) (htail : tailB l n1 = true) (hst : ∀ k, StabM Rl (S k))
    (hop : ∀ j o, l1[j]? = some o → (FreeM (S j) ∨ (waitsM o m = true ∧ j ≠ m)) ∧ OpOKM P l.toArray (fun vs => fill vs l1 0 a0) Rl B m o S (S j))
    (hfin : ∀ vs w, Rl B w → (∀ k, k < n1 → S k (vs m) (vs k) w) → wpList P l.toArray Q (l.drop n1) (fill vs l1 0 a0) w) :
    ∀ (fuel : Nat) (listed : Array Bool) (vs : Nat → Value) (w : World), listed.size = l.length → left l.length listed ≤ fuel → Rl B w → (∀ k, n1 ≤ k → k < l.length → listed.getD k true = false) → DownC l listed →
      (∀ k, k < n1 → listed.getD k true = true → S k (vs m) (vs k) w) → wpAny P .any l.toArray Q fuel listed (fill vs l1 0 a0) w := by
  intro fuel
  induction fuel with
  | zero =>
    intro listed vs w hsz hlf hb hlo hdn h
    have hall : ∀ k, k < l.length → listed.getD k true = true := fun k hk => by
      have h0 : left l.length listed = 0 := by omega
      unfold left at h0
      rw [List.countP_eq_zero] at h0
      simpa using h0 k (List.mem_range.2 hk)
    have hn : l.length ≤ n1 := by
      rcases Nat.lt_or_ge n1 l.length with hh | hh
      · have := hlo n1 (Nat.le_refl _) hh
        rw [hall n1 hh] at this; cases this
      · exact hh
    refine wpAny_tail hback htail (l.drop n1) n1 0 listed _ w (Nat.le_refl _) rfl hsz (by rw [List.drop_of_length_le hn]; exact Nat.zero_le _) (fun k hk => by rw [hall k hk, decide_eq_true (by omega)]) hdn (hfin vs w hb fun k hk => h k hk (hall k (by omega)))
  | succ fuel ih =>
    intro listed vs w hsz hlf hb hlo hdn h
    by_cases hall : ∀ k, k < n1 → listed.getD k true = true
    · refine wpAny_tail hback htail (l.drop n1) n1 (fuel + 1) listed _ w (Nat.le_refl _) rfl hsz ?_ (fun k hk => ?_) hdn (hfin vs w hb fun k hk => h k hk (hall k hk))
      · refine Nat.le_trans ?_ hlf
        rw [List.length_drop]
        unfold left
        have e : List.range l.length = List.range n1 ++ List.range' n1 (l.length - n1) := by
          rw [List.range_eq_range', List.range_eq_range']
          have := @List.range'_append_1 0 n1 (l.length - n1)
          rw [Nat.zero_add, show n1 + (l.length - n1) = l.length by omega] at this
          exact this.symm
        rw [e, List.countP_append]
        refine Nat.le_trans ?_ (Nat.le_add_left _ _)
        rw [List.countP_eq_length.2]
        · simp
        · intro k hk
          have := List.mem_range'_1.1 hk
          rw [hlo k (by omega) (by omega)]; rfl
      · rcases Nat.lt_or_ge k n1 with hh | hh
        · rw [hall k hh, decide_eq_true hh]
        · rw [hlo k hh hk, decide_eq_false (by omega)]
    · obtain ⟨k0, hk0, hf0⟩ : ∃ k, k < n1 ∧ listed.getD k true = false := by
        apply Classical.byContradiction
        intro hx
        refine hall fun k hk => ?_
        rcases hv : listed.getD k true with _ | _
        · exact absurd ⟨k, hk, hv⟩ hx
        · rfl
      obtain ⟨i0, hi0, _⟩ := ready_some hback hsz (show k0 < l.length by omega) hf0
      refine ⟨fun hr => (by rw [hr] at hi0; cases hi0), fun i hi => ?_⟩
      have hil := ready_lt hi
      have hil1 : i < n1 := by
        rcases Nat.lt_or_ge i n1 with hh | hh
        · exact hh
        · exfalso
          have h3 := List.all_eq_true.1 htail i (List.mem_range.2 hil)
          rw [decide_eq_false (by omega), Bool.false_or] at h3
          have h4 := closed_listed (i := i) (listed := listed) h3 hdn fun o' ho' e he hb => (ready_after hsz hi o' ho' e he hb).2
          have := h4 k0 (List.mem_range.2 (by omega))
          rw [hf0] at this; cases this
      have h1 := (mem_ready.1 hi).1
      have ho' : l[i]? = some (l[i]) := List.getElem?_eq_getElem hil
      generalize l[i] = o at ho'
      have ho1 : l1[i]? = some o := by rw [← hl1, List.getElem?_take_of_lt hil1]; exact ho'
      obtain ⟨hfree, hopi⟩ := hop i o ho1
      have haft := ready_after hsz hi o ho'
      have hK : ∀ a' w', GoesM Rl (fill vs l1 0 a0) o w (S i (vs m)) .normal a' w' → wpAny P .any l.toArray Q fuel (listed.setIfInBounds i true) a' w' := by
        rintro a' w' ⟨_, v, rfl, hbw, hs⟩
        rw [fill_put vs l1 a0 i o v hnd ho1]
        refine ih _ _ _ (by simpa using hsz) (by have := left_lt hsz hil h1; omega) (htr _ _ _ hb hbw) (fun k hk hkl => by rw [getD_set_ne true (by omega)]; exact hlo k hk hkl) (hdn.set fun o'' h'' e he hbd => (ready_after hsz hi o'' h'' e he hbd).2) fun k hk hlk => ?_
        by_cases e : k = i
        · subst e
          rw [if_pos rfl]
          by_cases em : m = k
          · subst em
            rw [if_pos rfl]
            rcases hfree with hfr | ⟨_, hne⟩
            · exact hfr _ _ _ _ hs
            · exact absurd rfl hne
          · rw [if_neg em]; exact hs
        · rw [if_neg e]
          rw [getD_set_ne true (fun x => e x.symm)] at hlk
          have hold := hst k _ _ _ _ (h k hk hlk) hbw
          by_cases em : m = i
          · rw [if_pos em]
            have hokl : l[k]? = some (l[k]'(by omega)) := List.getElem?_eq_getElem _
            have hok1 : l1[k]? = some (l[k]'(by omega)) := by rw [← hl1, List.getElem?_take_of_lt hk]; exact hokl
            rcases (hop k _ hok1).1 with hfr | ⟨hw, _⟩
            · exact hfr _ _ _ _ hold
            · exfalso
              unfold waitsM at hw
              rw [List.any_eq_true] at hw
              obtain ⟨e', he', hh⟩ := hw
              simp at hh
              have := hdn k _ hokl hlk e' (by simpa using he') hh.1
              rw [hh.2, em, h1] at this
              cases this
          · rw [if_neg em]; exact hold
      have hw := hopi vs w hb fun e he hbd => by
        obtain ⟨h3, h4⟩ := haft e he hbd
        have h5 : e.on < i := by
          have := List.all_eq_true.1 hback i (List.mem_range.2 hil)
          rw [ho'] at this
          have := List.all_eq_true.1 this e (by simpa using he)
          rw [hbd] at this
          simpa using this
        exact h e.on (by omega) h4
      unfold wpOp
      rw [show l.toArray[i]? = some o by simpa using ho']
      simp only [wpList] at hw
      simp only
      by_cases hwt : Region.wanted o (yielded l.toArray (fill vs l1 0 a0).tmps) = true
      · rw [if_pos hwt] at hw ⊢
        rcases hw with hw | ⟨_, a', w', hh⟩
        · exact Or.inl (upon_goes (fun a' w' hh => hK a' w' hh) (fun e a' w' he hh => he hh.1) hw)
        · exact absurd hh.1 (by simp)
      · rw [if_neg hwt] at hw ⊢
        exact hK _ _ hw

/-- **A REGION THAT DRAWS ITS ORDER**: n operations by specifications that outlive the relation Rl (operation m leads); the others, which wait for all before them, as they stand. -/
theorem wp_region_rel {P : Program} {id : Nat} {Q : Exit → Act → World → Prop} {a : Act} {w : World} {l : List Oper} (Rl : World → World → Prop) (n m : Nat)
    (hdr : Rl w w.drew) (htr : ∀ a b c, Rl a b → Rl b c → Rl a c) (hm : P.follows .mixedOrders = true) (hn : n ≤ l.length) (hnd : ((l.take n).filterMap (·.dst)).Nodup) (hback : backB .any l = true) (htail : tailB l n = true)
    (h : OpsOKM P l.toArray (fun vs => fill vs (l.take n) 0 a) Rl w m (fun S => ∀ vs u, Rl w u → (∀ k, k < n → S k (vs m) (vs k) u) → wpList P l.toArray Q (l.drop n) (fill vs (l.take n) 0 a) u) (l.take n) 0 (fun _ _ _ _ => True)) :
    (Code.region id l.toArray true).wp P Q a w := by
  obtain ⟨S, _, h2, h3, h4⟩ := OpsOKM.all (l.take n) 0 (fun _ _ _ _ => True) (fun k hk => by omega) (fun k _ => rfl) h
  refine wp_region_any hm ?_
  have e : fill (fun k => match ((l.take n)[k]?).bind (·.dst) with | some t => a.tmps.getD t undef | none => undef) (l.take n) 0 a = a := by
    refine fill_same (l.take n) 0 _ a fun j o t hj hd => ?_
    simp only [Nat.zero_add, hj, Option.bind_some, hd]
  have := wpAny_of_specsM (P := P) (Q := Q) (a0 := a) (B := w) (n1 := n) htr rfl hn hnd hback htail h2 (fun j o hj => by have := h3 j o hj; rwa [Nat.zero_add] at this) h4 l.length (Array.replicate l.length false)
    (fun k => match ((l.take n)[k]?).bind (·.dst) with | some t => a.tmps.getD t undef | none => undef) w.drew (by simp)
    (by unfold left; exact Nat.le_trans List.countP_le_length (by simp)) hdr (fun k _ hk => by simp [hk]) (fun j o hj hl => by
      have hjl : j < l.length := by
        rcases Nat.lt_or_ge j l.length with hh | hh
        · exact hh
        · rw [List.getElem?_eq_none hh] at hj; cases hj
      simp [hjl] at hl) (fun k hk hl => by simp [show k < l.length by omega] at hl)
  rw [e] at this
  simpa using this
end Go.Proofs.YtdfkbahlngijcaaDoor

namespace Go.Proofs.YtdfkbahlngijcaaDoor
open Go.RowKit
set_option linter.unusedVariables false

theorem wpList_seq {P : Program} {l : List Oper} {Q : Exit → Act → World → Prop} {a0 : Act} {B : World} {S : Nat → Value → World → Prop}
    (hnd : (l.filterMap (·.dst)).Nodup) (hback : backB .any l = true) (hst : ∀ k, Stab (S k))
    (hop : ∀ j o, l[j]? = some o → OpOK P l.toArray (fun vs => fill vs l 0 a0) B o S (S j))
    (hfin : ∀ vs w, Below B.heap.size B w → (∀ k, k < l.length → S k (vs k) w) → Q .normal (fill vs l 0 a0) w) :
    ∀ (rest : List Oper) (i : Nat) (vs : Nat → Value) (w : World), l.drop i = rest → Below B.heap.size B w → (∀ k, k < i → k < l.length → S k (vs k) w) → wpList P l.toArray Q rest (fill vs l 0 a0) w := by
  intro rest
  induction rest with
  | nil =>
    intro i vs w hd hb h
    have hn : l.length ≤ i := by
      rcases Nat.lt_or_ge i l.length with hh | hh
      · have := congrArg List.length hd; simp at this; omega
      · exact hh
    exact hfin vs w hb fun k hk => h k (by omega) hk
  | cons o rest ih =>
    intro i vs w hd hb h
    have hn : i < l.length := by
      rcases Nat.lt_or_ge i l.length with hh | hh
      · exact hh
      · rw [List.drop_of_length_le hh] at hd; cases hd
    have ho : l[i]? = some o := by
      have := congrArg (fun x => x[0]?) hd
      simpa using this
    have hd2 : l.drop (i + 1) = rest := by
      have := congrArg List.tail hd
      simpa using this
    have hK : ∀ a' w', Goes (fill vs l 0 a0) o w (S i) .normal a' w' → wpList P l.toArray Q rest a' w' := by
      rintro a' w' ⟨_, v, rfl, hbw, hs⟩
      rw [fill_put vs l a0 i o v hnd ho]
      refine ih (i + 1) _ w' hd2 (below_step hb hbw) fun k hk hkl => ?_
      by_cases e : k = i
      · subst e; rw [if_pos rfl]; exact hs
      · rw [if_neg e]
        exact hst k _ _ _ (h k (by omega) hkl) hbw
    have hw := hop i o ho vs w hb fun e he hbd => by
      have h5 : e.on < i := by
        have := List.all_eq_true.1 hback i (List.mem_range.2 hn)
        rw [ho] at this
        have := List.all_eq_true.1 this e (by simpa using he)
        rw [hbd] at this
        simpa using this
      exact h e.on h5 (by omega)
    simp only [wpList] at hw ⊢
    by_cases hwt : Region.wanted o (yielded l.toArray (fill vs l 0 a0).tmps) = true
    · rw [if_pos hwt] at hw ⊢
      rcases hw with hw | ⟨_, a', w', hh⟩
      · exact Or.inl (upon_goes (fun a' w' hh => hK a' w' hh) (fun e a' w' he hh => he hh.1) hw)
      · exact absurd hh.1 (by simp)
    · rw [if_neg hwt] at hw ⊢
      exact hK _ _ hw
theorem wp_region_seq {P : Program} {id : Nat} {Q : Exit → Act → World → Prop} {a : Act} {w : World} {l : List Oper}
    (hnd : (l.filterMap (·.dst)).Nodup) (hback : backB .any l = true)
    (h : OpsOK P l.toArray (fun vs => fill vs l 0 a) w (fun S => ∀ vs u, Below w.heap.size w u → (∀ k, k < l.length → S k (vs k) u) → Q .normal (fill vs l 0 a) u) l 0 (fun _ _ _ => True)) :
    (Code.region id l.toArray false).wp P Q a w := by
  obtain ⟨S, _, h2, h3, h4⟩ := OpsOK.all l 0 (fun _ _ _ => True) (fun k hk => by omega) (fun k _ => rfl) h
  refine wp_region_lit ?_
  have e : fill (fun k => match (l[k]?).bind (·.dst) with | some t => a.tmps.getD t undef | none => undef) l 0 a = a := by
    refine fill_same l 0 _ a fun j o t hj hd => ?_
    simp only [Nat.zero_add, hj, Option.bind_some, hd]
  have := wpList_seq (P := P) (Q := Q) (a0 := a) (B := w) hnd hback h2 (fun j o hj => by have := h3 j o hj; rwa [Nat.zero_add] at this) h4 l 0 (fun k => match (l[k]?).bind (·.dst) with | some t => a.tmps.getD t undef | none => undef) w rfl (Below.refl _ _) (fun k hk => by omega)
  rw [e] at this
  exact this
/-- a guarded operation: what it leaves if it is carried out -/
theorem OpsOK.geq {P : Program} {ops : Array Oper} {F : (Nat → Value) → Act} {B : World} {Fin : (Nat → Value → World → Prop) → Prop} {l : List Oper} {i : Nat} {o : Oper} {S : Nat → Value → World → Prop} {c : Value} (g : Prop)
    (hop : OpOK P ops F B o S (fun v _ => g → v = c)) (h : OpsOK P ops F B Fin l (i + 1) (fun k => if k = i then (fun v _ => g → v = c) else S k)) : OpsOK P ops F B Fin (o :: l) i S :=
  ⟨_, fun _ _ _ h _ => h, hop, h⟩
theorem OpsOK.ceq {P : Program} {ops : Array Oper} {F : (Nat → Value) → Act} {B : World} {Fin : (Nat → Value → World → Prop) → Prop} {l : List Oper} {i : Nat} {o : Oper} {S : Nat → Value → World → Prop} (c : Value)
    (hop : OpOK P ops F B o S (fun v _ => v = c)) (h : OpsOK P ops F B Fin l (i + 1) (fun k => if k = i then (fun v _ => v = c) else S k)) : OpsOK P ops F B Fin (o :: l) i S :=
  ⟨_, Stab_eq c, hop, h⟩
end Go.Proofs.YtdfkbahlngijcaaDoor

namespace Go.Proofs.YtdfkbahlngijcaaDoor
open Go.RowKit
set_option linter.unusedVariables false

def Goes0 (a : Act) (o : Oper) (w : World) (R : Value → Prop) : Exit → Act → World → Prop :=
  fun ex a' w' => ex = .normal ∧ ∃ v, a' = a.put o.dst v ∧ w' = w ∧ R v
def OpOK0 (P : Program) (ops : Array Oper) (F : (Nat → Value) → Act) (w : World) (o : Oper) (S : Nat → Value → Prop) (R : Value → Prop) : Prop :=
  ∀ (vs : Nat → Value), (∀ e ∈ o.after, Region.binds .any e = true → S e.on (vs e.on)) → wpList P ops (Goes0 (F vs) o w R) [o] (F vs) w
def OpsOK0 (P : Program) (ops : Array Oper) (F : (Nat → Value) → Act) (w : World) (Fin : (Nat → Value → Prop) → Prop) : List Oper → Nat → (Nat → Value → Prop) → Prop
  | [], _, S => Fin S
  | o :: l, i, S => ∃ R, OpOK0 P ops F w o S R ∧ OpsOK0 P ops F w Fin l (i + 1) (fun k => if k = i then R else S k)
section
variable {P : Program} {ops : Array Oper} {F : (Nat → Value) → Act} {w : World} {Fin : (Nat → Value → Prop) → Prop} {l : List Oper} {i : Nat} {o : Oper} {S : Nat → Value → Prop}
theorem OpsOK0.eq {c : Value} (hop : OpOK0 P ops F w o S (fun v => v = c)) (h : OpsOK0 P ops F w Fin l (i + 1) (fun k => if k = i then (fun v => v = c) else S k)) : OpsOK0 P ops F w Fin (o :: l) i S := ⟨_, hop, h⟩
theorem OpsOK0.ceq (c : Value) (hop : OpOK0 P ops F w o S (fun v => v = c)) (h : OpsOK0 P ops F w Fin l (i + 1) (fun k => if k = i then (fun v => v = c) else S k)) : OpsOK0 P ops F w Fin (o :: l) i S := ⟨_, hop, h⟩
theorem OpsOK0.geq {c : Value} (g : Prop) (hop : OpOK0 P ops F w o S (fun v => g → v = c)) (h : OpsOK0 P ops F w Fin l (i + 1) (fun k => if k = i then (fun v => g → v = c) else S k)) : OpsOK0 P ops F w Fin (o :: l) i S := ⟨_, hop, h⟩
theorem OpsOK0.done (h : Fin S) : OpsOK0 P ops F w Fin [] i S := h
end
theorem OpsOK0.all {P : Program} {ops : Array Oper} {F : (Nat → Value) → Act} {w : World} {Fin : (Nat → Value → Prop) → Prop} : ∀ (l : List Oper) (i : Nat) (S : Nat → Value → Prop),
    (∀ k, i ≤ k → S k = fun _ => True) → OpsOK0 P ops F w Fin l i S →
    ∃ S' : Nat → Value → Prop, (∀ k, k < i → S' k = S k) ∧ (∀ j o, l[j]? = some o → OpOK0 P ops F w o S' (S' (i + j))) ∧ Fin S'
  | [], i, S, hz, h => ⟨S, fun _ _ => rfl, fun j o hj => by simp at hj, h⟩
  | o :: l, i, S, hz, h => by
    obtain ⟨R, hop, hrest⟩ := h
    obtain ⟨S', h1, h3, h4⟩ := OpsOK0.all l (i + 1) (fun k => if k = i then R else S k) (fun k hk => by rw [if_neg (by omega)]; exact hz k (by omega)) hrest
    have hi : S' i = R := by rw [h1 i (by omega), if_pos rfl]
    refine ⟨S', fun k hk => by rw [h1 k (by omega), if_neg (by omega)], ?_, h4⟩
    intro j oj hj
    cases j with
    | zero =>
      simp at hj
      subst hj
      show OpOK0 P ops F w o S' (S' i)
      rw [hi]
      refine fun vs hd => hop vs fun e he hb => ?_
      have := hd e he hb
      rcases Nat.lt_or_ge e.on i with hlt | hge
      · rw [h1 e.on (by omega), if_neg (by omega)] at this; exact this
      · rw [hz e.on hge]; trivial
    | succ j =>
      have := h3 j oj (by simpa using hj)
      rw [show i + (j + 1) = i + 1 + j from by omega]
      exact this
theorem wpList_seq0 {P : Program} {l : List Oper} {Q : Exit → Act → World → Prop} {a0 : Act} {w : World} {S : Nat → Value → Prop}
    (hnd : (l.filterMap (·.dst)).Nodup) (hback : backB .any l = true) (hop : ∀ j o, l[j]? = some o → OpOK0 P l.toArray (fun vs => fill vs l 0 a0) w o S (S j))
    (hfin : ∀ vs, (∀ k, k < l.length → S k (vs k)) → Q .normal (fill vs l 0 a0) w) :
    ∀ (rest : List Oper) (i : Nat) (vs : Nat → Value), l.drop i = rest → (∀ k, k < i → k < l.length → S k (vs k)) → wpList P l.toArray Q rest (fill vs l 0 a0) w := by
  intro rest
  induction rest with
  | nil =>
    intro i vs hd h
    have hn : l.length ≤ i := by
      rcases Nat.lt_or_ge i l.length with hh | hh
      · have := congrArg List.length hd; simp at this; omega
      · exact hh
    exact hfin vs fun k hk => h k (by omega) hk
  | cons o rest ih =>
    intro i vs hd h
    have hn : i < l.length := by
      rcases Nat.lt_or_ge i l.length with hh | hh
      · exact hh
      · rw [List.drop_of_length_le hh] at hd; cases hd
    have ho : l[i]? = some o := by
      have := congrArg (fun x => x[0]?) hd
      simpa using this
    have hd2 : l.drop (i + 1) = rest := by
      have := congrArg List.tail hd
      simpa using this
    have hK : ∀ a' w', Goes0 (fill vs l 0 a0) o w (S i) .normal a' w' → wpList P l.toArray Q rest a' w' := by
      rintro a' w' ⟨_, v, rfl, rfl, hs⟩
      rw [fill_put vs l a0 i o v hnd ho]
      refine ih (i + 1) _ hd2 fun k hk hkl => ?_
      by_cases e : k = i
      · subst e; rw [if_pos rfl]; exact hs
      · rw [if_neg e]
        exact h k (by omega) hkl
    have hw := hop i o ho vs fun e he hbd => by
      have h5 : e.on < i := by
        have := List.all_eq_true.1 hback i (List.mem_range.2 hn)
        rw [ho] at this
        have := List.all_eq_true.1 this e (by simpa using he)
        rw [hbd] at this
        simpa using this
      exact h e.on h5 (by omega)
    simp only [wpList] at hw ⊢
    by_cases hwt : Region.wanted o (yielded l.toArray (fill vs l 0 a0).tmps) = true
    · rw [if_pos hwt] at hw ⊢
      rcases hw with hw | ⟨_, a', w', hh⟩
      · exact Or.inl (upon_goes (fun a' w' hh => hK a' w' hh) (fun e a' w' he hh => he hh.1) hw)
      · exact absurd hh.1 (by simp)
    · rw [if_neg hwt] at hw ⊢
      exact hK _ _ hw
theorem wp_region_seq0 {P : Program} {id : Nat} {Q : Exit → Act → World → Prop} {a : Act} {w : World} {l : List Oper}
    (hnd : (l.filterMap (·.dst)).Nodup) (hback : backB .any l = true)
    (h : OpsOK0 P l.toArray (fun vs => fill vs l 0 a) w (fun S => ∀ vs, (∀ k, k < l.length → S k (vs k)) → Q .normal (fill vs l 0 a) w) l 0 (fun _ _ => True)) :
    (Code.region id l.toArray false).wp P Q a w := by
  obtain ⟨S, _, h3, h4⟩ := OpsOK0.all l 0 (fun _ _ => True) (fun k _ => rfl) h
  refine wp_region_lit ?_
  have e : fill (fun k => match (l[k]?).bind (·.dst) with | some t => a.tmps.getD t undef | none => undef) l 0 a = a := by
    refine fill_same l 0 _ a fun j o t hj hd => ?_
    simp only [Nat.zero_add, hj, Option.bind_some, hd]
  have := wpList_seq0 (P := P) (Q := Q) (a0 := a) (w := w) hnd hback (fun j o hj => by have := h3 j o hj; rwa [Nat.zero_add] at this) h4 l 0 (fun k => match (l[k]?).bind (·.dst) with | some t => a.tmps.getD t undef | none => undef) rfl (fun k hk => by omega)
  rw [e] at this
  exact this
end Go.Proofs.YtdfkbahlngijcaaDoor

