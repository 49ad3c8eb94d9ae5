/- A region that draws its order: a specification for the value of each operation, which outlives new memory, serves every order. -/
import Derived.Test.YtdfkbahlngijcaaDoorLibB
namespace Go.Proofs.YtdfkbahlngijcaaDoor
open Go.RowKit

/-- what is said of a value in a world is still so when new memory has been made -/
def Stab (R : Value → World → Prop) : Prop := ∀ v w w', R v w → Below w.heap.size w w' → R v w'

theorem Stab_eq (c : Value) : Stab (fun v _ => v = c) := fun _ _ _ h _ => h
theorem Stab_any : Stab (fun _ _ => True) := fun _ _ _ _ _ => trivial

/-- the operation 'o', carried out in 'w', has left its value, and at most new memory -/
def Goes (a : Act) (o : Oper) (w : World) (R : Value → World → Prop) : Exit → Act → World → Prop :=
  fun ex a' w' => ex = .normal ∧ ∃ v, a' = a.put o.dst v ∧ Below w.heap.size w w' ∧ R v w'

/-- the frame in which every operation of the list has left the value that 'vs' gives it -/
def fill (vs : Nat → Value) : List Oper → Nat → Act → Act
  | [], _, a => a
  | o :: l, k, a => fill vs l (k + 1) (a.put o.dst (vs k))

/-- what is asked of operation number i -/
def OpOK (P : Program) (ops : Array Oper) (F : (Nat → Value) → Act) (B : World) (o : Oper) (S : Nat → Value → World → Prop) (R : Value → World → Prop) : Prop :=
  ∀ (vs : Nat → Value) (w : World), Below B.heap.size B w → (∀ e ∈ o.after, Region.binds .any e = true → S e.on (vs e.on) w) →
    wpList P ops (Goes (F vs) o w R) [o] (F vs) w

def OpsOK (P : Program) (ops : Array Oper) (F : (Nat → Value) → Act) (B : World) (Fin : (Nat → Value → World → Prop) → Prop) : List Oper → Nat → (Nat → Value → World → Prop) → Prop
  | [], _, S => Fin S
  | o :: l, i, S => ∃ R, Stab R ∧ OpOK P ops F B o S R ∧ OpsOK P ops F B Fin l (i + 1) (fun k => if k = i then R else S k)

theorem OpsOK.step {P : Program} {ops : Array Oper} {F : (Nat → Value) → Act} {B : World} {Fin : (Nat → Value → World → Prop) → Prop} {l : List Oper} {i : Nat} {o : Oper} {S : Nat → Value → World → Prop}
    (R : Value → World → Prop) (hst : Stab R) (hop : OpOK P ops F B o S R) (h : OpsOK P ops F B Fin l (i + 1) (fun k => if k = i then R else S k)) : OpsOK P ops F B Fin (o :: l) i S :=
  ⟨R, hst, hop, h⟩

theorem OpsOK.done {P : Program} {ops : Array Oper} {F : (Nat → Value) → Act} {B : World} {Fin : (Nat → Value → World → Prop) → Prop} {i : Nat} {S : Nat → Value → World → Prop} (h : Fin S) : OpsOK P ops F B Fin [] i S := h

/-- the operation leaves one value, whatever has been made by then -/
theorem OpsOK.eq {P : Program} {ops : Array Oper} {F : (Nat → Value) → Act} {B : World} {Fin : (Nat → Value → World → Prop) → Prop} {l : List Oper} {i : Nat} {o : Oper} {S : Nat → Value → World → Prop} {c : Value}
    (hop : OpOK P ops F B o S (fun v _ => v = c)) (h : OpsOK P ops F B Fin l (i + 1) (fun k => if k = i then (fun v _ => v = c) else S k)) : OpsOK P ops F B Fin (o :: l) i S :=
  ⟨_, Stab_eq c, hop, h⟩

theorem OpOK.mono {P : Program} {ops : Array Oper} {F : (Nat → Value) → Act} {B : World} {o : Oper} {S S' : Nat → Value → World → Prop} {R : Value → World → Prop}
    (h : OpOK P ops F B o S R) (hs : ∀ k v w, S' k v w → S k v w) : OpOK P ops F B o S' R :=
  fun vs w hb hd => h vs w hb fun e he hbd => hs _ _ _ (hd e he hbd)

/-- the specifications of all operations -/
theorem OpsOK.all {P : Program} {ops : Array Oper} {F : (Nat → Value) → Act} {B : World} {Fin : (Nat → Value → World → Prop) → Prop} : ∀ (l : List Oper) (i : Nat) (S : Nat → Value → World → Prop),
    (∀ k, k < i → Stab (S k)) → (∀ k, i ≤ k → S k = fun _ _ => True) → OpsOK P ops F B Fin l i S →
    ∃ S' : Nat → Value → World → Prop, (∀ k, k < i → S' k = S k) ∧ (∀ k, Stab (S' k)) ∧ (∀ j o, l[j]? = some o → OpOK P ops F B o S' (S' (i + j))) ∧ Fin S'
  | [], i, S, hst, hz, h => ⟨S, fun _ _ => rfl, fun k => by
      rcases Nat.lt_or_ge k i with hk | hk
      · exact hst k hk
      · rw [hz k hk]; exact Stab_any, fun j o hj => by simp at hj, h⟩
  | o :: l, i, S, hst, hz, h => by
    obtain ⟨R, hR, hop, hrest⟩ := h
    obtain ⟨S', h1, h2, h3, h4⟩ := OpsOK.all l (i + 1) (fun k => if k = i then R else S k)
      (fun k hk => by by_cases e : k = i <;> simp only [e, if_true, if_false]; exact hR; exact hst k (by omega))
      (fun k hk => by rw [if_neg (by omega)]; exact hz k (by omega)) hrest
    have hi : S' i = R := by rw [h1 i (by omega), if_pos rfl]
    refine ⟨S', fun k hk => by rw [h1 k (by omega), if_neg (by omega)], h2, ?_, h4⟩
    intro j oj hj
    cases j with
    | zero =>
      simp at hj
      subst hj
      show OpOK P ops F B o S' (S' i)
      rw [hi]
      refine hop.mono fun k v w hk => ?_
      rcases Nat.lt_or_ge k i with hlt | hge
      · rw [h1 k (by omega), if_neg (by omega)] at hk; exact hk
      · rw [hz k hge]; trivial
    | succ j =>
      have := h3 j oj (by simpa using hj)
      rw [show i + (j + 1) = i + 1 + j from by omega]
      exact this

/-! ### The frames on the way -/
def dstOf (ops : List Oper) (k : Nat) : Option Tmp := (ops[k]?).bind (·.dst)

theorem fill_defers (vs : Nat → Value) : ∀ (l : List Oper) (k : Nat) (a : Act), (fill vs l k a).defers = a.defers
  | [], _, _ => rfl
  | o :: l, k, a => by
    show (fill vs l (k + 1) (a.put o.dst (vs k))).defers = a.defers
    rw [fill_defers vs l (k + 1)]
    cases o.dst <;> rfl
theorem put_size (a : Act) (d : Option Tmp) (v : Value) : (a.put d v).tmps.size = a.tmps.size := by
  cases d <;> simp [Act.put]
theorem fill_size (vs : Nat → Value) : ∀ (l : List Oper) (k : Nat) (a : Act), (fill vs l k a).tmps.size = a.tmps.size
  | [], _, _ => rfl
  | o :: l, k, a => by
    show (fill vs l (k + 1) (a.put o.dst (vs k))).tmps.size = a.tmps.size
    rw [fill_size vs l (k + 1), put_size]
theorem put_get_other (a : Act) (d : Option Tmp) (v : Value) (t : Nat) (h : d ≠ some t) : (a.put d v).tmps[t]? = a.tmps[t]? := by
  cases d with
  | none => rfl
  | some d =>
    simp only [Act.put, Array.getElem?_setIfInBounds]
    rw [if_neg (fun e => h (by rw [e]))]
theorem put_get_same (a : Act) (d : Nat) (v : Value) (h : d < a.tmps.size) : (a.put (some d) v).tmps[d]? = some v := by
  simp [Act.put, h]
/-- a slot that no operation writes -/
theorem fill_other (vs : Nat → Value) (t : Nat) : ∀ (l : List Oper) (k : Nat) (a : Act), (∀ o ∈ l, o.dst ≠ some t) → (fill vs l k a).tmps[t]? = a.tmps[t]?
  | [], _, _, _ => rfl
  | o :: l, k, a, h => by
    show (fill vs l (k + 1) (a.put o.dst (vs k))).tmps[t]? = a.tmps[t]?
    rw [fill_other vs t l (k + 1) _ (fun o' ho => h o' (List.mem_cons_of_mem _ ho)), put_get_other _ _ _ _ (h o (List.mem_cons_self))]
/-- a slot that one operation writes -/
theorem fill_at (vs : Nat → Value) (t : Nat) : ∀ (l : List Oper) (k j : Nat) (a : Act), (l.filterMap (·.dst)).Nodup → (∃ o, l[j]? = some o ∧ o.dst = some t) → t < a.tmps.size → (fill vs l k a).tmps[t]? = some (vs (k + j))
  | [], _, _, _, _, h, _ => by obtain ⟨o, h, _⟩ := h; simp at h
  | o :: l, k, j, a, hnd, h, hs => by
    show (fill vs l (k + 1) (a.put o.dst (vs k))).tmps[t]? = some (vs (k + j))
    obtain ⟨oj, hj, hd⟩ := h
    cases j with
    | zero =>
      simp at hj
      subst hj
      rw [fill_other vs t l (k + 1) _ ?_, hd, put_get_same _ _ _ hs]; rfl
      intro o' ho' e
      rw [List.filterMap_cons_some hd] at hnd
      exact (List.nodup_cons.1 hnd).1 (List.mem_filterMap.2 ⟨o', ho', e⟩)
    | succ j =>
      have hnd' : (l.filterMap (·.dst)).Nodup := by
        cases he : o.dst with
        | none => rwa [List.filterMap_cons_none he] at hnd
        | some d => rw [List.filterMap_cons_some he] at hnd; exact (List.nodup_cons.1 hnd).2
      rw [fill_at vs t l (k + 1) j _ hnd' ⟨oj, by simpa using hj, hd⟩ (by rw [put_size]; exact hs), show k + 1 + j = k + (j + 1) from by omega]

theorem act_ext {a b : Act} (h1 : a.defers = b.defers) (h2 : a.tmps.size = b.tmps.size) (h3 : ∀ t, t < a.tmps.size → a.tmps[t]? = b.tmps[t]?) : a = b := by
  have ht : a.tmps = b.tmps := by
    refine Array.ext_getElem? fun t => ?_
    by_cases h : t < a.tmps.size
    · exact h3 t h
    · rw [Array.getElem?_eq_none (by omega), Array.getElem?_eq_none (by omega)]
  cases a; cases b
  simp only at h1 ht
  rw [h1, ht]

theorem fill_put (vs : Nat → Value) (l : List Oper) (a : Act) (i : Nat) (o : Oper) (v : Value) (hnd : (l.filterMap (·.dst)).Nodup) (hi : l[i]? = some o) :
    (fill vs l 0 a).put o.dst v = fill (fun k => if k = i then v else vs k) l 0 a := by
  refine act_ext ?_ ?_ ?_
  · rw [fill_defers]
    cases o.dst <;> simp [Act.put, fill_defers]
  · rw [put_size, fill_size, fill_size]
  · intro t ht
    rw [put_size, fill_size] at ht
    by_cases hw : ∃ (j : Nat) (oj : Oper), l[j]? = some oj ∧ oj.dst = some t
    · obtain ⟨j, oj, hj, hd⟩ := hw
      rw [fill_at (fun k => if k = i then v else vs k) t l 0 j a hnd ⟨oj, hj, hd⟩ ht, Nat.zero_add]
      by_cases e : j = i
      · subst e
        rw [hi] at hj
        cases hj
        rw [hd, put_get_same _ _ _ (by rw [fill_size]; exact ht), if_pos rfl]
      · rw [put_get_other, fill_at vs t l 0 j a hnd ⟨oj, hj, hd⟩ ht, if_neg e, Nat.zero_add]
        intro h
        refine e ?_
        have h1 := fill_at (fun k => .int .i64 k) t l 0 j ⟨Array.replicate (t + 1) undef, []⟩ hnd ⟨oj, hj, hd⟩ (by simp)
        have h2 := fill_at (fun k => .int .i64 k) t l 0 i ⟨Array.replicate (t + 1) undef, []⟩ hnd ⟨o, hi, h⟩ (by simp)
        rw [h1] at h2
        simp at h2
        omega
    · have hn : ∀ o ∈ l, o.dst ≠ some t := fun o' ho' e => by
        obtain ⟨j, hj, rfl⟩ := List.getElem_of_mem ho'
        exact hw ⟨j, _, List.getElem?_eq_getElem hj, e⟩
      rw [put_get_other _ _ _ _ (hn o (List.mem_of_getElem? hi)), fill_other vs t l 0 a hn, fill_other _ t l 0 a hn]

theorem fill_same : ∀ (l : List Oper) (k : Nat) (vs : Nat → Value) (a : Act), (∀ j o t, l[j]? = some o → o.dst = some t → vs (k + j) = a.tmps.getD t undef) → fill vs l k a = a
  | [], _, _, _, _ => rfl
  | o :: l, k, vs, a, h => by
    show fill vs l (k + 1) (a.put o.dst (vs k)) = a
    have e : a.put o.dst (vs k) = a := by
      cases hd : o.dst with
      | none => rfl
      | some t =>
        have := h 0 o t (by simp) hd
        rw [Nat.add_zero] at this
        rw [this]
        refine act_ext rfl (by rw [put_size]) fun u hu => ?_
        rw [put_size] at hu
        by_cases e : t = u
        · subst e
          rw [put_get_same _ _ _ hu]
          simp [hu]
        · rw [put_get_other _ _ _ _ (by simpa using e)]
    rw [e]
    exact fill_same l (k + 1) vs a fun j o' t hj hd => by
      have := h (j + 1) o' t (by simpa using hj) hd
      rw [show k + (j + 1) = k + 1 + j from by omega] at this
      exact this

theorem upon_goes {P : Program} {o : Oper} {a : Act} {K K' : Act → World → Prop} {Q Q' : Exit → Act → World → Prop} {r : Result Next}
    (hK : ∀ a w, K a w → K' a w) (hQ : ∀ e a w, e ≠ .normal → ¬ Q e a w) (h : o.upon P a K Q r) : o.upon P a K' Q' r := by
  cases r with
  | ok n w =>
    cases n with
    | value v => exact hK _ _ h
    | skip => exact hK _ _ h
    | defer d => exact hK _ _ h
    | enter f args =>
      refine Calls.mono h fun e w' he => ?_
      cases e with
      | returned v => exact hK _ _ he
      | panicked c => exact absurd he (hQ _ _ _ (by simp))
      | outgrown => obtain ⟨a', w'', hh⟩ := he; exact absurd hh (hQ _ _ _ (by simp))
    | row r args => exact Rows.mono h fun v w' he => hK _ _ he
    | _ => exact (h : False).elim
  | halt x w =>
    cases x with
    | panic v => exact absurd h (hQ _ _ _ (by simp))
    | _ => exact (h : False).elim

/-- every edge leads back -/
def backB (md : Region.Mode) (l : List Oper) : Bool := (List.range l.length).all fun k => match l[k]? with | some o => o.after.toList.all fun e => !Region.binds md e || decide (e.on < k) | none => true

def left (n : Nat) (listed : Array Bool) : Nat := (List.range n).countP fun k => !(listed.getD k true)

theorem countP_lt {α : Type} {p q : α → Bool} : ∀ {l : List α} {x : α}, x ∈ l → (∀ y, p y = true → q y = true) → p x = false → q x = true → l.countP p < l.countP q
  | y :: l, x, hx, h, hp, hq => by
    have hle : l.countP p ≤ l.countP q := List.countP_mono_left fun z _ hz => h z hz
    simp only [List.countP_cons]
    rcases List.mem_cons.1 hx with e | e
    · subst e
      rw [hp, hq]; simp; omega
    · have := countP_lt e h hp hq
      by_cases hy : p y = true
      · rw [if_pos hy, if_pos (h y hy)]; omega
      · rw [if_neg hy]; omega

theorem left_lt {n : Nat} {listed : Array Bool} {i : Nat} (hn : listed.size = n) (hi : i < n) (hl : listed.getD i true = false) : left n (listed.setIfInBounds i true) < left n listed := by
  unfold left
  refine countP_lt (x := i) (List.mem_range.2 hi) ?_ ?_ ?_
  · intro k hk
    by_cases e : i = k
    · subst e; rw [hl]; rfl
    · rw [getD_set_ne true e] at hk; exact hk
  · simp [hn ▸ hi]
  · rw [hl]; rfl

theorem wpAny_of_specs {P : Program} {l : List Oper} {Q : Exit → Act → World → Prop} {a0 : Act} {B : World} {S : Nat → Value → World → Prop}
    (hnd : (l.filterMap (·.dst)).Nodup) (hback : backB .any l = true) (hst : ∀ k, Stab (S k))
    (hop : ∀ j o, l[j]? = some o → OpOK P l.toArray (fun vs => fill vs l 0 a0) B o S (S j))
    (hfin : ∀ vs w, Below B.heap.size B w → (∀ k, k < l.length → S k (vs k) w) → Q .normal (fill vs l 0 a0) w) :
    ∀ (fuel : Nat) (listed : Array Bool) (vs : Nat → Value) (w : World), listed.size = l.length → left l.length listed ≤ fuel → Below B.heap.size B w →
      (∀ k, k < l.length → listed.getD k true = true → S k (vs k) w) → wpAny P .any l.toArray Q fuel listed (fill vs l 0 a0) w := by
  have done : ∀ (listed : Array Bool) (vs : Nat → Value) (w : World), Below B.heap.size B w → (∀ k, k < l.length → listed.getD k true = true → S k (vs k) w) →
      (∀ k, k < l.length → listed.getD k true = true) → Q .normal (fill vs l 0 a0) w := fun listed vs w hb h hall => hfin vs w hb fun k hk => h k hk (hall k hk)
  have ready : ∀ (listed : Array Bool), Region.ready .any l.toArray listed = [] → ∀ k, k < l.length → listed.getD k true = true := by
    intro listed hr k
    induction k using Nat.strongRecOn with
    | ind k ih =>
      intro hk
      rcases hl : listed.getD k true with _ | _
      · exfalso
        have hm : k ∈ Region.ready .any l.toArray listed := by
          rw [mem_ready]
          refine ⟨hl, l[k], by simp [hk], fun e he hb => ?_⟩
          have hlt : e.on < k := by
            have := List.all_eq_true.1 hback k (List.mem_range.2 hk)
            rw [List.getElem?_eq_getElem hk] at this
            have := List.all_eq_true.1 this e (by simpa using he)
            rw [hb] at this
            simpa using this
          have h1 := ih e.on hlt (by omega)
          rcases Nat.lt_or_ge e.on listed.size with h | h
          · simp [h] at h1 ⊢; exact h1
          · exfalso
            have : listed.getD k true = true := by simp [show listed.size ≤ k by omega]
            rw [this] at hl; cases hl
        rw [hr] at hm; cases hm
      · rfl
  intro fuel
  induction fuel with
  | zero =>
    intro listed vs w hsz hlf hb h
    have hall : ∀ k, k < l.length → listed.getD k true = true := fun k hk => by
      have h0 : left l.length listed = 0 := by omega
      unfold left at h0
      rw [List.countP_eq_zero] at h0
      simpa using h0 k (List.mem_range.2 hk)
    refine ⟨?_, done listed vs w hb h hall⟩
    rw [List.eq_nil_iff_forall_not_mem]
    intro j hj
    obtain ⟨h1, o, ho, _⟩ := mem_ready.1 hj
    have hjl : j < l.length := by
      rcases Nat.lt_or_ge j l.length with h | h
      · exact h
      · simp [h] at ho
    rw [hall j hjl] at h1; cases h1
  | succ fuel ih =>
    intro listed vs w hsz hlf hb h
    refine ⟨fun hr => done listed vs w hb h (ready listed hr), fun i hi => ?_⟩
    obtain ⟨h1, o, ho, hdep⟩ := mem_ready.1 hi
    have hil : i < l.length := by
      rcases Nat.lt_or_ge i l.length with h | h
      · exact h
      · simp [h] at ho
    have ho' : l[i]? = some o := by simpa using ho
    have hK : ∀ a' w', Goes (fill vs l 0 a0) o w (S i) .normal a' w' → wpAny P .any l.toArray Q fuel (listed.setIfInBounds i true) a' w' := by
      rintro a' w' ⟨_, v, rfl, hbw, hs⟩
      rw [fill_put vs l a0 i o v hnd ho']
      refine ih _ _ _ (by simpa using hsz) (by have := left_lt hsz hil h1; omega) (below_step hb hbw) fun k hk hlk => ?_
      by_cases e : k = i
      · subst e; rw [if_pos rfl]; exact hs
      · rw [if_neg e]
        rw [getD_set_ne true (fun x => e x.symm)] at hlk
        exact hst k _ _ _ (h k hk hlk) hbw
    have hw := hop i o ho' vs w hb fun e he hbd => by
      have h2 := hdep e he hbd
      have h3 : e.on < l.length := by
        rcases Nat.lt_or_ge e.on listed.size with hh | hh
        · omega
        · simp [hh] at h2
      refine h e.on h3 ?_
      simp [hsz ▸ h3] at h2 ⊢; exact h2
    unfold wpOp
    rw [ho]
    simp only [wpList] at hw
    simp only
    by_cases hwt : Region.wanted o (yielded l.toArray (fill vs l 0 a0).tmps) = true
    · rw [if_pos hwt] at hw ⊢
      rcases hw with hw | ⟨_, a', w', hh⟩
      · exact Or.inl (upon_goes (fun a' w' hh => hK a' w' hh) (fun e a' w' he hh => he hh.1) hw)
      · exact absurd hh.1 (by simp)
    · rw [if_neg hwt] at hw ⊢
      exact hK _ _ hw

/-- **A REGION THAT DRAWS ITS ORDER**, each operation by a specification of its own that outlives new memory. -/
theorem wp_region_specs {P : Program} {id : Nat} {Q : Exit → Act → World → Prop} {a : Act} {w : World} {l : List Oper}
    (hm : P.follows .mixedOrders = true) (hnd : (l.filterMap (·.dst)).Nodup) (hback : backB .any l = true)
    (h : OpsOK P l.toArray (fun vs => fill vs l 0 a) w (fun S => ∀ vs u, Below w.heap.size w u → (∀ k, k < l.length → S k (vs k) u) → Q .normal (fill vs l 0 a) u) l 0 (fun _ _ _ => True)) :
    (Code.region id l.toArray true).wp P Q a w := by
  obtain ⟨S, _, h2, h3, h4⟩ := OpsOK.all l 0 (fun _ _ _ => True) (fun k hk => by omega) (fun k _ => rfl) h
  refine wp_region_any hm ?_
  have e : fill (fun k => match (l[k]?).bind (·.dst) with | some t => a.tmps.getD t undef | none => undef) l 0 a = a := by
    refine fill_same l 0 _ a fun j o t hj hd => ?_
    simp only [Nat.zero_add, hj, Option.bind_some, hd]
  have := wpAny_of_specs (P := P) (Q := Q) (a0 := a) (B := w) hnd hback h2 (fun j o hj => by have := h3 j o hj; rwa [Nat.zero_add] at this) h4 l.length (Array.replicate l.length false)
    (fun k => match (l[k]?).bind (·.dst) with | some t => a.tmps.getD t undef | none => undef) { w with drawn := w.drawn + 1 } (by simp)
    (by unfold left; exact Nat.le_trans List.countP_le_length (by simp)) (Below.drew (Below.refl _ _)) (fun k hk hl => by simp [hk] at hl)
  rw [e] at this
  simpa using this

end Go.Proofs.YtdfkbahlngijcaaDoor
