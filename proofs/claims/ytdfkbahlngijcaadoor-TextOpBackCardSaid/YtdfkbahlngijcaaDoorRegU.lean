/- A region that draws its order, whose last operation turns a slot that others read: what is not yet done has left its slot as it was. -/
import Derived.Test.YtdfkbahlngijcaaDoorRegB
namespace Go.Proofs.YtdfkbahlngijcaaDoor
open Go.RowKit

def initOf (l : List Oper) (a : Act) (k : Nat) : Value := match (l[k]?).bind (·.dst) with | some t => a.tmps.getD t undef | none => undef
/-- what waits for operation number i has not been done -/
def Undone (l : List Oper) (i : Nat) (init vs : Nat → Value) : Prop := ∀ k, dirB l k i = true → vs k = init k

def OpOKU (P : Program) (l : List Oper) (F : (Nat → Value) → Act) (B : World) (i : Nat) (o : Oper) (init : Nat → Value) (S : Nat → Value → World → Prop) (R : Value → World → Prop) : Prop :=
  ∀ (vs : Nat → Value) (w : World), Below B.heap.size B w → Undone l i init vs → (∀ e ∈ o.after, Region.binds .any e = true → S e.on (vs e.on) w) →
    wpList P l.toArray (Goes (F vs) o w R) [o] (F vs) w

def OpsOKU (P : Program) (ops : List Oper) (F : (Nat → Value) → Act) (B : World) (init : Nat → Value) (Fin : (Nat → Value → World → Prop) → Prop) : List Oper → Nat → (Nat → Value → World → Prop) → Prop
  | [], _, S => Fin S
  | o :: l, i, S => ∃ R, Stab R ∧ OpOKU P ops F B i o init S R ∧ OpsOKU P ops F B init Fin l (i + 1) (fun k => if k = i then R else S k)

section
variable {P : Program} {ops : List Oper} {F : (Nat → Value) → Act} {B : World} {init : Nat → Value} {Fin : (Nat → Value → World → Prop) → Prop} {l : List Oper} {i : Nat} {o : Oper} {S : Nat → Value → World → Prop}
theorem OpsOKU.step (R : Value → World → Prop) (hst : Stab R) (hop : OpOKU P ops F B i o init S R) (h : OpsOKU P ops F B init Fin l (i + 1) (fun k => if k = i then R else S k)) : OpsOKU P ops F B init Fin (o :: l) i S :=
  ⟨R, hst, hop, h⟩
theorem OpsOKU.done (h : Fin S) : OpsOKU P ops F B init Fin [] i S := h
theorem OpsOKU.eq {c : Value} (hop : OpOKU P ops F B i o init S (fun v _ => v = c)) (h : OpsOKU P ops F B init Fin l (i + 1) (fun k => if k = i then (fun v _ => v = c) else S k)) : OpsOKU P ops F B init Fin (o :: l) i S :=
  ⟨_, Stab_eq c, hop, h⟩
theorem OpOKU.mono {S' : Nat → Value → World → Prop} {R : Value → World → Prop} (h : OpOKU P ops F B i o init S R) (hs : ∀ k v w, S' k v w → S k v w) : OpOKU P ops F B i o init S' R :=
  fun vs w hb hu hd => h vs w hb hu fun e he hbd => hs _ _ _ (hd e he hbd)
end

theorem OpsOKU.all {P : Program} {F : (Nat → Value) → Act} {B : World} {init : Nat → Value} {Fin : (Nat → Value → World → Prop) → Prop} : ∀ (ops l : List Oper) (i : Nat) (S : Nat → Value → World → Prop),
    (∀ k, k < i → Stab (S k)) → (∀ k, i ≤ k → S k = fun _ _ => True) → OpsOKU P ops F B init Fin l i S →
    ∃ S' : Nat → Value → World → Prop, (∀ k, k < i → S' k = S k) ∧ (∀ k, Stab (S' k)) ∧ (∀ j o, l[j]? = some o → OpOKU P ops F B (i + j) o init S' (S' (i + j))) ∧ Fin S'
  | _, [], i, S, hst, hz, h => ⟨S, fun _ _ => rfl, fun k => by
      rcases Nat.lt_or_ge k i with hk | hk
      · exact hst k hk
      · rw [hz k hk]; exact Stab_any, fun j o hj => by simp at hj, h⟩
  | ops, o :: l, i, S, hst, hz, h => by
    obtain ⟨R, hR, hop, hrest⟩ := h
    obtain ⟨S', h1, h2, h3, h4⟩ := OpsOKU.all ops l (i + 1) (fun k => if k = i then R else S k)
      (fun k hk => by by_cases e : k = i <;> simp only [e, if_true, if_false]; exact hR; exact hst k (by omega))
      (fun k hk => by rw [if_neg (by omega)]; exact hz k (by omega)) hrest
    have hi : S' i = R := by rw [h1 i (by omega), if_pos rfl]
    refine ⟨S', fun k hk => by rw [h1 k (by omega), if_neg (by omega)], h2, ?_, h4⟩
    intro j oj hj
    cases j with
    | zero =>
      simp at hj
      subst hj
      show OpOKU P ops F B i o init S' (S' i)
      rw [hi]
      refine hop.mono fun k v w hk => ?_
      rcases Nat.lt_or_ge k i with hlt | hge
      · rw [h1 k (by omega), if_neg (by omega)] at hk; exact hk
      · rw [hz k hge]; trivial
    | succ j =>
      have := h3 j oj (by simpa using hj)
      rw [show i + (j + 1) = i + 1 + j from by omega]
      exact this

theorem wpAny_of_specsU {P : Program} {l : List Oper} {Q : Exit → Act → World → Prop} {a0 : Act} {B : World} {S : Nat → Value → World → Prop} {init : Nat → Value}
    (hnd : (l.filterMap (·.dst)).Nodup) (hback : backB .any l = true) (hst : ∀ k, Stab (S k))
    (hop : ∀ j o, l[j]? = some o → OpOKU P l (fun vs => fill vs l 0 a0) B j o init S (S j))
    (hfin : ∀ vs w, Below B.heap.size B w → (∀ k, k < l.length → S k (vs k) w) → Q .normal (fill vs l 0 a0) w) :
    ∀ (fuel : Nat) (listed : Array Bool) (vs : Nat → Value) (w : World), listed.size = l.length → left l.length listed ≤ fuel → Below B.heap.size B w →
      (∀ k, k < l.length → listed.getD k true = true → S k (vs k) w) → DownC l listed → (∀ k, k < l.length → listed.getD k true = false → vs k = init k) → wpAny P .any l.toArray Q fuel listed (fill vs l 0 a0) w := by
  have done : ∀ (listed : Array Bool) (vs : Nat → Value) (w : World), Below B.heap.size B w → (∀ k, k < l.length → listed.getD k true = true → S k (vs k) w) →
      (∀ k, k < l.length → listed.getD k true = true) → Q .normal (fill vs l 0 a0) w := fun listed vs w hb h hall => hfin vs w hb fun k hk => h k hk (hall k hk)
  have ready : ∀ (listed : Array Bool), Region.ready .any l.toArray listed = [] → ∀ k, k < l.length → listed.getD k true = true := by
    intro listed hr k
    induction k using Nat.strongRecOn with
    | ind k ih =>
      intro hk
      rcases hl : listed.getD k true with _ | _
      · exfalso
        have hm : k ∈ Region.ready .any l.toArray listed := by
          rw [mem_ready]
          refine ⟨hl, l[k], by simp [hk], fun e he hb => ?_⟩
          have hlt : e.on < k := by
            have := List.all_eq_true.1 hback k (List.mem_range.2 hk)
            rw [List.getElem?_eq_getElem hk] at this
            have := List.all_eq_true.1 this e (by simpa using he)
            rw [hb] at this
            simpa using this
          have h1 := ih e.on hlt (by omega)
          rcases Nat.lt_or_ge e.on listed.size with h | h
          · simp [h] at h1 ⊢; exact h1
          · exfalso
            have : listed.getD k true = true := by simp [show listed.size ≤ k by omega]
            rw [this] at hl; cases hl
        rw [hr] at hm; cases hm
      · rfl
  intro fuel
  induction fuel with
  | zero =>
    intro listed vs w hsz hlf hb h hdn hun
    have hall : ∀ k, k < l.length → listed.getD k true = true := fun k hk => by
      have h0 : left l.length listed = 0 := by omega
      unfold left at h0
      rw [List.countP_eq_zero] at h0
      simpa using h0 k (List.mem_range.2 hk)
    refine ⟨?_, done listed vs w hb h hall⟩
    rw [List.eq_nil_iff_forall_not_mem]
    intro j hj
    obtain ⟨h1, o, ho, _⟩ := mem_ready.1 hj
    have hjl : j < l.length := by
      rcases Nat.lt_or_ge j l.length with h | h
      · exact h
      · simp [h] at ho
    rw [hall j hjl] at h1; cases h1
  | succ fuel ih =>
    intro listed vs w hsz hlf hb h hdn hun
    refine ⟨fun hr => done listed vs w hb h (ready listed hr), fun i hi => ?_⟩
    obtain ⟨h1, o, ho, hdep⟩ := mem_ready.1 hi
    have hil : i < l.length := by
      rcases Nat.lt_or_ge i l.length with h | h
      · exact h
      · simp [h] at ho
    have ho' : l[i]? = some o := by simpa using ho
    have hK : ∀ a' w', Goes (fill vs l 0 a0) o w (S i) .normal a' w' → wpAny P .any l.toArray Q fuel (listed.setIfInBounds i true) a' w' := by
      rintro a' w' ⟨_, v, rfl, hbw, hs⟩
      rw [fill_put vs l a0 i o v hnd ho']
      refine ih _ _ _ (by simpa using hsz) (by have := left_lt hsz hil h1; omega) (below_step hb hbw) (fun k hk hlk => ?_) (hdn.set fun o'' h'' e he hbd => ?_) (fun k hk hlk => ?_)
      · by_cases e : k = i
        · subst e; rw [if_pos rfl]; exact hs
        · rw [if_neg e]
          rw [getD_set_ne true (fun x => e x.symm)] at hlk
          exact hst k _ _ _ (h k hk hlk) hbw
      · rw [ho'] at h''
        cases h''
        have h2 := hdep e he hbd
        have h3 : e.on < l.length := by
          rcases Nat.lt_or_ge e.on listed.size with hh | hh
          · omega
          · simp [hh] at h2
        simp [hsz ▸ h3] at h2 ⊢; exact h2
      · by_cases e : k = i
        · subst e
          exfalso
          rw [getD_set_same] at hlk
          cases hlk
        · show (if k = i then _ else _) = _
          rw [if_neg e]
          rw [getD_set_ne true (fun x => e x.symm)] at hlk
          exact hun k hk hlk
    have hund : Undone l i init vs := fun k hk => by
      obtain ⟨ok, e, hok, he, hbd, heq⟩ := dirB_spec hk
      have hkl : k < l.length := by
        rcases Nat.lt_or_ge k l.length with hh | hh
        · exact hh
        · rw [List.getElem?_eq_none hh] at hok; cases hok
      refine hun k hkl ?_
      rcases hlk : listed.getD k true with _ | _
      · rfl
      · exfalso
        have := hdn k ok hok hlk e he hbd
        rw [heq, h1] at this
        cases this
    have hw := hop i o ho' vs w hb hund fun e he hbd => by
      have h2 := hdep e he hbd
      have h3 : e.on < l.length := by
        rcases Nat.lt_or_ge e.on listed.size with hh | hh
        · omega
        · simp [hh] at h2
      refine h e.on h3 ?_
      simp [hsz ▸ h3] at h2 ⊢; exact h2
    unfold wpOp
    rw [ho]
    simp only [wpList] at hw
    simp only
    by_cases hwt : Region.wanted o (yielded l.toArray (fill vs l 0 a0).tmps) = true
    · rw [if_pos hwt] at hw ⊢
      rcases hw with hw | ⟨_, a', w', hh⟩
      · exact Or.inl (upon_goes (fun a' w' hh => hK a' w' hh) (fun e a' w' he hh => he hh.1) hw)
      · exact absurd hh.1 (by simp)
    · rw [if_neg hwt] at hw ⊢
      exact hK _ _ hw

/-- **A REGION THAT DRAWS ITS ORDER**, each operation by a specification of its own that outlives new memory. -/
theorem wp_region_specsU {P : Program} {id : Nat} {Q : Exit → Act → World → Prop} {a : Act} {w : World} {l : List Oper}
    (hm : P.follows .mixedOrders = true) (hnd : (l.filterMap (·.dst)).Nodup) (hback : backB .any l = true)
    (h : OpsOKU P l (fun vs => fill vs l 0 a) w (initOf l a) (fun S => ∀ vs u, Below w.heap.size w u → (∀ k, k < l.length → S k (vs k) u) → Q .normal (fill vs l 0 a) u) l 0 (fun _ _ _ => True)) :
    (Code.region id l.toArray true).wp P Q a w := by
  obtain ⟨S, _, h2, h3, h4⟩ := OpsOKU.all l l 0 (fun _ _ _ => True) (fun k hk => by omega) (fun k _ => rfl) h
  refine wp_region_any hm ?_
  have e : fill (fun k => match (l[k]?).bind (·.dst) with | some t => a.tmps.getD t undef | none => undef) l 0 a = a := by
    refine fill_same l 0 _ a fun j o t hj hd => ?_
    simp only [Nat.zero_add, hj, Option.bind_some, hd]
  have := wpAny_of_specsU (init := initOf l a) (P := P) (Q := Q) (a0 := a) (B := w) hnd hback h2 (fun j o hj => by have := h3 j o hj; rwa [Nat.zero_add] at this) h4 l.length (Array.replicate l.length false)
    (fun k => match (l[k]?).bind (·.dst) with | some t => a.tmps.getD t undef | none => undef) { w with drawn := w.drawn + 1 } (by simp)
    (by unfold left; exact Nat.le_trans List.countP_le_length (by simp)) (Below.drew (Below.refl _ _)) (fun k hk hl => by simp [hk] at hl) (fun j o hj hl => by
      have hjl : j < l.length := by
        rcases Nat.lt_or_ge j l.length with hh | hh
        · exact hh
        · rw [List.getElem?_eq_none hh] at hj; cases hj
      simp [hjl] at hl) (fun k _ _ => rfl)
  rw [e] at this
  simpa using this

end Go.Proofs.YtdfkbahlngijcaaDoor
