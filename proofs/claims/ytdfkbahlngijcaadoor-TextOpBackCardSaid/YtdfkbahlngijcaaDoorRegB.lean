/- A region that draws its order and ends in writes: what only makes memory in whatever order; what only computes at any time; the writes, in their own order, behind all that makes memory. -/
import Derived.Test.YtdfkbahlngijcaaDoorReg
namespace Go.Proofs.YtdfkbahlngijcaaDoor
open Go.RowKit

inductive Kind where
  | make
  | fresh
  | pure
  | write (p : Nat)
  deriving DecidableEq

/-- the new blocks are different blocks -/
def Distinct (ks : List Kind) (vs : Nat → Value) : Prop := ∀ i j, i ≠ j → ks[i]? = some .fresh → ks[j]? = some .fresh → vs i ≠ vs j

def upd (vs : Nat → Value) (i : Nat) (v : Value) : Nat → Value := fun k => if k = i then v else vs k

/-- an operation that only computes -/
def GoesP (a : Act) (o : Oper) (w : World) (R : Value → World → Prop) : Exit → Act → World → Prop :=
  fun ex a' w' => ex = .normal ∧ ∃ v, a' = a.put o.dst v ∧ w' = w ∧ ∀ u, R v u
def OpPure (P : Program) (ops : Array Oper) (F : (Nat → Value) → Act) (o : Oper) (S : Nat → Value → World → Prop) (R : Value → World → Prop) : Prop :=
  ∀ (vs : Nat → Value) (w : World), (∀ e ∈ o.after, Region.binds .any e = true → ∃ u, S e.on (vs e.on) u) → wpList P ops (GoesP (F vs) o w R) [o] (F vs) w
/-- an operation that makes a block and leaves its address -/
def GoesF (a : Act) (o : Oper) (w : World) (R : Value → World → Prop) : Exit → Act → World → Prop :=
  fun ex a' w' => ex = .normal ∧ ∃ b, w.heap.size ≤ b ∧ b < w'.heap.size ∧ a' = a.put o.dst (.pointer (some ⟨b, 0, none⟩)) ∧ Below w.heap.size w w' ∧ R (.pointer (some ⟨b, 0, none⟩)) w'
def OpFresh (P : Program) (ops : Array Oper) (F : (Nat → Value) → Act) (B : World) (o : Oper) (S : Nat → Value → World → Prop) (R : Value → World → Prop) : Prop :=
  ∀ (vs : Nat → Value) (w : World), Below B.heap.size B w → (∀ e ∈ o.after, Region.binds .any e = true → S e.on (vs e.on) w) → wpList P ops (GoesF (F vs) o w R) [o] (F vs) w
/-- a write: what it leaves -/
def GoesT (a : Act) (o : Oper) (i : Nat) (vs : Nat → Value) (E : (Nat → Value) → World → Prop) : Exit → Act → World → Prop :=
  fun ex a' w' => ex = .normal ∧ ∃ v, a' = a.put o.dst v ∧ E (upd vs i v) w'
def OpFirst (P : Program) (ops : Array Oper) (F : (Nat → Value) → Act) (B : World) (i : Nat) (o : Oper) (ks : List Kind) (K : List Nat) (S : Nat → Value → World → Prop) (E : (Nat → Value) → World → Prop) : Prop :=
  ∀ (vs : Nat → Value) (w : World), Below B.heap.size B w → Distinct ks vs → (∀ k ∈ K, S k (vs k) w) → wpList P ops (GoesT (F vs) o i vs E) [o] (F vs) w
def OpNext (P : Program) (ops : Array Oper) (F : (Nat → Value) → Act) (i : Nat) (o : Oper) (S : Nat → Value → World → Prop) (E E' : (Nat → Value) → World → Prop) : Prop :=
  ∀ (vs : Nat → Value) (w : World), E vs w → (∀ e ∈ o.after, Region.binds .any e = true → ∃ u, S e.on (vs e.on) u) → wpList P ops (GoesT (F vs) o i vs E') [o] (F vs) w

def OpIs (P : Program) (ops : Array Oper) (F : (Nat → Value) → Act) (B : World) (ks : List Kind) (K : List Nat) (E : Nat → (Nat → Value) → World → Prop) (i : Nat) (o : Oper) (k : Kind) (S : Nat → Value → World → Prop) (R : Value → World → Prop) : Prop :=
  match k with
  | .make => OpOK P ops F B o S R
  | .fresh => OpFresh P ops F B o S R
  | .pure => OpPure P ops F o S R
  | .write 0 => OpFirst P ops F B i o ks K S (E 1) ∧ R = fun _ _ => True
  | .write (p + 1) => OpNext P ops F i o S (E (p + 1)) (E (p + 2)) ∧ R = fun _ _ => True

def OpsIs (P : Program) (ops : Array Oper) (F : (Nat → Value) → Act) (B : World) (ks : List Kind) (K : List Nat) (E : Nat → (Nat → Value) → World → Prop) (Fin : (Nat → Value → World → Prop) → Prop) : List (Oper × Kind) → Nat → (Nat → Value → World → Prop) → Prop
  | [], _, S => Fin S
  | (o, k) :: l, i, S => ∃ R, Stab R ∧ OpIs P ops F B ks K E i o k S R ∧ OpsIs P ops F B ks K E Fin l (i + 1) (fun j => if j = i then R else S j)

theorem OpIs.mono {P : Program} {ops : Array Oper} {F : (Nat → Value) → Act} {B : World} {ks : List Kind} {K : List Nat} {E : Nat → (Nat → Value) → World → Prop} {i : Nat} {o : Oper} {k : Kind} {S S' : Nat → Value → World → Prop} {R : Value → World → Prop}
    (h : OpIs P ops F B ks K E i o k S R) (hs : ∀ k v w, S' k v w → S k v w) : OpIs P ops F B ks K E i o k S' R := by
  match k, h with
  | .make, h => exact OpOK.mono h hs
  | .fresh, h => exact fun vs w hb hd => h vs w hb fun e he hbd => hs _ _ _ (hd e he hbd)
  | .pure, h => exact fun vs w hd => h vs w fun e he hb => let ⟨u, hu⟩ := hd e he hb; ⟨u, hs _ _ _ hu⟩
  | .write 0, h => exact ⟨fun vs w hb hx hd => h.1 vs w hb hx fun k hk => hs _ _ _ (hd k hk), h.2⟩
  | .write (p + 1), h => exact ⟨fun vs w hE hd => h.1 vs w hE fun e he hb => let ⟨u, hu⟩ := hd e he hb; ⟨u, hs _ _ _ hu⟩, h.2⟩

theorem OpsIs.all {P : Program} {ops : Array Oper} {F : (Nat → Value) → Act} {B : World} {ks : List Kind} {K : List Nat} {E : Nat → (Nat → Value) → World → Prop} {Fin : (Nat → Value → World → Prop) → Prop} : ∀ (l : List (Oper × Kind)) (i : Nat) (S : Nat → Value → World → Prop),
    (∀ k, k < i → Stab (S k)) → (∀ k, i ≤ k → S k = fun _ _ => True) → OpsIs P ops F B ks K E Fin l i S →
    ∃ S' : Nat → Value → World → Prop, (∀ k, k < i → S' k = S k) ∧ (∀ k, Stab (S' k)) ∧ (∀ j o k, l[j]? = some (o, k) → OpIs P ops F B ks K E (i + j) o k S' (S' (i + j))) ∧ Fin S'
  | [], i, S, hst, hz, h => ⟨S, fun _ _ => rfl, fun k => by
      rcases Nat.lt_or_ge k i with hk | hk
      · exact hst k hk
      · rw [hz k hk]; exact Stab_any, fun j o k hj => by simp at hj, h⟩
  | (o, kd) :: l, i, S, hst, hz, h => by
    obtain ⟨R, hR, hop, hrest⟩ := h
    obtain ⟨S', h1, h2, h3, h4⟩ := OpsIs.all l (i + 1) (fun k => if k = i then R else S k)
      (fun k hk => by by_cases e : k = i <;> simp only [e, if_true, if_false]; exact hR; exact hst k (by omega))
      (fun k hk => by rw [if_neg (by omega)]; exact hz k (by omega)) hrest
    have hi : S' i = R := by rw [h1 i (by omega), if_pos rfl]
    refine ⟨S', fun k hk => by rw [h1 k (by omega), if_neg (by omega)], h2, ?_, h4⟩
    intro j oj kj hj
    cases j with
    | zero =>
      simp at hj
      obtain ⟨rfl, rfl⟩ := hj
      show OpIs P ops F B ks K E i o kd S' (S' i)
      rw [hi]
      refine hop.mono fun k v w hk => ?_
      rcases Nat.lt_or_ge k i with hlt | hge
      · rw [h1 k (by omega), if_neg (by omega)] at hk; exact hk
      · rw [hz k hge]; trivial
    | succ j =>
      have := h3 j oj kj (by simpa using hj)
      rw [show i + (j + 1) = i + 1 + j from by omega]
      exact this

/-! ### What the kernel looks at -/
def dirB (l : List Oper) (j k : Nat) : Bool := match l[j]? with | some o => o.after.toList.any fun e => Region.binds .any e && decide (e.on = k) | none => false
/-- each of K is waited for, directly or through others of K, by operation i -/
def closedB (l : List Oper) (i : Nat) (K : List Nat) : Bool := K.all fun k => (i :: K).any fun j => decide (k < j) && dirB l j k
/-- operation number of the p-th write -/
def writeAt (ks : List Kind) (p : Nat) : Option Nat := ks.findIdx? fun k => decide (k = .write p)
def planB (l : List Oper) (ks : List Kind) (K : List Nat) (m : Nat) : Bool :=
  decide (ks.length = l.length) && decide (0 < m) &&
  ((List.range ks.length).all fun i => match ks[i]? with
    | some (.write 0) => closedB l i K && ((List.range ks.length).all fun j => match ks[j]? with | some .make => decide (j ∈ K) | some .fresh => decide (j ∈ K) | _ => true)
    | some (.write (p + 1)) => decide (p + 1 < m) && ((List.range ks.length).any fun j => decide (ks[j]? = some (.write p)) && dirB l i j)
    | _ => true)
def uniqB (ks : List Kind) : Bool := (List.range ks.length).all fun i => (List.range ks.length).all fun j => match ks[i]?, ks[j]? with
    | some (.write p), some (.write q) => decide (p = q → i = j) | _, _ => true
def allB (ks : List Kind) (m : Nat) : Bool := (List.range m).all fun p => (List.range ks.length).any fun j => decide (ks[j]? = some (.write p))

theorem dirB_spec {l : List Oper} {j k : Nat} (h : dirB l j k = true) : ∃ o e, l[j]? = some o ∧ e ∈ o.after ∧ Region.binds .any e = true ∧ e.on = k := by
  unfold dirB at h
  split at h
  · rename_i o ho
    rw [List.any_eq_true] at h
    obtain ⟨e, he, hh⟩ := h
    simp at hh
    exact ⟨o, e, ho, by simpa using he, hh.1, hh.2⟩
  · cases h

def DownC (l : List Oper) (listed : Array Bool) : Prop := ∀ j o, l[j]? = some o → listed.getD j true = true → ∀ e ∈ o.after, Region.binds .any e = true → listed.getD e.on true = true

theorem closed_listed {l : List Oper} {i : Nat} {K : List Nat} {listed : Array Bool} (hc : closedB l i K = true) (hd : DownC l listed)
    (hi : ∀ o, l[i]? = some o → ∀ e ∈ o.after, Region.binds .any e = true → listed.getD e.on true = true) : ∀ k ∈ K, listed.getD k true = true := by
  have hK : ∀ k ∈ K, ∃ j, (j = i ∨ j ∈ K) ∧ k < j ∧ dirB l j k = true := fun k hk => by
    have := List.all_eq_true.1 hc k hk
    rw [List.any_eq_true] at this
    obtain ⟨j, hj, hh⟩ := this
    simp at hh
    exact ⟨j, by simpa using hj, hh.1, hh.2⟩
  have hb : ∀ k ∈ K, k < l.length := fun k hk => by
    obtain ⟨j, _, hlt, hdir⟩ := hK k hk
    obtain ⟨o, _, ho, _⟩ := dirB_spec hdir
    have : j < l.length := by
      rcases Nat.lt_or_ge j l.length with h | h
      · exact h
      · rw [List.getElem?_eq_none h] at ho; cases ho
    omega
  have key : ∀ n k, k ∈ K → l.length - k ≤ n → listed.getD k true = true := by
    intro n
    induction n with
    | zero => intro k hk h; have := hb k hk; omega
    | succ n ih =>
      intro k hk h
      obtain ⟨j, hj, hlt, hdir⟩ := hK k hk
      obtain ⟨o, e, ho, he, hbd, rfl⟩ := dirB_spec hdir
      rcases hj with rfl | hj
      · exact hi o ho e he hbd
      · exact hd j o ho (ih j hj (by omega)) e he hbd
  exact fun k hk => key _ k hk (Nat.le_refl _)

structure Inv (l : List Oper) (ks : List Kind) (S : Nat → Value → World → Prop) (E : Nat → (Nat → Value) → World → Prop) (B : World) (j : Nat) (listed : Array Bool) (vs : Nat → Value) (w : World) : Prop where
  size : listed.size = l.length
  wr : ∀ i p, ks[i]? = some (.write p) → (listed.getD i true = true ↔ p < j)
  down : DownC l listed
  val : ∀ k, k < l.length → listed.getD k true = true → ∃ u, S k (vs k) u
  early : j = 0 → Below B.heap.size B w ∧ ∀ k, k < l.length → listed.getD k true = true → S k (vs k) w
  late : 0 < j → E j vs w ∧ ∀ k, ks[k]? = some .make ∨ ks[k]? = some .fresh → listed.getD k true = true
  dist : ∀ i j, i ≠ j → ks[i]? = some .fresh → ks[j]? = some .fresh → listed.getD i true = true → listed.getD j true = true → vs i ≠ vs j
  low : j = 0 → ∀ i, ks[i]? = some .fresh → listed.getD i true = true → ∃ b, vs i = .pointer (some ⟨b, 0, none⟩) ∧ b < w.heap.size

theorem getD_set_same {listed : Array Bool} {i : Nat} : (listed.setIfInBounds i true).getD i true = true := by
  by_cases h : i < listed.size
  · simp [h]
  · simp [Nat.not_lt.1 h]

theorem DownC.set {l : List Oper} {listed : Array Bool} {i : Nat} (h : DownC l listed) (hi : ∀ o, l[i]? = some o → ∀ e ∈ o.after, Region.binds .any e = true → listed.getD e.on true = true) : DownC l (listed.setIfInBounds i true) := by
  intro j o ho hj e he hb
  by_cases h1 : i = e.on
  · rw [← h1]; exact getD_set_same
  · rw [getD_set_ne true h1]
    by_cases h2 : i = j
    · subst h2; exact hi o ho e he hb
    · rw [getD_set_ne true h2] at hj; exact h j o ho hj e he hb

theorem wpOp_of {P : Program} {ops : Array Oper} {Q G : Exit → Act → World → Prop} {i : Nat} {o : Oper} {K : Act → World → Prop} {a : Act} {w : World} (ho : ops[i]? = some o)
    (h : wpList P ops G [o] a w) (hK : ∀ a w, G .normal a w → K a w) (hQ : ∀ e a w, e ≠ .normal → ¬ G e a w) : wpOp P ops Q i K a w := by
  unfold wpOp
  rw [ho]
  simp only [wpList] at h
  simp only
  by_cases hwt : Region.wanted o (yielded ops a.tmps) = true
  · rw [if_pos hwt] at h ⊢
    rcases h with h | ⟨_, a', w', hh⟩
    · exact Or.inl (upon_goes hK hQ h)
    · exact absurd hh (hQ _ _ _ (by simp))
  · rw [if_neg hwt] at h ⊢
    exact hK _ _ h

theorem wpAny_of_plan {P : Program} {l : List Oper} {ks : List Kind} {K : List Nat} {m : Nat} {Q : Exit → Act → World → Prop} {a0 : Act} {B : World} {S : Nat → Value → World → Prop} {E : Nat → (Nat → Value) → World → Prop}
    (hnd : (l.filterMap (·.dst)).Nodup) (hback : backB .any l = true) (hplan : planB l ks K m = true) (huniq : uniqB ks = true) (hall : allB ks m = true) (hst : ∀ k, Stab (S k))
    (hE : ∀ p vs vs' w, (∀ k, ks[k]? ≠ some .pure → vs' k = vs k) → E p vs w → E p vs' w)
    (hop : ∀ j o k, l[j]? = some o → ks[j]? = some k → OpIs P l.toArray (fun vs => fill vs l 0 a0) B ks K E j o k S (S j))
    (hfin : ∀ vs w, E m vs w → (∀ k, k < l.length → ∃ u, S k (vs k) u) → Q .normal (fill vs l 0 a0) w) :
    ∀ (fuel : Nat) (j : Nat) (listed : Array Bool) (vs : Nat → Value) (w : World), j ≤ m → left l.length listed ≤ fuel → Inv l ks S E B j listed vs w → wpAny P .any l.toArray Q fuel listed (fill vs l 0 a0) w := by
  simp only [planB, Bool.and_eq_true, decide_eq_true_eq] at hplan
  obtain ⟨⟨hlen, hm0⟩, hpl⟩ := hplan
  have done : ∀ (j : Nat) (listed : Array Bool) (vs : Nat → Value) (w : World), j ≤ m → Inv l ks S E B j listed vs w → (∀ k, k < l.length → listed.getD k true = true) → Q .normal (fill vs l 0 a0) w := by
    intro j listed vs w hjm hI hl
    have hjm : j = m := by
      rcases Nat.lt_or_ge j m with h | h
      · exfalso
        have := List.all_eq_true.1 hall j (List.mem_range.2 h)
        rw [List.any_eq_true] at this
        obtain ⟨i, hi, hk⟩ := this
        simp at hk
        have := (hI.wr i j hk).1 (hl i (by rw [List.mem_range] at hi; omega))
        omega
      · omega
    subst hjm
    exact hfin vs w (hI.late hm0).1 fun k hk => hI.val k hk (hl k hk)
  have ready : ∀ (listed : Array Bool), Region.ready .any l.toArray listed = [] → ∀ k, k < l.length → listed.getD k true = true := by
    intro listed hr k
    induction k using Nat.strongRecOn with
    | ind k ih =>
      intro hk
      rcases hl : listed.getD k true with _ | _
      · exfalso
        have hm : k ∈ Region.ready .any l.toArray listed := by
          rw [mem_ready]
          refine ⟨hl, l[k], by simp [hk], fun e he hb => ?_⟩
          have hlt : e.on < k := by
            have := List.all_eq_true.1 hback k (List.mem_range.2 hk)
            rw [List.getElem?_eq_getElem hk] at this
            have := List.all_eq_true.1 this e (by simpa using he)
            rw [hb] at this
            simpa using this
          have h1 := ih e.on hlt (by omega)
          rcases Nat.lt_or_ge e.on listed.size with h | h
          · simp [h] at h1 ⊢; exact h1
          · exfalso
            have : listed.getD k true = true := by simp [show listed.size ≤ k by omega]
            rw [this] at hl; cases hl
        rw [hr] at hm; cases hm
      · rfl
  intro fuel
  induction fuel with
  | zero =>
    intro j listed vs w hjm hlf hI
    have hall' : ∀ k, k < l.length → listed.getD k true = true := fun k hk => by
      have h0 : left l.length listed = 0 := by omega
      unfold left at h0
      rw [List.countP_eq_zero] at h0
      simpa using h0 k (List.mem_range.2 hk)
    refine ⟨?_, done j listed vs w hjm hI hall'⟩
    rw [List.eq_nil_iff_forall_not_mem]
    intro i hi
    obtain ⟨h1, o, ho, _⟩ := mem_ready.1 hi
    have hil : i < l.length := by
      rcases Nat.lt_or_ge i l.length with h | h
      · exact h
      · simp [h] at ho
    rw [hall' i hil] at h1; cases h1
  | succ fuel ih =>
    intro j listed vs w hjm hlf hI
    refine ⟨fun hr => done j listed vs w hjm hI (ready listed hr), fun i hi => ?_⟩
    obtain ⟨h1, o, ho, hdep0⟩ := mem_ready.1 hi
    have hil : i < l.length := by
      rcases Nat.lt_or_ge i l.length with h | h
      · exact h
      · simp [h] at ho
    have ho' : l[i]? = some o := by simpa using ho
    have hdep : ∀ e ∈ o.after, Region.binds .any e = true → e.on < l.length ∧ listed.getD e.on true = true := fun e he hbd => by
      have h2 := hdep0 e he hbd
      have h3 : e.on < l.length := by
        rcases Nat.lt_or_ge e.on listed.size with hh | hh
        · have := hI.size; omega
        · simp [hh] at h2
      refine ⟨h3, ?_⟩
      simp [hI.size ▸ h3] at h2 ⊢; exact h2
    have hdep' : ∀ o', l[i]? = some o' → ∀ e ∈ o'.after, Region.binds .any e = true → listed.getD e.on true = true := fun o' h e he hb => by
      rw [ho'] at h; cases h
      exact (hdep e he hb).2
    have hki : i < ks.length := by omega
    obtain ⟨kd, hkd⟩ : ∃ k, ks[i]? = some k := ⟨_, List.getElem?_eq_getElem hki⟩
    have hlt := left_lt hI.size hil h1
    have hdown := hI.down.set hdep'
    have hthis := hop i o kd ho' hkd
    have keepD : ∀ (q : Nat) {kq : Kind}, ks[q]? = some kq → kq ≠ .fresh → ∀ v, (∀ a b, a ≠ b → ks[a]? = some .fresh → ks[b]? = some .fresh → listed.getD a true = true → listed.getD b true = true → vs a ≠ vs b) →
        ∀ a b, a ≠ b → ks[a]? = some .fresh → ks[b]? = some .fresh → (listed.setIfInBounds q true).getD a true = true → (listed.setIfInBounds q true).getD b true = true → (fun k => if k = q then v else vs k) a ≠ (fun k => if k = q then v else vs k) b := by
      intro q kq hq hne v h a b hab ha hb hla hlb
      have e1 : a ≠ q := fun e => by subst e; rw [hq] at ha; injection ha with ha; exact hne ha
      have e2 : b ≠ q := fun e => by subst e; rw [hq] at hb; injection hb with hb; exact hne hb
      rw [getD_set_ne true (fun x => e1 x.symm)] at hla
      rw [getD_set_ne true (fun x => e2 x.symm)] at hlb
      show (if a = q then _ else _) ≠ (if b = q then _ else _)
      rw [if_neg e1, if_neg e2]
      exact h a b hab ha hb hla hlb
    have keepL : ∀ (q : Nat) {kq : Kind}, ks[q]? = some kq → kq ≠ .fresh → ∀ v {w' : World}, w.heap.size ≤ w'.heap.size → (∀ a, ks[a]? = some .fresh → listed.getD a true = true → ∃ b, vs a = .pointer (some ⟨b, 0, none⟩) ∧ b < w.heap.size) →
        j = 0 → ∀ a, ks[a]? = some .fresh → (listed.setIfInBounds q true).getD a true = true → ∃ b, (fun k => if k = q then v else vs k) a = .pointer (some ⟨b, 0, none⟩) ∧ b < w'.heap.size := by
      intro q kq hq hne v w' hsz h _ a ha hla
      have e1 : a ≠ q := fun e => by subst e; rw [hq] at ha; injection ha with ha; exact hne ha
      rw [getD_set_ne true (fun x => e1 x.symm)] at hla
      obtain ⟨b, hv, hb⟩ := h a ha hla
      refine ⟨b, ?_, Nat.lt_of_lt_of_le hb hsz⟩
      show (if a = q then _ else _) = _
      rw [if_neg e1]; exact hv
    match kd, hkd, hthis with
    | .make, hkd, hthis =>
      have hj0 : j = 0 := by
        rcases Nat.eq_zero_or_pos j with h | h
        · exact h
        · rw [(hI.late h).2 i (.inl hkd)] at h1; cases h1
      obtain ⟨hB, hS⟩ := hI.early hj0
      refine wpOp_of (by simpa using ho') (hthis vs w hB fun e he hb => hS _ (hdep e he hb).1 (hdep e he hb).2) ?_ (fun e a w he hh => he hh.1)
      rintro a' w' ⟨_, v, rfl, hbw, hs⟩
      rw [fill_put vs l a0 i o v hnd ho']
      refine ih j _ _ _ hjm (by omega) ⟨by simpa using hI.size, ?_, hdown, ?_, ?_, fun h => absurd h (by omega), keepD i hkd (by simp) v hI.dist, keepL i hkd (by simp) v hbw.size (hI.low hj0)⟩
      · intro k p hk
        have : i ≠ k := fun e => by subst e; rw [hkd] at hk; cases hk
        rw [getD_set_ne true this]; exact hI.wr k p hk
      · intro k hk hlk
        by_cases e : k = i
        · subst e; rw [if_pos rfl]; exact ⟨_, hs⟩
        · rw [if_neg e]; rw [getD_set_ne true (fun x => e x.symm)] at hlk; exact hI.val k hk hlk
      · intro _
        refine ⟨below_step hB hbw, fun k hk hlk => ?_⟩
        by_cases e : k = i
        · subst e; rw [if_pos rfl]; exact hs
        · rw [if_neg e]; rw [getD_set_ne true (fun x => e x.symm)] at hlk; exact hst k _ _ _ (hS k hk hlk) hbw
    | .fresh, hkd, hthis =>
      have hj0 : j = 0 := by
        rcases Nat.eq_zero_or_pos j with h | h
        · exact h
        · rw [(hI.late h).2 i (.inr hkd)] at h1; cases h1
      obtain ⟨hB, hS⟩ := hI.early hj0
      refine wpOp_of (by simpa using ho') (hthis vs w hB fun e he hb => hS _ (hdep e he hb).1 (hdep e he hb).2) ?_ (fun e a w he hh => he hh.1)
      rintro a' w' ⟨_, b, hbge, hblt, rfl, hbw, hs⟩
      rw [fill_put vs l a0 i o _ hnd ho']
      refine ih j _ _ _ hjm (by omega) ⟨by simpa using hI.size, ?_, hdown, ?_, ?_, fun h => absurd h (by omega), ?_, ?_⟩
      · intro k p hk
        have : i ≠ k := fun e => by subst e; rw [hkd] at hk; cases hk
        rw [getD_set_ne true this]; exact hI.wr k p hk
      · intro k hk hlk
        by_cases e : k = i
        · subst e; rw [if_pos rfl]; exact ⟨_, hs⟩
        · rw [if_neg e]; rw [getD_set_ne true (fun x => e x.symm)] at hlk; exact hI.val k hk hlk
      · intro _
        refine ⟨below_step hB hbw, fun k hk hlk => ?_⟩
        by_cases e : k = i
        · subst e; rw [if_pos rfl]; exact hs
        · rw [if_neg e]; rw [getD_set_ne true (fun x => e x.symm)] at hlk; exact hst k _ _ _ (hS k hk hlk) hbw
      · intro p q hpq hp hq hlp hlq
        by_cases e1 : p = i
        · have e2 : q ≠ i := fun e => hpq (e1.trans e.symm)
          rw [getD_set_ne true (fun x => e2 x.symm)] at hlq
          obtain ⟨b', hv', hb'⟩ := hI.low hj0 q hq hlq
          show (if p = i then _ else _) ≠ (if q = i then _ else _)
          rw [if_pos e1, if_neg e2, hv']
          intro h
          injection h with h
          injection h with h
          injection h with h
          omega
        · by_cases e2 : q = i
          · rw [getD_set_ne true (fun x => e1 x.symm)] at hlp
            obtain ⟨b', hv', hb'⟩ := hI.low hj0 p hp hlp
            show (if p = i then _ else _) ≠ (if q = i then _ else _)
            rw [if_neg e1, if_pos e2, hv']
            intro h
            injection h with h
            injection h with h
            injection h with h
            omega
          · rw [getD_set_ne true (fun x => e1 x.symm)] at hlp
            rw [getD_set_ne true (fun x => e2 x.symm)] at hlq
            show (if p = i then _ else _) ≠ (if q = i then _ else _)
            rw [if_neg e1, if_neg e2]
            exact hI.dist p q hpq hp hq hlp hlq
      · intro _ p hp hlp
        by_cases e1 : p = i
        · show ∃ b', (if p = i then _ else _) = _ ∧ _
          rw [if_pos e1]
          exact ⟨b, rfl, hblt⟩
        · rw [getD_set_ne true (fun x => e1 x.symm)] at hlp
          obtain ⟨b', hv', hb'⟩ := hI.low hj0 p hp hlp
          refine ⟨b', ?_, Nat.lt_of_lt_of_le hb' hbw.size⟩
          show (if p = i then _ else _) = _
          rw [if_neg e1]; exact hv'
    | .pure, hkd, hthis =>
      refine wpOp_of (by simpa using ho') (hthis vs w fun e he hb => hI.val _ (hdep e he hb).1 (hdep e he hb).2) ?_ (fun e a w he hh => he hh.1)
      rintro a' w' ⟨_, v, rfl, rfl, hs⟩
      rw [fill_put vs l a0 i o v hnd ho']
      refine ih j _ _ _ hjm (by omega) ⟨by simpa using hI.size, ?_, hdown, ?_, ?_, ?_, keepD i hkd (by simp) v hI.dist, fun h0 => keepL i hkd (by simp) v (Nat.le_refl _) (hI.low h0) h0⟩
      · intro k p hk
        have : i ≠ k := fun e => by subst e; rw [hkd] at hk; cases hk
        rw [getD_set_ne true this]; exact hI.wr k p hk
      · intro k hk hlk
        by_cases e : k = i
        · subst e; rw [if_pos rfl]; exact ⟨w', hs w'⟩
        · rw [if_neg e]; rw [getD_set_ne true (fun x => e x.symm)] at hlk; exact hI.val k hk hlk
      · intro hj0
        obtain ⟨hB, hS⟩ := hI.early hj0
        refine ⟨hB, fun k hk hlk => ?_⟩
        by_cases e : k = i
        · subst e; rw [if_pos rfl]; exact hs w'
        · rw [if_neg e]; rw [getD_set_ne true (fun x => e x.symm)] at hlk; exact hS k hk hlk
      · intro hj0
        obtain ⟨hEj, hmk⟩ := hI.late hj0
        refine ⟨hE j vs _ w' (fun k hk => ?_) hEj, fun k hk => ?_⟩
        · show (if k = i then v else vs k) = vs k
          rw [if_neg (fun e => by subst e; exact hk hkd)]
        · by_cases e : i = k
          · subst e; exact getD_set_same
          · rw [getD_set_ne true e]; exact hmk k hk
    | .write 0, hkd, hthis =>
      have hp := List.all_eq_true.1 hpl i (List.mem_range.2 hki)
      rw [hkd] at hp
      simp only [Bool.and_eq_true] at hp
      obtain ⟨hcl, hmk⟩ := hp
      have hj0 : j = 0 := by
        rcases Nat.eq_zero_or_pos j with h | h
        · exact h
        · rw [(hI.wr i 0 hkd).2 h] at h1; cases h1
      obtain ⟨hB, hS⟩ := hI.early hj0
      have hKl := closed_listed hcl hI.down hdep'
      have hKb : ∀ k ∈ K, k < l.length := fun k hk => by
        have := List.all_eq_true.1 hcl k hk
        rw [List.any_eq_true] at this
        obtain ⟨q, _, hh⟩ := this
        simp at hh
        obtain ⟨oq, _, hoq, _⟩ := dirB_spec hh.2
        have : q < l.length := by
          rcases Nat.lt_or_ge q l.length with h | h
          · exact h
          · rw [List.getElem?_eq_none h] at hoq; cases hoq
        omega
      have hfr : ∀ p, ks[p]? = some .fresh → listed.getD p true = true := fun p hp => by
        have hpl' : p < ks.length := by
          rcases Nat.lt_or_ge p ks.length with h | h
          · exact h
          · rw [List.getElem?_eq_none h] at hp; cases hp
        have := List.all_eq_true.1 hmk p (List.mem_range.2 hpl')
        rw [hp] at this
        exact hKl p (by simpa using this)
      refine wpOp_of (by simpa using ho') (hthis.1 vs w hB (fun p q hpq hp hq => hI.dist p q hpq hp hq (hfr p hp) (hfr q hq)) fun k hk => hS k (hKb k hk) (hKl k hk)) ?_ (fun e a w he hh => he hh.1)
      rintro a' w' ⟨_, v, rfl, hs⟩
      rw [fill_put vs l a0 i o v hnd ho']
      subst hj0
      refine ih 1 _ _ _ (by omega) (by omega) ⟨by simpa using hI.size, ?_, hdown, ?_, fun h => absurd h (by omega), fun _ => ⟨hs, ?_⟩, keepD i hkd (by simp) v hI.dist, fun h => absurd h (by omega)⟩
      · intro k p hk
        by_cases e : i = k
        · subst e
          rw [hkd] at hk
          cases hk
          exact ⟨fun _ => by omega, fun _ => getD_set_same⟩
        · rw [getD_set_ne true e]
          have h0 := hI.wr k p hk
          have hpne : p ≠ 0 := fun ep => by
            subst ep
            have hu := List.all_eq_true.1 huniq i (List.mem_range.2 hki)
            have hkl : k < ks.length := by
              rcases Nat.lt_or_ge k ks.length with h | h
              · exact h
              · rw [List.getElem?_eq_none h] at hk; cases hk
            have hu := List.all_eq_true.1 hu k (List.mem_range.2 hkl)
            rw [hkd, hk] at hu
            simp at hu
            exact e hu
          constructor
          · intro h; have := h0.1 h; omega
          · intro h; exfalso; omega
      · intro k hk hlk
        by_cases e : k = i
        · subst e; rw [hthis.2]; exact ⟨w', trivial⟩
        · rw [if_neg e]; rw [getD_set_ne true (fun x => e x.symm)] at hlk; exact hI.val k hk hlk
      · intro k hk
        by_cases e : i = k
        · subst e; exact getD_set_same
        · rw [getD_set_ne true e]
          have hkl : k < ks.length := by
            rcases Nat.lt_or_ge k ks.length with h | h
            · exact h
            · rw [List.getElem?_eq_none h] at hk; rcases hk with hk | hk <;> cases hk
          have := List.all_eq_true.1 hmk k (List.mem_range.2 hkl)
          rcases hk with hk | hk
          · rw [hk] at this
            exact hKl k (by simpa using this)
          · rw [hk] at this
            exact hKl k (by simpa using this)
    | .write (p + 1), hkd, hthis =>
      have hp := List.all_eq_true.1 hpl i (List.mem_range.2 hki)
      rw [hkd] at hp
      simp only [Bool.and_eq_true, decide_eq_true_eq] at hp
      obtain ⟨hpm, hprev⟩ := hp
      rw [List.any_eq_true] at hprev
      obtain ⟨q, _, hh⟩ := hprev
      simp at hh
      obtain ⟨hq, hdir⟩ := hh
      obtain ⟨oq, e, hoq, he, hbd, heq⟩ := dirB_spec hdir
      rw [ho'] at hoq
      cases hoq
      have hql := (hdep e he hbd).2
      rw [heq] at hql
      have hpj := (hI.wr q p hq).1 hql
      have hjp : j = p + 1 := by
        rcases Nat.lt_or_ge (p + 1) j with h | h
        · rw [(hI.wr i (p + 1) hkd).2 h] at h1; cases h1
        · omega
      subst hjp
      obtain ⟨hEj, hmk⟩ := hI.late (by omega)
      refine wpOp_of (by simpa using ho') (hthis.1 vs w hEj fun e he hb => hI.val _ (hdep e he hb).1 (hdep e he hb).2) ?_ (fun e a w he hh => he hh.1)
      rintro a' w' ⟨_, v, rfl, hs⟩
      rw [fill_put vs l a0 i o v hnd ho']
      refine ih (p + 2) _ _ _ (by omega) (by omega) ⟨by simpa using hI.size, ?_, hdown, ?_, fun h => absurd h (by omega), fun _ => ⟨hs, ?_⟩, keepD i hkd (by simp) v hI.dist, fun h => absurd h (by omega)⟩
      · intro k r hk
        by_cases e : i = k
        · subst e
          rw [hkd] at hk
          cases hk
          exact ⟨fun _ => by omega, fun _ => getD_set_same⟩
        · rw [getD_set_ne true e]
          have h0 := hI.wr k r hk
          have hrne : r ≠ p + 1 := fun ep => by
            subst ep
            have hu := List.all_eq_true.1 huniq i (List.mem_range.2 hki)
            have hkl : k < ks.length := by
              rcases Nat.lt_or_ge k ks.length with h | h
              · exact h
              · rw [List.getElem?_eq_none h] at hk; cases hk
            have hu := List.all_eq_true.1 hu k (List.mem_range.2 hkl)
            rw [hkd, hk] at hu
            simp at hu
            exact e hu
          constructor
          · intro h; have := h0.1 h; omega
          · intro h; exact h0.2 (by omega)
      · intro k hk hlk
        by_cases e : k = i
        · subst e; rw [hthis.2]; exact ⟨w', trivial⟩
        · rw [if_neg e]; rw [getD_set_ne true (fun x => e x.symm)] at hlk; exact hI.val k hk hlk
      · intro k hk
        by_cases e : i = k
        · subst e; exact getD_set_same
        · rw [getD_set_ne true e]; exact hmk k hk

/-- **A REGION THAT DRAWS ITS ORDER AND WRITES.** ks: what each operation is; K: what the first write waits for; E p: what stands behind the p-th write. -/
theorem wp_region_plan {P : Program} {id : Nat} {Q : Exit → Act → World → Prop} {a : Act} {w : World} {l : List Oper} (ks : List Kind) (K : List Nat) (m : Nat) (E : Nat → (Nat → Value) → World → Prop)
    (hm : P.follows .mixedOrders = true) (hnd : (l.filterMap (·.dst)).Nodup) (hback : backB .any l = true) (hplan : planB l ks K m = true) (huniq : uniqB ks = true) (hall : allB ks m = true)
    (hE : ∀ p vs vs' w, (∀ k, ks[k]? ≠ some .pure → vs' k = vs k) → E p vs w → E p vs' w)
    (h : OpsIs P l.toArray (fun vs => fill vs l 0 a) w ks K E (fun S => ∀ vs u, E m vs u → (∀ k, k < l.length → ∃ x, S k (vs k) x) → Q .normal (fill vs l 0 a) u) (l.zip ks) 0 (fun _ _ _ => True)) :
    (Code.region id l.toArray true).wp P Q a w := by
  obtain ⟨S, _, h2, h3, h4⟩ := OpsIs.all (l.zip ks) 0 (fun _ _ _ => True) (fun k hk => by omega) (fun k _ => rfl) h
  refine wp_region_any hm ?_
  have e : fill (fun k => match (l[k]?).bind (·.dst) with | some t => a.tmps.getD t undef | none => undef) l 0 a = a := by
    refine fill_same l 0 _ a fun j o t hj hd => ?_
    simp only [Nat.zero_add, hj, Option.bind_some, hd]
  have hun : ∀ k, k < l.length → (Array.replicate l.length false).getD k true = true → False := fun k hk hl => by simp [hk] at hl
  have hlen : ks.length = l.length := by
    simp only [planB, Bool.and_eq_true, decide_eq_true_eq] at hplan
    exact hplan.1.1
  have := wpAny_of_plan (P := P) (Q := Q) (a0 := a) (B := w) hnd hback hplan huniq hall h2 hE (fun j o k hj hk => by have := h3 j o k (by rw [List.getElem?_zip_eq_some]; exact ⟨hj, hk⟩); rwa [Nat.zero_add] at this) h4 l.length 0 (Array.replicate l.length false)
    (fun k => match (l[k]?).bind (·.dst) with | some t => a.tmps.getD t undef | none => undef) { w with drawn := w.drawn + 1 } (Nat.zero_le _)
    (by unfold left; exact Nat.le_trans List.countP_le_length (by simp))
    ⟨by simp, fun i p hi => ⟨fun hl => by
        have : i < l.length := by
          rcases Nat.lt_or_ge i ks.length with h | h
          · omega
          · rw [List.getElem?_eq_none h] at hi; cases hi
        exact (hun i this hl).elim, fun h => absurd h (by omega)⟩, fun j o ho hl => by
        have : j < l.length := by
          rcases Nat.lt_or_ge j l.length with h | h
          · exact h
          · rw [List.getElem?_eq_none h] at ho; cases ho
        exact (hun j this hl).elim, fun k hk hl => (hun k hk hl).elim, fun _ => ⟨Below.drew (Below.refl _ _), fun k hk hl => (hun k hk hl).elim⟩, fun h => absurd h (by omega),
      fun i j _ hi _ hl _ => by
        have : i < l.length := by
          rcases Nat.lt_or_ge i ks.length with h | h
          · omega
          · rw [List.getElem?_eq_none h] at hi; cases hi
        exact (hun i this hl).elim, fun _ i hi hl => by
        have : i < l.length := by
          rcases Nat.lt_or_ge i ks.length with h | h
          · omega
          · rw [List.getElem?_eq_none h] at hi; cases hi
        exact (hun i this hl).elim⟩
  rw [e] at this
  simpa using this

theorem OpsIs.eq {P : Program} {ops : Array Oper} {F : (Nat → Value) → Act} {B : World} {ks : List Kind} {K : List Nat} {E : Nat → (Nat → Value) → World → Prop} {Fin : (Nat → Value → World → Prop) → Prop} {l : List (Oper × Kind)} {i : Nat} {o : Oper} {S : Nat → Value → World → Prop} {c : Value}
    (hop : OpOK P ops F B o S (fun v _ => v = c)) (h : OpsIs P ops F B ks K E Fin l (i + 1) (fun k => if k = i then (fun v _ => v = c) else S k)) : OpsIs P ops F B ks K E Fin ((o, .make) :: l) i S :=
  ⟨_, Stab_eq c, hop, h⟩
theorem OpsIs.step {P : Program} {ops : Array Oper} {F : (Nat → Value) → Act} {B : World} {ks : List Kind} {K : List Nat} {E : Nat → (Nat → Value) → World → Prop} {Fin : (Nat → Value → World → Prop) → Prop} {l : List (Oper × Kind)} {i : Nat} {o : Oper} {S : Nat → Value → World → Prop}
    (R : Value → World → Prop) (hst : Stab R) (hop : OpOK P ops F B o S R) (h : OpsIs P ops F B ks K E Fin l (i + 1) (fun k => if k = i then R else S k)) : OpsIs P ops F B ks K E Fin ((o, .make) :: l) i S :=
  ⟨R, hst, hop, h⟩
theorem OpsIs.fresh {P : Program} {ops : Array Oper} {F : (Nat → Value) → Act} {B : World} {ks : List Kind} {K : List Nat} {E : Nat → (Nat → Value) → World → Prop} {Fin : (Nat → Value → World → Prop) → Prop} {l : List (Oper × Kind)} {i : Nat} {o : Oper} {S : Nat → Value → World → Prop}
    (R : Value → World → Prop) (hst : Stab R) (hop : OpFresh P ops F B o S R) (h : OpsIs P ops F B ks K E Fin l (i + 1) (fun k => if k = i then R else S k)) : OpsIs P ops F B ks K E Fin ((o, .fresh) :: l) i S :=
  ⟨R, hst, hop, h⟩
theorem OpsIs.pure {P : Program} {ops : Array Oper} {F : (Nat → Value) → Act} {B : World} {ks : List Kind} {K : List Nat} {E : Nat → (Nat → Value) → World → Prop} {Fin : (Nat → Value → World → Prop) → Prop} {l : List (Oper × Kind)} {i : Nat} {o : Oper} {S : Nat → Value → World → Prop} {c : Value}
    (hop : OpPure P ops F o S (fun v _ => v = c)) (h : OpsIs P ops F B ks K E Fin l (i + 1) (fun k => if k = i then (fun v _ => v = c) else S k)) : OpsIs P ops F B ks K E Fin ((o, .pure) :: l) i S :=
  ⟨_, Stab_eq c, hop, h⟩
theorem OpsIs.first {P : Program} {ops : Array Oper} {F : (Nat → Value) → Act} {B : World} {ks : List Kind} {K : List Nat} {E : Nat → (Nat → Value) → World → Prop} {Fin : (Nat → Value → World → Prop) → Prop} {l : List (Oper × Kind)} {i : Nat} {o : Oper} {S : Nat → Value → World → Prop}
    (hop : OpFirst P ops F B i o ks K S (E 1)) (h : OpsIs P ops F B ks K E Fin l (i + 1) (fun k => if k = i then (fun _ _ => True) else S k)) : OpsIs P ops F B ks K E Fin ((o, .write 0) :: l) i S :=
  ⟨_, Stab_any, ⟨hop, rfl⟩, h⟩
theorem OpsIs.next {P : Program} {ops : Array Oper} {F : (Nat → Value) → Act} {B : World} {ks : List Kind} {K : List Nat} {E : Nat → (Nat → Value) → World → Prop} {Fin : (Nat → Value → World → Prop) → Prop} {l : List (Oper × Kind)} {i p : Nat} {o : Oper} {S : Nat → Value → World → Prop}
    (hop : OpNext P ops F i o S (E (p + 1)) (E (p + 2))) (h : OpsIs P ops F B ks K E Fin l (i + 1) (fun k => if k = i then (fun _ _ => True) else S k)) : OpsIs P ops F B ks K E Fin ((o, .write (p + 1)) :: l) i S :=
  ⟨_, Stab_any, ⟨hop, rfl⟩, h⟩
theorem OpsIs.done {P : Program} {ops : Array Oper} {F : (Nat → Value) → Act} {B : World} {ks : List Kind} {K : List Nat} {E : Nat → (Nat → Value) → World → Prop} {Fin : (Nat → Value → World → Prop) → Prop} {i : Nat} {S : Nat → Value → World → Prop} (h : Fin S) : OpsIs P ops F B ks K E Fin [] i S := h

end Go.Proofs.YtdfkbahlngijcaaDoor
