/- A region inside a fence that draws its order and ends in writes, where no operation makes a call (printed by gen/clone_i.py out of the law outside a fence). (printed by slim.py.) -/
import Derived.Test.YtdfkbahlngijcaaDoorQKa
import Derived.OrdersIn
import Derived.Deep.MidRow
namespace Go.Proofs.YtdfkbahlngijcaaDoor
open Go.RowKit
set_option linter.unusedVariables false

/-- an operation that makes no call -/
structure PlainOp (P : Program) (o : Oper) : Prop where
  nd : ∀ c, o.op ≠ .defer c
  ab : ∀ w ρ, o.about P w ρ = none
  run : ∀ ρ w m w', (execOp ρ o).run P w = .ok m w' → (∃ v, m = .value v) ∨ m = .skip
theorem plain_load {P : Program} {o : Oper} {t : TypeId} {x : Operand} (h : o.op = .load t x) : PlainOp P o := by
  refine ⟨fun c e => (by rw [h] at e; cases e), fun w ρ => (by unfold Oper.about; rw [h]), fun ρ w m w' e => ?_⟩
  unfold execOp at e
  rw [h] at e
  simp only [Sem.run_bind] at e
  cases hr : (Instr.loadAt t (ρ x)).run P w with
  | ok v u => rw [hr] at e; injection e with e _; exact .inl ⟨v, e.symm⟩
  | halt k u => rw [hr] at e; cases e
theorem plain_build {P : Program} {o : Oper} {t : TypeId} {x : Array (Nat × Operand)} (h : o.op = .build t x) : PlainOp P o := by
  refine ⟨fun c e => (by rw [h] at e; cases e), fun w ρ => (by unfold Oper.about; rw [h]), fun ρ w m w' e => ?_⟩
  unfold execOp at e
  rw [h] at e
  simp only [Sem.run_bind] at e
  cases hr : (Instr.build t (x.map fun (i, x) => (i, ρ x))).run P w with
  | ok v u => rw [hr] at e; injection e with e _; exact .inl ⟨v, e.symm⟩
  | halt k u => rw [hr] at e; cases e
theorem plain_field {P : Program} {o : Oper} {t : TypeId} {x : Operand} {f : Nat} (h : o.op = .fieldAddr t x f) : PlainOp P o := by
  refine ⟨fun c e => (by rw [h] at e; cases e), fun w ρ => (by unfold Oper.about; rw [h]), fun ρ w m w' e => ?_⟩
  unfold execOp at e
  rw [h] at e
  simp only [Sem.run_bind] at e
  cases hr : (Instr.fieldAt t (ρ x) f).run P w with
  | ok v u => rw [hr] at e; injection e with e _; exact .inl ⟨v, e.symm⟩
  | halt k u => rw [hr] at e; cases e
theorem plain_store {P : Program} {o : Oper} {t : TypeId} {x y : Operand} (h : o.op = .store t x y) : PlainOp P o := by
  refine ⟨fun c e => (by rw [h] at e; cases e), fun w ρ => (by unfold Oper.about; rw [h]), fun ρ w m w' e => ?_⟩
  unfold execOp at e
  rw [h] at e
  simp only [Sem.run_bind] at e
  cases hr : (Instr.storeAt t (ρ x) (ρ y)).run P w with
  | ok v u => rw [hr] at e; injection e with e _; exact .inr e.symm
  | halt k u => rw [hr] at e; cases e
theorem bind_ok {α β : Type} {P : Program} {s : Sem α} {f : α → Sem β} {w w' : World} {m : β} (h : (s >>= f).run P w = .ok m w') : ∃ x u, s.run P w = .ok x u ∧ (f x).run P u = .ok m w' := by
  simp only [Sem.run_bind] at h
  cases hr : s.run P w with
  | ok x u => rw [hr] at h; exact ⟨x, u, rfl, h⟩
  | halt k u => rw [hr] at h; cases h
theorem plain_nil {P : Program} {o : Oper} {x : Operand} (h : o.op = .nilCheck x) : PlainOp P o := by
  refine ⟨fun c e => (by rw [h] at e; cases e), fun w ρ => (by unfold Oper.about; rw [h]), fun ρ w m w' e => ?_⟩
  unfold execOp at e
  rw [h] at e
  simp only at e
  split at e
  · cases e
  · cases e
  · cases e
  · split at e
    · cases e
    · obtain ⟨x1, u1, -, e⟩ := bind_ok e
      obtain ⟨x2, u2, -, e⟩ := bind_ok e
      split at e
      · obtain ⟨x3, u3, -, e⟩ := bind_ok e
        injection e with e _; exact .inl ⟨_, e.symm⟩
      · injection e with e _; exact .inl ⟨_, e.symm⟩
    · injection e with e _; exact .inl ⟨_, e.symm⟩
  · injection e with e _; exact .inl ⟨_, e.symm⟩
theorem uponIn_goes {F : Fence} {n : Nat} {P : Program} {o : Oper} {a : Act} {K K' : Act → World → Prop} {Q Q' : Exit → Act → World → Prop} {r : Result Next} (hr : ∀ m w', r = .ok m w' → (∃ v, m = .value v) ∨ m = .skip)
    (hK : ∀ a w, K a w → K' a w) (hQ : ∀ e a w, e ≠ .normal → ¬ Q e a w) (h : o.upon P a K Q r) : o.uponIn F n P a K' Q' r := by
  cases r with
  | ok m w =>
    rcases hr m w rfl with ⟨v, rfl⟩ | rfl
    · exact hK _ _ h
    · exact hK _ _ h
  | halt x w =>
    cases x with
    | panic v => exact absurd h (hQ _ _ _ (by simp))
    | _ => exact (h : False).elim
theorem wpOpIn_of {F : Fence} {n : Nat} {P : Program} {ops : Array Oper} {Q G : Exit → Act → World → Prop} {i : Nat} {o : Oper} {K : Act → World → Prop} {a : Act} {w : World} (ho : ops[i]? = some o) (hpl : PlainOp P o)
    (h : wpList P ops G [o] a w) (hK : ∀ a w, G .normal a w → K a w) (hQ : ∀ e a w, e ≠ .normal → ¬ G e a w) : wpOpIn F n P ops Q i K a w := by
  have hab : ∀ f, o.about P w a.eval = some f → F.fn f := fun f hf => by rw [hpl.ab] at hf; cases hf
  unfold wpOpIn
  rw [ho]
  simp only [wpList] at h
  simp only
  by_cases hwt : Region.wanted o (yielded ops a.tmps) = true
  · rw [if_pos hwt] at h ⊢
    rcases h with h | ⟨_, a', w', hh⟩
    · refine ⟨hab, ?_⟩
      rw [Oper.semAt_eq _ _ _ hpl.nd]
      exact uponIn_goes (fun m w' e => hpl.run _ _ _ _ e) hK hQ h
    · exact absurd hh (hQ _ _ _ (by simp))
  · rw [if_neg hwt] at h ⊢
    exact ⟨hab, hK _ _ h⟩

theorem wpAnyIn_of_plan {F : Fence} {n : Nat} {P : Program} {l : List Oper} {ks : List Kind} {K : List Nat} {m : Nat} {Q : Exit → Act → World → Prop} {a0 : Act} {B : World} {S : Nat → Value → World → Prop} {E : Nat → (Nat → Value) → World → Prop}
    (hpl : ∀ o ∈ l, PlainOp P o) (hnd : (l.filterMap (·.dst)).Nodup) (hback : backB .any l = true) (hplan : planB l ks K m = true) (huniq : uniqB ks = true) (hall : allB ks m = true) (hst : ∀ k, Stab (S k))
    (hE : ∀ p vs vs' w, (∀ k, ks[k]? ≠ some .pure → vs' k = vs k) → E p vs w → E p vs' w)
    (hop : ∀ j o k, l[j]? = some o → ks[j]? = some k → OpIs P l.toArray (fun vs => fill vs l 0 a0) B ks K E j o k S (S j))
    (hfin : ∀ vs w, E m vs w → (∀ k, k < l.length → ∃ u, S k (vs k) u) → Q .normal (fill vs l 0 a0) w) :
    ∀ (fuel : Nat) (j : Nat) (listed : Array Bool) (vs : Nat → Value) (w : World), j ≤ m → left l.length listed ≤ fuel → Inv l ks S E B j listed vs w → wpAnyIn F n P .any l.toArray Q fuel listed (fill vs l 0 a0) w := by
  simp only [planB, Bool.and_eq_true, decide_eq_true_eq] at hplan
  have hplain := hpl
  clear hpl
  obtain ⟨⟨hlen, hm0⟩, hpl⟩ := hplan
  have done : ∀ (j : Nat) (listed : Array Bool) (vs : Nat → Value) (w : World), j ≤ m → Inv l ks S E B j listed vs w → (∀ k, k < l.length → listed.getD k true = true) → Q .normal (fill vs l 0 a0) w := by
    intro j listed vs w hjm hI hl
    have hjm : j = m := by
      rcases Nat.lt_or_ge j m with h | h
      · exfalso
        have := List.all_eq_true.1 hall j (List.mem_range.2 h)
        rw [List.any_eq_true] at this
        obtain ⟨i, hi, hk⟩ := this
        simp at hk
        have := (hI.wr i j hk).1 (hl i (by rw [List.mem_range] at hi; omega))
        omega
      · omega
    subst hjm
    exact hfin vs w (hI.late hm0).1 fun k hk => hI.val k hk (hl k hk)
  have ready : ∀ (listed : Array Bool), Region.ready .any l.toArray listed = [] → ∀ k, k < l.length → listed.getD k true = true := by
    intro listed hr k
    induction k using Nat.strongRecOn with
    | ind k ih =>
      intro hk
      rcases hl : listed.getD k true with _ | _
      · exfalso
        have hm : k ∈ Region.ready .any l.toArray listed := by
          rw [mem_ready]
          refine ⟨hl, l[k], by simp [hk], fun e he hb => ?_⟩
          have hlt : e.on < k := by
            have := List.all_eq_true.1 hback k (List.mem_range.2 hk)
            rw [List.getElem?_eq_getElem hk] at this
            have := List.all_eq_true.1 this e (by simpa using he)
            rw [hb] at this
            simpa using this
          have h1 := ih e.on hlt (by omega)
          rcases Nat.lt_or_ge e.on listed.size with h | h
          · simp [h] at h1 ⊢; exact h1
          · exfalso
            have : listed.getD k true = true := by simp [show listed.size ≤ k by omega]
            rw [this] at hl; cases hl
        rw [hr] at hm; cases hm
      · rfl
  intro fuel
  induction fuel with
  | zero =>
    intro j listed vs w hjm hlf hI
    have hall' : ∀ k, k < l.length → listed.getD k true = true := fun k hk => by
      have h0 : left l.length listed = 0 := by omega
      unfold left at h0
      rw [List.countP_eq_zero] at h0
      simpa using h0 k (List.mem_range.2 hk)
    refine ⟨?_, done j listed vs w hjm hI hall'⟩
    rw [List.eq_nil_iff_forall_not_mem]
    intro i hi
    obtain ⟨h1, o, ho, _⟩ := mem_ready.1 hi
    have hil : i < l.length := by
      rcases Nat.lt_or_ge i l.length with h | h
      · exact h
      · simp [h] at ho
    rw [hall' i hil] at h1; cases h1
  | succ fuel ih =>
    intro j listed vs w hjm hlf hI
    refine ⟨fun hr => done j listed vs w hjm hI (ready listed hr), fun i hi => ?_⟩
    obtain ⟨h1, o, ho, hdep0⟩ := mem_ready.1 hi
    have hil : i < l.length := by
      rcases Nat.lt_or_ge i l.length with h | h
      · exact h
      · simp [h] at ho
    have ho' : l[i]? = some o := by simpa using ho
    have hdep : ∀ e ∈ o.after, Region.binds .any e = true → e.on < l.length ∧ listed.getD e.on true = true := fun e he hbd => by
      have h2 := hdep0 e he hbd
      have h3 : e.on < l.length := by
        rcases Nat.lt_or_ge e.on listed.size with hh | hh
        · have := hI.size; omega
        · simp [hh] at h2
      refine ⟨h3, ?_⟩
      simp [hI.size ▸ h3] at h2 ⊢; exact h2
    have hdep' : ∀ o', l[i]? = some o' → ∀ e ∈ o'.after, Region.binds .any e = true → listed.getD e.on true = true := fun o' h e he hb => by
      rw [ho'] at h; cases h
      exact (hdep e he hb).2
    have hki : i < ks.length := by omega
    obtain ⟨kd, hkd⟩ : ∃ k, ks[i]? = some k := ⟨_, List.getElem?_eq_getElem hki⟩
    have hlt := left_lt hI.size hil h1
    have hdown := hI.down.set hdep'
    have hthis := hop i o kd ho' hkd
    have keepD : ∀ (q : Nat) {kq : Kind}, ks[q]? = some kq → kq ≠ .fresh → ∀ v, (∀ a b, a ≠ b → ks[a]? = some .fresh → ks[b]? = some .fresh → listed.getD a true = true → listed.getD b true = true → vs a ≠ vs b) →
        ∀ a b, a ≠ b → ks[a]? = some .fresh → ks[b]? = some .fresh → (listed.setIfInBounds q true).getD a true = true → (listed.setIfInBounds q true).getD b true = true → (fun k => if k = q then v else vs k) a ≠ (fun k => if k = q then v else vs k) b := by
      intro q kq hq hne v h a b hab ha hb hla hlb
      have e1 : a ≠ q := fun e => by subst e; rw [hq] at ha; injection ha with ha; exact hne ha
      have e2 : b ≠ q := fun e => by subst e; rw [hq] at hb; injection hb with hb; exact hne hb
      rw [getD_set_ne true (fun x => e1 x.symm)] at hla
      rw [getD_set_ne true (fun x => e2 x.symm)] at hlb
      show (if a = q then _ else _) ≠ (if b = q then _ else _)
      rw [if_neg e1, if_neg e2]
      exact h a b hab ha hb hla hlb
    have keepL : ∀ (q : Nat) {kq : Kind}, ks[q]? = some kq → kq ≠ .fresh → ∀ v {w' : World}, w.heap.size ≤ w'.heap.size → (∀ a, ks[a]? = some .fresh → listed.getD a true = true → ∃ b, vs a = .pointer (some ⟨b, 0, none⟩) ∧ b < w.heap.size) →
        j = 0 → ∀ a, ks[a]? = some .fresh → (listed.setIfInBounds q true).getD a true = true → ∃ b, (fun k => if k = q then v else vs k) a = .pointer (some ⟨b, 0, none⟩) ∧ b < w'.heap.size := by
      intro q kq hq hne v w' hsz h _ a ha hla
      have e1 : a ≠ q := fun e => by subst e; rw [hq] at ha; injection ha with ha; exact hne ha
      rw [getD_set_ne true (fun x => e1 x.symm)] at hla
      obtain ⟨b, hv, hb⟩ := h a ha hla
      refine ⟨b, ?_, Nat.lt_of_lt_of_le hb hsz⟩
      show (if a = q then _ else _) = _
      rw [if_neg e1]; exact hv
    match kd, hkd, hthis with
    | .make, hkd, hthis =>
      have hj0 : j = 0 := by
        rcases Nat.eq_zero_or_pos j with h | h
        · exact h
        · rw [(hI.late h).2 i (.inl hkd)] at h1; cases h1
      obtain ⟨hB, hS⟩ := hI.early hj0
      refine wpOpIn_of (by simpa using ho') (hplain _ (List.mem_of_getElem? ho')) (hthis vs w hB fun e he hb => hS _ (hdep e he hb).1 (hdep e he hb).2) ?_ (fun e a w he hh => he hh.1)
      rintro a' w' ⟨_, v, rfl, hbw, hs⟩
      rw [fill_put vs l a0 i o v hnd ho']
      refine ih j _ _ _ hjm (by omega) ⟨by simpa using hI.size, ?_, hdown, ?_, ?_, fun h => absurd h (by omega), keepD i hkd (by simp) v hI.dist, keepL i hkd (by simp) v hbw.size (hI.low hj0)⟩
      · intro k p hk
        have : i ≠ k := fun e => by subst e; rw [hkd] at hk; cases hk
        rw [getD_set_ne true this]; exact hI.wr k p hk
      · intro k hk hlk
        by_cases e : k = i
        · subst e; rw [if_pos rfl]; exact ⟨_, hs⟩
        · rw [if_neg e]; rw [getD_set_ne true (fun x => e x.symm)] at hlk; exact hI.val k hk hlk
      · intro _
        refine ⟨below_step hB hbw, fun k hk hlk => ?_⟩
        by_cases e : k = i
        · subst e; rw [if_pos rfl]; exact hs
        · rw [if_neg e]; rw [getD_set_ne true (fun x => e x.symm)] at hlk; exact hst k _ _ _ (hS k hk hlk) hbw
    | .fresh, hkd, hthis =>
      have hj0 : j = 0 := by
        rcases Nat.eq_zero_or_pos j with h | h
        · exact h
        · rw [(hI.late h).2 i (.inr hkd)] at h1; cases h1
      obtain ⟨hB, hS⟩ := hI.early hj0
      refine wpOpIn_of (by simpa using ho') (hplain _ (List.mem_of_getElem? ho')) (hthis vs w hB fun e he hb => hS _ (hdep e he hb).1 (hdep e he hb).2) ?_ (fun e a w he hh => he hh.1)
      rintro a' w' ⟨_, b, hbge, hblt, rfl, hbw, hs⟩
      rw [fill_put vs l a0 i o _ hnd ho']
      refine ih j _ _ _ hjm (by omega) ⟨by simpa using hI.size, ?_, hdown, ?_, ?_, fun h => absurd h (by omega), ?_, ?_⟩
      · intro k p hk
        have : i ≠ k := fun e => by subst e; rw [hkd] at hk; cases hk
        rw [getD_set_ne true this]; exact hI.wr k p hk
      · intro k hk hlk
        by_cases e : k = i
        · subst e; rw [if_pos rfl]; exact ⟨_, hs⟩
        · rw [if_neg e]; rw [getD_set_ne true (fun x => e x.symm)] at hlk; exact hI.val k hk hlk
      · intro _
        refine ⟨below_step hB hbw, fun k hk hlk => ?_⟩
        by_cases e : k = i
        · subst e; rw [if_pos rfl]; exact hs
        · rw [if_neg e]; rw [getD_set_ne true (fun x => e x.symm)] at hlk; exact hst k _ _ _ (hS k hk hlk) hbw
      · intro p q hpq hp hq hlp hlq
        by_cases e1 : p = i
        · have e2 : q ≠ i := fun e => hpq (e1.trans e.symm)
          rw [getD_set_ne true (fun x => e2 x.symm)] at hlq
          obtain ⟨b', hv', hb'⟩ := hI.low hj0 q hq hlq
          show (if p = i then _ else _) ≠ (if q = i then _ else _)
          rw [if_pos e1, if_neg e2, hv']
          intro h
          injection h with h
          injection h with h
          injection h with h
          omega
        · by_cases e2 : q = i
          · rw [getD_set_ne true (fun x => e1 x.symm)] at hlp
            obtain ⟨b', hv', hb'⟩ := hI.low hj0 p hp hlp
            show (if p = i then _ else _) ≠ (if q = i then _ else _)
            rw [if_neg e1, if_pos e2, hv']
            intro h
            injection h with h
            injection h with h
            injection h with h
            omega
          · rw [getD_set_ne true (fun x => e1 x.symm)] at hlp
            rw [getD_set_ne true (fun x => e2 x.symm)] at hlq
            show (if p = i then _ else _) ≠ (if q = i then _ else _)
            rw [if_neg e1, if_neg e2]
            exact hI.dist p q hpq hp hq hlp hlq
      · intro _ p hp hlp
        by_cases e1 : p = i
        · show ∃ b', (if p = i then _ else _) = _ ∧ _
          rw [if_pos e1]
          exact ⟨b, rfl, hblt⟩
        · rw [getD_set_ne true (fun x => e1 x.symm)] at hlp
          obtain ⟨b', hv', hb'⟩ := hI.low hj0 p hp hlp
          refine ⟨b', ?_, Nat.lt_of_lt_of_le hb' hbw.size⟩
          show (if p = i then _ else _) = _
          rw [if_neg e1]; exact hv'
    | .pure, hkd, hthis =>
      refine wpOpIn_of (by simpa using ho') (hplain _ (List.mem_of_getElem? ho')) (hthis vs w fun e he hb => hI.val _ (hdep e he hb).1 (hdep e he hb).2) ?_ (fun e a w he hh => he hh.1)
      rintro a' w' ⟨_, v, rfl, rfl, hs⟩
      rw [fill_put vs l a0 i o v hnd ho']
      refine ih j _ _ _ hjm (by omega) ⟨by simpa using hI.size, ?_, hdown, ?_, ?_, ?_, keepD i hkd (by simp) v hI.dist, fun h0 => keepL i hkd (by simp) v (Nat.le_refl _) (hI.low h0) h0⟩
      · intro k p hk
        have : i ≠ k := fun e => by subst e; rw [hkd] at hk; cases hk
        rw [getD_set_ne true this]; exact hI.wr k p hk
      · intro k hk hlk
        by_cases e : k = i
        · subst e; rw [if_pos rfl]; exact ⟨w', hs w'⟩
        · rw [if_neg e]; rw [getD_set_ne true (fun x => e x.symm)] at hlk; exact hI.val k hk hlk
      · intro hj0
        obtain ⟨hB, hS⟩ := hI.early hj0
        refine ⟨hB, fun k hk hlk => ?_⟩
        by_cases e : k = i
        · subst e; rw [if_pos rfl]; exact hs w'
        · rw [if_neg e]; rw [getD_set_ne true (fun x => e x.symm)] at hlk; exact hS k hk hlk
      · intro hj0
        obtain ⟨hEj, hmk⟩ := hI.late hj0
        refine ⟨hE j vs _ w' (fun k hk => ?_) hEj, fun k hk => ?_⟩
        · show (if k = i then v else vs k) = vs k
          rw [if_neg (fun e => by subst e; exact hk hkd)]
        · by_cases e : i = k
          · subst e; exact getD_set_same
          · rw [getD_set_ne true e]; exact hmk k hk
    | .write 0, hkd, hthis =>
      have hp := List.all_eq_true.1 hpl i (List.mem_range.2 hki)
      rw [hkd] at hp
      simp only [Bool.and_eq_true] at hp
      obtain ⟨hcl, hmk⟩ := hp
      have hj0 : j = 0 := by
        rcases Nat.eq_zero_or_pos j with h | h
        · exact h
        · rw [(hI.wr i 0 hkd).2 h] at h1; cases h1
      obtain ⟨hB, hS⟩ := hI.early hj0
      have hKl := closed_listed hcl hI.down hdep'
      have hKb : ∀ k ∈ K, k < l.length := fun k hk => by
        have := List.all_eq_true.1 hcl k hk
        rw [List.any_eq_true] at this
        obtain ⟨q, _, hh⟩ := this
        simp at hh
        obtain ⟨oq, _, hoq, _⟩ := dirB_spec hh.2
        have : q < l.length := by
          rcases Nat.lt_or_ge q l.length with h | h
          · exact h
          · rw [List.getElem?_eq_none h] at hoq; cases hoq
        omega
      have hfr : ∀ p, ks[p]? = some .fresh → listed.getD p true = true := fun p hp => by
        have hpl' : p < ks.length := by
          rcases Nat.lt_or_ge p ks.length with h | h
          · exact h
          · rw [List.getElem?_eq_none h] at hp; cases hp
        have := List.all_eq_true.1 hmk p (List.mem_range.2 hpl')
        rw [hp] at this
        exact hKl p (by simpa using this)
      refine wpOpIn_of (by simpa using ho') (hplain _ (List.mem_of_getElem? ho')) (hthis.1 vs w hB (fun p q hpq hp hq => hI.dist p q hpq hp hq (hfr p hp) (hfr q hq)) fun k hk => hS k (hKb k hk) (hKl k hk)) ?_ (fun e a w he hh => he hh.1)
      rintro a' w' ⟨_, v, rfl, hs⟩
      rw [fill_put vs l a0 i o v hnd ho']
      subst hj0
      refine ih 1 _ _ _ (by omega) (by omega) ⟨by simpa using hI.size, ?_, hdown, ?_, fun h => absurd h (by omega), fun _ => ⟨hs, ?_⟩, keepD i hkd (by simp) v hI.dist, fun h => absurd h (by omega)⟩
      · intro k p hk
        by_cases e : i = k
        · subst e
          rw [hkd] at hk
          cases hk
          exact ⟨fun _ => by omega, fun _ => getD_set_same⟩
        · rw [getD_set_ne true e]
          have h0 := hI.wr k p hk
          have hpne : p ≠ 0 := fun ep => by
            subst ep
            have hu := List.all_eq_true.1 huniq i (List.mem_range.2 hki)
            have hkl : k < ks.length := by
              rcases Nat.lt_or_ge k ks.length with h | h
              · exact h
              · rw [List.getElem?_eq_none h] at hk; cases hk
            have hu := List.all_eq_true.1 hu k (List.mem_range.2 hkl)
            rw [hkd, hk] at hu
            simp at hu
            exact e hu
          constructor
          · intro h; have := h0.1 h; omega
          · intro h; exfalso; omega
      · intro k hk hlk
        by_cases e : k = i
        · subst e; rw [hthis.2]; exact ⟨w', trivial⟩
        · rw [if_neg e]; rw [getD_set_ne true (fun x => e x.symm)] at hlk; exact hI.val k hk hlk
      · intro k hk
        by_cases e : i = k
        · subst e; exact getD_set_same
        · rw [getD_set_ne true e]
          have hkl : k < ks.length := by
            rcases Nat.lt_or_ge k ks.length with h | h
            · exact h
            · rw [List.getElem?_eq_none h] at hk; rcases hk with hk | hk <;> cases hk
          have := List.all_eq_true.1 hmk k (List.mem_range.2 hkl)
          rcases hk with hk | hk
          · rw [hk] at this
            exact hKl k (by simpa using this)
          · rw [hk] at this
            exact hKl k (by simpa using this)
    | .write (p + 1), hkd, hthis =>
      have hp := List.all_eq_true.1 hpl i (List.mem_range.2 hki)
      rw [hkd] at hp
      simp only [Bool.and_eq_true, decide_eq_true_eq] at hp
      obtain ⟨hpm, hprev⟩ := hp
      rw [List.any_eq_true] at hprev
      obtain ⟨q, _, hh⟩ := hprev
      simp at hh
      obtain ⟨hq, hdir⟩ := hh
      obtain ⟨oq, e, hoq, he, hbd, heq⟩ := dirB_spec hdir
      rw [ho'] at hoq
      cases hoq
      have hql := (hdep e he hbd).2
      rw [heq] at hql
      have hpj := (hI.wr q p hq).1 hql
      have hjp : j = p + 1 := by
        rcases Nat.lt_or_ge (p + 1) j with h | h
        · rw [(hI.wr i (p + 1) hkd).2 h] at h1; cases h1
        · omega
      subst hjp
      obtain ⟨hEj, hmk⟩ := hI.late (by omega)
      refine wpOpIn_of (by simpa using ho') (hplain _ (List.mem_of_getElem? ho')) (hthis.1 vs w hEj fun e he hb => hI.val _ (hdep e he hb).1 (hdep e he hb).2) ?_ (fun e a w he hh => he hh.1)
      rintro a' w' ⟨_, v, rfl, hs⟩
      rw [fill_put vs l a0 i o v hnd ho']
      refine ih (p + 2) _ _ _ (by omega) (by omega) ⟨by simpa using hI.size, ?_, hdown, ?_, fun h => absurd h (by omega), fun _ => ⟨hs, ?_⟩, keepD i hkd (by simp) v hI.dist, fun h => absurd h (by omega)⟩
      · intro k r hk
        by_cases e : i = k
        · subst e
          rw [hkd] at hk
          cases hk
          exact ⟨fun _ => by omega, fun _ => getD_set_same⟩
        · rw [getD_set_ne true e]
          have h0 := hI.wr k r hk
          have hrne : r ≠ p + 1 := fun ep => by
            subst ep
            have hu := List.all_eq_true.1 huniq i (List.mem_range.2 hki)
            have hkl : k < ks.length := by
              rcases Nat.lt_or_ge k ks.length with h | h
              · exact h
              · rw [List.getElem?_eq_none h] at hk; cases hk
            have hu := List.all_eq_true.1 hu k (List.mem_range.2 hkl)
            rw [hkd, hk] at hu
            simp at hu
            exact e hu
          constructor
          · intro h; have := h0.1 h; omega
          · intro h; exact h0.2 (by omega)
      · intro k hk hlk
        by_cases e : k = i
        · subst e; rw [hthis.2]; exact ⟨w', trivial⟩
        · rw [if_neg e]; rw [getD_set_ne true (fun x => e x.symm)] at hlk; exact hI.val k hk hlk
      · intro k hk
        by_cases e : i = k
        · subst e; exact getD_set_same
        · rw [getD_set_ne true e]; exact hmk k hk

/-- **A REGION THAT DRAWS ITS ORDER AND WRITES.** ks: what each operation is; K: what the first write waits for; E p: what stands behind the p-th write. -/
theorem wpIn_region_plan {F : Fence} {n : Nat} {P : Program} {id : Nat} {Q : Exit → Act → World → Prop} {a : Act} {w : World} {l : List Oper} (ks : List Kind) (K : List Nat) (m : Nat) (E : Nat → (Nat → Value) → World → Prop)
    (hpl : ∀ o ∈ l, PlainOp P o) (hm : P.follows .mixedOrders = true) (hnd : (l.filterMap (·.dst)).Nodup) (hback : backB .any l = true) (hplan : planB l ks K m = true) (huniq : uniqB ks = true) (hall : allB ks m = true)
    (hE : ∀ p vs vs' w, (∀ k, ks[k]? ≠ some .pure → vs' k = vs k) → E p vs w → E p vs' w)
    (h : OpsIs P l.toArray (fun vs => fill vs l 0 a) w ks K E (fun S => ∀ vs u, E m vs u → (∀ k, k < l.length → ∃ x, S k (vs k) x) → Q .normal (fill vs l 0 a) u) (l.zip ks) 0 (fun _ _ _ => True)) :
    (Code.region id l.toArray true).wpIn F n P Q a w := by
  obtain ⟨S, _, h2, h3, h4⟩ := OpsIs.all (l.zip ks) 0 (fun _ _ _ => True) (fun k hk => by omega) (fun k _ => rfl) h
  refine wpIn_region_any hm ?_
  have e : fill (fun k => match (l[k]?).bind (·.dst) with | some t => a.tmps.getD t undef | none => undef) l 0 a = a := by
    refine fill_same l 0 _ a fun j o t hj hd => ?_
    simp only [Nat.zero_add, hj, Option.bind_some, hd]
  have hun : ∀ k, k < l.length → (Array.replicate l.length false).getD k true = true → False := fun k hk hl => by simp [hk] at hl
  have hlen : ks.length = l.length := by
    simp only [planB, Bool.and_eq_true, decide_eq_true_eq] at hplan
    exact hplan.1.1
  have := wpAnyIn_of_plan (F := F) (n := n) (P := P) (Q := Q) (a0 := a) (B := w) hpl hnd hback hplan huniq hall h2 hE (fun j o k hj hk => by have := h3 j o k (by rw [List.getElem?_zip_eq_some]; exact ⟨hj, hk⟩); rwa [Nat.zero_add] at this) h4 l.length 0 (Array.replicate l.length false)
    (fun k => match (l[k]?).bind (·.dst) with | some t => a.tmps.getD t undef | none => undef) { w with drawn := w.drawn + 1 } (Nat.zero_le _)
    (by unfold left; exact Nat.le_trans List.countP_le_length (by simp))
    ⟨by simp, fun i p hi => ⟨fun hl => by
        have : i < l.length := by
          rcases Nat.lt_or_ge i ks.length with h | h
          · omega
          · rw [List.getElem?_eq_none h] at hi; cases hi
        exact (hun i this hl).elim, fun h => absurd h (by omega)⟩, fun j o ho hl => by
        have : j < l.length := by
          rcases Nat.lt_or_ge j l.length with h | h
          · exact h
          · rw [List.getElem?_eq_none h] at ho; cases ho
        exact (hun j this hl).elim, fun k hk hl => (hun k hk hl).elim, fun _ => ⟨Below.drew (Below.refl _ _), fun k hk hl => (hun k hk hl).elim⟩, fun h => absurd h (by omega),
      fun i j _ hi _ hl _ => by
        have : i < l.length := by
          rcases Nat.lt_or_ge i ks.length with h | h
          · omega
          · rw [List.getElem?_eq_none h] at hi; cases hi
        exact (hun i this hl).elim, fun _ i hi hl => by
        have : i < l.length := by
          rcases Nat.lt_or_ge i ks.length with h | h
          · omega
          · rw [List.getElem?_eq_none h] at hi; cases hi
        exact (hun i this hl).elim⟩
  rw [e] at this
  simpa using this

/-- a store of what lies there already, as an operation that leaves the world -/
theorem goes_stays {P : Program} {ops : Array Oper} {a : Act} {o : Oper} {u : World} {ty : TypeId} {x y : Operand} (hg : o.guard = none) (hop : o.op = .store ty x y)
    (hrun : (Instr.storeAt ty (a.eval x) (a.eval y)).run P u = .ok () u) : wpList P ops (Goes a o u (fun v _ => v = undef)) [o] a u := by
  refine wpList_plain hg fun K' hK' => ?_
  unfold Oper.wp
  simp only [execOp, hop]
  simp [hrun, Result.andThen, Oper.upon]
  exact hK' _ _ ⟨rfl, _, rfl, Below.refl _ _, rfl⟩
end Go.Proofs.YtdfkbahlngijcaaDoor

