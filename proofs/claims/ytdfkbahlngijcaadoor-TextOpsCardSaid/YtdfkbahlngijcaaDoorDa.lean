/- Deltas: the plain model: normal forms, sums, atoms. -/
import Derived.Test.YtdfkbahlngijcaaDoorTb
namespace Go.Proofs.YtdfkbahlngijcaaDoor
set_option linter.unusedVariables false

inductive Dp where
  | ret (n : Nat)
  | ins (t : List UInt8)
  | del (n : Nat)
namespace Dp
def ok : Dp → Prop
  | ret n => 0 < n
  | ins t => t ≠ []
  | del n => 0 < n
def inn : Dp → Nat
  | ret n => n
  | ins _ => 0
  | del n => n
def out : Dp → Nat
  | ret n => n
  | ins t => t.length
  | del _ => 0
def sI : List Dp → Nat
  | [] => 0
  | p :: l => p.inn + sI l
def sO : List Dp → Nat
  | [] => 0
  | p :: l => p.out + sO l
def Ok : List Dp → Prop
  | [] => True
  | p :: l => p.ok ∧ Ok l
def cons : Dp → List Dp → List Dp
  | ret n, ret m :: l => ret (n + m) :: l
  | ins t, ins u :: l => ins (t ++ u) :: l
  | del n, del m :: l => del (n + m) :: l
  | del n, ins u :: del m :: l => ins u :: del (n + m) :: l
  | del n, ins u :: l => ins u :: del n :: l
  | p, l => p :: l
def form : List Dp → List Dp
  | [] => []
  | p :: l => cons p (form l)
def fits : Dp → Dp → Prop
  | ret _, ret _ => False
  | ins _, ins _ => False
  | del _, del _ => False
  | del _, ins _ => False
  | _, _ => True
def hd (p : Dp) : List Dp → Prop
  | [] => True
  | q :: _ => fits p q
def Norm : List Dp → Prop
  | [] => True
  | p :: l => hd p l ∧ Norm l
theorem cons_of_hd {p : Dp} {l : List Dp} (h : hd p l) : cons p l = p :: l := by
  cases l with
  | nil => cases p <;> rfl
  | cons q l => cases p <;> cases q <;> first | rfl | exact h.elim
theorem hd_del (a b : Nat) : ∀ l : List Dp, hd (del a) l → hd (del b) l
  | [], _ => trivial
  | q :: l, h => by cases q <;> first | trivial | exact h.elim
theorem norm_cons (p : Dp) {l : List Dp} (h : Norm l) : Norm (cons p l) := by
  rcases l with _ | ⟨q, _ | ⟨r, l⟩⟩
  · cases p <;> simp [cons, Norm, hd]
  · cases p <;> cases q <;> simp [cons, Norm, hd, fits]
  · cases p <;> cases q <;> cases r <;> first | (simp_all [cons, Norm, hd, fits]; done) | exact ⟨trivial, hd_del _ _ _ h.2.1, h.2.2⟩
theorem form_norm : ∀ l : List Dp, Norm (form l)
  | [] => trivial
  | p :: l => norm_cons p (form_norm l)
theorem form_of_norm : ∀ {l : List Dp}, Norm l → form l = l
  | [], _ => rfl
  | p :: l, h => by
    show cons p (form l) = p :: l
    rw [form_of_norm h.2, cons_of_hd h.1]
theorem ok_cons {p : Dp} {l : List Dp} (hp : p.ok) (hl : Ok l) : Ok (cons p l) := by
  rcases l with _ | ⟨q, _ | ⟨r, l⟩⟩
  · cases p <;> exact ⟨hp, hl⟩
  · cases p <;> cases q <;> simp_all [cons, Ok, ok] <;> omega
  · cases p <;> cases q <;> cases r <;> simp_all [cons, Ok, ok] <;> omega
theorem form_okL : ∀ {l : List Dp}, Ok l → Ok (form l)
  | [], _ => trivial
  | p :: l, h => ok_cons h.1 (form_okL h.2)
theorem sI_cons (p : Dp) (l : List Dp) : sI (cons p l) = p.inn + sI l := by
  rcases l with _ | ⟨q, _ | ⟨r, l⟩⟩
  · cases p <;> rfl
  · cases p <;> cases q <;> simp [cons, sI, inn] <;> omega
  · cases p <;> cases q <;> cases r <;> simp [cons, sI, inn] <;> omega
theorem sO_cons (p : Dp) (l : List Dp) : sO (cons p l) = p.out + sO l := by
  rcases l with _ | ⟨q, _ | ⟨r, l⟩⟩
  · cases p <;> rfl
  · cases p <;> cases q <;> simp [cons, sO, out] <;> omega
  · cases p <;> cases q <;> cases r <;> simp [cons, sO, out] <;> omega
theorem sI_form : ∀ l : List Dp, sI (form l) = sI l
  | [] => rfl
  | p :: l => by show sI (cons p (form l)) = p.inn + sI l; rw [sI_cons, sI_form l]
theorem sO_form : ∀ l : List Dp, sO (form l) = sO l
  | [] => rfl
  | p :: l => by show sO (cons p (form l)) = p.out + sO l; rw [sO_cons, sO_form l]
theorem len_cons (p : Dp) (l : List Dp) : (cons p l).length ≤ l.length + 1 := by
  rcases l with _ | ⟨q, _ | ⟨r, l⟩⟩
  · cases p <;> exact Nat.le_refl _
  · cases p <;> cases q <;> simp [cons]
  · cases p <;> cases q <;> cases r <;> simp [cons] <;> omega
theorem len_form : ∀ l : List Dp, (form l).length ≤ l.length
  | [] => Nat.le_refl _
  | p :: l => by
    have := len_form l
    have := len_cons p (form l)
    show (cons p (form l)).length ≤ l.length + 1
    omega
theorem cons_ret (n m : Nat) (l : List Dp) : cons (ret n) (cons (ret m) l) = cons (ret (n + m)) l := by
  rcases l with _ | ⟨q, l⟩
  · rfl
  · cases q <;> simp [cons] <;> omega
theorem cons_ins (t u : List UInt8) (l : List Dp) : cons (ins t) (cons (ins u) l) = cons (ins (t ++ u)) l := by
  rcases l with _ | ⟨q, l⟩
  · rfl
  · cases q <;> simp [cons]
theorem cons_del (n m : Nat) (l : List Dp) : cons (del n) (cons (del m) l) = cons (del (n + m)) l := by
  rcases l with _ | ⟨q, _ | ⟨r, l⟩⟩
  · rfl
  · cases q <;> simp [cons] <;> omega
  · cases q <;> cases r <;> simp [cons] <;> omega
theorem cons_swap (n : Nat) (t : List UInt8) (l : List Dp) : cons (del n) (cons (ins t) l) = cons (ins t) (cons (del n) l) := by
  rcases l with _ | ⟨q, _ | ⟨r, l⟩⟩
  · rfl
  · cases q <;> simp [cons]
  · cases q <;> cases r <;> simp [cons]
def foldr (u : List Dp) (l : List Dp) : List Dp := u.foldr cons l
theorem form_append : ∀ (u v : List Dp), form (u ++ v) = u.foldr cons (form v)
  | [], _ => rfl
  | p :: u, v => by show cons p (form (u ++ v)) = cons p (u.foldr cons (form v)); rw [form_append u v]
theorem form_congr (u : List Dp) {v v' : List Dp} (h : form v = form v') : form (u ++ v) = form (u ++ v') := by
  rw [form_append, form_append, h]
/-- what stands between two kept pieces -/
def gapI (t : List UInt8) : List Dp := if t = [] then [] else [ins t]
def gapD (n : Nat) : List Dp := if n = 0 then [] else [del n]
theorem gap_ins (t u : List UInt8) (n : Nat) (hu : u ≠ []) (r : List Dp) : form (gapI t ++ (gapD n ++ ins u :: r)) = form (gapI (t ++ u) ++ (gapD n ++ r)) := by
  have h1 : gapI (t ++ u) = [ins (t ++ u)] := if_neg (by simp [hu])
  rw [h1]
  unfold gapI gapD
  by_cases ht : t = [] <;> by_cases hn : n = 0 <;> simp [ht, hn, form, cons_swap, cons_ins]
theorem gap_del (t : List UInt8) (m n : Nat) (hm : 0 < m) (r : List Dp) : form (gapI t ++ (gapD n ++ del m :: r)) = form (gapI t ++ (gapD (n + m) ++ r)) := by
  have h1 : gapD (n + m) = [del (n + m)] := if_neg (by omega)
  rw [h1]
  unfold gapI gapD
  by_cases ht : t = [] <;> by_cases hn : n = 0 <;> simp [ht, hn, form, cons_del]
theorem hd_snoc {p q : Dp} {l : List Dp} : hd p (l ++ [q]) ↔ (hd p l ∧ (l = [] → fits p q)) := by
  cases l with
  | nil => simp [hd]
  | cons a l => simp [hd]
def lastFits (l : List Dp) (q : Dp) : Prop := ∀ u p, l = u ++ [p] → fits p q
theorem norm_snoc {q : Dp} : ∀ {l : List Dp}, Norm l → lastFits l q → Norm (l ++ [q])
  | [], _, _ => ⟨trivial, trivial⟩
  | p :: l, h, hf => by
    refine ⟨hd_snoc.2 ⟨h.1, fun e => hf [] p (by rw [e]; rfl)⟩, norm_snoc h.2 fun u a e => hf (p :: u) a (by rw [e]; rfl)⟩
theorem norm_init {q : Dp} : ∀ {l : List Dp}, Norm (l ++ [q]) → Norm l
  | [], _ => trivial
  | p :: l, h => ⟨(hd_snoc.1 h.1).1, norm_init h.2⟩
theorem norm_last {q : Dp} : ∀ {l : List Dp}, Norm (l ++ [q]) → lastFits l q
  | [], _, u, p, e => by simp at e
  | a :: l, h, u, p, e => by
    cases u with
    | nil =>
      obtain ⟨rfl, rfl⟩ := List.cons.inj e
      exact (hd_snoc.1 h.1).2 rfl
    | cons b u =>
      obtain ⟨-, e⟩ := List.cons.inj e
      exact norm_last h.2 u p e
/-- behind it a gap begins: nothing yet, or a kept piece -/
def EndsR (l : List Dp) : Prop := ∀ u p, l = u ++ [p] → ∃ n, p = ret n
theorem EndsR.nil : EndsR [] := fun u p e => by simp at e
theorem EndsR.snoc (l : List Dp) (n : Nat) : EndsR (l ++ [ret n]) := fun u p e => by
  have := List.append_inj_right' e rfl
  injection this with h _
  exact ⟨n, h.symm⟩
theorem norm_gap {l : List Dp} (h : Norm l) (he : EndsR l) (t : List UInt8) (n : Nat) : Norm (l ++ (gapI t ++ gapD n)) := by
  have h1 : Norm (l ++ gapI t) := by
    unfold gapI
    by_cases ht : t = []
    · simp [ht, h]
    · rw [if_neg ht]
      refine norm_snoc h fun u p e => ?_
      obtain ⟨m, rfl⟩ := he u p e
      trivial
  rw [← List.append_assoc]
  unfold gapD
  by_cases hn : n = 0
  · simp [hn, h1]
  · rw [if_neg hn]
    refine norm_snoc h1 fun u p e => ?_
    unfold gapI at e
    by_cases ht : t = []
    · rw [if_pos ht, List.append_nil] at e
      obtain ⟨m, rfl⟩ := he u p e
      trivial
    · rw [if_neg ht] at e
      have := List.append_inj_right' e rfl
      injection this with h _
      subst h
      trivial

/-- what the pieces keep and insert, byte by byte -/
def atoms : Nat → List Dp → List Int
  | _, [] => []
  | a, ret n :: l => (List.range n).map (fun (k : Nat) => ((a + k : Nat) : Int)) ++ atoms (a + n) l
  | a, ins t :: l => t.map (fun b => -1 - (b.toNat : Int)) ++ atoms a l
  | a, del n :: l => atoms (a + n) l
theorem range_add (a n m : Nat) : (List.range (n + m)).map (fun (k : Nat) => ((a + k : Nat) : Int)) = (List.range n).map (fun (k : Nat) => ((a + k : Nat) : Int)) ++ (List.range m).map (fun (k : Nat) => ((a + n + k : Nat) : Int)) := by
  rw [List.range_add, List.map_append, List.map_map]
  congr 1
  apply List.map_congr_left
  intro k _
  show ((a + (n + k) : Nat) : Int) = ((a + n + k : Nat) : Int)
  rw [Nat.add_assoc]
theorem atoms_ret2 (a n m : Nat) (l : List Dp) : atoms a (ret (n + m) :: l) = atoms a (ret n :: ret m :: l) := by
  show (List.range (n + m)).map (fun (k : Nat) => ((a + k : Nat) : Int)) ++ atoms (a + (n + m)) l = (List.range n).map (fun (k : Nat) => ((a + k : Nat) : Int)) ++ ((List.range m).map (fun (k : Nat) => ((a + n + k : Nat) : Int)) ++ atoms (a + n + m) l)
  rw [range_add, List.append_assoc, Nat.add_assoc]
theorem atoms_cons (p : Dp) (l : List Dp) (a : Nat) : atoms a (cons p l) = atoms a (p :: l) := by
  rcases l with _ | ⟨q, _ | ⟨r, l⟩⟩
  · cases p <;> rfl
  · cases p <;> cases q <;> first | exact atoms_ret2 _ _ _ _ | simp [cons, atoms, Nat.add_assoc]
  · cases p <;> cases q <;> cases r <;> first | exact atoms_ret2 _ _ _ _ | simp [cons, atoms, Nat.add_assoc]
theorem atoms_tail {p : Dp} {l l' : List Dp} (h : ∀ a, atoms a l = atoms a l') (a : Nat) : atoms a (p :: l) = atoms a (p :: l') := by
  cases p <;> simp [atoms, h]
theorem atoms_form : ∀ (l : List Dp) (a : Nat), atoms a (form l) = atoms a l
  | [], _ => rfl
  | p :: l, a => by
    show atoms a (cons p (form l)) = _
    rw [atoms_cons]
    exact atoms_tail (atoms_form l) a
/-- pieces, one for each atom -/
def units : Nat → Nat → List Int → List Dp
  | a, e, [] => gapD (e - a)
  | a, e, v :: l => if v < 0 then ins [UInt8.ofNat (-1 - v).toNat] :: units a e l else gapD (v.toNat - a) ++ ret 1 :: units (v.toNat + 1) e l
theorem form_gapD (n : Nat) (l : List Dp) : form (gapD n ++ l) = if n = 0 then form l else cons (del n) (form l) := by
  unfold gapD
  by_cases h : n = 0 <;> simp [h, form]
theorem gapD_add (n m : Nat) (hn : 0 < n) (l : List Dp) : form (gapD (n + m) ++ l) = cons (del n) (form (gapD m ++ l)) := by
  rw [form_gapD, form_gapD, if_neg (by omega)]
  by_cases h : m = 0
  · subst h; rfl
  · rw [if_neg h, cons_del]
theorem units_del (n : Nat) (hn : 0 < n) : ∀ (l : List Int) (a e : Nat), a + n ≤ e → (∀ v ∈ l, v < 0 ∨ ((a + n : Nat) : Int) ≤ v) → form (units a e l) = cons (del n) (form (units (a + n) e l))
  | [], a, e, he, _ => by
    unfold units
    have h := gapD_add n (e - (a + n)) hn []
    rw [List.append_nil, List.append_nil, show n + (e - (a + n)) = e - a by omega] at h
    exact h
  | v :: l, a, e, he, hl => by
    unfold units
    by_cases hv : v < 0
    · rw [if_pos hv, if_pos hv]
      show cons _ (form (units a e l)) = cons _ (cons _ (form (units (a + n) e l)))
      rw [units_del n hn l a e he fun u hu => hl u (List.mem_cons_of_mem _ hu), cons_swap]
    · rw [if_neg hv, if_neg hv]
      have := (hl v (List.mem_cons_self ..)).resolve_left hv
      rw [show v.toNat - a = n + (v.toNat - (a + n)) by omega]
      exact gapD_add n _ hn _
theorem atoms_ge : ∀ (l : List Dp) (a : Nat), ∀ v ∈ atoms a l, v < 0 ∨ (a : Int) ≤ v
  | [], _, v, h => by simp [atoms] at h
  | p :: l, a, v, h => by
    cases p with
    | ret n =>
      rcases List.mem_append.1 h with h | h
      · obtain ⟨k, _, rfl⟩ := List.mem_map.1 h
        right; omega
      · rcases atoms_ge l _ v h with h | h
        · exact .inl h
        · right; omega
    | ins t =>
      rcases List.mem_append.1 h with h | h
      · obtain ⟨b, _, rfl⟩ := List.mem_map.1 h
        left; omega
      · exact atoms_ge l _ v h
    | del n =>
      rcases atoms_ge l _ v h with h | h
      · exact .inl h
      · right; omega
theorem units_ins (l : List Int) (a e : Nat) : ∀ t : List UInt8, t ≠ [] → form (units a e (t.map (fun b => -1 - (b.toNat : Int)) ++ l)) = cons (ins t) (form (units a e l))
  | [], h => absurd rfl h
  | b :: t, _ => by
    have hb : UInt8.ofNat (-1 - (-1 - (b.toNat : Int))).toNat = b := by
      rw [show (-1 - (-1 - (b.toNat : Int))).toNat = b.toNat by omega]
      exact UInt8.ofNat_toNat
    rw [List.map_cons, List.cons_append]
    rw [show units a e ((-1 - (b.toNat : Int)) :: (t.map (fun b => -1 - (b.toNat : Int)) ++ l)) = ins [UInt8.ofNat (-1 - (-1 - (b.toNat : Int))).toNat] :: units a e (t.map (fun b => -1 - (b.toNat : Int)) ++ l) from if_pos (by omega), hb]
    show cons (ins [b]) (form (units a e _)) = _
    by_cases ht : t = []
    · subst ht; rfl
    · rw [units_ins l a e t ht, cons_ins]
      rfl
theorem units_ret (l : List Int) (e : Nat) : ∀ (n a : Nat), 0 < n → form (units a e ((List.range n).map (fun (k : Nat) => ((a + k : Nat) : Int)) ++ l)) = cons (ret n) (form (units (a + n) e l))
  | 0, _, h => absurd h (Nat.lt_irrefl 0)
  | n + 1, a, _ => by
    have e1 : (List.range (n + 1)).map (fun (k : Nat) => ((a + k : Nat) : Int)) = (a : Int) :: (List.range n).map (fun (k : Nat) => ((a + 1 + k : Nat) : Int)) := by
      rw [List.range_succ_eq_map, List.map_cons, List.map_map]
      congr 1
      apply List.map_congr_left
      intro k _
      show ((a + (k + 1) : Nat) : Int) = _
      congr 1
      omega
    rw [e1, List.cons_append]
    rw [show units a e ((a : Int) :: ((List.range n).map (fun (k : Nat) => ((a + 1 + k : Nat) : Int)) ++ l)) = gapD ((a : Int).toNat - a) ++ ret 1 :: units ((a : Int).toNat + 1) e ((List.range n).map (fun (k : Nat) => ((a + 1 + k : Nat) : Int)) ++ l) from if_neg (by omega)]
    rw [show (a : Int).toNat = a from rfl, Nat.sub_self]
    show cons (ret 1) (form (units (a + 1) e _)) = _
    by_cases hn : n = 0
    · subst hn; rfl
    · rw [units_ret l e n (a + 1) (by omega), cons_ret, Nat.add_comm 1 n, Nat.add_assoc a 1 n, Nat.add_comm 1 n]
theorem form_units : ∀ (x : List Dp) (a : Nat), Ok x → form (units a (a + sI x) (atoms a x)) = form x
  | [], a, _ => by
    show form (gapD (a + 0 - a)) = []
    rw [show a + 0 - a = 0 by omega]
    rfl
  | ret n :: x, a, h => by
    show form (units a (a + (n + sI x)) ((List.range n).map _ ++ atoms (a + n) x)) = cons (ret n) (form x)
    rw [units_ret _ _ n a h.1, ← Nat.add_assoc, form_units x (a + n) h.2]
  | ins t :: x, a, h => by
    show form (units a (a + (0 + sI x)) (t.map _ ++ atoms a x)) = cons (ins t) (form x)
    rw [units_ins _ _ _ t h.1, Nat.zero_add, form_units x a h.2]
  | del n :: x, a, h => by
    show form (units a (a + (n + sI x)) (atoms (a + n) x)) = cons (del n) (form x)
    rw [units_del n h.1 _ _ _ (by omega) (fun v hv => atoms_ge x (a + n) v hv), ← Nat.add_assoc, form_units x (a + n) h.2]
/-- the normal form is determined by the input length and what is kept and inserted -/
theorem form_eq_iff {x y : List Dp} (hx : Ok x) (hy : Ok y) : form x = form y ↔ sI x = sI y ∧ atoms 0 x = atoms 0 y := by
  constructor
  · intro h
    exact ⟨by rw [← sI_form x, h, sI_form], by rw [← atoms_form x, h, atoms_form]⟩
  · rintro ⟨h1, h2⟩
    rw [← form_units x 0 hx, ← form_units y 0 hy, h1, h2]
theorem form_form (u v w : List Dp) : form (u ++ (form v ++ w)) = form (u ++ (v ++ w)) := by
  refine form_congr u ?_
  have : ∀ v : List Dp, form (form v ++ w) = form (v ++ w) := by
    intro v
    induction v with
    | nil => rfl
    | cons p v ih =>
      show form (cons p (form v) ++ w) = cons p (form (v ++ w))
      rw [← ih]
      have hn := form_norm v
      generalize form v = z at *
      have del3 : ∀ (n m : Nat) (t : List UInt8) (x : List Dp), cons (ins t) (cons (del (n + m)) x) = cons (del n) (cons (ins t) (cons (del m) x)) := fun n m t x => by rw [cons_swap, cons_del]
      rcases z with _ | ⟨q, _ | ⟨r, l⟩⟩
      · cases p <;> rfl
      · cases p <;> cases q <;> first | rfl | exact (cons_ret _ _ _).symm | exact (cons_ins _ _ _).symm | exact (cons_del _ _ _).symm | exact (cons_swap _ _ _).symm
      · cases p <;> cases q <;> cases r <;> first | rfl | exact (cons_ret _ _ _).symm | exact (cons_ins _ _ _).symm | exact (cons_del _ _ _).symm | exact (cons_swap _ _ _).symm | exact del3 _ _ _ _
  exact this v
theorem sI_append : ∀ (u v : List Dp), sI (u ++ v) = sI u + sI v
  | [], _ => (Nat.zero_add _).symm
  | p :: u, v => by show p.inn + sI (u ++ v) = p.inn + sI u + sI v; rw [sI_append u v, Nat.add_assoc]
theorem sO_append : ∀ (u v : List Dp), sO (u ++ v) = sO u + sO v
  | [], _ => (Nat.zero_add _).symm
  | p :: u, v => by show p.out + sO (u ++ v) = p.out + sO u + sO v; rw [sO_append u v, Nat.add_assoc]
theorem ok_append : ∀ {u v : List Dp}, Ok u → Ok v → Ok (u ++ v)
  | [], _, _, h => h
  | p :: u, v, h, k => ⟨h.1, ok_append h.2 k⟩
end Dp
end Go.Proofs.YtdfkbahlngijcaaDoor
