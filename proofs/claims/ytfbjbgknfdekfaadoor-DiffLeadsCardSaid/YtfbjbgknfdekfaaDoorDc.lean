/- Text: hexadecimal digits; quote of the program, String of the reference. Text: decimal digits: the reference's digits and Number. Deltas: the plain model: normal forms, sums, atoms. Deltas: the text form: plain laws of printing and reading. Deltas: pieces as plain deltas; what Check says, in sums; the normal form of pieces. -/
import Derived.Test.YtfbjbgknfdekfaaDoorTb
import Derived.Deep.RegionHeld3
import Derived.Deep.AppendLies
import Derived.Lib.ItoaNum
import Derived.Lib.UnsafeStr
import Derived.Laws.IdiomStrings
namespace Go.Proofs.YtfbjbgknfdekfaaDoor
open Go.RowKit
set_option linter.unusedVariables false

def hexD (n : Nat) : UInt8 := UInt8.ofNat (if n < 10 then 48 + n else 87 + n)
def hexB (b : UInt8) : List UInt8 := [hexD (b.toNat / 16), hexD (b.toNat % 16)]
def hexL (l : List UInt8) : List UInt8 := l.flatMap hexB
def quoteL (t : ByteArray) : List UInt8 := 43 :: hexL t.data.toList
theorem infoU8 : (Tryd.prog.info? 5).map (fun i => (i.zero, i.size, i.bytes)) = some (some (.int .u8 0), 1, 1) := by kernel_rfl
theorem and15 : ∀ n : Nat, n < 256 → bits BinOp.and IntKind.u8 (n : Int) 15 = ((n % 16 : Nat) : Int) := by decide +kernel
theorem wrap8 (n : Int) (h0 : 0 ≤ n) (h1 : n < 256) : IntKind.u8.wrap n = n := by
  simp [IntKind.wrap, IntKind.bits, IntKind.signed]
  omega
theorem hexC : ∀ n : Nat, (h : n < 16) → (({ data := #[48, 49, 50, 51, 52, 53, 54, 55, 56, 57, 97, 98, 99, 100, 101, 102] } : ByteArray)[n]'h) = hexD n := by decide +kernel
theorem hexL_len : ∀ (l : List UInt8), (hexL l).length = 2 * l.length
  | [] => rfl
  | b :: l => by
    have := hexL_len l
    unfold hexL at this ⊢
    rw [List.flatMap_cons, List.length_append, this]
    show 2 + _ = 2 * (l.length + 1)
    omega
theorem hexL_take (t : ByteArray) {j : Nat} (h : j < t.size) : hexL (t.data.toList.take (j + 1)) = hexL (t.data.toList.take j) ++ hexB t[j] := by
  have hl : j < t.data.toList.length := by rw [Array.length_toList]; exact h
  rw [List.take_succ_eq_append_getElem hl]
  unfold hexL
  rw [List.flatMap_append]
  rfl
theorem quote_len (t : ByteArray) : (quoteL t).length = 2 * t.size + 1 := by
  unfold quoteL
  rw [List.length_cons, hexL_len, Array.length_toList]
  rfl
theorem quote_end (t : ByteArray) : 43 :: hexL (t.data.toList.take t.size) = quoteL t := by
  unfold quoteL
  rw [List.take_of_length_le (by rw [Array.length_toList]; exact Nat.le_refl _)]
theorem byteCells_one (l : List UInt8) : ∀ u ∈ Lib.byteCells l, u.oneCell' = true := fun u hu => by
  obtain ⟨b, _, rfl⟩ := List.mem_map.1 hu
  rfl
theorem u8lt (b : UInt8) : b.toNat < 256 := UInt8.toNat_lt b
theorem own_typ1 {w : World} {B s : Nat} {t : TypeId} {v : Value} {n : Nat} {l : List Value} (h : w.ownsRow B t s v n l) {q : Nat} (hq : v.ownBlock = some q) : B ≤ q ∧ ∃ cur, w.heap[q]? = some (.cells cur t (0, 0)) := by
  obtain ⟨-, ⟨h, -⟩ | ⟨g, cap', cur, h1, hg, h2, -⟩⟩ := h
  · subst h; cases hq
  · subst h1; cases hq; exact ⟨hg, cur, h2⟩
/-- the bytes of a row of the call's own, as a string -/
theorem own_str {w : World} {B : Nat} {v : Value} {l : List UInt8} {n : Nat} (h : w.ownsRow B 5 1 v n (Lib.byteCells l)) (hn : l.length = n) (hl : 0 < n) :
    ∃ g cap, v = .slice (some ⟨g, 0, none⟩) n cap ∧ (convert 47 9 (.slice (some ⟨g, 0, none⟩) n cap)).run Tryd.prog w = .ok (.string ⟨l.toArray⟩) w := by
  subst hn
  rcases h with ⟨_, ⟨_, h⟩ | ⟨g, cap, cur, rfl, hb, hg, hcap, hm, hs, htk⟩⟩
  · omega
  · refine ⟨g, cap, rfl, run_convert_bytes_back (P := Tryd.prog) w 47 9 5 ⟨g, 0, none⟩ cap l Tryd.underlying47 Tryd.underlying5 Tryd.underlying9 (fun j hj => ?_)⟩
    rw [add_to, block_cell hg, Nat.zero_add]
    have e := congrArg (fun l => l[j]?) htk
    rw [List.getElem?_take_of_lt (by omega), Array.getElem?_toList] at e
    rw [e]
    simp [Lib.byteCells, hj]
theorem bytes_one (w : World) (c : UInt8) : (w.alloc (.cells #[.int .u8 (c.toNat : Int)] 5)).ownsRow w.heap.size 5 1 (.slice (some ⟨w.heap.size, 0, none⟩) 1 1) 1 (Lib.byteCells [c]) :=
  ⟨rfl, .inr ⟨w.heap.size, 1, _, rfl, Nat.le_refl _, block_new _ _, Nat.le_refl _, by decide, rfl, rfl⟩⟩
theorem hex_step (t : ByteArray) (b : UInt8) (l : List UInt8) : Lib.byteCells (43 :: (l ++ hexB b)) = Lib.byteCells (43 :: l) ++ [Value.int .u8 (hexD (b.toNat / 16)).toNat, Value.int .u8 (hexD (b.toNat % 16)).toNat] := by
  simp [Lib.byteCells, hexB]
end Go.Proofs.YtfbjbgknfdekfaaDoor

namespace Go.Proofs.YtfbjbgknfdekfaaDoor
open Go.RowKit
set_option linter.unusedVariables false

def digC (n : Nat) : UInt8 := UInt8.ofNat (48 + n % 10)
theorem decDigits_small {n : Nat} (h : n < 10) : Lib.decDigits n = [digC n] := by
  rw [Lib.decDigits, dif_pos h]
  unfold digC
  rw [Nat.mod_eq_of_lt h]
theorem decDigits_step {n : Nat} (h : ¬ n < 10) : Lib.decDigits n = Lib.decDigits (n / 10) ++ [digC n] := by
  rw [Lib.decDigits, dif_neg h]
  rfl
theorem decDigits_len : ∀ (k n : Nat), 0 < k → n < 10 ^ k → (Lib.decDigits n).length ≤ k
  | 0, _, h, _ => absurd h (Nat.lt_irrefl 0)
  | k + 1, n, _, hn => by
    by_cases h : n < 10
    · rw [decDigits_small h]
      show 1 ≤ k + 1
      omega
    · rw [decDigits_step h, List.length_append]
      have hk : 0 < k := by
        rcases Nat.eq_zero_or_pos k with e | e
        · subst e; omega
        · exact e
      have := decDigits_len k (n / 10) hk (by rw [Nat.pow_succ] at hn; omega)
      show _ + 1 ≤ k + 1
      omega
theorem digC_val (n : Nat) : ((digC n).toNat : Int) = 48 + ((n % 10 : Nat) : Int) := by
  unfold digC
  rw [UInt8.toNat_ofNat']
  omega

end Go.Proofs.YtfbjbgknfdekfaaDoor

namespace Go.Proofs.YtfbjbgknfdekfaaDoor
set_option linter.unusedVariables false

inductive Dp where
  | ret (n : Nat)
  | ins (t : List UInt8)
  | del (n : Nat)
namespace Dp
def ok : Dp → Prop
  | ret n => 0 < n
  | ins t => t ≠ []
  | del n => 0 < n
def inn : Dp → Nat
  | ret n => n
  | ins _ => 0
  | del n => n
def out : Dp → Nat
  | ret n => n
  | ins t => t.length
  | del _ => 0
def sI : List Dp → Nat
  | [] => 0
  | p :: l => p.inn + sI l
def sO : List Dp → Nat
  | [] => 0
  | p :: l => p.out + sO l
def Ok : List Dp → Prop
  | [] => True
  | p :: l => p.ok ∧ Ok l
def cons : Dp → List Dp → List Dp
  | ret n, ret m :: l => ret (n + m) :: l
  | ins t, ins u :: l => ins (t ++ u) :: l
  | del n, del m :: l => del (n + m) :: l
  | del n, ins u :: del m :: l => ins u :: del (n + m) :: l
  | del n, ins u :: l => ins u :: del n :: l
  | p, l => p :: l
def form : List Dp → List Dp
  | [] => []
  | p :: l => cons p (form l)
def fits : Dp → Dp → Prop
  | ret _, ret _ => False
  | ins _, ins _ => False
  | del _, del _ => False
  | del _, ins _ => False
  | _, _ => True
def hd (p : Dp) : List Dp → Prop
  | [] => True
  | q :: _ => fits p q
def Norm : List Dp → Prop
  | [] => True
  | p :: l => hd p l ∧ Norm l
theorem cons_of_hd {p : Dp} {l : List Dp} (h : hd p l) : cons p l = p :: l := by
  cases l with
  | nil => cases p <;> rfl
  | cons q l => cases p <;> cases q <;> first | rfl | exact h.elim
theorem hd_del (a b : Nat) : ∀ l : List Dp, hd (del a) l → hd (del b) l
  | [], _ => trivial
  | q :: l, h => by cases q <;> first | trivial | exact h.elim
theorem norm_cons (p : Dp) {l : List Dp} (h : Norm l) : Norm (cons p l) := by
  rcases l with _ | ⟨q, _ | ⟨r, l⟩⟩
  · cases p <;> simp [cons, Norm, hd]
  · cases p <;> cases q <;> simp [cons, Norm, hd, fits]
  · cases p <;> cases q <;> cases r <;> first | (simp_all [cons, Norm, hd, fits]; done) | exact ⟨trivial, hd_del _ _ _ h.2.1, h.2.2⟩
theorem form_norm : ∀ l : List Dp, Norm (form l)
  | [] => trivial
  | p :: l => norm_cons p (form_norm l)
theorem form_of_norm : ∀ {l : List Dp}, Norm l → form l = l
  | [], _ => rfl
  | p :: l, h => by
    show cons p (form l) = p :: l
    rw [form_of_norm h.2, cons_of_hd h.1]
theorem ok_cons {p : Dp} {l : List Dp} (hp : p.ok) (hl : Ok l) : Ok (cons p l) := by
  rcases l with _ | ⟨q, _ | ⟨r, l⟩⟩
  · cases p <;> exact ⟨hp, hl⟩
  · cases p <;> cases q <;> simp_all [cons, Ok, ok] <;> omega
  · cases p <;> cases q <;> cases r <;> simp_all [cons, Ok, ok] <;> omega
theorem form_okL : ∀ {l : List Dp}, Ok l → Ok (form l)
  | [], _ => trivial
  | p :: l, h => ok_cons h.1 (form_okL h.2)
theorem sI_cons (p : Dp) (l : List Dp) : sI (cons p l) = p.inn + sI l := by
  rcases l with _ | ⟨q, _ | ⟨r, l⟩⟩
  · cases p <;> rfl
  · cases p <;> cases q <;> simp [cons, sI, inn] <;> omega
  · cases p <;> cases q <;> cases r <;> simp [cons, sI, inn] <;> omega
theorem sO_cons (p : Dp) (l : List Dp) : sO (cons p l) = p.out + sO l := by
  rcases l with _ | ⟨q, _ | ⟨r, l⟩⟩
  · cases p <;> rfl
  · cases p <;> cases q <;> simp [cons, sO, out] <;> omega
  · cases p <;> cases q <;> cases r <;> simp [cons, sO, out] <;> omega
theorem sI_form : ∀ l : List Dp, sI (form l) = sI l
  | [] => rfl
  | p :: l => by show sI (cons p (form l)) = p.inn + sI l; rw [sI_cons, sI_form l]
theorem sO_form : ∀ l : List Dp, sO (form l) = sO l
  | [] => rfl
  | p :: l => by show sO (cons p (form l)) = p.out + sO l; rw [sO_cons, sO_form l]
theorem len_cons (p : Dp) (l : List Dp) : (cons p l).length ≤ l.length + 1 := by
  rcases l with _ | ⟨q, _ | ⟨r, l⟩⟩
  · cases p <;> exact Nat.le_refl _
  · cases p <;> cases q <;> simp [cons]
  · cases p <;> cases q <;> cases r <;> simp [cons] <;> omega
theorem len_form : ∀ l : List Dp, (form l).length ≤ l.length
  | [] => Nat.le_refl _
  | p :: l => by
    have := len_form l
    have := len_cons p (form l)
    show (cons p (form l)).length ≤ l.length + 1
    omega
theorem cons_ret (n m : Nat) (l : List Dp) : cons (ret n) (cons (ret m) l) = cons (ret (n + m)) l := by
  rcases l with _ | ⟨q, l⟩
  · rfl
  · cases q <;> simp [cons] <;> omega
theorem cons_ins (t u : List UInt8) (l : List Dp) : cons (ins t) (cons (ins u) l) = cons (ins (t ++ u)) l := by
  rcases l with _ | ⟨q, l⟩
  · rfl
  · cases q <;> simp [cons]
theorem cons_del (n m : Nat) (l : List Dp) : cons (del n) (cons (del m) l) = cons (del (n + m)) l := by
  rcases l with _ | ⟨q, _ | ⟨r, l⟩⟩
  · rfl
  · cases q <;> simp [cons] <;> omega
  · cases q <;> cases r <;> simp [cons] <;> omega
theorem cons_swap (n : Nat) (t : List UInt8) (l : List Dp) : cons (del n) (cons (ins t) l) = cons (ins t) (cons (del n) l) := by
  rcases l with _ | ⟨q, _ | ⟨r, l⟩⟩
  · rfl
  · cases q <;> simp [cons]
  · cases q <;> cases r <;> simp [cons]
def foldr (u : List Dp) (l : List Dp) : List Dp := u.foldr cons l
theorem form_append : ∀ (u v : List Dp), form (u ++ v) = u.foldr cons (form v)
  | [], _ => rfl
  | p :: u, v => by show cons p (form (u ++ v)) = cons p (u.foldr cons (form v)); rw [form_append u v]
theorem form_congr (u : List Dp) {v v' : List Dp} (h : form v = form v') : form (u ++ v) = form (u ++ v') := by
  rw [form_append, form_append, h]
/-- what stands between two kept pieces -/
def gapI (t : List UInt8) : List Dp := if t = [] then [] else [ins t]
def gapD (n : Nat) : List Dp := if n = 0 then [] else [del n]
theorem gap_ins (t u : List UInt8) (n : Nat) (hu : u ≠ []) (r : List Dp) : form (gapI t ++ (gapD n ++ ins u :: r)) = form (gapI (t ++ u) ++ (gapD n ++ r)) := by
  have h1 : gapI (t ++ u) = [ins (t ++ u)] := if_neg (by simp [hu])
  rw [h1]
  unfold gapI gapD
  by_cases ht : t = [] <;> by_cases hn : n = 0 <;> simp [ht, hn, form, cons_swap, cons_ins]
theorem gap_del (t : List UInt8) (m n : Nat) (hm : 0 < m) (r : List Dp) : form (gapI t ++ (gapD n ++ del m :: r)) = form (gapI t ++ (gapD (n + m) ++ r)) := by
  have h1 : gapD (n + m) = [del (n + m)] := if_neg (by omega)
  rw [h1]
  unfold gapI gapD
  by_cases ht : t = [] <;> by_cases hn : n = 0 <;> simp [ht, hn, form, cons_del]
theorem hd_snoc {p q : Dp} {l : List Dp} : hd p (l ++ [q]) ↔ (hd p l ∧ (l = [] → fits p q)) := by
  cases l with
  | nil => simp [hd]
  | cons a l => simp [hd]
def lastFits (l : List Dp) (q : Dp) : Prop := ∀ u p, l = u ++ [p] → fits p q
theorem norm_snoc {q : Dp} : ∀ {l : List Dp}, Norm l → lastFits l q → Norm (l ++ [q])
  | [], _, _ => ⟨trivial, trivial⟩
  | p :: l, h, hf => by
    refine ⟨hd_snoc.2 ⟨h.1, fun e => hf [] p (by rw [e]; rfl)⟩, norm_snoc h.2 fun u a e => hf (p :: u) a (by rw [e]; rfl)⟩
theorem norm_init {q : Dp} : ∀ {l : List Dp}, Norm (l ++ [q]) → Norm l
  | [], _ => trivial
  | p :: l, h => ⟨(hd_snoc.1 h.1).1, norm_init h.2⟩
theorem norm_last {q : Dp} : ∀ {l : List Dp}, Norm (l ++ [q]) → lastFits l q
  | [], _, u, p, e => by simp at e
  | a :: l, h, u, p, e => by
    cases u with
    | nil =>
      obtain ⟨rfl, rfl⟩ := List.cons.inj e
      exact (hd_snoc.1 h.1).2 rfl
    | cons b u =>
      obtain ⟨-, e⟩ := List.cons.inj e
      exact norm_last h.2 u p e
/-- behind it a gap begins: nothing yet, or a kept piece -/
def EndsR (l : List Dp) : Prop := ∀ u p, l = u ++ [p] → ∃ n, p = ret n
theorem EndsR.nil : EndsR [] := fun u p e => by simp at e
theorem EndsR.snoc (l : List Dp) (n : Nat) : EndsR (l ++ [ret n]) := fun u p e => by
  have := List.append_inj_right' e rfl
  injection this with h _
  exact ⟨n, h.symm⟩
theorem norm_gap {l : List Dp} (h : Norm l) (he : EndsR l) (t : List UInt8) (n : Nat) : Norm (l ++ (gapI t ++ gapD n)) := by
  have h1 : Norm (l ++ gapI t) := by
    unfold gapI
    by_cases ht : t = []
    · simp [ht, h]
    · rw [if_neg ht]
      refine norm_snoc h fun u p e => ?_
      obtain ⟨m, rfl⟩ := he u p e
      trivial
  rw [← List.append_assoc]
  unfold gapD
  by_cases hn : n = 0
  · simp [hn, h1]
  · rw [if_neg hn]
    refine norm_snoc h1 fun u p e => ?_
    unfold gapI at e
    by_cases ht : t = []
    · rw [if_pos ht, List.append_nil] at e
      obtain ⟨m, rfl⟩ := he u p e
      trivial
    · rw [if_neg ht] at e
      have := List.append_inj_right' e rfl
      injection this with h _
      subst h
      trivial

/-- what the pieces keep and insert, byte by byte -/
def atoms : Nat → List Dp → List Int
  | _, [] => []
  | a, ret n :: l => (List.range n).map (fun (k : Nat) => ((a + k : Nat) : Int)) ++ atoms (a + n) l
  | a, ins t :: l => t.map (fun b => -1 - (b.toNat : Int)) ++ atoms a l
  | a, del n :: l => atoms (a + n) l
theorem range_add (a n m : Nat) : (List.range (n + m)).map (fun (k : Nat) => ((a + k : Nat) : Int)) = (List.range n).map (fun (k : Nat) => ((a + k : Nat) : Int)) ++ (List.range m).map (fun (k : Nat) => ((a + n + k : Nat) : Int)) := by
  rw [List.range_add, List.map_append, List.map_map]
  congr 1
  apply List.map_congr_left
  intro k _
  show ((a + (n + k) : Nat) : Int) = ((a + n + k : Nat) : Int)
  rw [Nat.add_assoc]
theorem atoms_ret2 (a n m : Nat) (l : List Dp) : atoms a (ret (n + m) :: l) = atoms a (ret n :: ret m :: l) := by
  show (List.range (n + m)).map (fun (k : Nat) => ((a + k : Nat) : Int)) ++ atoms (a + (n + m)) l = (List.range n).map (fun (k : Nat) => ((a + k : Nat) : Int)) ++ ((List.range m).map (fun (k : Nat) => ((a + n + k : Nat) : Int)) ++ atoms (a + n + m) l)
  rw [range_add, List.append_assoc, Nat.add_assoc]
theorem atoms_cons (p : Dp) (l : List Dp) (a : Nat) : atoms a (cons p l) = atoms a (p :: l) := by
  rcases l with _ | ⟨q, _ | ⟨r, l⟩⟩
  · cases p <;> rfl
  · cases p <;> cases q <;> first | exact atoms_ret2 _ _ _ _ | simp [cons, atoms, Nat.add_assoc]
  · cases p <;> cases q <;> cases r <;> first | exact atoms_ret2 _ _ _ _ | simp [cons, atoms, Nat.add_assoc]
theorem atoms_tail {p : Dp} {l l' : List Dp} (h : ∀ a, atoms a l = atoms a l') (a : Nat) : atoms a (p :: l) = atoms a (p :: l') := by
  cases p <;> simp [atoms, h]
theorem atoms_form : ∀ (l : List Dp) (a : Nat), atoms a (form l) = atoms a l
  | [], _ => rfl
  | p :: l, a => by
    show atoms a (cons p (form l)) = _
    rw [atoms_cons]
    exact atoms_tail (atoms_form l) a
/-- pieces, one for each atom -/
def units : Nat → Nat → List Int → List Dp
  | a, e, [] => gapD (e - a)
  | a, e, v :: l => if v < 0 then ins [UInt8.ofNat (-1 - v).toNat] :: units a e l else gapD (v.toNat - a) ++ ret 1 :: units (v.toNat + 1) e l
theorem form_gapD (n : Nat) (l : List Dp) : form (gapD n ++ l) = if n = 0 then form l else cons (del n) (form l) := by
  unfold gapD
  by_cases h : n = 0 <;> simp [h, form]
theorem gapD_add (n m : Nat) (hn : 0 < n) (l : List Dp) : form (gapD (n + m) ++ l) = cons (del n) (form (gapD m ++ l)) := by
  rw [form_gapD, form_gapD, if_neg (by omega)]
  by_cases h : m = 0
  · subst h; rfl
  · rw [if_neg h, cons_del]
theorem units_del (n : Nat) (hn : 0 < n) : ∀ (l : List Int) (a e : Nat), a + n ≤ e → (∀ v ∈ l, v < 0 ∨ ((a + n : Nat) : Int) ≤ v) → form (units a e l) = cons (del n) (form (units (a + n) e l))
  | [], a, e, he, _ => by
    unfold units
    have h := gapD_add n (e - (a + n)) hn []
    rw [List.append_nil, List.append_nil, show n + (e - (a + n)) = e - a by omega] at h
    exact h
  | v :: l, a, e, he, hl => by
    unfold units
    by_cases hv : v < 0
    · rw [if_pos hv, if_pos hv]
      show cons _ (form (units a e l)) = cons _ (cons _ (form (units (a + n) e l)))
      rw [units_del n hn l a e he fun u hu => hl u (List.mem_cons_of_mem _ hu), cons_swap]
    · rw [if_neg hv, if_neg hv]
      have := (hl v (List.mem_cons_self ..)).resolve_left hv
      rw [show v.toNat - a = n + (v.toNat - (a + n)) by omega]
      exact gapD_add n _ hn _
theorem atoms_ge : ∀ (l : List Dp) (a : Nat), ∀ v ∈ atoms a l, v < 0 ∨ (a : Int) ≤ v
  | [], _, v, h => by simp [atoms] at h
  | p :: l, a, v, h => by
    cases p with
    | ret n =>
      rcases List.mem_append.1 h with h | h
      · obtain ⟨k, _, rfl⟩ := List.mem_map.1 h
        right; omega
      · rcases atoms_ge l _ v h with h | h
        · exact .inl h
        · right; omega
    | ins t =>
      rcases List.mem_append.1 h with h | h
      · obtain ⟨b, _, rfl⟩ := List.mem_map.1 h
        left; omega
      · exact atoms_ge l _ v h
    | del n =>
      rcases atoms_ge l _ v h with h | h
      · exact .inl h
      · right; omega
theorem units_ins (l : List Int) (a e : Nat) : ∀ t : List UInt8, t ≠ [] → form (units a e (t.map (fun b => -1 - (b.toNat : Int)) ++ l)) = cons (ins t) (form (units a e l))
  | [], h => absurd rfl h
  | b :: t, _ => by
    have hb : UInt8.ofNat (-1 - (-1 - (b.toNat : Int))).toNat = b := by
      rw [show (-1 - (-1 - (b.toNat : Int))).toNat = b.toNat by omega]
      exact UInt8.ofNat_toNat
    rw [List.map_cons, List.cons_append]
    rw [show units a e ((-1 - (b.toNat : Int)) :: (t.map (fun b => -1 - (b.toNat : Int)) ++ l)) = ins [UInt8.ofNat (-1 - (-1 - (b.toNat : Int))).toNat] :: units a e (t.map (fun b => -1 - (b.toNat : Int)) ++ l) from if_pos (by omega), hb]
    show cons (ins [b]) (form (units a e _)) = _
    by_cases ht : t = []
    · subst ht; rfl
    · rw [units_ins l a e t ht, cons_ins]
      rfl
theorem units_ret (l : List Int) (e : Nat) : ∀ (n a : Nat), 0 < n → form (units a e ((List.range n).map (fun (k : Nat) => ((a + k : Nat) : Int)) ++ l)) = cons (ret n) (form (units (a + n) e l))
  | 0, _, h => absurd h (Nat.lt_irrefl 0)
  | n + 1, a, _ => by
    have e1 : (List.range (n + 1)).map (fun (k : Nat) => ((a + k : Nat) : Int)) = (a : Int) :: (List.range n).map (fun (k : Nat) => ((a + 1 + k : Nat) : Int)) := by
      rw [List.range_succ_eq_map, List.map_cons, List.map_map]
      congr 1
      apply List.map_congr_left
      intro k _
      show ((a + (k + 1) : Nat) : Int) = _
      congr 1
      omega
    rw [e1, List.cons_append]
    rw [show units a e ((a : Int) :: ((List.range n).map (fun (k : Nat) => ((a + 1 + k : Nat) : Int)) ++ l)) = gapD ((a : Int).toNat - a) ++ ret 1 :: units ((a : Int).toNat + 1) e ((List.range n).map (fun (k : Nat) => ((a + 1 + k : Nat) : Int)) ++ l) from if_neg (by omega)]
    rw [show (a : Int).toNat = a from rfl, Nat.sub_self]
    show cons (ret 1) (form (units (a + 1) e _)) = _
    by_cases hn : n = 0
    · subst hn; rfl
    · rw [units_ret l e n (a + 1) (by omega), cons_ret, Nat.add_comm 1 n, Nat.add_assoc a 1 n, Nat.add_comm 1 n]
theorem form_units : ∀ (x : List Dp) (a : Nat), Ok x → form (units a (a + sI x) (atoms a x)) = form x
  | [], a, _ => by
    show form (gapD (a + 0 - a)) = []
    rw [show a + 0 - a = 0 by omega]
    rfl
  | ret n :: x, a, h => by
    show form (units a (a + (n + sI x)) ((List.range n).map _ ++ atoms (a + n) x)) = cons (ret n) (form x)
    rw [units_ret _ _ n a h.1, ← Nat.add_assoc, form_units x (a + n) h.2]
  | ins t :: x, a, h => by
    show form (units a (a + (0 + sI x)) (t.map _ ++ atoms a x)) = cons (ins t) (form x)
    rw [units_ins _ _ _ t h.1, Nat.zero_add, form_units x a h.2]
  | del n :: x, a, h => by
    show form (units a (a + (n + sI x)) (atoms (a + n) x)) = cons (del n) (form x)
    rw [units_del n h.1 _ _ _ (by omega) (fun v hv => atoms_ge x (a + n) v hv), ← Nat.add_assoc, form_units x (a + n) h.2]
/-- the normal form is determined by the input length and what is kept and inserted -/
theorem form_eq_iff {x y : List Dp} (hx : Ok x) (hy : Ok y) : form x = form y ↔ sI x = sI y ∧ atoms 0 x = atoms 0 y := by
  constructor
  · intro h
    exact ⟨by rw [← sI_form x, h, sI_form], by rw [← atoms_form x, h, atoms_form]⟩
  · rintro ⟨h1, h2⟩
    rw [← form_units x 0 hx, ← form_units y 0 hy, h1, h2]
theorem form_form (u v w : List Dp) : form (u ++ (form v ++ w)) = form (u ++ (v ++ w)) := by
  refine form_congr u ?_
  have : ∀ v : List Dp, form (form v ++ w) = form (v ++ w) := by
    intro v
    induction v with
    | nil => rfl
    | cons p v ih =>
      show form (cons p (form v) ++ w) = cons p (form (v ++ w))
      rw [← ih]
      have hn := form_norm v
      generalize form v = z at *
      have del3 : ∀ (n m : Nat) (t : List UInt8) (x : List Dp), cons (ins t) (cons (del (n + m)) x) = cons (del n) (cons (ins t) (cons (del m) x)) := fun n m t x => by rw [cons_swap, cons_del]
      rcases z with _ | ⟨q, _ | ⟨r, l⟩⟩
      · cases p <;> rfl
      · cases p <;> cases q <;> first | rfl | exact (cons_ret _ _ _).symm | exact (cons_ins _ _ _).symm | exact (cons_del _ _ _).symm | exact (cons_swap _ _ _).symm
      · cases p <;> cases q <;> cases r <;> first | rfl | exact (cons_ret _ _ _).symm | exact (cons_ins _ _ _).symm | exact (cons_del _ _ _).symm | exact (cons_swap _ _ _).symm | exact del3 _ _ _ _
  exact this v
theorem sI_append : ∀ (u v : List Dp), sI (u ++ v) = sI u + sI v
  | [], _ => (Nat.zero_add _).symm
  | p :: u, v => by show p.inn + sI (u ++ v) = p.inn + sI u + sI v; rw [sI_append u v, Nat.add_assoc]
theorem sO_append : ∀ (u v : List Dp), sO (u ++ v) = sO u + sO v
  | [], _ => (Nat.zero_add _).symm
  | p :: u, v => by show p.out + sO (u ++ v) = p.out + sO u + sO v; rw [sO_append u v, Nat.add_assoc]
theorem ok_append : ∀ {u v : List Dp}, Ok u → Ok v → Ok (u ++ v)
  | [], _, _, h => h
  | p :: u, v, h, k => ⟨h.1, ok_append h.2 k⟩
end Dp
end Go.Proofs.YtfbjbgknfdekfaaDoor

namespace Go.Proofs.YtfbjbgknfdekfaaDoor
set_option linter.unusedVariables false

/-- the words between blanks -/
def splitW : List UInt8 → List (List UInt8)
  | [] => [[]]
  | c :: l => if c = 32 then [] :: splitW l else match splitW l with
    | [] => [[c]]
    | w :: ws => (c :: w) :: ws
def joinW : List (List UInt8) → List UInt8
  | [] => []
  | [w] => w
  | w :: v :: ws => w ++ 32 :: joinW (v :: ws)
theorem splitW_cons (c : UInt8) (l : List UInt8) : splitW (c :: l) = if c = 32 then [] :: splitW l else match splitW l with
    | [] => [[c]]
    | w :: ws => (c :: w) :: ws := rfl
theorem splitW_ne : ∀ l, splitW l ≠ []
  | [] => by simp [splitW]
  | c :: l => by
    rw [splitW_cons]
    by_cases h : c = 32
    · simp [h]
    · rw [if_neg h]
      rcases hh : splitW l with _ | ⟨w, ws⟩ <;> simp
theorem joinW_cons (c : UInt8) (w : List UInt8) (ws : List (List UInt8)) : joinW ((c :: w) :: ws) = c :: joinW (w :: ws) := by
  cases ws <;> rfl
theorem join_split : ∀ l, joinW (splitW l) = l
  | [] => rfl
  | c :: l => by
    have ih := join_split l
    have hne := splitW_ne l
    rw [splitW_cons]
    rcases hh : splitW l with _ | ⟨w, ws⟩
    · exact absurd hh hne
    · rw [hh] at ih
      by_cases h : c = 32
      · subst h
        rw [if_pos rfl]
        show [] ++ 32 :: joinW (w :: ws) = 32 :: l
        rw [ih]; rfl
      · rw [if_neg h]
        show joinW ((c :: w) :: ws) = _
        rw [joinW_cons, ih]
theorem split_word : ∀ (w : List UInt8), (∀ c ∈ w, c ≠ 32) → splitW w = [w]
  | [], _ => rfl
  | c :: w, h => by
    rw [splitW_cons, if_neg (h c (List.mem_cons_self ..)), split_word w fun d hd => h d (List.mem_cons_of_mem _ hd)]
theorem split_app : ∀ (w l : List UInt8), (∀ c ∈ w, c ≠ 32) → splitW (w ++ 32 :: l) = w :: splitW l
  | [], l, _ => by
    show splitW (32 :: l) = _
    rw [splitW_cons, if_pos rfl]
  | c :: w, l, h => by
    show splitW (c :: (w ++ 32 :: l)) = _
    rw [splitW_cons, if_neg (h c (List.mem_cons_self ..)), split_app w l fun d hd => h d (List.mem_cons_of_mem _ hd)]
theorem split_join : ∀ (ws : List (List UInt8)), ws ≠ [] → (∀ w ∈ ws, ∀ c ∈ w, c ≠ 32) → splitW (joinW ws) = ws
  | [], h, _ => absurd rfl h
  | [w], _, h => split_word w (h w (List.mem_cons_self ..))
  | w :: v :: ws, _, h => by
    show splitW (w ++ 32 :: joinW (v :: ws)) = _
    rw [split_app w _ (h w (List.mem_cons_self ..)), split_join (v :: ws) (by simp) fun u hu => h u (List.mem_cons_of_mem _ hu)]
theorem split_no : ∀ (l : List UInt8), ∀ w ∈ splitW l, ∀ c ∈ w, c ≠ 32
  | [], w, hw, c, hc => by
    simp only [splitW, List.mem_singleton] at hw
    subst hw
    exact absurd hc (List.not_mem_nil)
  | a :: l, w, hw, c, hc => by
    have ih := split_no l
    rw [splitW_cons] at hw
    by_cases h : a = 32
    · rw [if_pos h] at hw
      rcases List.mem_cons.1 hw with rfl | hw
      · exact absurd hc (List.not_mem_nil)
      · exact ih w hw c hc
    · rw [if_neg h] at hw
      rcases hh : splitW l with _ | ⟨v, vs⟩
      · exact absurd hh (splitW_ne l)
      · rw [hh] at hw ih
        rcases List.mem_cons.1 hw with rfl | hw
        · rcases List.mem_cons.1 hc with rfl | hc
          · exact h
          · exact ih v (List.mem_cons_self ..) c hc
        · exact ih w (List.mem_cons_of_mem _ hw) c hc

/-- numbers -/
def numG : Nat → List UInt8 → Option Nat
  | n, [] => some n
  | n, c :: l => if c < 48 ∨ 57 < c then none else if 1048576 < 10 * n + (c.toNat - 48) then none else numG (10 * n + (c.toNat - 48)) l
def numP : List UInt8 → Option Nat
  | [] => none
  | c :: l => if c = 48 then none else numG 0 (c :: l)
theorem numG_cons (n : Nat) (c : UInt8) (l : List UInt8) : numG n (c :: l) = if c < 48 ∨ 57 < c then none else if 1048576 < 10 * n + (c.toNat - 48) then none else numG (10 * n + (c.toNat - 48)) l := rfl
theorem numG_nil (n : Nat) : numG n [] = some n := rfl
theorem numP_cons (c : UInt8) (l : List UInt8) : numP (c :: l) = if c = 48 then none else numG 0 (c :: l) := rfl
theorem numG_step (c : UInt8) : ∀ (l : List UInt8) (n : Nat), numG n (l ++ [c]) = (numG n l).bind fun m => numG m [c]
  | [], n => rfl
  | d :: l, n => by
    show numG n (d :: (l ++ [c])) = _
    rw [numG_cons, numG_cons]
    by_cases h1 : d < 48 ∨ 57 < d
    · rw [if_pos h1, if_pos h1]; rfl
    · rw [if_neg h1, if_neg h1]
      by_cases h2 : 1048576 < 10 * n + (d.toNat - 48)
      · rw [if_pos h2, if_pos h2]; rfl
      · rw [if_neg h2, if_neg h2]
        exact numG_step c l _
theorem digC_nat (n : Nat) : (digC n).toNat = 48 + n % 10 := by
  have := digC_val n
  omega
theorem digC_dig (n : Nat) : ¬ (digC n < 48 ∨ 57 < digC n) := by
  have h := digC_nat n
  rw [UInt8.lt_iff_toNat_lt, UInt8.lt_iff_toNat_lt]
  rw [h]
  show ¬ (48 + n % 10 < 48 ∨ 57 < 48 + n % 10)
  omega
theorem decDigits_ne : ∀ n, Lib.decDigits n ≠ [] := fun n => by
  by_cases h : n < 10
  · rw [decDigits_small h]; simp
  · rw [decDigits_step h]; simp
theorem numP_snoc {l : List UInt8} (hl : l ≠ []) (c : UInt8) : numP (l ++ [c]) = (numP l).bind fun m => numG m [c] := by
  rcases l with _ | ⟨d, l⟩
  · exact absurd rfl hl
  · show numP (d :: (l ++ [c])) = _
    rw [numP_cons, numP_cons]
    by_cases h : d = 48
    · rw [if_pos h, if_pos h]; rfl
    · rw [if_neg h, if_neg h]
      exact numG_step c (d :: l) 0
theorem numP_dec : ∀ n : Nat, 1 ≤ n → n ≤ 1048576 → numP (Lib.decDigits n) = some n := by
  intro n
  induction n using Nat.strongRecOn with
  | ind n ih =>
    intro h1 h2
    have hv := digC_nat n
    have hd := digC_dig n
    by_cases h : n < 10
    · rw [decDigits_small h]
      rw [numP_cons, if_neg (fun e : digC n = 48 => by rw [e] at hv; simp at hv; omega), numG_cons, if_neg hd, if_neg (by omega), numG_nil]
      congr 1
      omega
    · rw [decDigits_step h, numP_snoc (decDigits_ne _), ih (n / 10) (by omega) (by omega) (by omega)]
      show numG (n / 10) [digC n] = _
      rw [numG_cons, if_neg hd, if_neg (by omega), numG_nil]
      congr 1
      omega
theorem dig_eq {c : UInt8} (h : ¬ (c < 48 ∨ 57 < c)) : 48 ≤ c.toNat ∧ c.toNat ≤ 57 := by
  rw [UInt8.lt_iff_toNat_lt, UInt8.lt_iff_toNat_lt] at h
  have e1 : (48 : UInt8).toNat = 48 := rfl
  have e2 : (57 : UInt8).toNat = 57 := rfl
  omega
theorem dec_ext {n : Nat} {c : UInt8} (hn : 1 ≤ n) (hc : ¬ (c < 48 ∨ 57 < c)) : Lib.decDigits (10 * n + (c.toNat - 48)) = Lib.decDigits n ++ [c] := by
  obtain ⟨h1, h2⟩ := dig_eq hc
  rw [decDigits_step (by omega), show (10 * n + (c.toNat - 48)) / 10 = n by omega]
  congr 2
  apply UInt8.toNat_inj.1
  rw [digC_nat]
  omega
theorem dec_one {c : UInt8} (hc : ¬ (c < 48 ∨ 57 < c)) : Lib.decDigits (c.toNat - 48) = [c] := by
  obtain ⟨h1, h2⟩ := dig_eq hc
  rw [decDigits_small (by omega)]
  congr 1
  apply UInt8.toNat_inj.1
  rw [digC_nat]
  omega
theorem numG_dec : ∀ (l : List UInt8) (n m : Nat), 1 ≤ n → n ≤ 1048576 → numG n l = some m → 1 ≤ m ∧ m ≤ 1048576 ∧ Lib.decDigits m = Lib.decDigits n ++ l
  | [], n, m, h1, h2, h => by
    obtain rfl : n = m := Option.some.inj h
    exact ⟨h1, h2, (List.append_nil _).symm⟩
  | c :: l, n, m, h1, h2, h => by
    rw [numG_cons] at h
    by_cases g1 : c < 48 ∨ 57 < c
    · rw [if_pos g1] at h; cases h
    · rw [if_neg g1] at h
      by_cases g2 : 1048576 < 10 * n + (c.toNat - 48)
      · rw [if_pos g2] at h; cases h
      · rw [if_neg g2] at h
        obtain ⟨k1, k2, k3⟩ := numG_dec l _ m (by omega) (by omega) h
        refine ⟨k1, k2, ?_⟩
        rw [k3, dec_ext h1 g1, List.append_assoc]
        rfl
theorem numP_some {l : List UInt8} {m : Nat} (h : numP l = some m) : 1 ≤ m ∧ m ≤ 1048576 ∧ Lib.decDigits m = l := by
  rcases l with _ | ⟨c, l⟩
  · cases h
  · rw [numP_cons] at h
    by_cases g0 : c = 48
    · rw [if_pos g0] at h; cases h
    · rw [if_neg g0] at h
      rw [numG_cons] at h
      by_cases g1 : c < 48 ∨ 57 < c
      · rw [if_pos g1] at h; cases h
      · rw [if_neg g1] at h
        obtain ⟨d1, d2⟩ := dig_eq g1
        have d3 : c.toNat ≠ 48 := fun e => g0 (UInt8.toNat_inj.1 e)
        by_cases g2 : 1048576 < 10 * 0 + (c.toNat - 48)
        · omega
        · rw [if_neg g2] at h
          obtain ⟨k1, k2, k3⟩ := numG_dec l _ m (by omega) (by omega) h
          refine ⟨k1, k2, ?_⟩
          rw [k3, show 10 * 0 + (c.toNat - 48) = c.toNat - 48 by omega, dec_one g1]
          rfl

/-- hexadecimal digits -/
def halfP (c : UInt8) : Option Nat := if 48 ≤ c ∧ c ≤ 57 then some (c.toNat - 48) else if 97 ≤ c ∧ c ≤ 102 then some (c.toNat - 87) else none
def hexP : List UInt8 → Option (List UInt8)
  | [] => some []
  | [_] => none
  | a :: b :: l => match halfP a, halfP b with
    | some x, some y => (hexP l).map (UInt8.ofNat (16 * x + y) :: ·)
    | _, _ => none
theorem half_hexD : ∀ n : Nat, n < 16 → halfP (hexD n) = some n := by decide +kernel
theorem half_some : ∀ c : UInt8, ∀ x, halfP c = some x → x < 16 ∧ hexD x = c := by
  intro c x h
  unfold halfP at h
  have e1 : (48 : UInt8).toNat = 48 := rfl
  have e2 : (57 : UInt8).toNat = 57 := rfl
  have e3 : (97 : UInt8).toNat = 97 := rfl
  have e4 : (102 : UInt8).toNat = 102 := rfl
  by_cases h1 : 48 ≤ c ∧ c ≤ 57
  · rw [if_pos h1] at h
    obtain rfl := Option.some.inj h
    rw [UInt8.le_iff_toNat_le, UInt8.le_iff_toNat_le] at h1
    refine ⟨by omega, ?_⟩
    unfold hexD
    rw [if_pos (by omega), show 48 + (c.toNat - 48) = c.toNat by omega]
    exact UInt8.ofNat_toNat
  · rw [if_neg h1] at h
    by_cases h2 : 97 ≤ c ∧ c ≤ 102
    · rw [if_pos h2] at h
      obtain rfl := Option.some.inj h
      rw [UInt8.le_iff_toNat_le, UInt8.le_iff_toNat_le] at h2
      refine ⟨by omega, ?_⟩
      unfold hexD
      rw [if_neg (by omega), show 87 + (c.toNat - 87) = c.toNat by omega]
      exact UInt8.ofNat_toNat
    · rw [if_neg h2] at h; cases h
theorem hexP_hexL : ∀ t : List UInt8, hexP (hexL t) = some t
  | [] => rfl
  | b :: t => by
    have hb := u8lt b
    show hexP (hexD (b.toNat / 16) :: hexD (b.toNat % 16) :: hexL t) = _
    unfold hexP
    rw [half_hexD _ (by omega), half_hexD _ (by omega), hexP_hexL t]
    show some (UInt8.ofNat (16 * (b.toNat / 16) + b.toNat % 16) :: t) = _
    rw [Nat.div_add_mod]
    rw [UInt8.ofNat_toNat]
theorem hexP_some : ∀ (l t : List UInt8), hexP l = some t → hexL t = l
  | [], t, h => by
    obtain rfl := Option.some.inj h
    rfl
  | [_], t, h => by cases h
  | a :: b :: l, t, h => by
    unfold hexP at h
    rcases ha : halfP a with _ | x
    · rw [ha] at h; cases h
    rcases hb : halfP b with _ | y
    · rw [ha, hb] at h; cases h
    rw [ha, hb] at h
    rcases hl : hexP l with _ | u
    · rw [hl] at h; cases h
    rw [hl] at h
    obtain rfl := Option.some.inj h
    obtain ⟨x1, x2⟩ := half_some a x ha
    obtain ⟨y1, y2⟩ := half_some b y hb
    show hexB (UInt8.ofNat (16 * x + y)) ++ hexL u = _
    rw [hexP_some l u hl]
    unfold hexB
    have e : (UInt8.ofNat (16 * x + y)).toNat = 16 * x + y := by
      rw [UInt8.toNat_ofNat']
      omega
    rw [e, show (16 * x + y) / 16 = x by omega, show (16 * x + y) % 16 = y by omega, x2, y2]
    rfl

/-- a piece's word -/
def pcT (p : Pc) : List UInt8 := if p.k = 2 then 43 :: hexL p.t.data.toList else if p.k = 3 then 45 :: Lib.decDigits p.n.toNat else 61 :: Lib.decDigits p.n.toNat
def oneP : List UInt8 → Option Pc
  | [] => none
  | c :: w => if c = 43 then (if w = [] then none else (hexP w).map fun t => ⟨2, 0, ⟨t.toArray⟩⟩)
    else if c = 61 then (numP w).map fun (n : Nat) => (⟨1, (n : Int), ⟨#[]⟩⟩ : Pc)
    else if c = 45 then (numP w).map fun (n : Nat) => (⟨3, (n : Int), ⟨#[]⟩⟩ : Pc)
    else none
theorem oneP_cons (c : UInt8) (w : List UInt8) : oneP (c :: w) = if c = 43 then (if w = [] then none else (hexP w).map fun t => ⟨2, 0, ⟨t.toArray⟩⟩)
    else if c = 61 then (numP w).map fun (n : Nat) => (⟨1, (n : Int), ⟨#[]⟩⟩ : Pc)
    else if c = 45 then (numP w).map fun (n : Nat) => (⟨3, (n : Int), ⟨#[]⟩⟩ : Pc)
    else none := by rw [oneP]
def textL (l : List Pc) : List UInt8 := joinW (l.map pcT)
def allP : List (List UInt8) → Option (List Pc)
  | [] => some []
  | w :: ws => match oneP w, allP ws with
    | some p, some l => some (p :: l)
    | _, _ => none
def parseL (s : List UInt8) : Option (List Pc) := if s = [] then some [] else allP (splitW s)
theorem pc_ext {p q : Pc} (h1 : p.k = q.k) (h2 : p.n = q.n) (h3 : p.t = q.t) : p = q := by
  obtain ⟨a, b, c⟩ := p
  obtain ⟨d, e, f⟩ := q
  simp only at h1 h2 h3
  rw [h1, h2, h3]
theorem one_pcT {p : Pc} (h : okP p = true) (hn : p.n ≤ 1048576) : oneP (pcT p) = some p := by
  obtain ⟨k, n, t⟩ := p
  rcases okP_cases h with ⟨rfl, h2, h3⟩ | ⟨rfl, h2, h3⟩ | ⟨rfl, h2, h3⟩
  · simp only at h2 h3 hn
    unfold pcT oneP
    simp only [show ¬ ((1 : Int) = 2) by decide, show ¬ ((1 : Int) = 3) by decide, if_false, show ¬ ((61 : UInt8) = 43) by decide, if_true]
    rw [numP_dec n.toNat (by omega) (by omega)]
    show some _ = _
    congr 1
    exact pc_ext rfl (by show (n.toNat : Int) = n; omega) (str_empty h3).symm
  · simp only at h2 h3 hn
    unfold pcT oneP
    simp only [show ¬ ((3 : Int) = 2) by decide, if_false, show ¬ ((45 : UInt8) = 43) by decide, show ¬ ((45 : UInt8) = 61) by decide, if_true]
    rw [numP_dec n.toNat (by omega) (by omega)]
    show some _ = _
    congr 1
    exact pc_ext rfl (by show (n.toNat : Int) = n; omega) (str_empty h3).symm
  · simp only at h2 h3 hn
    unfold pcT oneP
    simp only [if_true]
    rw [hexP_hexL, if_neg (fun e => h3 (by
      have := congrArg List.length e
      rw [hexL_len, Array.length_toList] at this
      have h0 : ([] : List UInt8).length = 0 := rfl
      rw [h0] at this
      show t.data.size = 0
      omega))]
    show some _ = _
    congr 1
    exact pc_ext rfl h2.symm (by show (⟨t.data.toList.toArray⟩ : ByteArray) = t; rw [Array.toArray_toList])
theorem one_some {w : List UInt8} {p : Pc} (h : oneP w = some p) : okP p = true ∧ p.n ≤ 1048576 ∧ pcT p = w := by
  rcases w with _ | ⟨c, w⟩
  · cases h
  rw [oneP_cons] at h
  by_cases h1 : c = 43
  · subst h1
    rw [if_pos rfl] at h
    by_cases hw : w = []
    · rw [if_pos hw] at h; cases h
    rw [if_neg hw] at h
    rcases hx : hexP w with _ | t
    · rw [hx] at h; cases h
    rw [hx] at h
    obtain rfl := Option.some.inj h
    have := hexP_some w t hx
    have ht : t.toArray.size ≠ 0 := fun e => hw (by
      have e' : t = [] := List.eq_nil_of_length_eq_zero (by rw [← List.size_toArray]; exact e)
      rw [← this, e']; rfl)
    refine ⟨?_, by show (0 : Int) ≤ _; decide, ?_⟩
    · unfold okP
      have ht' : (⟨t.toArray⟩ : ByteArray).size ≠ 0 := ht
      simp [ht']
    · show 43 :: hexL t.toArray.toList = 43 :: w
      rw [this]
  rw [if_neg h1] at h
  by_cases h2 : c = 61
  · subst h2
    rw [if_pos rfl] at h
    rcases hx : numP w with _ | n
    · rw [hx] at h; cases h
    rw [hx] at h
    obtain rfl := Option.some.inj h
    obtain ⟨k1, k2, k3⟩ := numP_some hx
    refine ⟨?_, by show (n : Int) ≤ _; omega, ?_⟩
    · unfold okP
      have : (1 : Int) ≤ n := by omega
      have h0 : (⟨#[]⟩ : ByteArray).size = 0 := rfl
      simp [this, h0]
    · show 61 :: Lib.decDigits (n : Int).toNat = 61 :: w
      rw [← k3]; rfl
  rw [if_neg h2] at h
  by_cases h3 : c = 45
  · subst h3
    rw [if_pos rfl] at h
    rcases hx : numP w with _ | n
    · rw [hx] at h; cases h
    rw [hx] at h
    obtain rfl := Option.some.inj h
    obtain ⟨k1, k2, k3⟩ := numP_some hx
    refine ⟨?_, by show (n : Int) ≤ _; omega, ?_⟩
    · unfold okP
      have : (1 : Int) ≤ n := by omega
      have h0 : (⟨#[]⟩ : ByteArray).size = 0 := rfl
      simp [this, h0]
    · show 45 :: Lib.decDigits (n : Int).toNat = 45 :: w
      rw [← k3]; rfl
  · rw [if_neg h3] at h; cases h
theorem dec_no32 (n : Nat) : ∀ c ∈ Lib.decDigits n, c ≠ 32 := by
  induction n using Nat.strongRecOn with
  | ind n ih =>
    intro c hc
    have hd := digC_nat n
    by_cases h : n < 10
    · rw [decDigits_small h, List.mem_singleton] at hc
      subst hc
      intro e; rw [e] at hd; simp at hd; omega
    · rw [decDigits_step h, List.mem_append, List.mem_singleton] at hc
      rcases hc with hc | rfl
      · exact ih (n / 10) (by omega) c hc
      · intro e; rw [e] at hd; simp at hd; omega
theorem hexD_no32 : ∀ n : Nat, n < 16 → hexD n ≠ 32 := by decide +kernel
theorem hexL_no32 (l : List UInt8) : ∀ c ∈ hexL l, c ≠ 32 := by
  intro c hc
  obtain ⟨b, _, hb⟩ := List.mem_flatMap.1 hc
  have := u8lt b
  simp only [hexB, List.mem_cons, List.not_mem_nil, or_false] at hb
  rcases hb with rfl | rfl
  · exact hexD_no32 _ (by omega)
  · exact hexD_no32 _ (by omega)
theorem pcT_no32 (p : Pc) : ∀ c ∈ pcT p, c ≠ 32 := by
  intro c hc
  unfold pcT at hc
  by_cases h1 : p.k = 2
  · rw [if_pos h1] at hc
    rcases List.mem_cons.1 hc with rfl | hc
    · decide
    · exact hexL_no32 _ c hc
  rw [if_neg h1] at hc
  by_cases h2 : p.k = 3
  · rw [if_pos h2] at hc
    rcases List.mem_cons.1 hc with rfl | hc
    · decide
    · exact dec_no32 _ c hc
  rw [if_neg h2] at hc
  rcases List.mem_cons.1 hc with rfl | hc
  · decide
  · exact dec_no32 _ c hc
theorem allP_map : ∀ (l : List Pc), (∀ p ∈ l, okP p = true ∧ p.n ≤ 1048576) → allP (l.map pcT) = some l
  | [], _ => rfl
  | p :: l, h => by
    show (match oneP (pcT p), allP (l.map pcT) with | some p, some l => some (p :: l) | _, _ => none) = _
    rw [one_pcT (h p (List.mem_cons_self ..)).1 (h p (List.mem_cons_self ..)).2, allP_map l fun q hq => h q (List.mem_cons_of_mem _ hq)]
theorem allP_some : ∀ (ws : List (List UInt8)) (l : List Pc), allP ws = some l → l.map pcT = ws ∧ ∀ p ∈ l, okP p = true ∧ p.n ≤ 1048576
  | [], l, h => by
    obtain rfl := Option.some.inj h
    exact ⟨rfl, fun p hp => absurd hp (List.not_mem_nil)⟩
  | w :: ws, l, h => by
    unfold allP at h
    rcases h1 : oneP w with _ | p
    · rw [h1] at h; cases h
    rcases h2 : allP ws with _ | l'
    · rw [h1, h2] at h; cases h
    rw [h1, h2] at h
    obtain rfl := Option.some.inj h
    obtain ⟨k1, k2⟩ := allP_some ws l' h2
    obtain ⟨g1, g2, g3⟩ := one_some h1
    refine ⟨by rw [List.map_cons, g3, k1], fun q hq => ?_⟩
    rcases List.mem_cons.1 hq with rfl | hq
    · exact ⟨g1, g2⟩
    · exact k2 q hq
theorem pcT_ne (p : Pc) : pcT p ≠ [] := by
  unfold pcT
  by_cases h1 : p.k = 2
  · rw [if_pos h1]; simp
  rw [if_neg h1]
  by_cases h2 : p.k = 3
  · rw [if_pos h2]; simp
  · rw [if_neg h2]; simp
theorem textL_ne {l : List Pc} (h : l ≠ []) : textL l ≠ [] := by
  unfold textL
  rcases l with _ | ⟨p, _ | ⟨q, l⟩⟩
  · exact absurd rfl h
  · exact pcT_ne p
  · show pcT p ++ 32 :: _ ≠ []
    simp
/-- reading what was printed -/
theorem parse_text {l : List Pc} (h : ∀ p ∈ l, okP p = true ∧ p.n ≤ 1048576) : parseL (textL l) = some l := by
  unfold parseL
  by_cases hl : l = []
  · subst hl; rfl
  rw [if_neg (textL_ne hl)]
  unfold textL
  rw [split_join (l.map pcT) (by simpa using hl) (by
    intro w hw
    obtain ⟨p, _, rfl⟩ := List.mem_map.1 hw
    exact pcT_no32 p)]
  exact allP_map l h
/-- printing what was read -/
theorem text_parse {s : List UInt8} {l : List Pc} (h : parseL s = some l) : textL l = s ∧ ∀ p ∈ l, okP p = true ∧ p.n ≤ 1048576 := by
  unfold parseL at h
  by_cases hs : s = []
  · rw [if_pos hs] at h
    obtain rfl := Option.some.inj h
    exact ⟨hs.symm, fun p hp => absurd hp (List.not_mem_nil)⟩
  · rw [if_neg hs] at h
    obtain ⟨h1, h2⟩ := allP_some _ _ h
    exact ⟨by unfold textL; rw [h1, join_split], h2⟩
end Go.Proofs.YtfbjbgknfdekfaaDoor

namespace Go.Proofs.YtfbjbgknfdekfaaDoor
set_option linter.unusedVariables false

def toP : Dp → Pc
  | .ret n => ⟨1, n, ⟨#[]⟩⟩
  | .ins t => ⟨2, 0, ⟨t.toArray⟩⟩
  | .del n => ⟨3, n, ⟨#[]⟩⟩
def ofP (p : Pc) : Dp := if p.k = 2 then .ins p.t.data.toList else if p.k = 3 then .del p.n.toNat else .ret p.n.toNat
theorem of_to (d : Dp) : ofP (toP d) = d := by
  cases d <;> rfl
theorem to_of {p : Pc} (h : okP p = true) : toP (ofP p) = p := by
  obtain ⟨k, n, t⟩ := p
  rcases okP_cases h with ⟨rfl, h2, h3⟩ | ⟨rfl, h2, h3⟩ | ⟨rfl, h2, h3⟩
  · exact pc_ext rfl (by show (n.toNat : Int) = n; simp only at h2; omega) (str_empty h3).symm
  · exact pc_ext rfl (by show (n.toNat : Int) = n; simp only at h2; omega) (str_empty h3).symm
  · exact pc_ext rfl (by simp only at h2; exact h2.symm) (by show (⟨t.data.toList.toArray⟩ : ByteArray) = t; rw [Array.toArray_toList])
theorem of_ok {p : Pc} (h : okP p = true) : (ofP p).ok := by
  obtain ⟨k, n, t⟩ := p
  rcases okP_cases h with ⟨rfl, h2, h3⟩ | ⟨rfl, h2, h3⟩ | ⟨rfl, h2, h3⟩
  · show 0 < n.toNat; simp only at h2; omega
  · show 0 < n.toNat; simp only at h2; omega
  · show t.data.toList ≠ []
    intro e
    exact h3 (by
      show t.data.size = 0
      rw [← Array.length_toList, e]; rfl)
theorem to_ok {d : Dp} (h : d.ok) : okP (toP d) = true := by
  cases d with
  | ret n =>
    have : (1 : Int) ≤ n := by have : 0 < n := h; omega
    have h0 : (⟨#[]⟩ : ByteArray).size = 0 := rfl
    simp [okP, toP, this, h0]
  | del n =>
    have : (1 : Int) ≤ n := by have : 0 < n := h; omega
    have h0 : (⟨#[]⟩ : ByteArray).size = 0 := rfl
    simp [okP, toP, this, h0]
  | ins t =>
    have h0 : (⟨t.toArray⟩ : ByteArray).size ≠ 0 := fun e => h (List.eq_nil_of_length_eq_zero (by rw [← List.size_toArray]; exact e))
    simp [okP, toP, h0]
theorem inP_of {p : Pc} (h : okP p = true) : inP p = (ofP p).inn ∧ outP p = (ofP p).out := by
  obtain ⟨k, n, t⟩ := p
  rcases okP_cases h with ⟨rfl, h2, h3⟩ | ⟨rfl, h2, h3⟩ | ⟨rfl, h2, h3⟩
  · simp only at h2
    exact ⟨by show n = (n.toNat : Int); omega, by show n = (n.toNat : Int); omega⟩
  · simp only at h2
    exact ⟨by show n = (n.toNat : Int); omega, rfl⟩
  · exact ⟨rfl, by show (t.size : Int) = (t.data.toList.length : Int); rw [Array.length_toList]; rfl⟩
def AllOk (l : List Pc) : Prop := ∀ p ∈ l, okP p = true
theorem AllOk.tail {p : Pc} {l : List Pc} (h : AllOk (p :: l)) : AllOk l := fun q hq => h q (List.mem_cons_of_mem _ hq)
theorem AllOk.head {p : Pc} {l : List Pc} (h : AllOk (p :: l)) : okP p = true := h p (List.mem_cons_self ..)
theorem AllOk.ok : ∀ {l : List Pc}, AllOk l → Dp.Ok (l.map ofP)
  | [], _ => trivial
  | p :: l, h => ⟨of_ok h.head, AllOk.ok h.tail⟩
theorem allOk_to : ∀ {l : List Dp}, Dp.Ok l → AllOk (l.map toP)
  | [], _, p, hp => absurd hp (List.not_mem_nil)
  | d :: l, h, p, hp => by
    rcases List.mem_cons.1 hp with rfl | hp
    · exact to_ok h.1
    · exact allOk_to h.2 p hp
theorem map_of_to : ∀ l : List Dp, (l.map toP).map ofP = l
  | [] => rfl
  | d :: l => by rw [List.map_cons, List.map_cons, of_to, map_of_to l]
theorem map_to_of : ∀ {l : List Pc}, AllOk l → (l.map ofP).map toP = l
  | [], _ => rfl
  | p :: l, h => by rw [List.map_cons, List.map_cons, to_of h.head, map_to_of h.tail]
def sIP (l : List Pc) : Nat := Dp.sI (l.map ofP)
def sOP (l : List Pc) : Nat := Dp.sO (l.map ofP)
theorem lenL_ok : ∀ (l : List Pc) (i o : Int), AllOk l → i + sIP l ≤ 1048576 → o + sOP l ≤ 1048576 → lenL i o l = (i + sIP l, o + sOP l, 0)
  | [], i, o, _, _, _ => by
    show (i, o, 0) = (i + ((0 : Nat) : Int), o + ((0 : Nat) : Int), 0)
    simp
  | p :: l, i, o, h, hi, ho => by
    obtain ⟨e1, e2⟩ := inP_of h.head
    have s1 : sIP (p :: l) = (ofP p).inn + sIP l := rfl
    have s2 : sOP (p :: l) = (ofP p).out + sOP l := rfl
    unfold lenL
    rw [if_neg (by rw [h.head]; decide), if_neg (by omega), lenL_ok l _ _ h.tail (by omega) (by omega), s1, s2, e1, e2]
    congr 1
    · omega
    · congr 1; omega
theorem lenL_inv : ∀ (l : List Pc) (i o : Int), i ≤ 1048576 → o ≤ 1048576 → (lenL i o l).2.2 = 0 → AllOk l ∧ i + sIP l ≤ 1048576 ∧ o + sOP l ≤ 1048576
  | [], i, o, hi, ho, _ => ⟨fun p hp => absurd hp (List.not_mem_nil), by show i + ((0 : Nat) : Int) ≤ _; omega, by show o + ((0 : Nat) : Int) ≤ _; omega⟩
  | p :: l, i, o, hi, ho, h => by
    unfold lenL at h
    by_cases h1 : okP p = false
    · rw [if_pos h1] at h; exact absurd h (by decide)
    · rw [if_neg h1] at h
      have hp : okP p = true := by simpa using h1
      by_cases h2 : 1048576 - i < inP p ∨ 1048576 - o < outP p
      · rw [if_pos h2] at h; exact absurd h (by decide)
      · rw [if_neg h2] at h
        obtain ⟨k1, k2, k3⟩ := lenL_inv l _ _ (by omega) (by omega) h
        obtain ⟨e1, e2⟩ := inP_of hp
        have s1 : sIP (p :: l) = (ofP p).inn + sIP l := rfl
        have s2 : sOP (p :: l) = (ofP p).out + sOP l := rfl
        refine ⟨fun q hq => ?_, by omega, by omega⟩
        rcases List.mem_cons.1 hq with rfl | hq
        · exact hp
        · exact k1 q hq
theorem check_inv {l : List Pc} (h : checkP l = 0) : l.length ≤ 4096 ∧ AllOk l ∧ sIP l ≤ 1048576 ∧ sOP l ≤ 1048576 := by
  unfold checkP lengthsP at h
  by_cases h1 : 4096 < l.length
  · rw [if_pos h1] at h; exact absurd h (by decide)
  · rw [if_neg h1] at h
    obtain ⟨k1, k2, k3⟩ := lenL_inv l 0 0 (by decide) (by decide) h
    exact ⟨by omega, k1, by omega, by omega⟩
theorem lengths_ok {l : List Pc} (h1 : l.length ≤ 4096) (h2 : AllOk l) (h3 : sIP l ≤ 1048576) (h4 : sOP l ≤ 1048576) : lengthsP l = (↑(sIP l), ↑(sOP l), 0) := by
  unfold lengthsP
  rw [if_neg (by omega), lenL_ok l 0 0 h2 (by omega) (by omega)]
  simp
theorem check_ok {l : List Pc} (h1 : l.length ≤ 4096) (h2 : AllOk l) (h3 : sIP l ≤ 1048576) (h4 : sOP l ≤ 1048576) : checkP l = 0 := by
  unfold checkP
  rw [lengths_ok h1 h2 h3 h4]
theorem lengths_of_check {l : List Pc} (h : checkP l = 0) : lengthsP l = (↑(sIP l), ↑(sOP l), 0) := by
  obtain ⟨h1, h2, h3, h4⟩ := check_inv h
  exact lengths_ok h1 h2 h3 h4
/-- the normal form -/
def formP (l : List Pc) : List Pc := (Dp.form (l.map ofP)).map toP
theorem formP_ok {l : List Pc} (h : AllOk l) : AllOk (formP l) := allOk_to (Dp.form_okL h.ok)
theorem map_formP (l : List Pc) : (formP l).map ofP = Dp.form (l.map ofP) := map_of_to _
theorem sIP_form (l : List Pc) : sIP (formP l) = sIP l := by
  unfold sIP
  rw [map_formP, Dp.sI_form]
theorem sOP_form (l : List Pc) : sOP (formP l) = sOP l := by
  unfold sOP
  rw [map_formP, Dp.sO_form]
theorem len_formP (l : List Pc) : (formP l).length ≤ l.length := by
  unfold formP
  have := Dp.len_form (l.map ofP)
  rw [List.length_map] at this ⊢
  exact this
theorem formP_form (l : List Pc) : formP (formP l) = formP l := by
  unfold formP
  rw [map_of_to, Dp.form_of_norm (Dp.form_norm _)]
theorem check_formP {l : List Pc} (h : checkP l = 0) : checkP (formP l) = 0 := by
  obtain ⟨h1, h2, h3, h4⟩ := check_inv h
  have := len_formP l
  exact check_ok (by omega) (formP_ok h2) (by rw [sIP_form]; exact h3) (by rw [sOP_form]; exact h4)
theorem formP_append (u v : List Pc) : formP (formP u ++ v) = formP (u ++ v) := by
  unfold formP
  rw [List.map_append, List.map_append, map_of_to]
  congr 1
  exact Dp.form_form [] _ _
theorem formP_append3 (u v w : List Pc) : formP (u ++ (formP v ++ w)) = formP (u ++ (v ++ w)) := by
  unfold formP
  rw [List.map_append, List.map_append, List.map_append, List.map_append, map_of_to]
  congr 1
  exact Dp.form_form _ _ _
theorem sIP_append (u v : List Pc) : sIP (u ++ v) = sIP u + sIP v := by
  unfold sIP
  rw [List.map_append, Dp.sI_append]
theorem sOP_append (u v : List Pc) : sOP (u ++ v) = sOP u + sOP v := by
  unfold sOP
  rw [List.map_append, Dp.sO_append]
theorem formP_eq_iff {x y : List Pc} (hx : AllOk x) (hy : AllOk y) : formP x = formP y ↔ sIP x = sIP y ∧ Dp.atoms 0 (x.map ofP) = Dp.atoms 0 (y.map ofP) := by
  refine Iff.trans ?_ (Dp.form_eq_iff hx.ok hy.ok)
  constructor
  · intro h
    have := congrArg (List.map ofP) h
    rwa [map_formP, map_formP] at this
  · intro h
    unfold formP
    rw [h]
end Go.Proofs.YtfbjbgknfdekfaaDoor

