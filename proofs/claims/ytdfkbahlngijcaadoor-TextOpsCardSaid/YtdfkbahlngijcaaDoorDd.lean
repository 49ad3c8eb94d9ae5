/- Deltas: the text form of the program: delta.Text. -/
import Derived.Test.YtdfkbahlngijcaaDoorDc
import Derived.Test.YtdfkbahlngijcaaDoorSh
import Derived.Deep.CutRange
import Derived.Deep.DeepCutAuto
import Derived.Lib.SmallJoins
import Derived.Lib.ItoaMem
import Derived.Lib.AppendIntMem
namespace Go.Proofs.YtdfkbahlngijcaaDoor
open Go.RowKit Go.Sort
set_option linter.unusedVariables false

/-- the library's table of powers of ten reads as it is laid -/
def Tab (w : World) : Prop := Lib.TabIs Tryd.prog w "internal/strconv.uint64pow10" .u64 Lib.pow10Tab
theorem Tab.below {w w' : World} (h : Tab w) (hb : Below w.heap.size w w') : Tab w' := Lib.tabBelow_of_tabIs h w' hb
theorem below_growN (w : World) (k : Nat) (os : Array Obj) : Below w.heap.size w (grow (w.drewN k) os) :=
  ⟨rfl, rfl, rfl, by show w.heap.size ≤ (w.heap ++ os).size; rw [Array.size_append]; omega, fun j hj => by
    show (w.heap ++ os)[j]? = w.heap[j]?
    rw [Array.getElem?_append, if_pos hj]⟩
theorem others_below {e : TypeId} {b : Option Nat} {w w' : World} (h : Below w.heap.size w w') : Lib.OthersKept e b w w' := fun k o hk _ _ => by
  rw [h.block k (block_lt hk)]; exact hk
theorem builder_below {T e : TypeId} {B b : Nat} {bs : List Value} {w w' : World} (h : Lib.IsBuilderF T e B b bs w) (hb : Below w.heap.size w w') : Lib.IsBuilderF T e B b bs w' := by
  have key : ∀ p, Lib.BuilderAtF T e B b p bs w → Lib.BuilderAtF T e B b p bs w' := by
    rintro p ⟨h1, v, h2, h3, h4⟩
    refine ⟨h1, v, block_below hb h2 (block_lt h2), ⟨h3.1, ?_⟩, h4⟩
    rcases h3.2 with hn | ⟨g, cap, cur, fz, hv, hbg, hg, rest⟩
    · exact .inl hn
    · exact .inr ⟨g, cap, cur, fz, hv, hbg, block_below hb hg (block_lt hg), rest⟩
  exact h.elim (fun x => .inl (key _ x)) (fun x => .inr (key _ x))
theorem BuilderF_lt {T e : TypeId} {B b : Nat} {bs : List Value} {w : World} (h : Lib.IsBuilderF T e B b bs w) : b < w.heap.size := h.elim (fun x => x.lt) (fun x => x.lt)
theorem others_cells {e t : TypeId} {b k : Nat} {w w' : World} {c : Array Value} {fz : Nat × Nat} (h : Lib.OthersKept e (some b) w w') (hk : w.heap[k]? = some (.cells c t fz)) (hkb : k ≠ b) (ht : t ≠ e) : w'.heap[k]? = some (.cells c t fz) :=
  h k _ hk (fun e' => hkb (Option.some.inj e')) (fun c' fz' e' => ht (by injection e'))
theorem itoa_nat (n : Nat) (hn : n ≤ 9223372036854775807) (w : World) (ht : Tab w) :
    Calls Tryd.prog 27 #[.int .i64 n] w fun e w' => e = .returned (.string ⟨(Lib.decDigits n).toArray⟩) ∧ Below w.heap.size w w' := by
  refine (Tryd.strconv_Itoa (n : Int) (by omega) (by omega) w ht).mono ?_
  rintro e w' ⟨rfl, k, os, rfl⟩
  exact ⟨by rw [Lib.itoa_nonneg], below_growN w k os⟩
theorem joinW_snoc : ∀ (ws : List (List UInt8)) (v : List UInt8), ws ≠ [] → joinW (ws ++ [v]) = joinW ws ++ 32 :: v
  | [], _, h => absurd rfl h
  | [w], v, _ => rfl
  | w :: u :: ws, v, _ => by
    show w ++ 32 :: joinW ((u :: ws) ++ [v]) = w ++ 32 :: joinW (u :: ws) ++ 32 :: v
    rw [joinW_snoc (u :: ws) v (by simp), List.append_assoc]
    rfl
theorem textL_zero {l : List Pc} (h : 0 < l.length) : textL (l.take 1) = pcT l[0] := by
  rcases l with _ | ⟨p, l⟩
  · exact absurd h (Nat.lt_irrefl 0)
  · rfl
theorem textL_succ {l : List Pc} {j : Nat} (h : j < l.length) (hj : 0 < j) : textL (l.take (j + 1)) = textL (l.take j) ++ 32 :: pcT l[j] := by
  unfold textL
  rw [List.take_succ_eq_append_getElem h, List.map_append, List.map_cons, List.map_nil, joinW_snoc _ _ (by
    intro e
    have := congrArg List.length e
    simp at this
    rcases this with rfl | rfl
    · omega
    · simp at h)]
theorem pcT_len {p : Pc} (h : okP p = true) (hn : p.n ≤ 1048576) : (pcT p).length ≤ 8 + 2 * (ofP p).out := by
  obtain ⟨k, n, t⟩ := p
  rcases okP_cases h with ⟨rfl, h2, h3⟩ | ⟨rfl, h2, h3⟩ | ⟨rfl, h2, h3⟩
  · show (61 :: Lib.decDigits n.toNat).length ≤ _
    have := decDigits_len 7 n.toNat (by decide) (by simp only at hn h2; omega)
    rw [List.length_cons]; omega
  · show (45 :: Lib.decDigits n.toNat).length ≤ _
    have := decDigits_len 7 n.toNat (by decide) (by simp only at hn h2; omega)
    rw [List.length_cons]; omega
  · show (43 :: hexL t.data.toList).length ≤ 8 + 2 * t.data.toList.length
    rw [List.length_cons, hexL_len]; omega
theorem joinW_len : ∀ ws : List (List UInt8), (joinW ws).length ≤ (ws.map fun w => w.length + 1).sum
  | [] => Nat.le_refl _
  | [w] => by simp [joinW]
  | w :: v :: ws => by
    have := joinW_len (v :: ws)
    show (w ++ 32 :: joinW (v :: ws)).length ≤ (w.length + 1) + ((v :: ws).map fun w => w.length + 1).sum
    rw [List.length_append, List.length_cons]
    omega
theorem inn_le {p : Pc} {l : List Pc} (h : AllOk l) (hp : p ∈ l) : p.n ≤ sIP l := by
  induction l with
  | nil => exact absurd hp (List.not_mem_nil)
  | cons q l ih =>
    have s1 : sIP (q :: l) = (ofP q).inn + sIP l := rfl
    rcases List.mem_cons.1 hp with rfl | hp
    · have := (inP_of h.head).1
      have h3 := okP_cases h.head
      unfold inP at this
      rcases h3 with ⟨h1, h2, -⟩ | ⟨h1, h2, -⟩ | ⟨h1, h2, -⟩ <;> rw [h1] at this <;> simp at this <;> omega
    · have := ih h.tail hp
      omega
theorem textL_len : ∀ {l : List Pc}, AllOk l → (∀ p ∈ l, p.n ≤ 1048576) → (textL l).length ≤ 9 * l.length + 2 * sOP l := by
  intro l h hn
  unfold textL
  refine Nat.le_trans (joinW_len _) ?_
  induction l with
  | nil => exact Nat.zero_le _
  | cons p l ih =>
    have := ih h.tail fun q hq => hn q (List.mem_cons_of_mem _ hq)
    have h1 := pcT_len h.head (hn p (List.mem_cons_self ..))
    have s1 : sOP (p :: l) = (ofP p).out + sOP l := rfl
    rw [List.map_cons, List.map_cons, List.sum_cons, List.length_cons]
    omega
theorem sOP_take {l : List Pc} (h : AllOk l) (j : Nat) : sOP (l.take j) ≤ sOP l := by
  have e : sOP l = sOP (l.take j) + sOP (l.drop j) := by rw [← sOP_append, List.take_append_drop]
  omega
theorem AllOk.take {l : List Pc} (h : AllOk l) (j : Nat) : AllOk (l.take j) := fun p hp => h p (List.mem_of_mem_take hp)
/-- what is printed of the first pieces is short -/
theorem text_short {l : List Pc} (hc : checkP l = 0) (j : Nat) : (textL (l.take j)).length ≤ 3000000 := by
  obtain ⟨h1, h2, h3, h4⟩ := check_inv hc
  have := textL_len (h2.take j) fun p hp => by
    have := inn_le h2 (List.mem_of_mem_take hp)
    omega
  have h5 := sOP_take h2 j
  have h6 : (l.take j).length ≤ l.length := List.length_take_le' _ _
  omega
/-- what was written before piece j -/
def before (l : List Pc) (j : Nat) : List UInt8 := if j = 0 then [] else textL (l.take j) ++ [32]
theorem before_pc {l : List Pc} {j : Nat} (h : j < l.length) : before l j ++ pcT l[j] = textL (l.take (j + 1)) := by
  unfold before
  by_cases hj : j = 0
  · subst hj
    rw [if_pos rfl, textL_zero h]; rfl
  · rw [if_neg hj, textL_succ h (by omega), List.append_assoc]
    rfl
theorem before_len {l : List Pc} (hc : checkP l = 0) (j : Nat) : (before l j).length ≤ 3000001 := by
  have := text_short hc j
  unfold before
  by_cases hj : j = 0
  · rw [if_pos hj]; simp
  · rw [if_neg hj, List.length_append]; simp; omega
theorem byteCells_app (l m : List UInt8) : Lib.byteCells l ++ Lib.byteCells m = Lib.byteCells (l ++ m) := by
  unfold Lib.byteCells
  rw [List.map_append]
theorem strCells_bytes (l : List UInt8) : Lib.strCells ⟨l.toArray⟩ = Lib.byteCells l := by
  simp [Lib.strCells, Lib.byteCells]
theorem strCells_app (a b : List UInt8) : Lib.strCells ((⟨a.toArray⟩ : ByteArray) ++ ⟨b.toArray⟩) = Lib.byteCells (a ++ b) := by
  rw [← strCells_bytes]
  congr 1
theorem pc_step {l : List Pc} {j : Nat} {p : Pc} {d : List UInt8} (h : before l j ++ pcT p = textL (l.take (j + 1))) (hd : pcT p = d) : Lib.byteCells (textL (l.take (j + 1))) = Lib.byteCells (before l j) ++ Lib.byteCells d := by
  rw [byteCells_app, ← hd, h]
def txtP (l : List Pc) : List UInt8 := if checkP l = 0 then textL l else []
end Go.Proofs.YtdfkbahlngijcaaDoor
