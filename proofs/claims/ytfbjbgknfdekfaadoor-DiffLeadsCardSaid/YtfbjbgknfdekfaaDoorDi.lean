/- Deltas: the text form of the program: delta.Text. Deltas: the text form of the program: delta.Text. Deltas: the text form of the reference: quartoref03.Text. Deltas: the normal form of the program: flush. Deltas: the normal form of the program: flush. Deltas: the normal form of the program: form. -/
import Derived.Test.YtfbjbgknfdekfaaDoorDc
import Derived.Test.YtfbjbgknfdekfaaDoorSh
import Derived.Deep.CutRange
import Derived.Deep.DeepCutAuto
import Derived.Lib.SmallJoins
import Derived.Lib.ItoaMem
import Derived.Lib.AppendIntMem
import Derived.Deep.RegionLaw
import Derived.Lib.AppendStr
import Derived.Laws.BytesArg
namespace Go.Proofs.YtfbjbgknfdekfaaDoor
open Go.RowKit Go.Sort
set_option linter.unusedVariables false

/-- the library's table of powers of ten reads as it is laid -/
def Tab (w : World) : Prop := Lib.TabIs Tryd.prog w "internal/strconv.uint64pow10" .u64 Lib.pow10Tab
theorem Tab.below {w w' : World} (h : Tab w) (hb : Below w.heap.size w w') : Tab w' := Lib.tabBelow_of_tabIs h w' hb
theorem below_growN (w : World) (k : Nat) (os : Array Obj) : Below w.heap.size w (grow (w.drewN k) os) :=
  ⟨rfl, rfl, rfl, by show w.heap.size ≤ (w.heap ++ os).size; rw [Array.size_append]; omega, fun j hj => by
    show (w.heap ++ os)[j]? = w.heap[j]?
    rw [Array.getElem?_append, if_pos hj]⟩
theorem others_below {e : TypeId} {b : Option Nat} {w w' : World} (h : Below w.heap.size w w') : Lib.OthersKept e b w w' := fun k o hk _ _ => by
  rw [h.block k (block_lt hk)]; exact hk
theorem builder_below {T e : TypeId} {B b : Nat} {bs : List Value} {w w' : World} (h : Lib.IsBuilderF T e B b bs w) (hb : Below w.heap.size w w') : Lib.IsBuilderF T e B b bs w' := by
  have key : ∀ p, Lib.BuilderAtF T e B b p bs w → Lib.BuilderAtF T e B b p bs w' := by
    rintro p ⟨h1, v, h2, h3, h4⟩
    refine ⟨h1, v, block_below hb h2 (block_lt h2), ⟨h3.1, ?_⟩, h4⟩
    rcases h3.2 with hn | ⟨g, cap, cur, fz, hv, hbg, hg, rest⟩
    · exact .inl hn
    · exact .inr ⟨g, cap, cur, fz, hv, hbg, block_below hb hg (block_lt hg), rest⟩
  exact h.elim (fun x => .inl (key _ x)) (fun x => .inr (key _ x))
theorem BuilderF_lt {T e : TypeId} {B b : Nat} {bs : List Value} {w : World} (h : Lib.IsBuilderF T e B b bs w) : b < w.heap.size := h.elim (fun x => x.lt) (fun x => x.lt)
theorem others_cells {e t : TypeId} {b k : Nat} {w w' : World} {c : Array Value} {fz : Nat × Nat} (h : Lib.OthersKept e (some b) w w') (hk : w.heap[k]? = some (.cells c t fz)) (hkb : k ≠ b) (ht : t ≠ e) : w'.heap[k]? = some (.cells c t fz) :=
  h k _ hk (fun e' => hkb (Option.some.inj e')) (fun c' fz' e' => ht (by injection e'))
theorem joinW_snoc : ∀ (ws : List (List UInt8)) (v : List UInt8), ws ≠ [] → joinW (ws ++ [v]) = joinW ws ++ 32 :: v
  | [], _, h => absurd rfl h
  | [w], v, _ => rfl
  | w :: u :: ws, v, _ => by
    show w ++ 32 :: joinW ((u :: ws) ++ [v]) = w ++ 32 :: joinW (u :: ws) ++ 32 :: v
    rw [joinW_snoc (u :: ws) v (by simp), List.append_assoc]
    rfl
theorem textL_zero {l : List Pc} (h : 0 < l.length) : textL (l.take 1) = pcT l[0] := by
  rcases l with _ | ⟨p, l⟩
  · exact absurd h (Nat.lt_irrefl 0)
  · rfl
theorem textL_succ {l : List Pc} {j : Nat} (h : j < l.length) (hj : 0 < j) : textL (l.take (j + 1)) = textL (l.take j) ++ 32 :: pcT l[j] := by
  unfold textL
  rw [List.take_succ_eq_append_getElem h, List.map_append, List.map_cons, List.map_nil, joinW_snoc _ _ (by
    intro e
    have := congrArg List.length e
    simp at this
    rcases this with rfl | rfl
    · omega
    · simp at h)]
theorem pcT_len {p : Pc} (h : okP p = true) (hn : p.n ≤ 1048576) : (pcT p).length ≤ 8 + 2 * (ofP p).out := by
  obtain ⟨k, n, t⟩ := p
  rcases okP_cases h with ⟨rfl, h2, h3⟩ | ⟨rfl, h2, h3⟩ | ⟨rfl, h2, h3⟩
  · show (61 :: Lib.decDigits n.toNat).length ≤ _
    have := decDigits_len 7 n.toNat (by decide) (by simp only at hn h2; omega)
    rw [List.length_cons]; omega
  · show (45 :: Lib.decDigits n.toNat).length ≤ _
    have := decDigits_len 7 n.toNat (by decide) (by simp only at hn h2; omega)
    rw [List.length_cons]; omega
  · show (43 :: hexL t.data.toList).length ≤ 8 + 2 * t.data.toList.length
    rw [List.length_cons, hexL_len]; omega
theorem joinW_len : ∀ ws : List (List UInt8), (joinW ws).length ≤ (ws.map fun w => w.length + 1).sum
  | [] => Nat.le_refl _
  | [w] => by simp [joinW]
  | w :: v :: ws => by
    have := joinW_len (v :: ws)
    show (w ++ 32 :: joinW (v :: ws)).length ≤ (w.length + 1) + ((v :: ws).map fun w => w.length + 1).sum
    rw [List.length_append, List.length_cons]
    omega
theorem inn_le {p : Pc} {l : List Pc} (h : AllOk l) (hp : p ∈ l) : p.n ≤ sIP l := by
  induction l with
  | nil => exact absurd hp (List.not_mem_nil)
  | cons q l ih =>
    have s1 : sIP (q :: l) = (ofP q).inn + sIP l := rfl
    rcases List.mem_cons.1 hp with rfl | hp
    · have := (inP_of h.head).1
      have h3 := okP_cases h.head
      unfold inP at this
      rcases h3 with ⟨h1, h2, -⟩ | ⟨h1, h2, -⟩ | ⟨h1, h2, -⟩ <;> rw [h1] at this <;> simp at this <;> omega
    · have := ih h.tail hp
      omega
theorem textL_len : ∀ {l : List Pc}, AllOk l → (∀ p ∈ l, p.n ≤ 1048576) → (textL l).length ≤ 9 * l.length + 2 * sOP l := by
  intro l h hn
  unfold textL
  refine Nat.le_trans (joinW_len _) ?_
  induction l with
  | nil => exact Nat.zero_le _
  | cons p l ih =>
    have := ih h.tail fun q hq => hn q (List.mem_cons_of_mem _ hq)
    have h1 := pcT_len h.head (hn p (List.mem_cons_self ..))
    have s1 : sOP (p :: l) = (ofP p).out + sOP l := rfl
    rw [List.map_cons, List.map_cons, List.sum_cons, List.length_cons]
    omega
theorem sOP_take {l : List Pc} (h : AllOk l) (j : Nat) : sOP (l.take j) ≤ sOP l := by
  have e : sOP l = sOP (l.take j) + sOP (l.drop j) := by rw [← sOP_append, List.take_append_drop]
  omega
theorem AllOk.take {l : List Pc} (h : AllOk l) (j : Nat) : AllOk (l.take j) := fun p hp => h p (List.mem_of_mem_take hp)
/-- what is printed of the first pieces is short -/
theorem text_short {l : List Pc} (hc : checkP l = 0) (j : Nat) : (textL (l.take j)).length ≤ 3000000 := by
  obtain ⟨h1, h2, h3, h4⟩ := check_inv hc
  have := textL_len (h2.take j) fun p hp => by
    have := inn_le h2 (List.mem_of_mem_take hp)
    omega
  have h5 := sOP_take h2 j
  have h6 : (l.take j).length ≤ l.length := List.length_take_le' _ _
  omega
/-- what was written before piece j -/
def before (l : List Pc) (j : Nat) : List UInt8 := if j = 0 then [] else textL (l.take j) ++ [32]
theorem before_pc {l : List Pc} {j : Nat} (h : j < l.length) : before l j ++ pcT l[j] = textL (l.take (j + 1)) := by
  unfold before
  by_cases hj : j = 0
  · subst hj
    rw [if_pos rfl, textL_zero h]; rfl
  · rw [if_neg hj, textL_succ h (by omega), List.append_assoc]
    rfl
theorem before_len {l : List Pc} (hc : checkP l = 0) (j : Nat) : (before l j).length ≤ 3000001 := by
  have := text_short hc j
  unfold before
  by_cases hj : j = 0
  · rw [if_pos hj]; simp
  · rw [if_neg hj, List.length_append]; simp; omega
theorem byteCells_app (l m : List UInt8) : Lib.byteCells l ++ Lib.byteCells m = Lib.byteCells (l ++ m) := by
  unfold Lib.byteCells
  rw [List.map_append]
theorem strCells_bytes (l : List UInt8) : Lib.strCells ⟨l.toArray⟩ = Lib.byteCells l := by
  simp [Lib.strCells, Lib.byteCells]
theorem strCells_app (a b : List UInt8) : Lib.strCells ((⟨a.toArray⟩ : ByteArray) ++ ⟨b.toArray⟩) = Lib.byteCells (a ++ b) := by
  rw [← strCells_bytes]
  congr 1
theorem pc_step {l : List Pc} {j : Nat} {p : Pc} {d : List UInt8} (h : before l j ++ pcT p = textL (l.take (j + 1))) (hd : pcT p = d) : Lib.byteCells (textL (l.take (j + 1))) = Lib.byteCells (before l j) ++ Lib.byteCells d := by
  rw [byteCells_app, ← hd, h]
def txtP (l : List Pc) : List UInt8 := if checkP l = 0 then textL l else []
end Go.Proofs.YtfbjbgknfdekfaaDoor

namespace Go.Proofs.YtfbjbgknfdekfaaDoor
open Go.RowKit
set_option linter.unusedVariables false

end Go.Proofs.YtfbjbgknfdekfaaDoor

namespace Go.Proofs.YtfbjbgknfdekfaaDoor
open Go.RowKit
set_option linter.unusedVariables false

theorem step_append_str {P : Program} {w : World} {ops : Array Oper} {o : Oper} {a : Act} {K : Act → World → Prop} {Q : Exit → Act → World → Prop} {E : Prop} (hgd : o.guard = none) (sl x : Operand) (t u : TypeId)
    (ho : o.op = .call { callee := .builtin .append, args := #[sl, x], argTypes := #[t, u] })
    (base : Nat) (e : TypeId) (i : TypeInfo) (ht : P.underlying t = some (.slice e)) (hu : P.underlying u = some .string) (hi : P.info? e = some i) (hz : i.zero = some (.int .u8 0))
    (hsize : i.size = 1) (hby : i.bytes = 1)
    (v : Value) (n : Nat) (xs : List Value) (hs : a.eval sl = v) (hown : w.ownsRow base e 1 v n xs) (s : ByteArray) (hx : a.eval x = .string s)
    (h63 : n + s.size ≤ maxLen) (hbytes : n + s.size ≤ 140737488355328) (hbase : base ≤ w.heap.size)
    (h : ∀ v' w', w'.ownsRow base e 1 v' (n + s.size) (xs ++ Lib.strCells s) → w.grownBy w' v.ownBlock → K (a.put o.dst v') w') :
    if Region.wanted o (yielded ops a.tmps) = true then Oper.wp P o a w K Q else E := by
  have hw : Region.wanted o (yielded ops a.tmps) = true := by simp [Region.wanted, hgd]
  rw [if_pos hw]
  obtain ⟨v', w', hr, h2, h3, h4⟩ := Lib.run_append_own_string (P := P) w base t u o.type e i ht hu hi hz hsize hby v n xs hown s h63 hbytes hbase
  unfold Oper.wp execOp
  simp only [ho, resolve, invoke, builtin, Sem.run_bind, Sem.run_pure, Result.andThen_ok, List.map_toArray, List.map_cons, List.map_nil, hs, hx, hr]
  exact h _ _ h2 h3

theorem own_below {w w' : World} {B s : Nat} {e : TypeId} {v : Value} {n : Nat} {xs : List Value} (h : w.ownsRow B e s v n xs) (hb : Below w.heap.size w w') : w'.ownsRow B e s v n xs := by
  refine ⟨h.1, ?_⟩
  rcases h.2 with hn | ⟨g, cap, cur, hv, hbg, hg, rest⟩
  · exact .inl hn
  · exact .inr ⟨g, cap, cur, hv, hbg, block_below hb hg (block_lt hg), rest⟩
theorem own_text {w : World} {B : Nat} {v : Value} {b t d : List UInt8} {c : UInt8} {x : Int} (h : w.ownsRow B 5 1 v (b.length + 1 + (⟨d.toArray⟩ : ByteArray).size) (Lib.byteCells b ++ [.int .u8 x] ++ Lib.strCells ⟨d.toArray⟩)) (hx : (c.toNat : Int) = x) (e : b ++ ([c] ++ d) = t) :
    w.ownsRow B 5 1 v t.length (Lib.byteCells t) := by
  subst e
  subst hx
  rw [strCells_bytes] at h
  have e1 : (b ++ ([c] ++ d)).length = b.length + 1 + (⟨d.toArray⟩ : ByteArray).size := by
    rw [List.length_append, List.length_append, ← Nat.add_assoc]
    rfl
  rw [e1, ← byteCells_app, ← byteCells_app, ← List.append_assoc]
  exact h
theorem own_len {w : World} {B s : Nat} {e : TypeId} {v : Value} {n m : Nat} {xs : List Value} (h : w.ownsRow B e s v n xs) (k : n = m) : w.ownsRow B e s v m xs := k ▸ h
/-- the bytes of a row of the call's own, nil too, as a string -/
theorem own_conv {w : World} {B : Nat} {v : Value} {l : List UInt8} {n : Nat} (h : w.ownsRow B 5 1 v n (Lib.byteCells l)) (hn : l.length = n) :
    ∃ ao cap, v = .slice ao n cap ∧ (convert 47 9 (.slice ao n cap)).run Tryd.prog w = .ok (.string ⟨l.toArray⟩) w := by
  subst hn
  rcases h with ⟨_, ⟨h1, h2⟩ | ⟨g, cap, cur, rfl, hb, hg, hcap, hm, hs, htk⟩⟩
  · refine ⟨none, 0, by rw [h1, h2], ?_⟩
    rw [h2]
    obtain rfl := List.eq_nil_of_length_eq_zero h2
    exact run_convert_bytes_nil (P := Tryd.prog) w 47 5 Tryd.underlying47 Tryd.underlying5 0 0 _ Tryd.underlying9
  · refine ⟨_, cap, rfl, run_convert_bytes_back (P := Tryd.prog) w 47 9 5 ⟨g, 0, none⟩ cap l Tryd.underlying47 Tryd.underlying5 Tryd.underlying9 (fun j hj => ?_)⟩
    rw [add_to, block_cell hg, Nat.zero_add]
    have e := congrArg (fun l => l[j]?) htk
    rw [List.getElem?_take_of_lt (by omega), Array.getElem?_toList] at e
    rw [e]
    simp [Lib.byteCells, hj]
theorem hexD_lo {n : Nat} (h : n < 10) : ((hexD n).toNat : Int) = 48 + n := by
  unfold hexD
  rw [if_pos h, UInt8.toNat_ofNat']
  omega
theorem hexD_hi {n : Nat} (h : ¬ n < 10) (h2 : n < 16) : ((hexD n).toNat : Int) = 87 + n := by
  unfold hexD
  rw [if_neg h, UInt8.toNat_ofNat']
  omega
end Go.Proofs.YtfbjbgknfdekfaaDoor

namespace Go.Proofs.YtfbjbgknfdekfaaDoor
open Go.RowKit
set_option linter.unusedVariables false

theorem infoPc : (Tryd.prog.info? 45).map (fun i => (i.zero, i.size, i.bytes)) = some (some (.agg #[.int .u8 0, .int .i64 0, .string ByteArray.empty]), 3, 32) := by kernel_rfl
theorem flatP_one (l : List Pc) : ∀ u ∈ flatR fP l, u.oneCell' = true := flatR_all (fun p u hu => by
  simp only [fP, List.mem_cons, List.not_mem_nil, or_false] at hu
  rcases hu with rfl | rfl | rfl <;> rfl) l
/-- what a call leaves that writes the variables bO, bT, bG, the row of v and rows of bytes -/
def KeptF (B bO bT bG : Nat) (v : Value) (w w' : World) : Prop :=
  Below B w w' ∧ ∀ k o, w.heap[k]? = some o → k ≠ bO → k ≠ bT → k ≠ bG → v.ownBlock ≠ some k → (∀ c fz, o ≠ .cells c 5 fz) → w'.heap[k]? = some o
theorem KeptF.refl (B bO bT bG : Nat) (v : Value) (w : World) : KeptF B bO bT bG v w w := ⟨Below.refl _ _, fun _ _ h _ _ _ _ _ => h⟩
theorem KeptF.trans {B bO bT bG : Nat} {v v' : Value} {w w1 w2 : World} (h : KeptF B bO bT bG v w w1) (k : KeptF B bO bT bG v' w1 w2) (hv : ∀ q, v'.ownBlock = some q → v.ownBlock = some q ∨ w.heap.size ≤ q) : KeptF B bO bT bG v w w2 :=
  ⟨h.1.trans k.1, fun j o hj h1 h2 h3 h4 h5 => k.2 j o (h.2 j o hj h1 h2 h3 h4 h5) h1 h2 h3 (fun e => (hv j e).elim h4 fun hge => absurd (block_lt hj) (by omega)) h5⟩
theorem KeptF.of_others {B bO bT bG : Nat} {v : Value} {w w' : World} (hb : Below B w w') (h : Lib.OthersKept 5 (some bT) w w') : KeptF B bO bT bG v w w' :=
  ⟨hb, fun k o hk _ h2 _ _ h5 => h k o hk (fun e => h2 (Option.some.inj e)) h5⟩
theorem KeptF.alloc {B bO bT bG : Nat} {v : Value} {w : World} (hB : B ≤ w.heap.size) (o : Obj) : KeptF B bO bT bG v w (w.alloc o) :=
  ⟨(Below.refl B w).alloc hB o, fun k x hk _ _ _ _ _ => block_alloc hk o⟩
theorem KeptF.grown {B bO bT bG : Nat} {v : Value} {w w' : World} (hg : w.grownBy w' v.ownBlock) (hB : B ≤ w.heap.size) (hv : ∀ q, v.ownBlock = some q → B ≤ q) : KeptF B bO bT bG v w w' :=
  ⟨(Below.refl B w).grown hg hB hv, fun k x hk _ _ _ h4 _ => by rw [hg.block k (block_lt hk) (fun e => h4 e.symm)]; exact hk⟩
theorem KeptF.set {B bO bT bG : Nat} {v : Value} {w : World} {p : Addr} (hp : B ≤ p.block) (hb : p.block = bO ∨ p.block = bT ∨ p.block = bG) (x : Value) : KeptF B bO bT bG v w (w.setCell p x) :=
  ⟨(Below.refl B w).setCell hp x, fun k o hk h1 h2 h3 _ _ => block_setCell_other hk (by rcases hb with h | h | h <;> rw [h] <;> exact fun e => by first | exact h1 e.symm | exact h2 e.symm | exact h3 e.symm) x⟩
theorem cells_ty {w : World} {a b : Nat} {c d : Array Value} {s t : TypeId} {f g : Nat × Nat} (h : w.heap[a]? = some (.cells c s f)) (k : w.heap[b]? = some (.cells d t g)) (hst : s ≠ t) : a ≠ b := fun e => by
  subst e
  rw [h] at k
  injection k with k
  injection k with k1 k2
  exact hst k2
theorem builder_cells {T e : TypeId} {B b : Nat} {bs : List Value} {w : World} (h : Lib.IsBuilderF T e B b bs w) : ∃ c, w.heap[b]? = some (.cells c T (0, 0)) := by
  rcases h with ⟨_, v, hb, _⟩ | ⟨_, v, hb, _⟩ <;> exact ⟨_, hb⟩
theorem own_kept {B bO bT bG s : Nat} {e : TypeId} {v v' : Value} {n : Nat} {xs : List Value} {w w' : World} (h : w.ownsRow B e s v' n xs) (hk : KeptF B bO bT bG v w w') (he : e ≠ 5)
    (hne : ∀ q, v'.ownBlock = some q → q ≠ bO ∧ q ≠ bT ∧ q ≠ bG ∧ v.ownBlock ≠ some q) : w'.ownsRow B e s v' n xs := by
  refine ⟨h.1, ?_⟩
  rcases h.2 with hn | ⟨g, cap, cur, hv, hbg, hg, rest⟩
  · exact .inl hn
  · obtain ⟨a1, a2, a3, a4⟩ := hne g (by rw [hv]; rfl)
    exact .inr ⟨g, cap, cur, hv, hbg, hk.2 g _ hg a1 a2 a3 a4 (fun c fz e' => he (by injection e')), rest⟩
/-- what form holds between the pieces: the pieces so far, the text and the number of the gap -/
structure IsF (B bO bT bG : Nat) (v : Value) (o : List Dp) (t : List UInt8) (g : Nat) (w : World) : Prop where
  out : w.heap[bO]? = some (.cells #[v] 26 (0, 0))
  own : w.ownsRow B 45 3 v o.length (flatR fP (o.map toP))
  text : Lib.IsBuilderF 74 5 B bT (Lib.byteCells t) w
  gone : w.heap[bG]? = some (.cells #[.int .i64 g] 3 (0, 0))
  bo : B ≤ bO
  bg : B ≤ bG
theorem own_typS {w : World} {B s : Nat} {t : TypeId} {v : Value} {n : Nat} {l : List Value} (h : w.ownsRow B t s v n l) {q : Nat} (hq : v.ownBlock = some q) : B ≤ q ∧ ∃ cur, w.heap[q]? = some (.cells cur t (0, 0)) := by
  obtain ⟨-, ⟨h, -⟩ | ⟨g, cap', cur, h1, hg, h2, -⟩⟩ := h
  · subst h; cases hq
  · subst h1; cases hq; exact ⟨hg, cur, h2⟩
theorem IsF.ne {B bO bT bG : Nat} {v : Value} {o : List Dp} {t : List UInt8} {g : Nat} {w : World} (h : IsF B bO bT bG v o t g w) : bO ≠ bT ∧ bO ≠ bG ∧ bT ≠ bG ∧ ∀ q, v.ownBlock = some q → q ≠ bO ∧ q ≠ bT ∧ q ≠ bG := by
  obtain ⟨c, hc⟩ := builder_cells h.text
  refine ⟨cells_ty h.out hc (by decide), cells_ty h.out h.gone (by decide), cells_ty hc h.gone (by decide), fun q hq => ?_⟩
  obtain ⟨-, cur, hcur⟩ := own_typS h.own hq
  exact ⟨cells_ty hcur h.out (by decide), cells_ty hcur hc (by decide), cells_ty hcur h.gone (by decide)⟩
end Go.Proofs.YtfbjbgknfdekfaaDoor

namespace Go.Proofs.YtfbjbgknfdekfaaDoor
open Go.RowKit
set_option linter.unusedVariables false

theorem byteCells_nilB {T e : TypeId} {B b : Nat} {w : World} {p : Value} (hp : p = .pointer none ∨ p = .pointer (some ⟨b, 0, none⟩)) (hB : B ≤ b) (h : w.heap[b]? = some (.cells #[p, .slice none 0 0] T (0, 0))) : Lib.IsBuilderF T e B b [] w := by
  have : Lib.BuilderAtF T e B b p [] w := ⟨hB, _, h, ⟨rfl, .inl ⟨rfl, rfl⟩⟩, fun h => by cases h⟩
  rcases hp with rfl | rfl
  · exact .inl this
  · exact .inr this

/-- what flush leaves -/
def Flushed (B bO bT bG : Nat) (v : Value) (o : List Dp) (t : List UInt8) (g : Nat) (w : World) (e : Ending) (w' : World) : Prop :=
  e = .returned (.tuple #[]) ∧ ∃ v', IsF B bO bT bG v' (o ++ (Dp.gapI t ++ Dp.gapD g)) [] 0 w' ∧ KeptF B bO bT bG v w w' ∧ (∀ q, v'.ownBlock = some q → v.ownBlock = some q ∨ w.heap.size ≤ q)

theorem KeptF.drew {B bO bT bG : Nat} {v : Value} (w : World) : KeptF B bO bT bG v w w.drew := ⟨(Below.refl _ _).drew, fun _ _ h _ _ _ _ _ => h⟩
theorem builder_cells2 {T e : TypeId} {B b : Nat} {bs : List Value} {w : World} (h : Lib.IsBuilderF T e B b bs w) : ∃ p v, w.heap[b]? = some (.cells #[p, v] T (0, 0)) := by
  rcases h with ⟨_, v, hb, _⟩ | ⟨_, v, hb, _⟩ <;> exact ⟨_, _, hb⟩
theorem builder_B {T e : TypeId} {B b : Nat} {bs : List Value} {w : World} (h : Lib.IsBuilderF T e B b bs w) : B ≤ b := by
  rcases h with ⟨h, _⟩ | ⟨h, _⟩ <;> exact h
theorem own_lt {w : World} {B s : Nat} {e : TypeId} {v : Value} {n : Nat} {xs : List Value} (h : w.ownsRow B e s v n xs) {q : Nat} (hq : v.ownBlock = some q) : q < w.heap.size := by
  obtain ⟨-, cur, hcur⟩ := own_typS h hq
  exact block_lt hcur
/-- one piece more, stored: what holds -/
theorem isF_put {B bO bT bG : Nat} {v v' : Value} {o : List Dp} {d : Dp} {t : List UInt8} {g : Nat} {w w3 w4 : World} (h : IsF B bO bT bG v o t g w3) (hB : B ≤ w3.heap.size) (hk : KeptF B bO bT bG v w w3) (x : Obj)
    (hown : w4.ownsRow B 45 3 v' (o.length + 1) (flatR fP (o.map toP) ++ fP (toP d))) (hg : (w3.alloc x).grownBy w4 v.ownBlock) (hat : ∀ q, v'.ownBlock = some q → v.ownBlock = some q ∨ w3.heap.size ≤ q) :
    IsF B bO bT bG v' (o ++ [d]) t g (w4.setCell ⟨bO, 0, none⟩ v') ∧ KeptF B bO bT bG v w (w4.setCell ⟨bO, 0, none⟩ v') := by
  obtain ⟨n1, n2, n3, n4⟩ := h.ne
  have bl : ∀ {b : Nat} {ob : Obj}, w3.heap[b]? = some ob → v.ownBlock ≠ some b → w4.heap[b]? = some ob := fun {b ob} hb hv => by
    rw [hg.block b (block_lt (block_alloc hb x)) (fun e => hv e.symm)]
    exact block_alloc hb x
  have hO4 := bl h.out fun e => (n4 _ e).1 rfl
  have hG4 := bl h.gone fun e => (n4 _ e).2.2 rfl
  have hT4 : Lib.IsBuilderF 74 5 B bT (Lib.byteCells t) w4 := by
    have key : ∀ p, Lib.BuilderAtF 74 5 B bT p (Lib.byteCells t) w3 → Lib.BuilderAtF 74 5 B bT p (Lib.byteCells t) w4 := by
      rintro p ⟨h1, u, h2, h3, h4⟩
      refine ⟨h1, u, bl h2 fun e => (n4 _ e).2.1 rfl, ⟨h3.1, ?_⟩, h4⟩
      rcases h3.2 with hn | ⟨q, cap, cur, fz, hv, hbg, hq, rest⟩
      · exact .inl hn
      · refine .inr ⟨q, cap, cur, fz, hv, hbg, bl hq fun e => ?_, rest⟩
        obtain ⟨-, cu, hcu⟩ := own_typS h.own e
        exact absurd rfl (cells_ty hcu hq (by decide))
    exact h.text.elim (fun x => .inl (key _ x)) (fun x => .inr (key _ x))
  have hB4 : B ≤ (w3.alloc x).heap.size := by simp; omega
  have hk4 : KeptF B bO bT bG v w w4 := (hk.trans (KeptF.alloc (v := v) hB x) fun q hq => .inl hq).trans (KeptF.grown (v := v) hg hB4 fun q hq => (own_typS h.own hq).1) fun q hq => .inl hq
  have hs : KeptF B bO bT bG v w4 (w4.setCell ⟨bO, 0, none⟩ v') := KeptF.set h.bo (.inl rfl) _
  obtain ⟨p, u, hT4c⟩ := builder_cells2 hT4
  refine ⟨⟨block_setCell hO4 0 v', ?_, ?_, block_setCell_other hG4 (by exact n2) _, h.bo, h.bg⟩, hk4.trans hs fun q hq => .inl hq⟩
  · have := own_kept (v := .slice none 0 0) hown (KeptF.set (bT := bT) (bG := bG) (p := ⟨bO, 0, none⟩) h.bo (.inl rfl) v') (by decide) fun q hq => by
      obtain ⟨-, cu, hcu⟩ := own_typS hown hq
      exact ⟨cells_ty hcu hO4 (by decide), cells_ty hcu hT4c (by decide), cells_ty hcu hG4 (by decide), by simp [Value.ownBlock]⟩
    rw [List.length_append, List.map_append, flatR_app, List.map_cons, List.map_nil, flatR_one]
    exact this
  · have key : ∀ p, Lib.BuilderAtF 74 5 B bT p (Lib.byteCells t) w4 → Lib.BuilderAtF 74 5 B bT p (Lib.byteCells t) (w4.setCell ⟨bO, 0, none⟩ v') := by
      rintro p ⟨h1, u, h2, h3, h4⟩
      refine ⟨h1, u, block_setCell_other h2 (by exact n1) _, ⟨h3.1, ?_⟩, h4⟩
      rcases h3.2 with hn | ⟨q, cap, cur, fz, hv, hbg, hq, rest⟩
      · exact .inl hn
      · exact .inr ⟨q, cap, cur, fz, hv, hbg, block_setCell_other hq (fun e : bO = q => by
          subst e
          exact absurd rfl (cells_ty hO4 hq (by decide))) _, rest⟩
    exact hT4.elim (fun x => .inl (key _ x)) (fun x => .inr (key _ x))
/-- the text's builder emptied -/
theorem isF_reset {B bO bT bG : Nat} {v : Value} {o : List Dp} {t : List UInt8} {g : Nat} {w : World} (h : IsF B bO bT bG v o t g w) :
    IsF B bO bT bG v o [] g ((w.setCell ⟨bT, 0, none⟩ (.pointer none)).setCell ⟨bT, 1, none⟩ (.slice none 0 0)) ∧ KeptF B bO bT bG v w ((w.setCell ⟨bT, 0, none⟩ (.pointer none)).setCell ⟨bT, 1, none⟩ (.slice none 0 0)) := by
  obtain ⟨n1, n2, n3, n4⟩ := h.ne
  obtain ⟨p, u, hT⟩ := builder_cells2 h.text
  have hBT := builder_B h.text
  have hk : KeptF B bO bT bG v w ((w.setCell ⟨bT, 0, none⟩ (.pointer none)).setCell ⟨bT, 1, none⟩ (.slice none 0 0)) := (KeptF.set (v := v) (p := ⟨bT, 0, none⟩) hBT (.inr (.inl rfl)) _).trans (KeptF.set (v := v) (p := ⟨bT, 1, none⟩) hBT (.inr (.inl rfl)) _) fun q hq => .inl hq
  have hk0 : KeptF B bO bT bG (.slice none 0 0) w ((w.setCell ⟨bT, 0, none⟩ (.pointer none)).setCell ⟨bT, 1, none⟩ (.slice none 0 0)) := (KeptF.set (v := .slice none 0 0) (p := ⟨bT, 0, none⟩) hBT (.inr (.inl rfl)) _).trans (KeptF.set (v := .slice none 0 0) (p := ⟨bT, 1, none⟩) hBT (.inr (.inl rfl)) _) fun q hq => .inl hq
  refine ⟨⟨block_setCell_other (block_setCell_other h.out (Ne.symm n1) _) (Ne.symm n1) _, ?_, ?_, block_setCell_other (block_setCell_other h.gone n3 _) n3 _, h.bo, h.bg⟩, hk⟩
  · exact own_kept h.own hk0 (by decide) fun q hq => ⟨(n4 q hq).1, (n4 q hq).2.1, (n4 q hq).2.2, by simp [Value.ownBlock]⟩
  · exact byteCells_nilB (.inl rfl) hBT (block_setCell (block_setCell hT 0 _) 1 _)
/-- the number of the gap stored -/
theorem isF_gone {B bO bT bG : Nat} {v : Value} {o : List Dp} {t : List UInt8} {g : Nat} {w : World} (h : IsF B bO bT bG v o t g w) (m : Nat) :
    IsF B bO bT bG v o t m (w.setCell ⟨bG, 0, none⟩ (.int .i64 m)) ∧ KeptF B bO bT bG v w (w.setCell ⟨bG, 0, none⟩ (.int .i64 m)) := by
  obtain ⟨n1, n2, n3, n4⟩ := h.ne
  have hk0 : KeptF B bO bT bG (.slice none 0 0) w (w.setCell ⟨bG, 0, none⟩ (.int .i64 m)) := KeptF.set (v := .slice none 0 0) (p := ⟨bG, 0, none⟩) h.bg (.inr (.inr rfl)) _
  refine ⟨⟨block_setCell_other h.out (Ne.symm n2) _, ?_, ?_, block_setCell h.gone 0 _, h.bo, h.bg⟩, KeptF.set (p := ⟨bG, 0, none⟩) h.bg (.inr (.inr rfl)) _⟩
  · exact own_kept h.own hk0 (by decide) fun q hq => ⟨(n4 q hq).1, (n4 q hq).2.1, (n4 q hq).2.2, by simp [Value.ownBlock]⟩
  · have key : ∀ p, Lib.BuilderAtF 74 5 B bT p (Lib.byteCells t) w → Lib.BuilderAtF 74 5 B bT p (Lib.byteCells t) (w.setCell ⟨bG, 0, none⟩ (.int .i64 m)) := by
      rintro p ⟨h1, u, h2, h3, h4⟩
      refine ⟨h1, u, block_setCell_other h2 (by exact Ne.symm n3) _, ⟨h3.1, ?_⟩, h4⟩
      rcases h3.2 with hn | ⟨q, cap, cur, fz, hv, hbg, hq, rest⟩
      · exact .inl hn
      · exact .inr ⟨q, cap, cur, fz, hv, hbg, block_setCell_other hq (fun e : bG = q => by
          subst e
          exact absurd rfl (cells_ty h.gone hq (by decide))) _, rest⟩
    exact h.text.elim (fun x => .inl (key _ x)) (fun x => .inr (key _ x))
theorem len_any (B b : Nat) (t : List UInt8) (w : World) (h : Lib.IsBuilderF 74 5 B b (Lib.byteCells t) w) :
    Calls Tryd.prog 62 #[.pointer (some ⟨b, 0, none⟩)] w fun e w' => e = .returned (.int .i64 t.length) ∧ w = w' := by
  refine (Tryd.Builder_Len_f B b _ w h).mono ?_
  rintro e w' ⟨rfl, rfl⟩
  exact ⟨by rw [Lib.byteCells_length], rfl⟩
set_option maxRecDepth 100000 in
set_option maxHeartbeats 2000000 in
theorem reset_any (b : Nat) (p v : Value) (w : World) (h : w.heap[b]? = some (.cells #[p, v] 74 (0, 0))) :
    Calls Tryd.prog 63 #[.pointer (some ⟨b, 0, none⟩)] w fun e w' => e = .returned (.tuple #[]) ∧ w' = (w.setCell ⟨b, 0, none⟩ (.pointer none)).setCell ⟨b, 1, none⟩ (.slice none 0 0) := by
  (have q0 := block_cell h 0; have q1 := block_cell h 1; have f0 := block_free h 0; have f1 := block_free h 1; have hz := block_lt h; simp at q0 q1)
  clear h
  go_enter Tryd.func63, Tryd.ntmps63
  go_wp2_with fail
  go_end0
  exact ⟨rfl, rfl⟩
def Mid (B bO bT bG : Nat) (v : Value) (o : List Dp) (t : List UInt8) (g : Nat) (w wq : World) : Prop :=
  ∃ v', IsF B bO bT bG v' (o ++ Dp.gapI t) [] g wq ∧ KeptF B bO bT bG v w wq ∧ (∀ q, v'.ownBlock = some q → v.ownBlock = some q ∨ w.heap.size ≤ q) ∧ B ≤ wq.heap.size

set_option maxRecDepth 100000 in
set_option maxHeartbeats 8000000 in
theorem flush_any (B bO bT bG : Nat) (v : Value) (o : List Dp) (t : List UInt8) (g : Nat) (w : World) (h : IsF B bO bT bG v o t g w) (hB : B ≤ w.heap.size) (ho : o.length ≤ 1000000) (ht : t.length ≤ 100000000000000) (hg : g ≤ 9223372036854775807) :
    Calls Tryd.prog 61 #[.pointer (some ⟨bT, 0, none⟩), .pointer (some ⟨bO, 0, none⟩), .pointer (some ⟨bG, 0, none⟩)] w (Flushed B bO bT bG v o t g w) := by
  obtain ⟨i0, hi0, hz0, hz1, hz2⟩ := info_parts infoPc
  have HF := Lib.hid h
  have HNE := Lib.hid h.ne
  have HL := Lib.hid (len_any B bT t w h.text)
  clear h
  go_enter Tryd.func61, Tryd.ntmps61
  go_wp2_with fail
  refine (HL.out).mono ?_; rintro e w1 ⟨rfl, rfl⟩
  go_upto_if 4 with (fail)
  go_cut [] from 3 to 17 (fun wq => Mid B bO bT bG v o t g w wq)
  case first =>
    by_cases htn : t = []
    · have HM := Lib.hid (show Mid B bO bT bG v o t g w w from ⟨v, by have := HF.out; rw [htn] at this ⊢; rw [show o ++ Dp.gapI [] = o from List.append_nil _]; exact this, KeptF.refl _ _ _ _ _ _, fun q hq => .inl hq, hB⟩)
      subst htn
      go_wp2_with fail
      go_meet
      case rel => exact HM.out
    · have hlt : (0 : Int) < (t.length : Int) := by have := List.length_pos_iff.2 htn; omega
      have hO := block_cell HF.out.out 0
      have hOf := block_free HF.out.out 0
      simp at hO
      go_wp2_with fail
      go_region_law (first
        | (refine step_append_lies _ (by rfl) _ _ _ (by rfl) B 45 i0 _ 3 32 Tryd.underlying26 hi0 hz0 hz1 hz2 rfl (by decide) v o.length _ (by rfl) ((HO3.out.alloc _).drew) ⟨w3.heap.size, 0, none⟩ 1 1 [_, _, _] (by rfl) (by rfl) (World.news_of_block (cs := #[_, _, _]) (t := 45) (fr := (0, 0)) (heap_alloc_new w3 _)) (by simp [Value.oneCell']) (by omega) (by unfold maxLen; omega) (by omega) (by simp; omega) (w3.heap.size + 1) (by simp) ?_; intro gg cap w4 hown4 hgrow4 hat4 hlt4; have k4 : w4.heap[bO]? = some (.cells #[v] 26 (0, 0)) := (hgrow4.block bO (block_lt (block_alloc K3.out _)) (fun e => (HNE.out.2.2.2 bO e.symm).1 rfl)).trans (block_alloc K3.out _); have cO4 : w4.cell? ⟨bO, 0, none⟩ = some v := block_cell k4 0; have fO4 : w4.frozen? ⟨bO, 0, none⟩ = false := block_free k4 0; have K4 := Lib.hid k4; clear k4)
        | (go_simp; go_at_call 58; refine (Tryd.Builder_String_any_k B bT t w.drew (show Lib.IsBuilderF 74 5 B bT (Lib.byteCells t) w.drew from HF.out.text) hB).mono ?_; rintro e w3 ⟨rfl, hi3, hb3', ho3'⟩; have hb3 : Below B w w3 := (Below.refl B w).drew.trans hb3'; have ho3 : Lib.OthersKept 5 (some bT) w w3 := ho3'; have k3 := others_cells ho3 HF.out.out HNE.out.1 (by decide); have cO3 : w3.cell? ⟨bO, 0, none⟩ = some v := block_cell k3 0; have K3 := Lib.hid k3; clear k3; have cA3 : (w3.alloc (.cells #[.int .u8 2, .int .i64 0, .string ⟨t.toArray⟩] 45)).cell? ⟨bO, 0, none⟩ = some v := block_cell (block_alloc K3.out _) 0; have HO3 := Lib.hid (own_kept HF.out.own (KeptF.of_others (bO := bO) (bG := bG) (v := .slice none 0 0) hb3 ho3) (by decide) fun q hq => ⟨(HNE.out.2.2.2 q hq).1, (HNE.out.2.2.2 q hq).2.1, (HNE.out.2.2.2 q hq).2.2, by simp [Value.ownBlock]⟩); have hB3 : B ≤ w3.heap.size := Nat.le_trans hB hb3.size; have HF3 := Lib.hid (show IsF B bO bT bG v o t g w3 from ⟨K3.out, HO3.out, hi3, others_cells ho3 HF.out.gone (Ne.symm HNE.out.2.2.1) (by decide), HF.out.bo, HF.out.bg⟩); have HK3 := Lib.hid (show KeptF B bO bT bG v w w3 from KeptF.of_others hb3 ho3); clear hi3 hb3 ho3 hb3' ho3'))
      all_goals
        obtain ⟨hf5, hk5⟩ := isF_put (d := .ins t) HF3.out hB3 HK3.out _ hown4 hgrow4 (fun q hq => by
          obtain rfl : gg = q := by simpa [Value.ownBlock] using hq
          rcases hat4 with h | h
          · exact .inl h
          · exact .inr (by omega))
        have HAT := Lib.hid (show ∀ q, (Value.slice (some ⟨gg, 0, none⟩) (o.length + 1) cap).ownBlock = some q → v.ownBlock = some q ∨ w.heap.size ≤ q from fun q hq => by
          obtain rfl : gg = q := by simpa [Value.ownBlock] using hq
          have := HK3.out.1.size
          rcases hat4 with h | h
          · exact .inl h
          · exact .inr (by omega))
        obtain ⟨pp, uu, hT5⟩ := builder_cells2 hf5.text
        obtain ⟨hf6, hk6⟩ := isF_reset hf5
        have HF6 := Lib.hid hf6
        have HK6 := Lib.hid (hk5.trans hk6 fun q hq => HAT.out q hq)
        have HT5 := Lib.hid hT5
        clear hf5 hk5 hf6 hk6 hT5 hown4 hgrow4 hat4 hlt4 HF3 HK3 HO3 K3 K4 cA3 cO3 cO4 fO4
        go_wp2_with fail
        refine (reset_any bT pp uu _ HT5.out).mono ?_; rintro e w6 ⟨rfl, hw6⟩
        have HM := Lib.hid (show Mid B bO bT bG v o t g w w6 from by
          rw [hw6]
          refine ⟨_, by rw [show Dp.gapI t = [Dp.ins t] from if_neg htn]; exact HF6.out, HK6.out, HAT.out, ?_⟩
          exact Nat.le_trans hB HK6.out.1.size)
        clear hw6 HF6 HK6 HAT HT5
        go_wp2_with fail
        go_meet
        case rel => exact HM.out
  case rest =>
    obtain ⟨v1, h1, hk1, hv1, hB1⟩ := hcut
    obtain ⟨o1, ho1⟩ : ∃ o1, o1 = o ++ Dp.gapI t := ⟨_, rfl⟩
    rw [← ho1] at h1
    have HO1 := Lib.hid ho1
    have HF1 := Lib.hid h1
    have HK1 := Lib.hid hk1
    have HV1 := Lib.hid hv1
    have HNE1 := Lib.hid h1.ne
    have cO := block_cell h1.out 0
    have cG := block_cell h1.gone 0
    have fG := block_free h1.gone 0
    have fO := block_free h1.out 0
    have hol : o1.length ≤ 1000001 := by
      rw [ho1, List.length_append]
      unfold Dp.gapI
      by_cases h : t = [] <;> simp [h] <;> omega
    simp at cO cG
    clear h1 hk1 hv1 ho1
    by_cases hg0 : g = 0
    · have HEQ := Lib.hid (show o ++ (Dp.gapI t ++ Dp.gapD g) = o1 by rw [HO1.out, hg0]; unfold Dp.gapD; rw [if_pos rfl, List.append_nil])
      subst hg0
      go_wp2_with fail
      go_end0
      exact ⟨rfl, v1, by rw [HEQ.out]; exact HF1.out, HK1.out, HV1.out⟩
    · have hg1 : (0 : Int) < (g : Int) := by omega
      have HEQ := Lib.hid (show o ++ (Dp.gapI t ++ Dp.gapD g) = o1 ++ [Dp.del g] by rw [HO1.out]; unfold Dp.gapD; rw [if_neg hg0, List.append_assoc])
      clear hg0
      go_wp2_with (at_builtin; refine wpList_append_lies _ rfl _ _ 26 rfl B 45 i0 _ 3 32 Tryd.underlying26 hi0 hz0 hz1 hz2 rfl (by decide) _ o1.length _ rfl (HF1.out.own.alloc _) ⟨wc.heap.size, 0, none⟩ 1 1 [.int .u8 3, .int .i64 g, .string ⟨#[]⟩] rfl rfl (World.news_of_block (cs := #[_, _, _]) (t := 45) (fr := (0, 0)) (heap_alloc_new wc _)) (by simp [Value.oneCell']) (by omega) (by unfold maxLen; omega) (by omega) (by simp; omega) (wc.heap.size + 1) (by simp) ?c1)
      case c1 =>
        intro gg cap w4 hown4 hgrow4 hat4 hlt4
        have hat : ∀ q, (Value.slice (some ⟨gg, 0, none⟩) (o1.length + 1) cap).ownBlock = some q → v1.ownBlock = some q ∨ wc.heap.size ≤ q := fun q hq => by
          obtain rfl : gg = q := by simpa [Value.ownBlock] using hq
          rcases hat4 with h | h
          · exact .inl h
          · exact .inr (by omega)
        obtain ⟨hf5, hk5⟩ := isF_put (d := .del g) HF1.out hB1 (KeptF.refl _ _ _ _ _ _) _ hown4 hgrow4 hat
        have k4 : w4.heap[bO]? = some (.cells #[v1] 26 (0, 0)) := by
          rw [hgrow4.block bO (block_lt (block_alloc HF1.out.out _)) (fun e => (HNE1.out.2.2.2 bO e.symm).1 rfl)]
          exact block_alloc HF1.out.out _
        have k4G : w4.heap[bG]? = some (.cells #[.int .i64 g] 3 (0, 0)) := by
          rw [hgrow4.block bG (block_lt (block_alloc HF1.out.gone _)) (fun e => (HNE1.out.2.2.2 bG e.symm).2.2 rfl)]
          exact block_alloc HF1.out.gone _
        have c4 := block_cell k4 0
        have f4 := block_free k4 0
        have c4G := block_cell k4G 0
        have f4G := block_free k4G 0
        simp at c4 c4G
        have hne2 := HNE1.out.2.1
        have HN2 := Lib.hid hne2
        have HFL := Lib.hid (show Flushed B bO bT bG v o t g w (.returned (.tuple #[])) ((w4.setCell ⟨bO, 0, none⟩ (.slice (some ⟨gg, 0, none⟩) (o1.length + 1) cap)).setCell ⟨bG, 0, none⟩ (.int .i64 0)) from by
          obtain ⟨hf6, hk6⟩ := isF_gone hf5 0
          refine ⟨rfl, _, by rw [HEQ.out]; exact hf6, ?_, fun q hq => ?_⟩
          · exact HK1.out.trans (hk5.trans hk6 hat) HV1.out
          · rcases hat q hq with h | h
            · exact HV1.out q h
            · have := HK1.out.1.size
              exact .inr (by omega))
        clear hf5 hk5 hown4 hgrow4 hat4 hat k4 k4G
        go_wp2_with fail
        go_end0
        exact HFL.out
end Go.Proofs.YtfbjbgknfdekfaaDoor

namespace Go.Proofs.YtfbjbgknfdekfaaDoor
open Go.RowKit
set_option linter.unusedVariables false

theorem isF_text {B bO bT bG : Nat} {v : Value} {o : List Dp} {t s : List UInt8} {g : Nat} {w w' : World} (h : IsF B bO bT bG v o t g w) (hA : Lib.IsBuilderF 74 5 B bT (Lib.byteCells (t ++ s)) w') (hb : Below B w w') (ho : Lib.OthersKept 5 (some bT) w w') :
    IsF B bO bT bG v o (t ++ s) g w' := by
  obtain ⟨n1, n2, n3, n4⟩ := h.ne
  refine ⟨others_cells ho h.out n1 (by decide), own_kept h.own (KeptF.of_others (bO := bO) (bG := bG) (v := .slice none 0 0) hb ho) (by decide) fun q hq => ⟨(n4 q hq).1, (n4 q hq).2.1, (n4 q hq).2.2, by simp [Value.ownBlock]⟩, hA, others_cells ho h.gone (Ne.symm n3) (by decide), h.bo, h.bg⟩
theorem isF_drew {B bO bT bG : Nat} {v : Value} {o : List Dp} {t : List UInt8} {g : Nat} {w : World} (h : IsF B bO bT bG v o t g w) : IsF B bO bT bG v o t g w.drew := ⟨h.out, h.own, h.text, h.gone, h.bo, h.bg⟩
theorem isF_alloc {B bO bT bG : Nat} {v : Value} {o : List Dp} {t : List UInt8} {g : Nat} {w : World} (h : IsF B bO bT bG v o t g w) (x : Obj) : IsF B bO bT bG v o t g (w.alloc x) :=
  ⟨block_alloc h.out x, h.own.alloc x, h.text.alloc x, block_alloc h.gone x, h.bo, h.bg⟩
theorem isF_lt {B bO bT bG : Nat} {v : Value} {o : List Dp} {t : List UInt8} {g : Nat} {w : World} (h : IsF B bO bT bG v o t g w) : bO < w.heap.size ∧ bT < w.heap.size ∧ bG < w.heap.size ∧ ∀ q, v.ownBlock = some q → q < w.heap.size :=
  ⟨block_lt h.out, BuilderF_lt h.text, block_lt h.gone, fun q hq => own_lt h.own hq⟩
/-- the number of the last kept piece, stored -/
theorem isF_last {B bO bT bG : Nat} {gg cap len : Nat} {o : List Dp} {m : Nat} {t : List UInt8} {g : Nat} {w : World} (h : IsF B bO bT bG (.slice (some ⟨gg, 0, none⟩) len cap) (o ++ [.ret m]) t g w) (hl : len = o.length + 1) (k : Nat) :
    IsF B bO bT bG (.slice (some ⟨gg, 0, none⟩) len cap) (o ++ [.ret k]) t g (w.setCell ⟨gg, o.length * 3 + 1, none⟩ (.int .i64 k)) := by
  obtain ⟨n1, n2, n3, n4⟩ := h.ne
  subst hl
  obtain ⟨m1, m2, m3⟩ := n4 gg rfl
  have hst := (show w.ownsRow B 45 3 (.slice (some ⟨gg, 0, none⟩) (o.length + 1) cap) (o.length + 1) (flatR fP ((o ++ [Dp.ret m]).map toP)) from own_len h.own (by simp)).stored (o.length * 3 + 1) (.int .i64 k)
  obtain ⟨cur, hcur⟩ := (own_typS h.own rfl).2
  refine ⟨block_setCell_other h.out m1 _, ?_, ?_, block_setCell_other h.gone m3 _, h.bo, h.bg⟩
  · refine own_len (n := o.length + 1) ?_ (by simp)
    have e : (flatR fP ((o ++ [Dp.ret m]).map toP)).set (o.length * 3 + 1) (.int .i64 k) = flatR fP ((o ++ [Dp.ret k]).map toP) := by
      rw [List.map_append, List.map_append, flatR_app, flatR_app]
      have hlen : (flatR fP (o.map toP)).length = o.length * 3 := by rw [flatR_len fP_len, List.length_map]
      rw [List.set_append, if_neg (by omega), hlen, show o.length * 3 + 1 - o.length * 3 = 1 by omega]
      rfl
    rw [e] at hst
    exact hst.1
  · have key : ∀ p, Lib.BuilderAtF 74 5 B bT p (Lib.byteCells t) w → Lib.BuilderAtF 74 5 B bT p (Lib.byteCells t) (w.setCell ⟨gg, o.length * 3 + 1, none⟩ (.int .i64 k)) := by
      rintro p ⟨h1, u, h2, h3, h4⟩
      refine ⟨h1, u, block_setCell_other h2 (by exact m2) _, ⟨h3.1, ?_⟩, h4⟩
      rcases h3.2 with hn | ⟨q, cap', cu, fz, hv, hbg, hq, rest⟩
      · exact .inl hn
      · exact .inr ⟨q, cap', cu, fz, hv, hbg, block_setCell_other hq (fun e : gg = q => by
          subst e
          exact absurd rfl (cells_ty hcur hq (by decide))) _, rest⟩
    exact h.text.elim (fun x => .inl (key _ x)) (fun x => .inr (key _ x))

/-- between the pieces -/
def FormAt (l : List Pc) (n B bO bT bG : Nat) (w : World) (j : Nat) (wr : World) : Prop :=
  ∃ (v : Value) (o : List Dp) (t : List UInt8) (g : Nat), IsF B bO bT bG v o t g wr ∧ Dp.form (o ++ (Dp.gapI t ++ (Dp.gapD g ++ (l.drop j).map ofP))) = Dp.form (l.map ofP) ∧ Dp.Norm o ∧ Dp.EndsR o ∧ o.length ≤ 3 * j ∧ Below w.heap.size w wr ∧ w.heap.size + 3 ≤ wr.heap.size
theorem sI_gap (t : List UInt8) (g : Nat) : Dp.sI (Dp.gapI t) = 0 ∧ Dp.sI (Dp.gapD g) = g ∧ Dp.sO (Dp.gapI t) = t.length ∧ Dp.sO (Dp.gapD g) = 0 := by
  unfold Dp.gapI Dp.gapD
  by_cases h1 : t = [] <;> by_cases h2 : g = 0 <;> simp [h1, h2, Dp.sI, Dp.sO, Dp.inn, Dp.out]
theorem form_sums {l : List Pc} {o : List Dp} {t : List UInt8} {g j : Nat} (h : Dp.form (o ++ (Dp.gapI t ++ (Dp.gapD g ++ (l.drop j).map ofP))) = Dp.form (l.map ofP)) :
    Dp.sI o + g + sIP (l.drop j) = sIP l ∧ Dp.sO o + t.length + sOP (l.drop j) = sOP l := by
  obtain ⟨g1, g2, g3, g4⟩ := sI_gap t g
  have hI := congrArg Dp.sI h
  have hO := congrArg Dp.sO h
  rw [Dp.sI_form, Dp.sI_form, Dp.sI_append, Dp.sI_append, Dp.sI_append, g1, g2] at hI
  rw [Dp.sO_form, Dp.sO_form, Dp.sO_append, Dp.sO_append, Dp.sO_append, g3, g4] at hO
  unfold sIP sOP
  exact ⟨by rw [← hI]; omega, by rw [← hO]; omega⟩
theorem drop_sums {l : List Pc} {j : Nat} (h : j < l.length) : sIP (l.drop j) = (ofP l[j]).inn + sIP (l.drop (j + 1)) ∧ sOP (l.drop j) = (ofP l[j]).out + sOP (l.drop (j + 1)) := by
  rw [List.drop_eq_getElem_cons h]
  exact ⟨rfl, rfl⟩
theorem own_form {w : World} {B s : Nat} {e : TypeId} {v : Value} {n : Nat} {xs : List Value} (h : w.ownsRow B e s v n xs) : ∃ ao cap, v = .slice ao n cap ∧ (0 < n → ∃ g, ao = some ⟨g, 0, none⟩) := by
  rcases h.2 with ⟨h1, h2⟩ | ⟨g, cap, cur, h1, _⟩
  · exact ⟨none, 0, by rw [h1, h2], fun h => by omega⟩
  · exact ⟨_, cap, h1, fun _ => ⟨g, rfl⟩⟩
theorem ret_more {o : List Dp} {m k : Nat} {r F : List Dp} (h : Dp.form (o ++ [.ret m] ++ .ret k :: r) = F) : Dp.form (o ++ [.ret (m + k)] ++ (Dp.gapI [] ++ (Dp.gapD 0 ++ r))) = F := by
  rw [← h, List.append_assoc, List.append_assoc]
  refine Dp.form_congr o ?_
  exact (Dp.cons_ret m k _).symm
theorem put_more {o : List Dp} {k : Nat} {r F : List Dp} (h : Dp.form (o ++ .ret k :: r) = F) : Dp.form (o ++ [.ret k] ++ (Dp.gapI [] ++ (Dp.gapD 0 ++ r))) = F := by
  rw [← h, List.append_assoc]
  rfl
theorem fits_ret {p : Dp} {a b : Nat} (h : Dp.fits p (.ret a)) : Dp.fits p (.ret b) := by cases p <;> exact h
theorem norm_ret {o : List Dp} {a b : Nat} (h : Dp.Norm (o ++ [.ret a])) : Dp.Norm (o ++ [.ret b]) := Dp.norm_snoc (Dp.norm_init h) fun u p e => fits_ret (Dp.norm_last h u p e)
theorem last_ret {o : List Dp} (h : ¬ ∃ o1 m1, o = o1 ++ [.ret m1]) (k : Nat) : Dp.lastFits o (.ret k) := fun u p e => by
  cases p with
  | ret m => exact absurd ⟨u, m, e⟩ h
  | ins t => trivial
  | del m => trivial
theorem nil_or_snoc (o : List Dp) : o = [] ∨ ∃ o1 d, o = o1 ++ [d] := by
  rcases List.eq_nil_or_concat o with h | ⟨l, a, h⟩
  · exact .inl h
  · exact .inr ⟨l, a, by rw [h]; simp⟩
theorem str_cells (t : ByteArray) : Lib.strCells t = Lib.byteCells t.data.toList := by
  rw [← strCells_bytes]
theorem form_begin (l : List Pc) (n : Nat) (w : World) (w' : World) (hw : w' = ((w.alloc (.cells #[.slice none 0 0] 26)).alloc (.cells #[.pointer none, .slice none 0 0] 74)).alloc (.cells #[.int .i64 0] 3)) :
    FormAt l n w.heap.size w.heap.size (w.heap.size + 1) (w.heap.size + 1 + 1) w 0 w' := by
  subst hw
  refine ⟨.slice none 0 0, [], [], 0, ⟨?_, ⟨rfl, .inl ⟨rfl, rfl⟩⟩, ?_, ?_, Nat.le_refl _, by omega⟩, rfl, trivial, Dp.EndsR.nil, Nat.zero_le _, ?_, by simp⟩
  · exact block_alloc (block_alloc (block_new _ _) _) _
  · refine (byteCells_nilB (.inl rfl) (by omega) ?_)
    exact block_alloc (block_new' _ _ _ (by simp)) _
  · exact block_new' _ _ _ (by simp)
  · exact (((Below.refl _ w).alloc (Nat.le_refl _) _).alloc (by simp) _).alloc (by simp; omega) _

set_option maxRecDepth 100000 in
set_option maxHeartbeats 8000000 in
theorem form_any (ao : Option Addr) (n c : Nat) (l : List Pc) (w : World) (h : IsR fP w ao n l) (hn : n ≤ 300000) (hok : AllOk l) (hI : sIP l ≤ 1000000000000) (hO : sOP l ≤ 100000000000000) :
    Calls Tryd.prog 47 #[.slice ao n c] w fun e w' => ∃ v, e = .returned v ∧ w'.ownsRow w.heap.size 45 3 v (formP l).length (flatR fP (formP l)) ∧ Below w.heap.size w w' := by
  obtain ⟨i0, hi0, hz0, hz1, hz2⟩ := info_parts infoPc
  have hmf : ∀ (fn : Fn) (first cap : Array Value) (w : World), (Instr.makeFunc fn first cap).run Tryd.prog w = .ok (.func fn first cap) w := fun _ _ _ _ => rfl
  have hl := h.1
  have HR := Lib.hid h
  have HOK := Lib.hid hok
  clear h hok
  go_enter Tryd.func47, Tryd.ntmps47
  go_wp2_with fail
  go_loopw [13] (fun s wr => ∃ (j : Nat), j ≤ n ∧ s = .int .i64 j ∧ FormAt l n w.heap.size w.heap.size (w.heap.size + 1) (w.heap.size + 1 + 1) w j wr) (fun s _ => n - (intOf s).toNat)
  case atStart => exact ⟨0, Nat.zero_le _, rfl, form_begin l n w _ rfl⟩
  case round =>
    obtain ⟨j, hj, rfl, v, o, t, g, hF, hform, hnorm, hends, hlen, hbr, hsz⟩ := hrel
    obtain ⟨hs1, hs2⟩ := form_sums hform
    have HF := Lib.hid hF
    have HFORM := Lib.hid hform
    have HNORM := Lib.hid hnorm
    have HENDS := Lib.hid hends
    have HBR := Lib.hid hbr
    have HLT := Lib.hid (isF_lt hF)
    by_cases hlt : j < n
    · have hjl : j < l.length := by omega
      obtain ⟨hd1, hd2⟩ := drop_sums hjl
      have HPI := Lib.hid (inP_of (HOK.out l[j] (List.getElem_mem hjl)))
      have HPK := Lib.hid (okP_cases (HOK.out l[j] (List.getElem_mem hjl)))
      have HDR := Lib.hid (show (l.drop j).map ofP = ofP l[j] :: (l.drop (j + 1)).map ofP by rw [List.drop_eq_getElem_cons hjl]; rfl)
      have hj1 : (j : Int) < (n : Int) := by omega
      have hj0 : (0 : Int) ≤ (j : Int) := by omega
      obtain ⟨bb, off, rfl, hbb, hcl⟩ := HR.out.pc hbr hlt
      obtain ⟨c0, c1, c2⟩ := hcl hjl
      have hgI : g ≤ 1000000000000 := by omega
      have htO : t.length ≤ 100000000000000 := by omega
      have HSI := Lib.hid hs1
      have HSO := Lib.hid hs2
      have HD1 := Lib.hid hd1
      have HD2 := Lib.hid hd2
      clear hF hform hnorm hends hbr hcl hs1 hs2 hd1 hd2
      generalize l[j] = p at *
      have HP := Lib.hid (block_new wr (.cells #[.int .u8 p.k, .int .i64 p.n, .string p.t] 45))
      have HFA := Lib.hid (isF_alloc HF.out (.cells #[.int .u8 p.k, .int .i64 p.n, .string p.t] 45))
      have HBA := Lib.hid (HBR.out.alloc HBR.out.size (.cells #[.int .u8 p.k, .int .i64 p.n, .string p.t] 45))
      rcases HPK.out with ⟨h1, h2, h3⟩ | ⟨h1, h2, h3⟩ | ⟨h1, h2, h3⟩
      · obtain ⟨m, hm⟩ : ∃ m : Nat, p.n = m := ⟨p.n.toNat, by omega⟩
        have hop : ofP p = .ret m := by
          unfold ofP
          rw [h1, hm]
          rfl
        have hm1 : 0 < m := by omega
        have hin : (ofP p).inn = m := by rw [hop]; rfl
        have hpt := str_empty h3
        have hmI : Dp.sI o + g + m ≤ 1000000000000 := by have := HSI.out; have := HD1.out; omega
        have HNEW := Lib.hid (show Dp.form ((o ++ (Dp.gapI t ++ Dp.gapD g)) ++ (.ret m :: (l.drop (j + 1)).map ofP)) = Dp.form (l.map ofP) by
          rw [← HFORM.out, HDR.out, hop, List.append_assoc, List.append_assoc])
        have HNO := Lib.hid (Dp.norm_gap HNORM.out HENDS.out t g)
        rw [h1] at c0
        rw [hm] at c1
        rw [hpt] at c2
        have HCE := Lib.hid (show (.cells #[.int .u8 p.k, .int .i64 p.n, .string p.t] 45 : Obj) = .cells #[.int .u8 1, .int .i64 m, .string ⟨#[]⟩] 45 by rw [h1, hm, hpt])
        rw [HCE.out] at HFA HBA HP
        have HFL := Lib.hid (flush_any w.heap.size w.heap.size (w.heap.size + 1) (w.heap.size + 1 + 1) v o t g _ HFA.out (by simp; omega) (by omega) htO (by omega))
        clear h1 h2 h3 hm hop hin hpt
        go_wp2_with fail
        refine (HFL.out).mono ?_; rintro e w2 ⟨rfl, v2, hf2, hk2, hv2⟩
        have hp2 : w2.heap[wr.heap.size]? = some (.cells #[.int .u8 1, .int .i64 m, .string ⟨#[]⟩] 45 (0, 0)) := hk2.2 _ _ HP.out (by omega) (by omega) (by omega) (fun e => by have := HLT.out.2.2.2 _ e; omega) (fun c fz e => by injection e with _ e2; exact absurd e2 (by decide))
        obtain ⟨o2, ho2⟩ : ∃ o2, o2 = o ++ (Dp.gapI t ++ Dp.gapD g) := ⟨_, rfl⟩
        have hsi2 : Dp.sI o2 = Dp.sI o + g := by
          obtain ⟨g1, g2, -, -⟩ := sI_gap t g
          rw [ho2, Dp.sI_append, Dp.sI_append, g1, g2]; omega
        have hlen2 : o2.length ≤ 3 * j + 2 := by
          rw [ho2, List.length_append, List.length_append]
          unfold Dp.gapI Dp.gapD
          by_cases h1 : t = [] <;> by_cases h2 : g = 0 <;> simp [h1, h2] <;> omega
        have hnew := HNEW.out
        have hno := HNO.out
        rw [← ho2] at hf2 hnew hno
        have HF2 := Lib.hid hf2
        have HB2 := Lib.hid (HBA.out.trans hk2.1)
        have HP2 := Lib.hid hp2
        have hs2 : w.heap.size + 3 ≤ w2.heap.size := by have := hk2.1.size; simp at this; omega
        clear hk2 hv2 ho2 HFL HNEW HNO HF HFORM HNORM HENDS HBR HLT HFA HBA HP HDR
        obtain ⟨ao2, cap2, rfl, hsome⟩ := own_form hf2.own
        have cO := block_cell hf2.out 0
        have fO := block_free hf2.out 0
        simp at cO
        by_cases hr : ∃ o1 m1, o2 = o1 ++ [.ret m1]
        · obtain ⟨o1, m1, rfl⟩ := hr
          obtain ⟨gg, rfl⟩ := hsome (by simp)
          have hL : (o1 ++ [Dp.ret m1]).length = o1.length + 1 := by simp
          have hown := hf2.own
          rw [hL] at hown cO
          have hk0 := hown.cellAt (o1.length * 3) (by omega)
          have hk1 := hown.cellAt (o1.length * 3 + 1) (by omega)
          have hf1 := hown.frozenAt (o1.length * 3 + 1)
          have hj2 : o1.length < ((o1 ++ [Dp.ret m1]).map toP).length := by simp
          have hat : ((o1 ++ [Dp.ret m1]).map toP)[o1.length] = ⟨1, m1, ⟨#[]⟩⟩ := by simp [toP]
          have e0 := flatR_at fP_len (f := fP) ((o1 ++ [Dp.ret m1]).map toP) o1.length 0 hj2 (by omega)
          have e1 := flatR_at fP_len (f := fP) ((o1 ++ [Dp.ret m1]).map toP) o1.length 1 hj2 (by omega)
          rw [hat] at e0 e1
          rw [show o1.length * 3 = o1.length * 3 + 0 from rfl, e0] at hk0
          rw [e1] at hk1
          have hk0' : w2.cell? ⟨gg, o1.length * 3, none⟩ = some (.int .u8 1) := hk0
          have hk1' : w2.cell? ⟨gg, o1.length * 3 + 1, none⟩ = some (.int .i64 m1) := hk1
          have hm1I : m1 + m ≤ 1000000000000 := by
            rw [Dp.sI_append] at hsi2
            have : Dp.sI [Dp.ret m1] = m1 := rfl
            omega
          have hadd : IntKind.i64.wrap ((m1 : Int) + (m : Int)) = (m1 : Int) + (m : Int) := IntWalk.i64_in _ (by omega)
          have hob : o1.length ≤ 1000000 := by omega
          have hob0 : (0 : Int) ≤ (o1.length : Int) := by omega
          have hob1 : (o1.length : Int) ≤ 1000000 := by omega
          have HSI2 := Lib.hid hsi2
          have HN2 := Lib.hid hnew
          have HM2 := Lib.hid hno
          (have q0 := block_cell hp2 0; have q1 := block_cell hp2 1; have q2 := block_cell hp2 2; have f0 := block_free hp2 0; have f1 := block_free hp2 1; have f2 := block_free hp2 2; have hz := block_lt hp2; simp at q0 q1 q2)
          clear hf2 hp2 hown hk0 hk1 hj2 hat e0 e1 hsi2 hnew hno hL hsome
          go_wp2_with fail
          have hsub : IntKind.i64.wrap ((o1.length : Int) + 1 - 1) = (o1.length : Int) := by rw [Int.add_sub_cancel]; exact IntWalk.i64_in _ (by omega)
          go_region
          all_goals
            have hf3 := isF_last HF2.out (by simp) (m1 + m)
            simp only [Int.natCast_add] at hf3
            have HF3 := Lib.hid hf3
            have HB3 := Lib.hid (HB2.out.setCell (p := ⟨gg, o1.length * 3 + 1, none⟩) (own_typS HF2.out.own rfl).1 (.int .i64 ((m1 : Int) + (m : Int))))
            clear hf3 hk0' hk1' hf1 cO fO q0 q1 q2 f0 f1 f2
            go_wp2_with fail
            go_roundw
            case rel => exact ⟨j + 1, by omega, by go_num, _, _, [], 0, isF_drew HF3.out, ret_more HN2.out, norm_ret HM2.out, Dp.EndsR.snoc _ _, by simp at hlen2 ⊢; omega, HB3.out.drew, by simp [World.setCell]; omega⟩
            case measure => simp [intOf]; omega
        · have HSI2 := Lib.hid hsi2
          have HN2 := Lib.hid hnew
          have HM2 := Lib.hid hno
          have HLF := Lib.hid (last_ret hr m)
          have HNE2 := Lib.hid hf2.ne
          rcases nil_or_snoc o2 with rfl | ⟨o1, d, rfl⟩
          · have hown := hf2.own
            have HOW := Lib.hid (show w2.ownsRow w.heap.size 45 3 (.slice ao2 0 cap2) 0 (flatR fP (([] : List Dp).map toP)) from hown)
            have HOWN := Lib.hid (fun (v : Value) (wq : World) (h : wq.ownsRow w.heap.size 45 3 v (0 + 1) (flatR fP (([] : List Dp).map toP) ++ fP (toP (.ret m)))) => h)
            have cO : w2.cell? ⟨w.heap.size, 0, none⟩ = some (.slice ao2 0 cap2) := cO
            (have q0 := block_cell hp2 0; have q1 := block_cell hp2 1; have q2 := block_cell hp2 2; have f0 := block_free hp2 0; have f1 := block_free hp2 1; have f2 := block_free hp2 2; have hz := block_lt hp2; simp at q0 q1 q2)
            clear hf2 hp2 hsi2 hnew hno hsome hr hown
            go_wp2_with (at_builtin; refine wpList_append_lies _ rfl _ _ 26 rfl w.heap.size 45 i0 _ 3 32 Tryd.underlying26 hi0 hz0 hz1 hz2 rfl (by decide) _ 0 _ rfl (HOW.out.alloc _) ⟨w2.heap.size, 0, none⟩ 1 1 [.int .u8 1, .int .i64 m, .string ⟨#[]⟩] rfl rfl (World.news_of_block (cs := #[_, _, _]) (t := 45) (fr := (0, 0)) (heap_alloc_new w2 _)) (by simp [Value.oneCell']) (by omega) (by unfold maxLen; omega) (by omega) (by simp; omega) (w2.heap.size + 1) (by simp) ?c1)
            case c1 =>
              intro gg cap w4 hown4 hgrow4 hat4 hlt4
              have hat : ∀ q, (Value.slice (some ⟨gg, 0, none⟩) (0 + 1) cap).ownBlock = some q → (Value.slice ao2 0 cap2).ownBlock = some q ∨ w2.heap.size ≤ q := fun q hq => by
                obtain rfl : gg = q := by simpa [Value.ownBlock] using hq
                rcases hat4 with h | h
                · exact .inl h
                · exact .inr (by omega)
              obtain ⟨hf5, hk5⟩ := isF_put (d := .ret m) HF2.out (by omega) (KeptF.refl _ _ _ _ _ _) _ (HOWN.out _ _ hown4) hgrow4 hat
              have k4 : w4.heap[w.heap.size]? = some (.cells #[.slice ao2 0 cap2] 26 (0, 0)) := by
                rw [hgrow4.block w.heap.size (block_lt (block_alloc HF2.out.out _)) (fun e => (HNE2.out.2.2.2 _ e.symm).1 rfl)]
                exact block_alloc HF2.out.out _
              have c4 := block_cell k4 0
              have f4 := block_free k4 0
              simp at c4
              have HF5 := Lib.hid hf5
              have HB5 := Lib.hid (HB2.out.trans hk5.1)
              have HS5 := Lib.hid hk5.1.size
              clear hf5 hk5 hown4 hgrow4 hat4 hat k4 q0 q1 q2 f0 f1 f2
              go_wp2_with fail
              go_roundw
              case rel => exact ⟨j + 1, by omega, by go_num, _, _, [], 0, HF5.out, put_more HN2.out, Dp.norm_snoc HM2.out HLF.out, Dp.EndsR.snoc _ _, by simp at hlen2 ⊢; omega, HB5.out, by have := HS5.out; omega⟩
              case measure => simp [intOf]; omega
          · obtain ⟨g2, rfl⟩ := hsome (by simp)
            have hL : (o1 ++ [d]).length = o1.length + 1 := by simp
            have hown := hf2.own
            rw [hL] at hown cO
            have hk0 := hown.cellAt (o1.length * 3) (by omega)
            have hj2 : o1.length < ((o1 ++ [d]).map toP).length := by simp
            have hat : ((o1 ++ [d]).map toP)[o1.length] = toP d := by simp
            have e0 := flatR_at fP_len (f := fP) ((o1 ++ [d]).map toP) o1.length 0 hj2 (by omega)
            rw [hat] at e0
            rw [show o1.length * 3 = o1.length * 3 + 0 from rfl, e0] at hk0
            have hk0' : w2.cell? ⟨g2, o1.length * 3, none⟩ = some (.int .u8 (toP d).k) := hk0
            have hkd : ((toP d).k == 1) = false := by
              cases d with
              | ret x => exact absurd ⟨o1, x, rfl⟩ hr
              | ins x => rfl
              | del x => rfl
            have hob : o1.length ≤ 1000000 := by omega
            have hob0 : (0 : Int) ≤ (o1.length : Int) := by omega
            have hob1 : (o1.length : Int) ≤ 1000000 := by omega
            obtain ⟨xs, hxs⟩ : ∃ xs, xs = flatR fP ((o1 ++ [d]).map toP) := ⟨_, rfl⟩
            rw [← hxs] at hown
            have HXS := Lib.hid hxs
            have HOW := Lib.hid hown
            have HOWN := Lib.hid (fun (v : Value) (wq : World) (h : wq.ownsRow w.heap.size 45 3 v (o1.length + 1 + 1) (xs ++ fP (toP (.ret m)))) => show wq.ownsRow w.heap.size 45 3 v ((o1 ++ [d]).length + 1) (flatR fP ((o1 ++ [d]).map toP) ++ fP (toP (.ret m))) from own_len (by rw [← HXS.out]; exact h) (by simp))
            (have q0 := block_cell hp2 0; have q1 := block_cell hp2 1; have q2 := block_cell hp2 2; have f0 := block_free hp2 0; have f1 := block_free hp2 1; have f2 := block_free hp2 2; have hz := block_lt hp2; simp at q0 q1 q2)
            clear hxs hf2 hp2 hown hk0 hj2 hat e0 hsi2 hnew hno hL hsome hr
            go_wp2_with (at_builtin; refine wpList_append_lies _ rfl _ _ 26 rfl w.heap.size 45 i0 _ 3 32 Tryd.underlying26 hi0 hz0 hz1 hz2 rfl (by decide) _ (o1.length + 1) _ rfl (HOW.out.alloc _) ⟨w2.heap.size, 0, none⟩ 1 1 [.int .u8 1, .int .i64 m, .string ⟨#[]⟩] rfl rfl (World.news_of_block (cs := #[_, _, _]) (t := 45) (fr := (0, 0)) (heap_alloc_new w2 _)) (by simp [Value.oneCell']) (by omega) (by unfold maxLen; omega) (by omega) (by simp; omega) (w2.heap.size + 1) (by simp) ?c1)
            case c1 =>
              intro gg cap w4 hown4 hgrow4 hat4 hlt4
              have hat : ∀ q, (Value.slice (some ⟨gg, 0, none⟩) ((o1.length + 1) + 1) cap).ownBlock = some q → (Value.slice (some ⟨g2, 0, none⟩) (o1.length + 1) cap2).ownBlock = some q ∨ w2.heap.size ≤ q := fun q hq => by
                obtain rfl : gg = q := by simpa [Value.ownBlock] using hq
                rcases hat4 with h | h
                · exact .inl h
                · exact .inr (by omega)
              obtain ⟨hf5, hk5⟩ := isF_put (d := .ret m) HF2.out (by omega) (KeptF.refl _ _ _ _ _ _) _ (HOWN.out _ _ hown4) hgrow4 hat
              have k4 : w4.heap[w.heap.size]? = some (.cells #[.slice (some ⟨g2, 0, none⟩) (o1.length + 1) cap2] 26 (0, 0)) := by
                rw [hgrow4.block w.heap.size (block_lt (block_alloc HF2.out.out _)) (fun e => (HNE2.out.2.2.2 _ e.symm).1 rfl)]
                have hh := HF2.out.out
                rw [List.length_append] at hh
                exact block_alloc hh _
              have c4 := block_cell k4 0
              have f4 := block_free k4 0
              simp at c4
              have HF5 := Lib.hid hf5
              have HB5 := Lib.hid (HB2.out.trans hk5.1)
              have HS5 := Lib.hid hk5.1.size
              clear hf5 hk5 hown4 hgrow4 hat4 hat k4 q0 q1 q2 f0 f1 f2
              go_wp2_with fail
              go_roundw
              case rel => exact ⟨j + 1, by omega, by go_num, _, _, [], 0, HF5.out, put_more HN2.out, Dp.norm_snoc HM2.out HLF.out, Dp.EndsR.snoc _ _, by simp at hlen2 ⊢; omega, HB5.out, by have := HS5.out; omega⟩
              case measure => simp [intOf]; omega
      · obtain ⟨m, hm⟩ : ∃ m : Nat, p.n = m := ⟨p.n.toNat, by omega⟩
        have hop : ofP p = .del m := by
          unfold ofP
          rw [h1, hm]
          rfl
        have hm1 : 0 < m := by omega
        have hin : (ofP p).inn = m := by rw [hop]; rfl
        have hmI : g + m ≤ 1000000000000 := by have := HSI.out; have := HD1.out; omega
        have hadd : IntKind.i64.wrap ((g : Int) + (m : Int)) = (g : Int) + (m : Int) := IntWalk.i64_in _ (by omega)
        have HNEW := Lib.hid (show Dp.form (o ++ (Dp.gapI t ++ (Dp.gapD (g + m) ++ (l.drop (j + 1)).map ofP))) = Dp.form (l.map ofP) by
          rw [← HFORM.out, HDR.out, hop]
          exact Dp.form_congr o (Dp.gap_del t m g hm1 _).symm)
        rw [h1] at c0
        rw [hm] at c1
        have HCE := Lib.hid (show (.cells #[.int .u8 p.k, .int .i64 p.n, .string p.t] 45 : Obj) = .cells #[.int .u8 3, .int .i64 m, .string p.t] 45 by rw [h1, hm])
        rw [HCE.out] at HFA HBA HP
        have cG := block_cell HFA.out.gone 0
        have fG := block_free HFA.out.gone 0
        simp at cG
        obtain ⟨hg6, hk6⟩ := isF_gone HFA.out (g + m)
        have HG6 := Lib.hid hg6
        have HB6 := Lib.hid (HBA.out.trans hk6.1)
        clear h1 h2 h3 hm hop hin hg6 hk6
        go_wp2_with fail
        go_roundw
        case rel => exact ⟨j + 1, by omega, by go_num, v, o, t, g + m, HG6.out, HNEW.out, HNORM.out, HENDS.out, by omega, HB6.out, by simp [World.setCell]; omega⟩
        case measure => simp [intOf]; omega
      · have hop : ofP p = .ins p.t.data.toList := by
          unfold ofP
          rw [h1]
          rfl
        have htn : p.t.data.toList ≠ [] := fun e => h3 (by
          show p.t.data.size = 0
          rw [← Array.length_toList, e]; rfl)
        have hou : (ofP p).out = p.t.size := by rw [hop]; exact Array.length_toList ..
        have HTO := Lib.hid (show t.length + p.t.size ≤ 100000000000000 by have := HSO.out; have := HD2.out; omega)
        have HNEW := Lib.hid (show Dp.form (o ++ (Dp.gapI (t ++ p.t.data.toList) ++ (Dp.gapD g ++ (l.drop (j + 1)).map ofP))) = Dp.form (l.map ofP) by
          rw [← HFORM.out, HDR.out, hop]
          exact Dp.form_congr o (Dp.gap_ins t _ g htn _).symm)
        rw [h1] at c0
        have HCE := Lib.hid (show (.cells #[.int .u8 p.k, .int .i64 p.n, .string p.t] 45 : Obj) = .cells #[.int .u8 2, .int .i64 p.n, .string p.t] 45 by rw [h1])
        rw [HCE.out] at HFA HBA HP
        clear h1 h2 h3 hop htn hou
        go_wp2_with fail
        refine (Tryd.Builder_WriteString_k w.heap.size (w.heap.size + 1) _ p.t _ HFA.out.text (by rw [Lib.byteCells_length]; have := HTO.out; omega) (by simp; omega)).mono ?_; rintro e w2 ⟨rfl, hi2, hb2, ho2⟩
        have HF2 := Lib.hid (isF_text HFA.out (s := p.t.data.toList) (by rw [← byteCells_app, ← str_cells]; exact Or.inr hi2) hb2 ho2)
        have HB2 := Lib.hid (HBA.out.trans hb2)
        have hs2 : w.heap.size + 3 ≤ w2.heap.size := by have := hb2.size; simp at this; omega
        clear hi2 hb2 ho2
        go_wp2_with fail
        go_roundw
        case rel => exact ⟨j + 1, by omega, by go_num, v, o, _, g, HF2.out, HNEW.out, HNORM.out, HENDS.out, by omega, HB2.out, hs2⟩
        case measure => simp [intOf]; omega
    · obtain rfl : j = n := by omega
      have htO : t.length ≤ 100000000000000 := by omega
      have HFIN := Lib.hid (show (o ++ (Dp.gapI t ++ Dp.gapD g)).map toP = formP l by
        have h := HFORM.out
        rw [List.drop_eq_nil_of_le (by omega), List.map_nil, List.append_nil, Dp.form_of_norm (Dp.norm_gap HNORM.out HENDS.out t g)] at h
        unfold formP
        rw [h])
      have HFL := Lib.hid (flush_any w.heap.size w.heap.size (w.heap.size + 1) (w.heap.size + 1 + 1) v o t g _ HF.out (by omega) (by omega) htO (by omega))
      go_wp2_with fail
      refine (HFL.out).mono ?_; rintro e w2 ⟨rfl, v2, hf2, hk2, hv2⟩
      have hown : w2.ownsRow w.heap.size 45 3 v2 (formP l).length (flatR fP (formP l)) := by
        rw [← HFIN.out]
        exact own_len hf2.own (by simp)
      have HOWN := Lib.hid hown
      have HB2 := Lib.hid (HBR.out.trans hk2.1)
      have cO := block_cell hf2.out 0
      simp at cO
      clear hf2 hk2 hv2 hown
      go_wp2_with fail
      go_ret
      exact ⟨_, rfl, HOWN.out, HB2.out⟩
end Go.Proofs.YtfbjbgknfdekfaaDoor

