/- For NodeExamples: nodes in a slice; the contracts that its walk uses. -/
import Derived.Test.YtbodacjhhkjdfaaNe1
import Derived.Test.YtbodacjhhkjdfaaNm1
import Derived.Test.YtbodacjhhkjdfaaNm5
import Derived.Test.YtbodacjhhkjdfaaNo7
namespace Go.Proofs.Ytbodacjhhkjdfaa
open Go.RowKit

/-- the slice (b, 0, m) of nodes, each with at most 5 children -/
def NodesAt (w : World) (b m : Nat) : Prop := b < w.heap.size ∧ ∀ i, i < m → ∃ (x : Nd) (ao : Option Addr) (n c : Nat), w.cell? ⟨b, i * 3, none⟩ = some (.int .i64 x.h) ∧ w.cell? ⟨b, i * 3 + 1, none⟩ = some (.string x.text) ∧ w.cell? ⟨b, i * 3 + 2, none⟩ = some (.slice ao n c) ∧ IsKs w ao n x.kids ∧ n ≤ 5 ∧ (ao = none → c = 0)
theorem NodesAt.later {w w' : World} {b m : Nat} (h : NodesAt w b m) (hb : Below w.heap.size w w') : NodesAt w' b m := by
  obtain ⟨h1, h2⟩ := h
  refine ⟨Nat.lt_of_lt_of_le h1 hb.size, fun i hi => ?_⟩
  obtain ⟨x, ao, n, c, c0, c1, c2, hk, h5, hno⟩ := h2 i hi
  exact ⟨x, ao, n, c, (hb.cell (p := ⟨b, _, none⟩) h1).trans c0, (hb.cell (p := ⟨b, _, none⟩) h1).trans c1, (hb.cell (p := ⟨b, _, none⟩) h1).trans c2, hk.later hb, h5, hno⟩
theorem isIs_new (w : World) (bs : List Int) (cs : Array Value) (e : TypeId) (h : cs.toList = bs.map (.int .i64)) : IsIs (w.alloc (.cells cs e)) w.heap.size 0 bs := by
  refine ⟨by simp, fun k hk => ?_⟩
  rw [block_cell (block_new w (.cells cs e)), Nat.zero_add, ← Array.getElem?_toList, h, List.getElem?_map, List.getElem?_eq_getElem hk]
  rfl
theorem of_n (h : Int) (bs : List Int) (cs : Array Value) (n : Nat) (w : World) (hn : bs.length = n) (hn5 : n ≤ 5) (hcs : cs.toList = bs.map (.int .i64)) :
    Calls Try.prog 43 #[.int .i64 h, .slice (some ⟨w.heap.size, 0, none⟩) n n] (w.alloc (.cells cs 3)) fun e w' => ∃ ao c, e = .returned (.agg #[.int .i64 h, .string ⟨#[]⟩, .slice ao n c]) ∧ IsKs w' ao n (ofK bs) ∧ (ao = none → c = 0) ∧ Below w.heap.size w w' := by
  refine (of_some h bs w.heap.size 0 n n _ hn hn5 (isIs_new w bs cs _ hcs)).mono ?_
  rintro e w1 ⟨v, rfl, ⟨s, rfl, hs⟩, hb⟩
  obtain ⟨ao, c, rfl, hk, hno, _⟩ := hs.ks
  have hl : (ofK bs).length = n := by rw [ofK_len, hn]
  simp only at hk ⊢
  rw [hl] at hk ⊢
  exact ⟨ao, c, rfl, hk, fun e => (hno e).2, below_step ((Below.refl _ _).alloc (Nat.le_refl _) _) hb⟩
theorem of_0 (h : Int) (w : World) :
    Calls Try.prog 43 #[.int .i64 h, .slice none 0 0] w fun e w' => ∃ ao c, e = .returned (.agg #[.int .i64 h, .string ⟨#[]⟩, .slice ao 0 c]) ∧ IsKs w' ao 0 [] ∧ (ao = none → c = 0) ∧ Below w.heap.size w w' := by
  refine (of_none h w).mono ?_
  rintro e w1 ⟨v, rfl, ⟨s, rfl, hs⟩, hb⟩
  obtain ⟨ao, c, rfl, hk, hno, _⟩ := hs.ks
  exact ⟨ao, c, rfl, hk, fun e => (hno e).2, hb⟩
theorem matches_5 (x : Nd) (n0 : Int) (ao : Option Addr) (n c : Nat) (w : World) (hk : IsKs w ao n x.kids) (hn : n ≤ 9) (h0 : -9223372036854775808 ≤ n0) (h1 : n0 ≤ 9223372036854775807) :
    Calls Try.prog 3 #[.agg #[.int .i64 x.h, .string x.text, .slice ao n c], .int .i64 n0] w fun e w' => e = .returned (.bool true) ∧ Below w.heap.size w w' := walk_matches x n0 ao n c w hk h0 h1 (by omega)
theorem makes_5 (s : ByteArray) (h0 : Int) (l : List Kid) (ao : Option Addr) (n c : Nat) (w : World) (hk : IsKs w ao n l) (hn : n ≤ 9) :
    Calls Try.prog 10 #[.string s, .int .i64 h0, .slice ao n c] w fun e w' => e = .returned (.bool true) ∧ Below w.heap.size w w' := walk_makes s h0 l ao n c w hk (by omega)
theorem equals_5 (x y : Nd) (ao bo : Option Addr) (n c m d : Nat) (w : World) (hk : IsKs w ao n x.kids) (hm : IsKs w bo m y.kids) (hn : n ≤ 9) (hm9 : m ≤ 9) :
    Calls Try.prog 5 #[.agg #[.int .i64 x.h, .string x.text, .slice ao n c], .agg #[.int .i64 y.h, .string y.text, .slice bo m d]] w fun e w' => e = .returned (.bool true) ∧ Below w.heap.size w w' := walk_equals x y ao bo n c m d w hk hm (by omega) (by omega)
theorem encN_small (x : Nd) : (encN x).size ≤ 49 := by
  by_cases hc : checkN x = 0
  · exact encN_size hc
  · rw [show encN x = ⟨#[]⟩ from if_neg hc]; exact Nat.zero_le _
theorem refEncode_5 (x : Nd) (ao : Option Addr) (n c : Nat) (w : World) (hk : IsKs w ao n x.kids) :
    Calls Try.prog 24 #[.agg #[.int .i64 x.h, .string x.text, .slice ao n c]] w fun e w' => ∃ (s : ByteArray) (k : Int), s.size ≤ 49 ∧ e = .returned (.tuple #[.string s, .int .i64 k]) ∧ Below w.heap.size w w' := by
  refine (refEncode_any x ao n c w hk).mono ?_
  rintro e w1 ⟨rfl, hb⟩
  exact ⟨_, _, encN_small x, rfl, hb⟩
def pwI (h : Int) : Int := 8 * 2 ^ (h + 1).toNat
theorem pwI_succ (h : Int) (h0 : -1 ≤ h) : pwI (h + 1) = 2 * pwI h := by
  unfold pwI
  rw [show (h + 1 + 1).toNat = (h + 1).toNat + 1 by omega, Int.pow_succ]
  omega
theorem pwI_le (h : Int) (h1 : h ≤ 19) : pwI h ≤ 8388608 ∧ 8 ≤ pwI h := by
  unfold pwI
  have hle : (h + 1).toNat ≤ 20 := by omega
  have hd : ∀ m : Nat, m ≤ 20 → (8 : Int) * 2 ^ m ≤ 8388608 ∧ (8 : Int) ≤ 8 * 2 ^ m := by decide +kernel
  exact hd _ hle
/-- the strings of a slice, in a block of their own -/
def texts6 : List ByteArray := [⟨#[]⟩, ⟨#[97]⟩, ⟨#[49, 50, 51, 52, 53, 54, 55, 56, 57, 48, 49, 50, 51, 52, 53, 54]⟩, ⟨#[49, 50, 51, 52, 53, 54, 55, 56, 57, 48, 49, 50, 51, 52, 53, 54, 55]⟩, ⟨#[10, 10]⟩, ⟨#[255, 128]⟩]
theorem texts6_size : ∀ t ∈ texts6, t.size ≤ 17 := by decide +kernel
def kids9 : List Kid := [(0, 0, 0, 0), (65536, 0, 0, 0), (65536, 8, -1, 0), (65536, 8, 9, 0), (65536, 8, 8, -1), (65536, 8, 4, 5), (1, 8, 0, 0), (65536, 9223372036854775807, 0, 0), (65536, -9223372036854775808, 0, 0)]
theorem of_own (h : Int) (w : World) :
    Calls Try.prog 43 #[.int .i64 h, .slice (some ⟨w.heap.size, 0, none⟩) 2 2] (w.alloc (.cells #[.int .i64 8, .int .i64 8] 3)) fun e w' => ∃ g c cur, e = .returned (.agg #[.int .i64 h, .string ⟨#[]⟩, .slice (some ⟨g, 0, none⟩) 2 c]) ∧ w.heap.size ≤ g ∧ w'.heap[g]? = some (.cells cur 49 (0, 0)) ∧ cur.toList.take 8 = [.int .u64 65536, .int .i64 8, .int .i64 8, .int .i64 0, .int .u64 65537, .int .i64 8, .int .i64 8, .int .i64 1] ∧ Below w.heap.size w w' := by
  refine (of_some h [8, 8] w.heap.size 0 2 2 _ rfl (by decide) (isIs_new w [8, 8] _ _ rfl)).mono ?_
  rintro e w1 ⟨v, rfl, ⟨s, rfl, hs⟩, hb⟩
  obtain ⟨_, _, _, h4⟩ := hs
  rcases h4 with ⟨_, h4⟩ | ⟨g, cap, cur, rfl, hg, hh, _, _, _, htk⟩
  · exact absurd h4 (by show ¬ (ofK [8, 8]).length = 0; rw [ofK_len]; decide)
  · exact ⟨g, cap, cur, rfl, Nat.le_trans (by simp) hg, hh, htk, below_step ((Below.refl _ _).alloc (Nat.le_refl _) _) hb⟩
theorem take8 {cur : Array Value} {a b c d e f g h : Value} (ht : cur.toList.take 8 = [a, b, c, d, e, f, g, h]) : cur[0]? = some a ∧ cur[1]? = some b ∧ cur[2]? = some c ∧ cur[3]? = some d ∧ 8 ≤ cur.size := by
  have hl := congrArg List.length ht
  rw [List.length_take] at hl
  simp at hl
  have g : ∀ i, i < 8 → cur[i]? = ([a, b, c, d, e, f, g, h] : List Value)[i]? := fun i hi => by rw [← ht, List.getElem?_take_of_lt hi, Array.getElem?_toList]
  exact ⟨g 0 (by decide), g 1 (by decide), g 2 (by decide), g 3 (by decide), by omega⟩
theorem IsIs.later {w w' : World} {b off : Nat} {bs : List Int} (h : IsIs w b off bs) (hb : Below w.heap.size w w') : IsIs w' b off bs :=
  ⟨Nat.lt_of_lt_of_le h.1 hb.size, fun k hk => (hb.cell (p := ⟨b, off + k, none⟩) h.1).trans (h.2 k hk)⟩
theorem kids9_at (w : World) (cs : Array Value) (h : cs.toList = flatR fK kids9) : IsKs (w.alloc (.cells cs 49)) (some ⟨w.heap.size, 0, none⟩) 9 kids9 := by
  refine IsR.ks ⟨rfl, fun _ => ⟨_, _, rfl, by simp, fun j u hj => ?_⟩⟩ (by decide)
  rw [block_cell (block_new w (.cells cs 49)), Nat.zero_add, ← hj, ← h]
  exact (Array.getElem?_toList).symm
theorem two_kids {w : World} {g : Nat} {cur : Array Value} {fr : Nat × Nat} (k : Kid) (hk : 0 ≤ k.1 ∧ k.1 ≤ 18446744073709551615) (hg : w.heap[g]? = some (.cells cur 49 fr)) (h0 : cur[0]? = some (.int .u64 65536)) (h1 : cur[1]? = some (.int .i64 8)) (h2 : cur[2]? = some (.int .i64 8)) (h3 : cur[3]? = some (.int .i64 0))
    (h4 : cur[4]? = some (.int .u64 k.1)) (h5 : cur[5]? = some (.int .i64 k.2.1)) (h6 : cur[6]? = some (.int .i64 k.2.2.1)) (h7 : cur[7]? = some (.int .i64 k.2.2.2)) : IsKs w (some ⟨g, 0, none⟩) 2 [(65536, 8, 8, 0), k] := by
  refine ⟨rfl, ?_, fun _ => ⟨g, 0, rfl, fun j hj => ?_⟩⟩
  · intro x hx
    simp only [List.mem_cons, List.not_mem_nil, or_false] at hx
    rcases hx with rfl | rfl
    · simp
    · exact hk
  · simp at hj
    rcases (show j = 0 ∨ j = 1 by omega) with rfl | rfl
    · exact ⟨(block_cell hg 0).trans h0, (block_cell hg 1).trans h1, (block_cell hg 2).trans h2, (block_cell hg 3).trans h3⟩
    · exact ⟨(block_cell hg 4).trans h4, (block_cell hg 5).trans h5, (block_cell hg 6).trans h6, (block_cell hg 7).trans h7⟩
def AggOf (h : Int) (t : ByteArray) (l : List Kid) (v : Value) (u : World) : Prop := ∃ a c, v = .agg #[.int .i64 h, .string t, .slice a 2 c] ∧ IsKs u a 2 l
theorem Stab_agg (h : Int) (t : ByteArray) (l : List Kid) : Stab (AggOf h t l) := by rintro v u u' ⟨a, c, e, h⟩ hb; exact ⟨a, c, e, h.later hb⟩
def SlOf (l : List Kid) (v : Value) (u : World) : Prop := ∃ a c, v = .slice a 2 c ∧ IsKs u a 2 l
theorem Stab_slo (l : List Kid) : Stab (SlOf l) := by rintro v u u' ⟨a, c, e, h⟩ hb; exact ⟨a, c, e, h.later hb⟩
def IntsOf (l : List Int) (v : Value) (u : World) : Prop := ∃ b, v = .slice (some ⟨b, 0, none⟩) 2 2 ∧ IsIs u b 0 l
theorem Stab_ints (l : List Int) : Stab (IntsOf l) := by rintro v u u' ⟨b, e, h⟩ hb; exact ⟨b, e, h.later hb⟩
/-- behind the store of a child -/
def AfterKid (g : Nat) (k : Kid) (wr u : World) : Prop := ∃ v, Below wr.heap.size wr v ∧ u = ((((v.setCell ⟨g, 4, none⟩ (.int .u64 k.1)).setCell ⟨g, 5, none⟩ (.int .i64 k.2.1)).setCell ⟨g, 6, none⟩ (.int .i64 k.2.2.1)).setCell ⟨g, 7, none⟩ (.int .i64 k.2.2.2))
end Go.Proofs.Ytbodacjhhkjdfaa
