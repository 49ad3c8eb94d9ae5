/- The freelist: its plain state, and how it lies in memory (the program's list and the reference's). -/
import Derived.Test.YtpcpjmgkdbgopaaDoorFh
namespace Go.Proofs.YtpcpjmgkdbgopaaDoor
open Go.RowKit

/-- a list: n slots, m free ones, the greatest generation, the stack, the states, the generations -/
structure FL where
  n : Nat
  m : Nat
  most : Nat
  sk : Nat → Nat
  st : Nat → Nat
  gn : Nat → Nat

def updN (f : Nat → Nat) (i v : Nat) : Nat → Nat := fun k => if k = i then v else f k
theorem updN_same (f : Nat → Nat) (i v : Nat) : updN f i v i = v := if_pos rfl
theorem updN_other (f : Nat → Nat) {i v k : Nat} (h : k ≠ i) : updN f i v k = f k := if_neg h

/-- the block b holds cap cells, the first m of them f 0, f 1, .. -/
def Arr (w : World) (b : Nat) (t : TypeId) (cap m : Nat) (f : Nat → Value) : Prop :=
  ∃ cur : Array Value, w.heap[b]? = some (.cells cur t (0, 0)) ∧ cur.size = cap ∧ m ≤ cap ∧ ∀ i, i < m → cur[i]? = some (f i)

theorem Arr.cell {w : World} {b : Nat} {t : TypeId} {cap m : Nat} {f : Nat → Value} (h : Arr w b t cap m f) {i : Nat} (hi : i < m) : w.cell? ⟨b, i, none⟩ = some (f i) := by
  obtain ⟨cur, hb, _, _, hc⟩ := h
  rw [block_cell hb i]; exact hc i hi
theorem Arr.free {w : World} {b : Nat} {t : TypeId} {cap m : Nat} {f : Nat → Value} (h : Arr w b t cap m f) (i : Nat) : w.frozen? ⟨b, i, none⟩ = false := by
  obtain ⟨cur, hb, _⟩ := h
  exact block_free hb i
theorem Arr.lt {w : World} {b : Nat} {t : TypeId} {cap m : Nat} {f : Nat → Value} (h : Arr w b t cap m f) : b < w.heap.size := by
  obtain ⟨cur, hb, _⟩ := h
  exact block_lt hb
theorem Arr.alloc {w : World} {b : Nat} {t : TypeId} {cap m : Nat} {f : Nat → Value} (h : Arr w b t cap m f) (o : Obj) : Arr (w.alloc o) b t cap m f := by
  obtain ⟨cur, hb, h⟩ := h
  exact ⟨cur, block_alloc hb o, h⟩
theorem Arr.keep {w w' : World} {b : Nat} {t : TypeId} {cap m : Nat} {f : Nat → Value} (h : Arr w b t cap m f) (e : w'.heap[b]? = w.heap[b]?) : Arr w' b t cap m f := by
  obtain ⟨cur, hb, h⟩ := h
  exact ⟨cur, by rw [e]; exact hb, h⟩
theorem Arr.other {w : World} {b : Nat} {t : TypeId} {cap m : Nat} {f : Nat → Value} (h : Arr w b t cap m f) {p : Addr} (hp : p.block ≠ b) (v : Value) : Arr (w.setCell p v) b t cap m f := by
  obtain ⟨cur, hb, h⟩ := h
  exact ⟨cur, block_setCell_other hb hp v, h⟩
theorem Arr.less {w : World} {b : Nat} {t : TypeId} {cap m m' : Nat} {f : Nat → Value} (h : Arr w b t cap m f) (hm : m' ≤ m) : Arr w b t cap m' f := by
  obtain ⟨cur, hb, h1, h2, h3⟩ := h
  exact ⟨cur, hb, h1, Nat.le_trans hm h2, fun i hi => h3 i (Nat.lt_of_lt_of_le hi hm)⟩
theorem Arr.congr {w : World} {b : Nat} {t : TypeId} {cap m : Nat} {f g : Nat → Value} (h : Arr w b t cap m f) (e : ∀ i, i < m → f i = g i) : Arr w b t cap m g := by
  obtain ⟨cur, hb, h1, h2, h3⟩ := h
  exact ⟨cur, hb, h1, h2, fun i hi => by rw [h3 i hi, e i hi]⟩
/-- a cell below m is written -/
theorem Arr.set {w : World} {b : Nat} {t : TypeId} {cap m : Nat} {f : Nat → Value} (h : Arr w b t cap m f) {i : Nat} (hi : i < m) (v : Value) : Arr (w.setCell ⟨b, i, none⟩ v) b t cap m (fun k => if k = i then v else f k) := by
  obtain ⟨cur, hb, h1, h2, h3⟩ := h
  refine ⟨_, block_setCell hb i v, by simpa using h1, h2, fun k hk => ?_⟩
  rw [Array.getElem?_setIfInBounds]
  by_cases e : k = i
  · subst e
    rw [if_pos rfl, if_pos (by omega)]
    simp
  · rw [if_neg (fun h => e h.symm), h3 k hk]
    simp [e]
/-- the cell behind the first m ones is written -/
theorem Arr.push {w : World} {b : Nat} {t : TypeId} {cap m : Nat} {f : Nat → Value} (h : Arr w b t cap m f) (hm : m < cap) (v : Value) : Arr (w.setCell ⟨b, m, none⟩ v) b t cap (m + 1) (fun k => if k = m then v else f k) := by
  obtain ⟨cur, hb, h1, h2, h3⟩ := h
  refine ⟨_, block_setCell hb m v, by simpa using h1, hm, fun k hk => ?_⟩
  rw [Array.getElem?_setIfInBounds]
  by_cases e : k = m
  · subst e
    rw [if_pos rfl, if_pos (by omega)]
    simp
  · rw [if_neg (fun h => e h.symm), h3 k (by omega)]
    simp [e]

def encI (n : Nat) : Value := .int .i64 n
def encS (n : Nat) : Value := .int .u8 n
def encU (n : Nat) : Value := .int .u64 n

/-- the blocks of a list: the struct's, the stack's, the states', the generations' -/
structure LB where
  p : Nat
  s : Nat
  t : Nat
  g : Nat

def IsL (w : World) (b : LB) (x : FL) : Prop :=
  w.heap[b.p]? = some (.cells #[.slice (some ⟨b.s, 0, none⟩) x.m x.n, .slice (some ⟨b.t, 0, none⟩) x.n x.n, .slice (some ⟨b.g, 0, none⟩) x.n x.n, .int .u64 x.most] 63 (0, 0)) ∧
  Arr w b.s 3 x.n x.m (fun i => encI (x.sk i)) ∧ Arr w b.t 66 x.n x.n (fun i => encS (x.st i)) ∧ Arr w b.g 28 x.n x.n (fun i => encU (x.gn i))

/-- what holds of every list that calls lead to -/
structure FInv (x : FL) : Prop where
  n1 : 1 ≤ x.n
  n2 : x.n ≤ 16384
  g1 : 1 ≤ x.most
  g2 : x.most ≤ 4294967295
  mn : x.m ≤ x.n
  lo : ∀ i, i < x.m → x.sk i < x.n ∧ x.st (x.sk i) = 0
  inj : ∀ i j, i < x.m → j < x.m → x.sk i = x.sk j → i = j
  all : ∀ s, s < x.n → x.st s = 0 → ∃ i, i < x.m ∧ x.sk i = s
  s2 : ∀ s, s < x.n → x.st s ≤ 2
  gn : ∀ s, s < x.n → 1 ≤ x.gn s ∧ x.gn s ≤ x.most

/-- Take -/
def takeL (x : FL) : FL := { x with m := x.m - 1, st := updN x.st (x.sk (x.m - 1)) 1 }
/-- Give of a live handle of the slot s -/
def giveL (x : FL) (s : Nat) : FL := if x.gn s = x.most then { x with st := updN x.st s 2 } else { x with m := x.m + 1, sk := updN x.sk x.m s, st := updN x.st s 0, gn := updN x.gn s (x.gn s + 1) }
/-- a handle is live -/
def liveL (x : FL) (h : Int) : Prop := hOK h ∧ (h % 65536).toNat < x.n ∧ x.st (h % 65536).toNat = 1 ∧ (h / 65536).toNat = x.gn (h % 65536).toNat
instance (x : FL) (h : Int) : Decidable (liveL x h) := by unfold liveL; infer_instance
def newL (n g : Nat) : FL := { n := n, m := n, most := g, sk := fun i => n - 1 - i, st := fun _ => 0, gn := fun _ => 1 }

theorem newL_inv {n g : Nat} (h1 : 1 ≤ n) (h2 : n ≤ 16384) (h3 : 1 ≤ g) (h4 : g ≤ 4294967295) : FInv (newL n g) where
  n1 := h1
  n2 := h2
  g1 := h3
  g2 := h4
  mn := Nat.le_refl _
  lo := fun i hi => ⟨by show n - 1 - i < n; omega, rfl⟩
  inj := fun i j hi hj e => by
    have hi' : i < n := hi
    have hj' : j < n := hj
    have e' : n - 1 - i = n - 1 - j := e
    omega
  all := fun s hs _ => ⟨n - 1 - s, by show n - 1 - s < n; have : s < n := hs; omega, by show n - 1 - (n - 1 - s) = s; have : s < n := hs; omega⟩
  s2 := fun _ _ => Nat.zero_le _
  gn := fun _ _ => ⟨Nat.le_refl _, h3⟩

theorem takeL_inv {x : FL} (h : FInv x) (hm : 0 < x.m) : FInv (takeL x) where
  n1 := h.n1
  n2 := h.n2
  g1 := h.g1
  g2 := h.g2
  mn := by have := h.mn; show x.m - 1 ≤ x.n; omega
  lo := fun i hi => by
    have hi' : i < x.m - 1 := hi
    have h1 := h.lo i (by omega)
    refine ⟨h1.1, ?_⟩
    show updN x.st (x.sk (x.m - 1)) 1 (x.sk i) = 0
    rw [updN_other _ (fun e => by have := h.inj i (x.m - 1) (by omega) (by omega) e; omega)]
    exact h1.2
  inj := fun i j hi hj e => h.inj i j (by have : i < x.m - 1 := hi; omega) (by have : j < x.m - 1 := hj; omega) e
  all := fun s hs h0 => by
    have h0' : updN x.st (x.sk (x.m - 1)) 1 s = 0 := h0
    by_cases e : s = x.sk (x.m - 1)
    · rw [e, updN_same] at h0'; cases h0'
    · rw [updN_other _ e] at h0'
      obtain ⟨i, hi, e2⟩ := h.all s hs h0'
      refine ⟨i, ?_, e2⟩
      show i < x.m - 1
      have : i ≠ x.m - 1 := fun e3 => e (by rw [← e2, e3])
      omega
  s2 := fun s hs => by
    show updN x.st (x.sk (x.m - 1)) 1 s ≤ 2
    unfold updN
    split
    · omega
    · exact h.s2 s hs
  gn := h.gn

theorem nodup_len : ∀ (l m : List Nat), l.Nodup → l ⊆ m → l.length ≤ m.length
  | [], _, _, _ => Nat.zero_le _
  | a :: l, m, hn, hs => by
    have hn' := List.nodup_cons.1 hn
    have ha : a ∈ m := hs (List.mem_cons_self)
    have := nodup_len l (m.erase a) hn'.2 (fun y hy => (List.mem_erase_of_ne (fun e => hn'.1 (by rw [← e]; exact hy))).2 (hs (List.mem_cons_of_mem _ hy)))
    rw [List.length_erase_of_mem ha] at this
    have : 0 < m.length := List.length_pos_of_mem ha
    rw [List.length_cons]
    omega
/-- if some slot is not free, the stack is not full -/
theorem room {x : FL} (h : FInv x) {s : Nat} (hs : s < x.n) (hst : x.st s ≠ 0) : x.m < x.n := by
  have hinj : (List.range x.m).map x.sk |>.Nodup := by
    rw [List.nodup_iff_pairwise_ne]
    rw [List.pairwise_map]
    refine (List.nodup_iff_pairwise_ne.1 (List.nodup_range (n := x.m))).imp_of_mem ?_
    intro a b ha hb hne e
    exact hne (h.inj a b (List.mem_range.1 ha) (List.mem_range.1 hb) e)
  have hsub : s :: (List.range x.m).map x.sk ⊆ List.range x.n := by
    intro y hy
    rcases List.mem_cons.1 hy with rfl | hy
    · exact List.mem_range.2 hs
    · obtain ⟨i, hi, rfl⟩ := List.mem_map.1 hy
      exact List.mem_range.2 (h.lo i (List.mem_range.1 hi)).1
  have hnd : (s :: (List.range x.m).map x.sk).Nodup := List.nodup_cons.2 ⟨fun hy => by
    obtain ⟨i, hi, rfl⟩ := List.mem_map.1 hy
    exact hst (h.lo i (List.mem_range.1 hi)).2, hinj⟩
  have := nodup_len _ _ hnd hsub
  simp at this
  omega

theorem giveL_inv {x : FL} (h : FInv x) {s : Nat} (hs : s < x.n) (hst : x.st s = 1) : FInv (giveL x s) := by
  have hr := room h hs (by omega)
  unfold giveL
  split
  · refine { n1 := h.n1, n2 := h.n2, g1 := h.g1, g2 := h.g2, mn := h.mn, lo := fun i hi => ?_, inj := h.inj, all := fun s' hs' h0 => ?_, s2 := fun s' hs' => ?_, gn := h.gn }
    · have h1 := h.lo i hi
      refine ⟨h1.1, ?_⟩
      show updN x.st s 2 (x.sk i) = 0
      rw [updN_other _ (fun e => by have := h1.2; rw [e] at this; omega)]
      exact h1.2
    · have h0' : updN x.st s 2 s' = 0 := h0
      by_cases e : s' = s
      · rw [e, updN_same] at h0'; cases h0'
      · rw [updN_other _ e] at h0'; exact h.all s' hs' h0'
    · show updN x.st s 2 s' ≤ 2
      unfold updN
      split
      · omega
      · exact h.s2 s' hs'
  · rename_i hg
    have hgs := h.gn s hs
    refine { n1 := h.n1, n2 := h.n2, g1 := h.g1, g2 := h.g2, mn := hr, lo := fun i hi => ?_, inj := fun i j hi hj e => ?_, all := fun s' hs' h0 => ?_, s2 := fun s' hs' => ?_, gn := fun s' hs' => ?_ }
    · have hi' : i < x.m + 1 := hi
      show updN x.sk x.m s i < x.n ∧ updN x.st s 0 (updN x.sk x.m s i) = 0
      by_cases e : i = x.m
      · rw [e, updN_same, updN_same]; exact ⟨hs, rfl⟩
      · have h1 := h.lo i (by omega)
        rw [updN_other _ e, updN_other _ (fun e2 => by have := h1.2; rw [e2] at this; omega)]
        exact h1
    · have hi' : i < x.m + 1 := hi
      have hj' : j < x.m + 1 := hj
      have e' : updN x.sk x.m s i = updN x.sk x.m s j := e
      by_cases e1 : i = x.m
      · by_cases e2 : j = x.m
        · omega
        · rw [e1, updN_same, updN_other _ e2] at e'
          have := (h.lo j (by omega)).2
          rw [← e'] at this; omega
      · by_cases e2 : j = x.m
        · rw [e2, updN_same, updN_other _ e1] at e'
          have := (h.lo i (by omega)).2
          rw [e'] at this; omega
        · rw [updN_other _ e1, updN_other _ e2] at e'
          exact h.inj i j (by omega) (by omega) e'
    · have h0' : updN x.st s 0 s' = 0 := h0
      by_cases e : s' = s
      · exact ⟨x.m, Nat.lt_succ_self _, by show updN x.sk x.m s x.m = s'; rw [updN_same, e]⟩
      · rw [updN_other _ e] at h0'
        obtain ⟨i, hi, e2⟩ := h.all s' hs' h0'
        exact ⟨i, Nat.lt_succ_of_lt hi, by show updN x.sk x.m s i = s'; rw [updN_other _ (by omega)]; exact e2⟩
    · show updN x.st s 0 s' ≤ 2
      unfold updN
      split
      · omega
      · exact h.s2 s' hs'
    · show 1 ≤ updN x.gn s (x.gn s + 1) s' ∧ updN x.gn s (x.gn s + 1) s' ≤ x.most
      unfold updN
      split
      · omega
      · exact h.gn s' hs'
end Go.Proofs.YtpcpjmgkdbgopaaDoor
