/- The contracts of the handles (package handle and its reference), as far as the freelist wants them. The freelist: its plain state, and how it lies in memory (the program's list and the reference's). The freelist: contracts of Take. The reference's freelist in memory; contract of its Take. The freelist: slot, Live, Gen of the program. The freelist: Live, Gen of the program; Give, where nothing is pushed. The freelist: Give of the program, where a slot is pushed. The freelist: Live and Give of the reference. The freelist: Give of the reference, where a slot is pushed. The freelist: slices of integers as functions; EqualInts, EqualHandles. The freelist: slots of the program. The freelist: Withdrawn of both sides. The freelist: Handles of the reference. The freelist: returned slices; Handles of the program. The freelist: Free of the reference. The freelist: Free of the program. -/
import Derived.Test.YtfgkbnnojogjpaaNv
import Derived.Laws.BitsAllLaws
import Derived.BigQuiet
import Derived.BigRegion
import Derived.OwnWalk
import Derived.Maps.AppendAt
import Derived.Laws.CopyOwn
namespace Go.Proofs.Ytfgkbnnojogjpaa
open Go.RowKit

/-! ### Handles -/
/-- the handle of a slot and a generation -/
def hMk (s g : Nat) : Int := g * 65536 + s
def mkOK (s g : Nat) : Prop := s < 16384 ∧ 1 ≤ g ∧ g ≤ 4294967295
theorem hMk_mod {s g : Nat} (h : mkOK s g) : hMk s g % 65536 = s := by unfold hMk; unfold mkOK at h; omega
theorem hMk_div {s g : Nat} (h : mkOK s g) : hMk s g / 65536 = g := by unfold hMk; unfold mkOK at h; omega
theorem hMk_ok {s g : Nat} (h : mkOK s g) : hOK (hMk s g) := by
  have h1 := hMk_mod h
  have h2 := hMk_div h
  unfold hOK; rw [h1, h2]; unfold mkOK at h; omega
theorem hMk_le {s g : Nat} (h : mkOK s g) : 0 ≤ hMk s g ∧ hMk s g ≤ 18446744073709551615 := by unfold hMk; unfold mkOK at h; omega
theorem hMk_inj {s g s' g' : Nat} (h : mkOK s g) (h' : mkOK s' g') (e : hMk s g = hMk s' g') : s = s' ∧ g = g' := by
  unfold hMk at e; unfold mkOK at h h'; omega
theorem or_add (s g : Nat) (h : mkOK s g) : bits .or .u64 ((g : Int) * 65536) (s : Int) = hMk s g := by
  unfold mkOK at h
  have e1 : ((g : Int) * 65536) = ((g * 65536 : Nat) : Int) := by omega
  rw [e1, u64_or_nat _ _ (by omega) (by omega)]
  have e2 : g * 65536 ||| s = g * 65536 + s := by
    have := Nat.shiftLeft_add_eq_or_of_lt (show s < 2 ^ 16 by omega) g
    rw [Nat.shiftLeft_eq] at this
    exact this.symm
  rw [e2]; unfold hMk; omega

set_option maxRecDepth 100000 in
set_option maxHeartbeats 400000 in
theorem make_ok (s g : Nat) (w : World) (h : mkOK s g) :
    Calls Try.prog 62 #[.int .i64 s, .int .u64 g] w fun e w' => e = .returned (.tuple #[.int .u64 (hMk s g), .int .i64 0]) ∧ w = w' := by
  have ho := or_add s g h
  have HO := Lib.hid ho
  clear ho
  unfold mkOK at h
  obtain ⟨h1, h2, h3⟩ := h
  go_enter Try.func62, Try.ntmps62
  go_wp2_with fail
  rw [HO.out]
  go_ret2
  exact ⟨rfl, rfl⟩

set_option maxRecDepth 100000 in
set_option maxHeartbeats 400000 in
theorem refMake_ok (s g : Nat) (w : World) (h : mkOK s g) :
    Calls Try.prog 71 #[.int .i64 s, .int .u64 g] w fun e w' => e = .returned (.tuple #[.int .u64 (hMk s g), .int .i64 0]) ∧ w = w' := by
  unfold mkOK at h
  obtain ⟨h1, h2, h3⟩ := h
  go_enter Try.func71, Try.ntmps71
  go_wp2_with fail
  go_ret2
  exact ⟨rfl, rfl⟩

set_option maxRecDepth 100000 in
set_option maxHeartbeats 400000 in
theorem hSlot_ok (h : Int) (w : World) (h0 : 0 ≤ h) (h1 : h ≤ 18446744073709551615) (hk : hOK h) :
    Calls Try.prog 86 #[.int .u64 h] w fun e w' => e = .returned (.tuple #[.int .i64 (h % 65536), .int .i64 0]) ∧ w = w' := by
  go_enter Try.func86, Try.ntmps86
  go_wp2_with fail
  refine (hCheck_ok _ _ h0 h1 hk).mono ?_; rintro e w1 ⟨rfl, rfl⟩
  go_wp2_with fail
  refine (parts_any _ _ h0 h1).mono ?_; rintro e w1 ⟨rfl, rfl⟩
  go_wp2_with fail
  go_ret2
  exact ⟨rfl, rfl⟩

set_option maxRecDepth 100000 in
set_option maxHeartbeats 400000 in
theorem hSlot_no (h : Int) (w : World) (h0 : 0 ≤ h) (h1 : h ≤ 18446744073709551615) (hk : ¬ hOK h) :
    Calls Try.prog 86 #[.int .u64 h] w fun e w' => e = .returned (.tuple #[.int .i64 0, .int .i64 2]) ∧ w = w' := by
  go_enter Try.func86, Try.ntmps86
  go_wp2_with fail
  refine (hCheck_no _ _ h0 h1 hk).mono ?_; rintro e w1 ⟨rfl, rfl⟩
  go_wp2_with fail
  go_ret2
  exact ⟨rfl, rfl⟩


set_option maxRecDepth 100000 in
set_option maxHeartbeats 400000 in
theorem hGen_ok (h : Int) (w : World) (h0 : 0 ≤ h) (h1 : h ≤ 18446744073709551615) (hk : hOK h) :
    Calls Try.prog 87 #[.int .u64 h] w fun e w' => e = .returned (.tuple #[.int .u64 (h / 65536), .int .i64 0]) ∧ w = w' := by
  go_enter Try.func87, Try.ntmps87
  go_wp2_with fail
  refine (hCheck_ok _ _ h0 h1 hk).mono ?_; rintro e w1 ⟨rfl, rfl⟩
  go_wp2_with fail
  refine (parts_any _ _ h0 h1).mono ?_; rintro e w1 ⟨rfl, rfl⟩
  go_wp2_with fail
  go_ret2
  exact ⟨rfl, rfl⟩

set_option maxRecDepth 100000 in
set_option maxHeartbeats 400000 in
theorem hGen_no (h : Int) (w : World) (h0 : 0 ≤ h) (h1 : h ≤ 18446744073709551615) (hk : ¬ hOK h) :
    Calls Try.prog 87 #[.int .u64 h] w fun e w' => e = .returned (.tuple #[.int .u64 0, .int .i64 2]) ∧ w = w' := by
  go_enter Try.func87, Try.ntmps87
  go_wp2_with fail
  refine (hCheck_no _ _ h0 h1 hk).mono ?_; rintro e w1 ⟨rfl, rfl⟩
  go_wp2_with fail
  go_ret2
  exact ⟨rfl, rfl⟩


set_option maxRecDepth 100000 in
set_option maxHeartbeats 400000 in
theorem refSlot_ok (h : Int) (w : World) (h0 : 0 ≤ h) (h1 : h ≤ 18446744073709551615) (hk : hOK h) :
    Calls Try.prog 74 #[.int .u64 h] w fun e w' => e = .returned (.tuple #[.int .i64 (h % 65536), .int .i64 0]) ∧ w = w' := by
  go_enter Try.func74, Try.ntmps74
  go_wp2_with fail
  refine (refHCheck_ok _ _ h0 h1 hk).mono ?_; rintro e w1 ⟨rfl, rfl⟩
  go_wp2_with fail
  go_ret2
  exact ⟨rfl, rfl⟩

set_option maxRecDepth 100000 in
set_option maxHeartbeats 400000 in
theorem refSlot_no (h : Int) (w : World) (h0 : 0 ≤ h) (h1 : h ≤ 18446744073709551615) (hk : ¬ hOK h) :
    Calls Try.prog 74 #[.int .u64 h] w fun e w' => e = .returned (.tuple #[.int .i64 0, .int .i64 2]) ∧ w = w' := by
  go_enter Try.func74, Try.ntmps74
  go_wp2_with fail
  refine (refHCheck_no _ _ h0 h1 hk).mono ?_; rintro e w1 ⟨rfl, rfl⟩
  go_wp2_with fail
  go_ret2
  exact ⟨rfl, rfl⟩


set_option maxRecDepth 100000 in
set_option maxHeartbeats 400000 in
theorem refGen_ok (h : Int) (w : World) (h0 : 0 ≤ h) (h1 : h ≤ 18446744073709551615) (hk : hOK h) :
    Calls Try.prog 88 #[.int .u64 h] w fun e w' => e = .returned (.tuple #[.int .u64 (h / 65536), .int .i64 0]) ∧ w = w' := by
  go_enter Try.func88, Try.ntmps88
  go_wp2_with fail
  refine (refHCheck_ok _ _ h0 h1 hk).mono ?_; rintro e w1 ⟨rfl, rfl⟩
  go_wp2_with fail
  go_ret2
  exact ⟨rfl, rfl⟩

set_option maxRecDepth 100000 in
set_option maxHeartbeats 400000 in
theorem refGen_no (h : Int) (w : World) (h0 : 0 ≤ h) (h1 : h ≤ 18446744073709551615) (hk : ¬ hOK h) :
    Calls Try.prog 88 #[.int .u64 h] w fun e w' => e = .returned (.tuple #[.int .u64 0, .int .i64 2]) ∧ w = w' := by
  go_enter Try.func88, Try.ntmps88
  go_wp2_with fail
  refine (refHCheck_no _ _ h0 h1 hk).mono ?_; rintro e w1 ⟨rfl, rfl⟩
  go_wp2_with fail
  go_ret2
  exact ⟨rfl, rfl⟩

end Go.Proofs.Ytfgkbnnojogjpaa

namespace Go.Proofs.Ytfgkbnnojogjpaa
open Go.RowKit

/-- a list: n slots, m free ones, the greatest generation, the stack, the states, the generations -/
structure FL where
  n : Nat
  m : Nat
  most : Nat
  sk : Nat → Nat
  st : Nat → Nat
  gn : Nat → Nat

def updN (f : Nat → Nat) (i v : Nat) : Nat → Nat := fun k => if k = i then v else f k
theorem updN_same (f : Nat → Nat) (i v : Nat) : updN f i v i = v := if_pos rfl
theorem updN_other (f : Nat → Nat) {i v k : Nat} (h : k ≠ i) : updN f i v k = f k := if_neg h

/-- the block b holds cap cells, the first m of them f 0, f 1, .. -/
def Arr (w : World) (b : Nat) (t : TypeId) (cap m : Nat) (f : Nat → Value) : Prop :=
  ∃ cur : Array Value, w.heap[b]? = some (.cells cur t (0, 0)) ∧ cur.size = cap ∧ m ≤ cap ∧ ∀ i, i < m → cur[i]? = some (f i)

theorem Arr.cell {w : World} {b : Nat} {t : TypeId} {cap m : Nat} {f : Nat → Value} (h : Arr w b t cap m f) {i : Nat} (hi : i < m) : w.cell? ⟨b, i, none⟩ = some (f i) := by
  obtain ⟨cur, hb, _, _, hc⟩ := h
  rw [block_cell hb i]; exact hc i hi
theorem Arr.free {w : World} {b : Nat} {t : TypeId} {cap m : Nat} {f : Nat → Value} (h : Arr w b t cap m f) (i : Nat) : w.frozen? ⟨b, i, none⟩ = false := by
  obtain ⟨cur, hb, _⟩ := h
  exact block_free hb i
theorem Arr.lt {w : World} {b : Nat} {t : TypeId} {cap m : Nat} {f : Nat → Value} (h : Arr w b t cap m f) : b < w.heap.size := by
  obtain ⟨cur, hb, _⟩ := h
  exact block_lt hb
theorem Arr.alloc {w : World} {b : Nat} {t : TypeId} {cap m : Nat} {f : Nat → Value} (h : Arr w b t cap m f) (o : Obj) : Arr (w.alloc o) b t cap m f := by
  obtain ⟨cur, hb, h⟩ := h
  exact ⟨cur, block_alloc hb o, h⟩
theorem Arr.keep {w w' : World} {b : Nat} {t : TypeId} {cap m : Nat} {f : Nat → Value} (h : Arr w b t cap m f) (e : w'.heap[b]? = w.heap[b]?) : Arr w' b t cap m f := by
  obtain ⟨cur, hb, h⟩ := h
  exact ⟨cur, by rw [e]; exact hb, h⟩
theorem Arr.other {w : World} {b : Nat} {t : TypeId} {cap m : Nat} {f : Nat → Value} (h : Arr w b t cap m f) {p : Addr} (hp : p.block ≠ b) (v : Value) : Arr (w.setCell p v) b t cap m f := by
  obtain ⟨cur, hb, h⟩ := h
  exact ⟨cur, block_setCell_other hb hp v, h⟩
theorem Arr.less {w : World} {b : Nat} {t : TypeId} {cap m m' : Nat} {f : Nat → Value} (h : Arr w b t cap m f) (hm : m' ≤ m) : Arr w b t cap m' f := by
  obtain ⟨cur, hb, h1, h2, h3⟩ := h
  exact ⟨cur, hb, h1, Nat.le_trans hm h2, fun i hi => h3 i (Nat.lt_of_lt_of_le hi hm)⟩
theorem Arr.congr {w : World} {b : Nat} {t : TypeId} {cap m : Nat} {f g : Nat → Value} (h : Arr w b t cap m f) (e : ∀ i, i < m → f i = g i) : Arr w b t cap m g := by
  obtain ⟨cur, hb, h1, h2, h3⟩ := h
  exact ⟨cur, hb, h1, h2, fun i hi => by rw [h3 i hi, e i hi]⟩
/-- a cell below m is written -/
theorem Arr.set {w : World} {b : Nat} {t : TypeId} {cap m : Nat} {f : Nat → Value} (h : Arr w b t cap m f) {i : Nat} (hi : i < m) (v : Value) : Arr (w.setCell ⟨b, i, none⟩ v) b t cap m (fun k => if k = i then v else f k) := by
  obtain ⟨cur, hb, h1, h2, h3⟩ := h
  refine ⟨_, block_setCell hb i v, by simpa using h1, h2, fun k hk => ?_⟩
  rw [Array.getElem?_setIfInBounds]
  by_cases e : k = i
  · subst e
    rw [if_pos rfl, if_pos (by omega)]
    simp
  · rw [if_neg (fun h => e h.symm), h3 k hk]
    simp [e]
/-- the cell behind the first m ones is written -/
theorem Arr.push {w : World} {b : Nat} {t : TypeId} {cap m : Nat} {f : Nat → Value} (h : Arr w b t cap m f) (hm : m < cap) (v : Value) : Arr (w.setCell ⟨b, m, none⟩ v) b t cap (m + 1) (fun k => if k = m then v else f k) := by
  obtain ⟨cur, hb, h1, h2, h3⟩ := h
  refine ⟨_, block_setCell hb m v, by simpa using h1, hm, fun k hk => ?_⟩
  rw [Array.getElem?_setIfInBounds]
  by_cases e : k = m
  · subst e
    rw [if_pos rfl, if_pos (by omega)]
    simp
  · rw [if_neg (fun h => e h.symm), h3 k (by omega)]
    simp [e]

def encI (n : Nat) : Value := .int .i64 n
def encS (n : Nat) : Value := .int .u8 n
def encU (n : Nat) : Value := .int .u64 n

/-- the blocks of a list: the struct's, the stack's, the states', the generations' -/
structure LB where
  p : Nat
  s : Nat
  t : Nat
  g : Nat

def IsL (w : World) (b : LB) (x : FL) : Prop :=
  w.heap[b.p]? = some (.cells #[.slice (some ⟨b.s, 0, none⟩) x.m x.n, .slice (some ⟨b.t, 0, none⟩) x.n x.n, .slice (some ⟨b.g, 0, none⟩) x.n x.n, .int .u64 x.most] 109 (0, 0)) ∧
  Arr w b.s 3 x.n x.m (fun i => encI (x.sk i)) ∧ Arr w b.t 112 x.n x.n (fun i => encS (x.st i)) ∧ Arr w b.g 22 x.n x.n (fun i => encU (x.gn i))

/-- what holds of every list that calls lead to -/
structure FInv (x : FL) : Prop where
  n1 : 1 ≤ x.n
  n2 : x.n ≤ 16384
  g1 : 1 ≤ x.most
  g2 : x.most ≤ 4294967295
  mn : x.m ≤ x.n
  lo : ∀ i, i < x.m → x.sk i < x.n ∧ x.st (x.sk i) = 0
  inj : ∀ i j, i < x.m → j < x.m → x.sk i = x.sk j → i = j
  all : ∀ s, s < x.n → x.st s = 0 → ∃ i, i < x.m ∧ x.sk i = s
  s2 : ∀ s, s < x.n → x.st s ≤ 2
  gn : ∀ s, s < x.n → 1 ≤ x.gn s ∧ x.gn s ≤ x.most

/-- Take -/
def takeL (x : FL) : FL := { x with m := x.m - 1, st := updN x.st (x.sk (x.m - 1)) 1 }
/-- Give of a live handle of the slot s -/
def giveL (x : FL) (s : Nat) : FL := if x.gn s = x.most then { x with st := updN x.st s 2 } else { x with m := x.m + 1, sk := updN x.sk x.m s, st := updN x.st s 0, gn := updN x.gn s (x.gn s + 1) }
/-- a handle is live -/
def liveL (x : FL) (h : Int) : Prop := hOK h ∧ (h % 65536).toNat < x.n ∧ x.st (h % 65536).toNat = 1 ∧ (h / 65536).toNat = x.gn (h % 65536).toNat
instance (x : FL) (h : Int) : Decidable (liveL x h) := by unfold liveL; infer_instance
def newL (n g : Nat) : FL := { n := n, m := n, most := g, sk := fun i => n - 1 - i, st := fun _ => 0, gn := fun _ => 1 }

theorem newL_inv {n g : Nat} (h1 : 1 ≤ n) (h2 : n ≤ 16384) (h3 : 1 ≤ g) (h4 : g ≤ 4294967295) : FInv (newL n g) where
  n1 := h1
  n2 := h2
  g1 := h3
  g2 := h4
  mn := Nat.le_refl _
  lo := fun i hi => ⟨by show n - 1 - i < n; omega, rfl⟩
  inj := fun i j hi hj e => by
    have hi' : i < n := hi
    have hj' : j < n := hj
    have e' : n - 1 - i = n - 1 - j := e
    omega
  all := fun s hs _ => ⟨n - 1 - s, by show n - 1 - s < n; have : s < n := hs; omega, by show n - 1 - (n - 1 - s) = s; have : s < n := hs; omega⟩
  s2 := fun _ _ => Nat.zero_le _
  gn := fun _ _ => ⟨Nat.le_refl _, h3⟩

theorem takeL_inv {x : FL} (h : FInv x) (hm : 0 < x.m) : FInv (takeL x) where
  n1 := h.n1
  n2 := h.n2
  g1 := h.g1
  g2 := h.g2
  mn := by have := h.mn; show x.m - 1 ≤ x.n; omega
  lo := fun i hi => by
    have hi' : i < x.m - 1 := hi
    have h1 := h.lo i (by omega)
    refine ⟨h1.1, ?_⟩
    show updN x.st (x.sk (x.m - 1)) 1 (x.sk i) = 0
    rw [updN_other _ (fun e => by have := h.inj i (x.m - 1) (by omega) (by omega) e; omega)]
    exact h1.2
  inj := fun i j hi hj e => h.inj i j (by have : i < x.m - 1 := hi; omega) (by have : j < x.m - 1 := hj; omega) e
  all := fun s hs h0 => by
    have h0' : updN x.st (x.sk (x.m - 1)) 1 s = 0 := h0
    by_cases e : s = x.sk (x.m - 1)
    · rw [e, updN_same] at h0'; cases h0'
    · rw [updN_other _ e] at h0'
      obtain ⟨i, hi, e2⟩ := h.all s hs h0'
      refine ⟨i, ?_, e2⟩
      show i < x.m - 1
      have : i ≠ x.m - 1 := fun e3 => e (by rw [← e2, e3])
      omega
  s2 := fun s hs => by
    show updN x.st (x.sk (x.m - 1)) 1 s ≤ 2
    unfold updN
    split
    · omega
    · exact h.s2 s hs
  gn := h.gn

theorem nodup_len : ∀ (l m : List Nat), l.Nodup → l ⊆ m → l.length ≤ m.length
  | [], _, _, _ => Nat.zero_le _
  | a :: l, m, hn, hs => by
    have hn' := List.nodup_cons.1 hn
    have ha : a ∈ m := hs (List.mem_cons_self)
    have := nodup_len l (m.erase a) hn'.2 (fun y hy => (List.mem_erase_of_ne (fun e => hn'.1 (by rw [← e]; exact hy))).2 (hs (List.mem_cons_of_mem _ hy)))
    rw [List.length_erase_of_mem ha] at this
    have : 0 < m.length := List.length_pos_of_mem ha
    rw [List.length_cons]
    omega
/-- if some slot is not free, the stack is not full -/
theorem room {x : FL} (h : FInv x) {s : Nat} (hs : s < x.n) (hst : x.st s ≠ 0) : x.m < x.n := by
  have hinj : (List.range x.m).map x.sk |>.Nodup := by
    rw [List.nodup_iff_pairwise_ne]
    rw [List.pairwise_map]
    refine (List.nodup_iff_pairwise_ne.1 (List.nodup_range (n := x.m))).imp_of_mem ?_
    intro a b ha hb hne e
    exact hne (h.inj a b (List.mem_range.1 ha) (List.mem_range.1 hb) e)
  have hsub : s :: (List.range x.m).map x.sk ⊆ List.range x.n := by
    intro y hy
    rcases List.mem_cons.1 hy with rfl | hy
    · exact List.mem_range.2 hs
    · obtain ⟨i, hi, rfl⟩ := List.mem_map.1 hy
      exact List.mem_range.2 (h.lo i (List.mem_range.1 hi)).1
  have hnd : (s :: (List.range x.m).map x.sk).Nodup := List.nodup_cons.2 ⟨fun hy => by
    obtain ⟨i, hi, rfl⟩ := List.mem_map.1 hy
    exact hst (h.lo i (List.mem_range.1 hi)).2, hinj⟩
  have := nodup_len _ _ hnd hsub
  simp at this
  omega

theorem giveL_inv {x : FL} (h : FInv x) {s : Nat} (hs : s < x.n) (hst : x.st s = 1) : FInv (giveL x s) := by
  have hr := room h hs (by omega)
  unfold giveL
  split
  · refine { n1 := h.n1, n2 := h.n2, g1 := h.g1, g2 := h.g2, mn := h.mn, lo := fun i hi => ?_, inj := h.inj, all := fun s' hs' h0 => ?_, s2 := fun s' hs' => ?_, gn := h.gn }
    · have h1 := h.lo i hi
      refine ⟨h1.1, ?_⟩
      show updN x.st s 2 (x.sk i) = 0
      rw [updN_other _ (fun e => by have := h1.2; rw [e] at this; omega)]
      exact h1.2
    · have h0' : updN x.st s 2 s' = 0 := h0
      by_cases e : s' = s
      · rw [e, updN_same] at h0'; cases h0'
      · rw [updN_other _ e] at h0'; exact h.all s' hs' h0'
    · show updN x.st s 2 s' ≤ 2
      unfold updN
      split
      · omega
      · exact h.s2 s' hs'
  · rename_i hg
    have hgs := h.gn s hs
    refine { n1 := h.n1, n2 := h.n2, g1 := h.g1, g2 := h.g2, mn := hr, lo := fun i hi => ?_, inj := fun i j hi hj e => ?_, all := fun s' hs' h0 => ?_, s2 := fun s' hs' => ?_, gn := fun s' hs' => ?_ }
    · have hi' : i < x.m + 1 := hi
      show updN x.sk x.m s i < x.n ∧ updN x.st s 0 (updN x.sk x.m s i) = 0
      by_cases e : i = x.m
      · rw [e, updN_same, updN_same]; exact ⟨hs, rfl⟩
      · have h1 := h.lo i (by omega)
        rw [updN_other _ e, updN_other _ (fun e2 => by have := h1.2; rw [e2] at this; omega)]
        exact h1
    · have hi' : i < x.m + 1 := hi
      have hj' : j < x.m + 1 := hj
      have e' : updN x.sk x.m s i = updN x.sk x.m s j := e
      by_cases e1 : i = x.m
      · by_cases e2 : j = x.m
        · omega
        · rw [e1, updN_same, updN_other _ e2] at e'
          have := (h.lo j (by omega)).2
          rw [← e'] at this; omega
      · by_cases e2 : j = x.m
        · rw [e2, updN_same, updN_other _ e1] at e'
          have := (h.lo i (by omega)).2
          rw [e'] at this; omega
        · rw [updN_other _ e1, updN_other _ e2] at e'
          exact h.inj i j (by omega) (by omega) e'
    · have h0' : updN x.st s 0 s' = 0 := h0
      by_cases e : s' = s
      · exact ⟨x.m, Nat.lt_succ_self _, by show updN x.sk x.m s x.m = s'; rw [updN_same, e]⟩
      · rw [updN_other _ e] at h0'
        obtain ⟨i, hi, e2⟩ := h.all s' hs' h0'
        exact ⟨i, Nat.lt_succ_of_lt hi, by show updN x.sk x.m s i = s'; rw [updN_other _ (by omega)]; exact e2⟩
    · show updN x.st s 0 s' ≤ 2
      unfold updN
      split
      · omega
      · exact h.s2 s' hs'
    · show 1 ≤ updN x.gn s (x.gn s + 1) s' ∧ updN x.gn s (x.gn s + 1) s' ≤ x.most
      unfold updN
      split
      · omega
      · exact h.gn s' hs'
end Go.Proofs.Ytfgkbnnojogjpaa

namespace Go.Proofs.Ytfgkbnnojogjpaa
open Go.RowKit

/-- only the list's own blocks are written -/
def KeepL (b : LB) (w w' : World) : Prop :=
  (∀ B, B ≤ w.heap.size → B ≤ b.p → B ≤ b.s → B ≤ b.t → B ≤ b.g → Below B w w') ∧ ∀ q, q < w.heap.size → q ≠ b.p → q ≠ b.s → q ≠ b.t → q ≠ b.g → w'.heap[q]? = w.heap[q]?

theorem KeepL.refl (b : LB) (w : World) : KeepL b w w := ⟨fun B _ _ _ _ _ => Below.refl B w, fun _ _ _ _ _ _ => rfl⟩
theorem KeepL.drewN {b : LB} {w w1 : World} (h : KeepL b w w1) (n : Nat) : KeepL b w (w1.drewN n) :=
  ⟨fun B h0 h1 h2 h3 h4 => let k := h.1 B h0 h1 h2 h3 h4; ⟨k.os, k.tape, k.output, k.size, k.block⟩, h.2⟩
theorem KeepL.drew {b : LB} {w w1 : World} (h : KeepL b w w1) : KeepL b w w1.drew :=
  ⟨fun B h0 h1 h2 h3 h4 => (h.1 B h0 h1 h2 h3 h4).drew, h.2⟩
theorem KeepL.set {b : LB} {w w1 : World} (h : KeepL b w w1) {q : Nat} (hq : q = b.p ∨ q = b.s ∨ q = b.t ∨ q = b.g) (i : Nat) (v : Value) : KeepL b w (w1.setCell ⟨q, i, none⟩ v) :=
  ⟨fun B h0 h1 h2 h3 h4 => (h.1 B h0 h1 h2 h3 h4).setCell (by show B ≤ q; omega) v, fun r hr r1 r2 r3 r4 => by
    rw [Below.heap_setCell _ _ _ _ (by show r ≠ q; omega)]; exact h.2 r hr r1 r2 r3 r4⟩
theorem KeepL.alloc {b : LB} {w w1 : World} (h : KeepL b w w1) (o : Obj) : KeepL b w (w1.alloc o) :=
  ⟨fun B h0 h1 h2 h3 h4 => let k := h.1 B h0 h1 h2 h3 h4; k.alloc (Nat.le_trans h0 k.size) o, fun r hr r1 r2 r3 r4 => by
    rw [Below.heap_alloc _ _ _ (Nat.lt_of_lt_of_le hr (h.1 0 (Nat.zero_le _) (Nat.zero_le _) (Nat.zero_le _) (Nat.zero_le _) (Nat.zero_le _)).size)]; exact h.2 r hr r1 r2 r3 r4⟩
theorem KeepL.trans {b : LB} {w w1 w2 : World} (h : KeepL b w w1) (k : KeepL b w1 w2) : KeepL b w w2 := by
  have hsz := (h.1 0 (Nat.zero_le _) (Nat.zero_le _) (Nat.zero_le _) (Nat.zero_le _) (Nat.zero_le _)).size
  refine ⟨fun B h0 h1 h2 h3 h4 => (h.1 B h0 h1 h2 h3 h4).trans (k.1 B (Nat.le_trans h0 hsz) h1 h2 h3 h4), fun r hr r1 r2 r3 r4 => ?_⟩
  rw [k.2 r (Nat.lt_of_lt_of_le hr hsz) r1 r2 r3 r4]
  exact h.2 r hr r1 r2 r3 r4

theorem isL_ne {w : World} {b : LB} {a0 : Array Value} {n1 m1 n2 m2 n3 m3 : Nat} {k1 k2 k3 : Nat → Value} (h : w.heap[b.p]? = some (.cells a0 109 (0, 0)) ∧
    Arr w b.s 3 n1 m1 k1 ∧ Arr w b.t 112 n2 m2 k2 ∧ Arr w b.g 22 n3 m3 k3) : b.p ≠ b.s ∧ b.p ≠ b.t ∧ b.p ≠ b.g ∧ b.s ≠ b.t ∧ b.s ≠ b.g ∧ b.t ≠ b.g := by
  obtain ⟨h0, ⟨c1, h1, _⟩, ⟨c2, h2, _⟩, ⟨c3, h3, _⟩⟩ := h
  refine ⟨fun e => ?_, fun e => ?_, fun e => ?_, fun e => ?_, fun e => ?_, fun e => ?_⟩
  · rw [e, h1] at h0; injection h0 with h0; injection h0 with _ h0; revert h0; decide
  · rw [e, h2] at h0; injection h0 with h0; injection h0 with _ h0; revert h0; decide
  · rw [e, h3] at h0; injection h0 with h0; injection h0 with _ h0; revert h0; decide
  · rw [e, h2] at h1; injection h1 with h1; injection h1 with _ h1; revert h1; decide
  · rw [e, h3] at h1; injection h1 with h1; injection h1 with _ h1; revert h1; decide
  · rw [e, h3] at h2; injection h2 with h2; injection h2 with _ h2; revert h2; decide

theorem IsL.drewN {w : World} {b : LB} {x : FL} (h : IsL w b x) (n : Nat) : IsL (w.drewN n) b x := h

theorem take_isL {w : World} {b : LB} {x : FL} (h : IsL w b x) (hi : FInv x) {k : Nat} (hm : x.m = k + 1) (n : Nat) :
    IsL (((w.drewN n).setCell ⟨b.p, 0, none⟩ (.slice (some ⟨b.s, 0, none⟩) k x.n)).setCell ⟨b.t, x.sk k, none⟩ (.int .u8 1)) b (takeL x) := by
  obtain ⟨e1, e2, e3, e4, e5, e6⟩ := isL_ne h
  have hs := (hi.lo k (by omega)).1
  obtain ⟨h0, h1, h2, h3⟩ := h.drewN n
  have hk : (takeL x).m = k := by show x.m - 1 = k; omega
  have hst : (takeL x).st = updN x.st (x.sk k) 1 := by show updN x.st (x.sk (x.m - 1)) 1 = _; rw [show x.m - 1 = k by omega]
  refine ⟨?_, ?_, ?_, ?_⟩
  · have := block_setCell_other (block_setCell h0 0 (.slice (some ⟨b.s, 0, none⟩) k x.n)) (p := ⟨b.t, x.sk k, none⟩) (Ne.symm e2) (.int .u8 1)
    rw [this, hk]
    rfl
  · rw [hk]
    exact ((h1.other (p := ⟨b.p, 0, none⟩) e1 _).other (p := ⟨b.t, x.sk k, none⟩) (Ne.symm e4) _).less (by omega)
  · refine ((h2.other (p := ⟨b.p, 0, none⟩) e2 _).set hs (.int .u8 1)).congr fun i _ => ?_
    rw [hst]
    unfold updN
    split <;> rfl
  · exact (h3.other (p := ⟨b.p, 0, none⟩) e3 _).other (p := ⟨b.t, x.sk k, none⟩) e6 _

set_option maxRecDepth 100000 in
set_option maxHeartbeats 2000000 in
theorem take_none (w : World) :
    Calls Try.prog 42 #[.pointer none] w fun e w' => e = .returned (.tuple #[.int .u64 0, .int .i64 1]) ∧ w = w' := by
  go_enter Try.func42, Try.ntmps42
  go_wp2_with fail
  go_ret2
  exact ⟨rfl, rfl⟩

set_option maxRecDepth 100000 in
set_option maxHeartbeats 2000000 in
theorem take_full (b : LB) (x : FL) (w : World) (h : IsL w b x) (hm : x.m = 0) :
    Calls Try.prog 42 #[.pointer (some ⟨b.p, 0, none⟩)] w fun e w' => e = .returned (.tuple #[.int .u64 0, .int .i64 6]) ∧ w = w' := by
  obtain ⟨h0, -⟩ := h
  rw [hm] at h0
  clear hm
  (have q0 := block_cell h0 0; have q1 := block_cell h0 1; have q2 := block_cell h0 2; have q3 := block_cell h0 3; have f0 := block_free h0 0; have f1 := block_free h0 1; have f2 := block_free h0 2; have f3 := block_free h0 3; have hz := block_lt h0; simp at q0 q1 q2 q3)
  clear h0
  go_enter Try.func42, Try.ntmps42
  go_wp2_with fail
  go_ret2
  exact ⟨rfl, rfl⟩

set_option maxRecDepth 100000 in
set_option maxHeartbeats 2000000 in
theorem take_ok (b : LB) (x : FL) (w : World) (h : IsL w b x) (hi : FInv x) (k : Nat) (hm : x.m = k + 1) :
    Calls Try.prog 42 #[.pointer (some ⟨b.p, 0, none⟩)] w fun e w' => e = .returned (.tuple #[.int .u64 (hMk (x.sk k) (x.gn (x.sk k))), .int .i64 0]) ∧ IsL w' b (takeL x) ∧ KeepL b w w' := by
  obtain ⟨h0, h1, h2, h3⟩ := h
  have hs := (hi.lo k (by omega)).1
  have hg := hi.gn _ hs
  have hmost := hi.g2
  have hn2 := hi.n2
  have hmn := hi.mn
  have c1 := h1.cell (i := k) (by omega)
  have c2 := h2.cell hs
  have c3 := h3.cell hs
  have f1 := h1.free k
  have f2 := h2.free (x.sk k)
  have f3 := h3.free (x.sk k)
  simp only [encI, encS, encU] at c1 c2 c3
  have h0' := h0
  rw [hm] at h0 hmn
  have hmk : mkOK (x.sk k) (x.gn (x.sk k)) := ⟨by omega, hg.1, by omega⟩
  have hw1 : wrap64 ((k : Int)) = (k : Int) := IntWalk.wrap64_in _ (by omega)
  have hlt : ((x.sk k : Nat) : Int) < (x.n : Int) := by omega
  obtain ⟨n1, n2, n3, n4, n5, n6⟩ := isL_ne ⟨h0, h1, h2, h3⟩
  (have q0 := block_cell h0 0; have q1 := block_cell h0 1; have q2 := block_cell h0 2; have q3 := block_cell h0 3; have f0 := block_free h0 0; have f1 := block_free h0 1; have f2 := block_free h0 2; have f3 := block_free h0 3; have hz := block_lt h0; simp at q0 q1 q2 q3)
  have H0 := Lib.hid h0'
  have H1 := Lib.hid h1
  have H2 := Lib.hid h2
  have H3 := Lib.hid h3
  have HMK := Lib.hid hmk
  have HI := Lib.hid hi
  have HM := Lib.hid hm
  clear h0 h0' h1 h2 h3 hmk hi hm
  go_enter Try.func42, Try.ntmps42
  go_wp2_with fail
  go_quiet (fail)
  go_wp2_with fail
  go_region
  go_wp2_with fail
  refine (make_ok _ _ _ HMK.out).mono ?_; rintro e w1 ⟨rfl, rfl⟩
  go_wp2_with fail
  go_ret2
  exact ⟨rfl, take_isL ⟨H0.out, H1.out, H2.out, H3.out⟩ HI.out HM.out _, ((KeepL.refl b w).drewN _).set (.inl rfl) _ _ |>.set (.inr (.inr (.inl rfl))) _ _⟩
end Go.Proofs.Ytfgkbnnojogjpaa

namespace Go.Proofs.Ytfgkbnnojogjpaa
open Go.RowKit

/-- the blocks and the capacities of a list of the reference -/
structure YB extends LB where
  cs : Nat
  ct : Nat
  cg : Nat

def IsY (w : World) (b : YB) (x : FL) : Prop :=
  w.heap[b.p]? = some (.cells #[.int .u64 x.most, .slice (some ⟨b.t, 0, none⟩) x.n b.ct, .slice (some ⟨b.g, 0, none⟩) x.n b.cg, .slice (some ⟨b.s, 0, none⟩) x.m b.cs] 111 (0, 0)) ∧
  Arr w b.s 3 b.cs x.m (fun i => encI (x.sk i)) ∧ Arr w b.t 3 b.ct x.n (fun i => encI (x.st i)) ∧ Arr w b.g 22 b.cg x.n (fun i => encU (x.gn i)) ∧ b.s ≠ b.t ∧ x.n ≤ b.cs

theorem IsY.drewN {w : World} {b : YB} {x : FL} (h : IsY w b x) (n : Nat) : IsY (w.drewN n) b x := h
theorem isY_ne {w : World} {b : YB} {a0 : Array Value} {n1 m1 n2 m2 n3 m3 : Nat} {k1 k2 k3 : Nat → Value} (h : w.heap[b.p]? = some (.cells a0 111 (0, 0)) ∧
    Arr w b.s 3 n1 m1 k1 ∧ Arr w b.t 3 n2 m2 k2 ∧ Arr w b.g 22 n3 m3 k3) : b.p ≠ b.s ∧ b.p ≠ b.t ∧ b.p ≠ b.g ∧ b.s ≠ b.g ∧ b.t ≠ b.g := by
  obtain ⟨h0, ⟨c1, h1, _⟩, ⟨c2, h2, _⟩, ⟨c3, h3, _⟩⟩ := h
  refine ⟨fun e => ?_, fun e => ?_, fun e => ?_, fun e => ?_, fun e => ?_⟩
  · rw [e, h1] at h0; injection h0 with h0; injection h0 with _ h0; revert h0; decide
  · rw [e, h2] at h0; injection h0 with h0; injection h0 with _ h0; revert h0; decide
  · rw [e, h3] at h0; injection h0 with h0; injection h0 with _ h0; revert h0; decide
  · rw [e, h3] at h1; injection h1 with h1; injection h1 with _ h1; revert h1; decide
  · rw [e, h3] at h2; injection h2 with h2; injection h2 with _ h2; revert h2; decide

theorem take_isY {w : World} {b : YB} {x : FL} (h : IsY w b x) (hi : FInv x) {k : Nat} (hm : x.m = k + 1) (n : Nat) :
    IsY (((w.drewN n).setCell ⟨b.p, 3, none⟩ (.slice (some ⟨b.s, 0, none⟩) k b.cs)).setCell ⟨b.t, x.sk k, none⟩ (.int .i64 1)) b (takeL x) := by
  obtain ⟨h0, h1, h2, h3, e4, hc⟩ := h.drewN n
  obtain ⟨e1, e2, e3, e5, e6⟩ := isY_ne ⟨h0, h1, h2, h3⟩
  have hs := (hi.lo k (by omega)).1
  have hk : (takeL x).m = k := by show x.m - 1 = k; omega
  have hst : (takeL x).st = updN x.st (x.sk k) 1 := by show updN x.st (x.sk (x.m - 1)) 1 = _; rw [show x.m - 1 = k by omega]
  refine ⟨?_, ?_, ?_, ?_, e4, hc⟩
  · have := block_setCell_other (block_setCell h0 3 (.slice (some ⟨b.s, 0, none⟩) k b.cs)) (p := ⟨b.t, x.sk k, none⟩) (Ne.symm e2) (.int .i64 1)
    rw [this, hk]
    rfl
  · rw [hk]
    exact ((h1.other (p := ⟨b.p, 3, none⟩) e1 _).other (p := ⟨b.t, x.sk k, none⟩) (Ne.symm e4) _).less (by omega)
  · refine ((h2.other (p := ⟨b.p, 3, none⟩) e2 _).set hs (.int .i64 1)).congr fun i _ => ?_
    rw [hst]
    unfold updN
    split <;> rfl
  · exact (h3.other (p := ⟨b.p, 3, none⟩) e3 _).other (p := ⟨b.t, x.sk k, none⟩) e6 _

set_option maxRecDepth 100000 in
set_option maxHeartbeats 2000000 in
theorem refTake_none (w : World) :
    Calls Try.prog 53 #[.pointer none] w fun e w' => e = .returned (.tuple #[.int .u64 0, .int .i64 1]) ∧ w = w' := by
  go_enter Try.func53, Try.ntmps53
  go_wp2_with fail
  go_ret2
  exact ⟨rfl, rfl⟩

set_option maxRecDepth 100000 in
set_option maxHeartbeats 2000000 in
theorem refTake_full (b : YB) (x : FL) (w : World) (h : IsY w b x) (hm : x.m = 0) :
    Calls Try.prog 53 #[.pointer (some ⟨b.p, 0, none⟩)] w fun e w' => e = .returned (.tuple #[.int .u64 0, .int .i64 6]) ∧ w = w' := by
  obtain ⟨h0, -⟩ := h
  rw [hm] at h0
  clear hm
  (have q0 := block_cell h0 0; have q1 := block_cell h0 1; have q2 := block_cell h0 2; have q3 := block_cell h0 3; have f0 := block_free h0 0; have f1 := block_free h0 1; have f2 := block_free h0 2; have f3 := block_free h0 3; have hz := block_lt h0; simp at q0 q1 q2 q3)
  clear h0
  go_enter Try.func53, Try.ntmps53
  go_wp2_with fail
  go_ret2
  exact ⟨rfl, rfl⟩

set_option maxRecDepth 100000 in
set_option maxHeartbeats 2000000 in
theorem refTake_ok (b : YB) (x : FL) (w : World) (h : IsY w b x) (hi : FInv x) (k : Nat) (hm : x.m = k + 1) :
    Calls Try.prog 53 #[.pointer (some ⟨b.p, 0, none⟩)] w fun e w' => e = .returned (.tuple #[.int .u64 (hMk (x.sk k) (x.gn (x.sk k))), .int .i64 0]) ∧ IsY w' b (takeL x) ∧ KeepL b.toLB w w' := by
  have HY := Lib.hid h
  obtain ⟨h0, h1, h2, h3, n4, hc⟩ := h
  have hs := (hi.lo k (by omega)).1
  have hg := hi.gn _ hs
  have hmost := hi.g2
  have hn2 := hi.n2
  have hmn := hi.mn
  have c1 := h1.cell (i := k) (by omega)
  have c2 := h2.cell hs
  have c3 := h3.cell hs
  have f1 := h1.free k
  have f2 := h2.free (x.sk k)
  have f3 := h3.free (x.sk k)
  have hcc : k + 1 ≤ b.cs := by omega
  simp only [encI, encU] at c1 c2 c3
  rw [hm] at h0 hmn
  have hmk : mkOK (x.sk k) (x.gn (x.sk k)) := ⟨by omega, hg.1, by omega⟩
  have hw1 : wrap64 ((k : Int)) = (k : Int) := IntWalk.wrap64_in _ (by omega)
  have hlt : ((x.sk k : Nat) : Int) < (x.n : Int) := by omega
  obtain ⟨n1, n2, n3, n5, n6⟩ := isY_ne ⟨h0, h1, h2, h3⟩
  (have q0 := block_cell h0 0; have q1 := block_cell h0 1; have q2 := block_cell h0 2; have q3 := block_cell h0 3; have f0 := block_free h0 0; have f1 := block_free h0 1; have f2 := block_free h0 2; have f3 := block_free h0 3; have hz := block_lt h0; simp at q0 q1 q2 q3)
  have HMK := Lib.hid hmk
  have HI := Lib.hid hi
  have HM := Lib.hid hm
  clear h0 h1 h2 h3 hmk hi hm hc
  go_enter Try.func53, Try.ntmps53
  go_wp2_with fail
  go_quiet (fail)
  go_wp2_with fail
  go_region
  go_wp2_with fail
  refine (refMake_ok _ _ _ HMK.out).mono ?_; rintro e w1 ⟨rfl, rfl⟩
  go_wp2_with fail
  go_ret2
  exact ⟨rfl, take_isY HY.out HI.out HM.out _, ((KeepL.refl b.toLB w).drewN _).set (.inl rfl) _ _ |>.set (.inr (.inr (.inl rfl))) _ _⟩
end Go.Proofs.Ytfgkbnnojogjpaa

namespace Go.Proofs.Ytfgkbnnojogjpaa
open Go.RowKit

theorem hOK_mk {h : Int} (hk : hOK h) : ∃ s g : Nat, mkOK s g ∧ h = hMk s g := by
  unfold hOK at hk
  exact ⟨(h % 65536).toNat, (h / 65536).toNat, by unfold mkOK; omega, by unfold hMk; omega⟩
theorem liveL_mk {x : FL} {s g : Nat} (h : mkOK s g) : liveL x (hMk s g) ↔ s < x.n ∧ x.st s = 1 ∧ g = x.gn s := by
  unfold liveL
  rw [hMk_mod h, hMk_div h]
  simp only [Int.toNat_natCast]
  exact ⟨fun k => k.2, fun k => ⟨hMk_ok h, k⟩⟩
theorem hSlot_mk (s g : Nat) (w : World) (h : mkOK s g) :
    Calls Try.prog 86 #[.int .u64 (hMk s g)] w fun e w' => e = .returned (.tuple #[.int .i64 s, .int .i64 0]) ∧ w = w' := by
  have := hSlot_ok _ w (hMk_le h).1 (hMk_le h).2 (hMk_ok h)
  rwa [hMk_mod h] at this
theorem hGen_mk (s g : Nat) (w : World) (h : mkOK s g) :
    Calls Try.prog 87 #[.int .u64 (hMk s g)] w fun e w' => e = .returned (.tuple #[.int .u64 g, .int .i64 0]) ∧ w = w' := by
  have := hGen_ok _ w (hMk_le h).1 (hMk_le h).2 (hMk_ok h)
  rwa [hMk_div h] at this
theorem refSlot_mk (s g : Nat) (w : World) (h : mkOK s g) :
    Calls Try.prog 74 #[.int .u64 (hMk s g)] w fun e w' => e = .returned (.tuple #[.int .i64 s, .int .i64 0]) ∧ w = w' := by
  have := refSlot_ok _ w (hMk_le h).1 (hMk_le h).2 (hMk_ok h)
  rwa [hMk_mod h] at this
theorem refGen_mk (s g : Nat) (w : World) (h : mkOK s g) :
    Calls Try.prog 88 #[.int .u64 (hMk s g)] w fun e w' => e = .returned (.tuple #[.int .u64 g, .int .i64 0]) ∧ w = w' := by
  have := refGen_ok _ w (hMk_le h).1 (hMk_le h).2 (hMk_ok h)
  rwa [hMk_div h] at this

/-- what slot returns of a handle that is not live -/
def SlotNo (e : Ending) : Prop := ∃ a : Int, e = .returned (.tuple #[.int .i64 a, .bool false])

set_option maxRecDepth 100000 in
set_option maxHeartbeats 2000000 in
theorem slot_bad (b : LB) (x : FL) (h : Int) (w : World) (h0 : 0 ≤ h) (h1 : h ≤ 18446744073709551615) (hk : ¬ hOK h) (hl : IsL w b x) :
    Calls Try.prog 72 #[.pointer (some ⟨b.p, 0, none⟩), .int .u64 h] w fun e w' => SlotNo e ∧ ∃ n, w' = w.drewN n := by
  obtain ⟨l0, -⟩ := hl
  (have q0 := block_cell l0 0; have q1 := block_cell l0 1; have q2 := block_cell l0 2; have q3 := block_cell l0 3; have f0 := block_free l0 0; have f1 := block_free l0 1; have f2 := block_free l0 2; have f3 := block_free l0 3; have hz := block_lt l0; simp at q0 q1 q2 q3)
  clear l0
  go_enter Try.func72, Try.ntmps72
  go_wp2_with fail
  refine (hSlot_no _ _ h0 h1 hk).mono ?_; rintro e w1 ⟨rfl, rfl⟩
  go_wp2_with fail
  go_ret2
  exact ⟨⟨_, rfl⟩, 0, rfl⟩

set_option maxRecDepth 100000 in
set_option maxHeartbeats 2000000 in
theorem slot_high (b : LB) (x : FL) (s g : Nat) (w : World) (hk : mkOK s g) (hs : x.n ≤ s) (hl : IsL w b x) :
    Calls Try.prog 72 #[.pointer (some ⟨b.p, 0, none⟩), .int .u64 (hMk s g)] w fun e w' => SlotNo e ∧ ∃ n, w' = w.drewN n := by
  obtain ⟨l0, -⟩ := hl
  (have q0 := block_cell l0 0; have q1 := block_cell l0 1; have q2 := block_cell l0 2; have q3 := block_cell l0 3; have f0 := block_free l0 0; have f1 := block_free l0 1; have f2 := block_free l0 2; have f3 := block_free l0 3; have hz := block_lt l0; simp at q0 q1 q2 q3)
  clear l0
  have HK := Lib.hid hk
  clear hk
  go_enter Try.func72, Try.ntmps72
  go_wp2_with fail
  refine (hSlot_mk _ _ _ HK.out).mono ?_; rintro e w1 ⟨rfl, rfl⟩
  go_wp2_with fail
  go_ret2
  exact ⟨⟨_, rfl⟩, 0, rfl⟩

set_option maxRecDepth 100000 in
set_option maxHeartbeats 2000000 in
theorem slot_free (b : LB) (x : FL) (s g : Nat) (w : World) (hk : mkOK s g) (hs : s < x.n) (hst : x.st s ≠ 1) (hl : IsL w b x) :
    Calls Try.prog 72 #[.pointer (some ⟨b.p, 0, none⟩), .int .u64 (hMk s g)] w fun e w' => SlotNo e ∧ ∃ n, w' = w.drewN n := by
  obtain ⟨l0, l1, l2, l3⟩ := hl
  have c2 := l2.cell hs
  simp only [encS] at c2
  have hsi : ((s : Nat) : Int) < (x.n : Int) := by omega
  have hd : ((x.st s : Int) == 1) = false := by simp; omega
  have hd2 : ((x.st s : Int) != 1) = true := by simp; omega
  (have q0 := block_cell l0 0; have q1 := block_cell l0 1; have q2 := block_cell l0 2; have q3 := block_cell l0 3; have f0 := block_free l0 0; have f1 := block_free l0 1; have f2 := block_free l0 2; have f3 := block_free l0 3; have hz := block_lt l0; simp at q0 q1 q2 q3)
  clear l0 l1 l2 l3 hst
  have HK := Lib.hid hk
  clear hk
  go_enter Try.func72, Try.ntmps72
  go_wp2_with fail
  refine (hSlot_mk _ _ _ HK.out).mono ?_; rintro e w1 ⟨rfl, rfl⟩
  go_wp2_with fail
  go_ret2
  exact ⟨⟨_, rfl⟩, 0, rfl⟩

set_option maxRecDepth 100000 in
set_option maxHeartbeats 2000000 in
theorem slot_taken (b : LB) (x : FL) (s g : Nat) (w : World) (hk : mkOK s g) (hs : s < x.n) (hst : x.st s = 1) (hl : IsL w b x) :
    Calls Try.prog 72 #[.pointer (some ⟨b.p, 0, none⟩), .int .u64 (hMk s g)] w fun e w' => e = .returned (.tuple #[.int .i64 s, .bool ((g : Int) == (x.gn s : Int))]) ∧ ∃ n, w' = w.drewN n := by
  obtain ⟨l0, l1, l2, l3⟩ := hl
  have c2 := l2.cell hs
  have c3 := l3.cell hs
  simp only [encS, encU] at c2 c3
  rw [hst] at c2
  have hsi : ((s : Nat) : Int) < (x.n : Int) := by omega
  (have q0 := block_cell l0 0; have q1 := block_cell l0 1; have q2 := block_cell l0 2; have q3 := block_cell l0 3; have f0 := block_free l0 0; have f1 := block_free l0 1; have f2 := block_free l0 2; have f3 := block_free l0 3; have hz := block_lt l0; simp at q0 q1 q2 q3)
  clear l0 l1 l2 l3 hst
  have HK := Lib.hid hk
  clear hk
  go_enter Try.func72, Try.ntmps72
  go_wp2_with fail
  refine (hSlot_mk _ _ _ HK.out).mono ?_; rintro e w1 ⟨rfl, rfl⟩
  go_wp2_with fail
  refine (hGen_mk _ _ _ HK.out).mono ?_; rintro e w1 ⟨rfl, rfl⟩
  go_wp2_with fail
  go_quiet (fail)
  go_wp2_with fail
  go_ret2
  exact ⟨rfl, _, rfl⟩

theorem slot_live (b : LB) (x : FL) (s g : Nat) (w : World) (hk : mkOK s g) (hs : liveL x (hMk s g)) (hl : IsL w b x) :
    Calls Try.prog 72 #[.pointer (some ⟨b.p, 0, none⟩), .int .u64 (hMk s g)] w fun e w' => e = .returned (.tuple #[.int .i64 s, .bool true]) ∧ ∃ n, w' = w.drewN n := by
  obtain ⟨h1, h2, h3⟩ := (liveL_mk hk).1 hs
  have := slot_taken b x s g w hk h1 h2 hl
  rwa [show ((g : Int) == (x.gn s : Int)) = true by simp; omega] at this
theorem slot_dead (b : LB) (x : FL) (h : Int) (w : World) (h0 : 0 ≤ h) (h1 : h ≤ 18446744073709551615) (hd : ¬ liveL x h) (hl : IsL w b x) :
    Calls Try.prog 72 #[.pointer (some ⟨b.p, 0, none⟩), .int .u64 h] w fun e w' => SlotNo e ∧ ∃ n, w' = w.drewN n := by
  by_cases hk : hOK h
  · obtain ⟨s, g, hm, rfl⟩ := hOK_mk hk
    rw [liveL_mk hm] at hd
    by_cases c1 : s < x.n
    · by_cases c2 : x.st s = 1
      · have := slot_taken b x s g w hm c1 c2 hl
        rw [show ((g : Int) == (x.gn s : Int)) = false by simp; omega] at this
        exact this.mono fun e w' ⟨he, hw⟩ => ⟨⟨_, he⟩, hw⟩
      · exact slot_free b x s g w hm c1 c2 hl
    · exact slot_high b x s g w hm (by omega) hl
  · exact slot_bad b x h w h0 h1 hk hl
end Go.Proofs.Ytfgkbnnojogjpaa

namespace Go.Proofs.Ytfgkbnnojogjpaa
open Go.RowKit

set_option maxRecDepth 100000 in
set_option maxHeartbeats 2000000 in
theorem live_none (h : Int) (w : World) :
    Calls Try.prog 61 #[.pointer none, .int .u64 h] w fun e w' => e = .returned (.bool false) ∧ w = w' := by
  go_enter Try.func61, Try.ntmps61
  go_wp2_with fail
  go_ret
  exact ⟨rfl, rfl⟩

set_option maxRecDepth 100000 in
set_option maxHeartbeats 2000000 in
theorem live_any (b : LB) (x : FL) (h : Int) (w : World) (h0 : 0 ≤ h) (h1 : h ≤ 18446744073709551615) (hl : IsL w b x) :
    Calls Try.prog 61 #[.pointer (some ⟨b.p, 0, none⟩), .int .u64 h] w fun e w' => e = .returned (.bool (decide (liveL x h))) ∧ ∃ n, w' = w.drewN n := by
  by_cases hd : liveL x h
  · obtain ⟨s, g, hm, rfl⟩ := hOK_mk hd.1
    have ed : decide (liveL x (hMk s g)) = true := decide_eq_true hd
    rw [ed]
    have HS := Lib.hid (slot_live b x s g w hm hd hl)
    clear hd hl ed
    go_enter Try.func61, Try.ntmps61
    go_wp2_with fail
    refine HS.out.mono ?_; rintro e w1 ⟨rfl, n, rfl⟩
    go_wp2_with fail
    go_ret
    exact ⟨rfl, _, rfl⟩
  · have ed : decide (liveL x h) = false := decide_eq_false hd
    rw [ed]
    have HS := Lib.hid (slot_dead b x h w h0 h1 hd hl)
    clear hd hl ed
    go_enter Try.func61, Try.ntmps61
    go_wp2_with fail
    refine HS.out.mono ?_; rintro e w1 ⟨⟨a, rfl⟩, n, rfl⟩
    go_wp2_with fail
    go_ret
    exact ⟨rfl, _, rfl⟩

set_option maxRecDepth 100000 in
set_option maxHeartbeats 2000000 in
theorem give_none (h : Int) (w : World) :
    Calls Try.prog 55 #[.pointer none, .int .u64 h] w fun e w' => e = .returned (.tuple #[.bool false, .int .i64 1]) ∧ w = w' := by
  go_enter Try.func55, Try.ntmps55
  go_wp2_with fail
  go_ret2
  exact ⟨rfl, rfl⟩

set_option maxRecDepth 100000 in
set_option maxHeartbeats 2000000 in
theorem give_dead (b : LB) (x : FL) (h : Int) (w : World) (h0 : 0 ≤ h) (h1 : h ≤ 18446744073709551615) (hd : ¬ liveL x h) (hl : IsL w b x) :
    Calls Try.prog 55 #[.pointer (some ⟨b.p, 0, none⟩), .int .u64 h] w fun e w' => e = .returned (.tuple #[.bool false, .int .i64 10]) ∧ ∃ n, w' = w.drewN n := by
  have HS := Lib.hid (slot_dead b x h w h0 h1 hd hl)
  clear hd hl
  go_enter Try.func55, Try.ntmps55
  go_wp2_with fail
  refine HS.out.mono ?_; rintro e w1 ⟨⟨a, rfl⟩, n, rfl⟩
  go_wp2_with fail
  go_ret2
  exact ⟨rfl, _, rfl⟩

theorem give_last_isL {w : World} {b : LB} {x : FL} (h : IsL w b x) {s : Nat} (hs : s < x.n) (hg : x.gn s = x.most) (n : Nat) :
    IsL ((w.drewN n).setCell ⟨b.t, s, none⟩ (.int .u8 2)) b (giveL x s) := by
  obtain ⟨e1, e2, e3, e4, e5, e6⟩ := isL_ne h
  obtain ⟨h0, h1, h2, h3⟩ := h.drewN n
  unfold giveL
  rw [if_pos hg]
  refine ⟨block_setCell_other h0 (p := ⟨b.t, s, none⟩) (Ne.symm e2) _, h1.other (p := ⟨b.t, s, none⟩) (Ne.symm e4) _, ?_, h3.other (p := ⟨b.t, s, none⟩) e6 _⟩
  refine (h2.set hs (.int .u8 2)).congr fun i _ => ?_
  show _ = encS (updN x.st s 2 i)
  unfold updN
  split <;> rfl

set_option maxRecDepth 100000 in
set_option maxHeartbeats 2000000 in
theorem give_last (b : LB) (x : FL) (s g : Nat) (w : World) (hm : mkOK s g) (hd : liveL x (hMk s g)) (hl : IsL w b x) (hg : x.gn s = x.most) :
    Calls Try.prog 55 #[.pointer (some ⟨b.p, 0, none⟩), .int .u64 (hMk s g)] w fun e w' => e = .returned (.tuple #[.bool true, .int .i64 0]) ∧ IsL w' b (giveL x s) ∧ KeepL b w w' := by
  have HS := Lib.hid (slot_live b x s g w hm hd hl)
  have HL := Lib.hid hl
  obtain ⟨s1, s2, s3⟩ := (liveL_mk hm).1 hd
  obtain ⟨l0, l1, l2, l3⟩ := hl
  have c2 := l2.cell s1
  have c3 := l3.cell s1
  have f2' := l2.free s
  simp only [encS, encU] at c2 c3
  have hsi : ((s : Nat) : Int) < (x.n : Int) := by omega
  rw [hg] at c3
  (have q0 := block_cell l0 0; have q1 := block_cell l0 1; have q2 := block_cell l0 2; have q3 := block_cell l0 3; have f0 := block_free l0 0; have f1 := block_free l0 1; have f2 := block_free l0 2; have f3 := block_free l0 3; have hz := block_lt l0; simp at q0 q1 q2 q3)
  clear l0 l1 l2 l3 hd hm s2 s3
  have HG := Lib.hid hg
  clear hg
  go_enter Try.func55, Try.ntmps55
  go_wp2_with fail
  refine HS.out.mono ?_; rintro e w1 ⟨rfl, n, rfl⟩
  go_wp2_with fail
  go_quiet (fail)
  go_wp2_with fail
  go_ret2
  exact ⟨rfl, give_last_isL HL.out s1 HG.out _, ((KeepL.refl b w).drewN _).set (.inr (.inr (.inl rfl))) _ _⟩
end Go.Proofs.Ytfgkbnnojogjpaa

namespace Go.Proofs.Ytfgkbnnojogjpaa
open Go.RowKit

theorem Arr.own {w : World} {b : Nat} {t : TypeId} {cap m : Nat} {f : Nat → Value} (h : Arr w b t cap m f) (hc : cap ≤ maxLen) :
    w.ownsRow b t 1 (.slice (some ⟨b, 0, none⟩) m cap) m ((List.range m).map f) := by
  obtain ⟨cur, h1, h2, h3, h4⟩ := h
  refine ⟨by simp, .inr ⟨b, cap, cur, rfl, Nat.le_refl _, h1, h3, hc, by omega, ?_⟩⟩
  apply List.ext_getElem?
  intro i
  rw [List.getElem?_take]
  by_cases hi : i < m
  · rw [if_pos (by omega), Array.getElem?_toList, h4 i hi]
    simp [hi]
  · rw [if_neg (by omega), List.getElem?_eq_none (by simp; omega)]
theorem Arr.of_own {w : World} {b base : Nat} {t : TypeId} {cap m : Nat} {f : Nat → Value} (h : w.ownsRow base t 1 (.slice (some ⟨b, 0, none⟩) m cap) m ((List.range m).map f)) : Arr w b t cap m f := by
  obtain ⟨-, ⟨h, -⟩ | ⟨g, cap', cur, h1, -, h2, h3, -, h4, h5⟩⟩ := h
  · cases h
  · cases h1
    refine ⟨cur, h2, by omega, h3, fun i hi => ?_⟩
    have := congrArg (fun l => l[i]?) h5
    simp only [List.getElem?_take, Array.getElem?_toList] at this
    rw [if_pos (by omega)] at this
    rw [this]
    simp [hi]
theorem range_snoc (m s : Nat) (f : Nat → Nat) (e : Nat → Value) : (List.range m).map (fun i => e (f i)) ++ [e s] = (List.range (m + 1)).map (fun i => e (updN f m s i)) := by
  rw [List.range_succ, List.map_append]
  congr 1
  · apply List.map_congr_left
    intro i hi
    rw [updN_other _ (Nat.ne_of_lt (List.mem_range.1 hi))]
  · simp [updN_same]
theorem KeepL.grown {b : LB} {w w1 w2 : World} (h : KeepL b w w1) (hg : w1.grownBy w2 (some b.s)) : KeepL b w w2 := by
  have hsz := (h.1 0 (Nat.zero_le _) (Nat.zero_le _) (Nat.zero_le _) (Nat.zero_le _) (Nat.zero_le _)).size
  refine ⟨fun B h0 h1 h2 h3 h4 => (h.1 B h0 h1 h2 h3 h4).grown hg (Nat.le_trans h0 hsz) (fun k hk => by injection hk with hk; omega), fun r hr r1 r2 r3 r4 => ?_⟩
  rw [hg.block r (Nat.lt_of_lt_of_le hr hsz) (fun e => by injection e with e; omega)]
  exact h.2 r hr r1 r2 r3 r4

/-- the world before the append -/
def givW (w : World) (b : LB) (x : FL) (s n : Nat) : World :=
  (((w.drewN n).setCell ⟨b.g, s, none⟩ (.int .u64 ((x.gn s : Int) + 1))).setCell ⟨b.t, s, none⟩ (.int .u8 0)).alloc (.cells #[.int .i64 s] 3)

theorem give_push_isL {w : World} {b : LB} {x : FL} (h : IsL w b x) {s : Nat} (hs : s < x.n) (hg : x.gn s ≠ x.most) {n : Nat} {w2 : World}
    (ho : w2.ownsRow b.s 3 1 (.slice (some ⟨b.s, 0, none⟩) (x.m + 1) x.n) (x.m + 1) ((List.range x.m).map (fun i => encI (x.sk i)) ++ [encI s])) (hw : (givW w b x s n).grownBy w2 (some b.s)) :
    IsL (w2.setCell ⟨b.p, 0, none⟩ (.slice (some ⟨b.s, 0, none⟩) (x.m + 1) x.n)) b (giveL x s) := by
  obtain ⟨e1, e2, e3, e4, e5, e6⟩ := isL_ne h
  obtain ⟨h0, h1, h2, h3⟩ := h.drewN n
  unfold giveL
  rw [if_neg hg]
  rw [range_snoc] at ho
  have a0 := block_alloc (block_setCell_other (block_setCell_other h0 (p := ⟨b.g, s, none⟩) (Ne.symm e3) (.int .u64 ((x.gn s : Int) + 1))) (p := ⟨b.t, s, none⟩) (Ne.symm e2) (.int .u8 0)) (.cells #[.int .i64 s] 3)
  have a2 := ((h2.other (p := ⟨b.g, s, none⟩) (Ne.symm e6) (.int .u64 ((x.gn s : Int) + 1))).set hs (.int .u8 0)).alloc (.cells #[.int .i64 s] 3)
  have a3 := ((h3.set hs (.int .u64 ((x.gn s : Int) + 1))).other (p := ⟨b.t, s, none⟩) e6 (.int .u8 0)).alloc (.cells #[.int .i64 s] 3)
  have k0 : w2.heap[b.p]? = _ := (hw.block b.p (block_lt a0) (fun e => by injection e with e; omega)).trans a0
  have k2 := a2.keep (hw.block b.t a2.lt (fun e => by injection e with e; omega))
  have k3 := a3.keep (hw.block b.g a3.lt (fun e => by injection e with e; omega))
  refine ⟨?_, ?_, ?_, ?_⟩
  · have := block_setCell k0 0 (.slice (some ⟨b.s, 0, none⟩) (x.m + 1) x.n)
    rw [this]
    rfl
  · exact (Arr.of_own ho).other (p := ⟨b.p, 0, none⟩) e1 _
  · refine (k2.other (p := ⟨b.p, 0, none⟩) e2 _).congr fun i _ => ?_
    show _ = encS (updN x.st s 0 i)
    unfold updN
    split <;> rfl
  · refine (k3.other (p := ⟨b.p, 0, none⟩) e3 _).congr fun i _ => ?_
    show _ = encU (updN x.gn s (x.gn s + 1) i)
    unfold updN
    split <;> rfl

theorem infoI : (Try.prog.info? 3).map (fun i => (i.zero, i.size, i.bytes)) = some (some (.int .i64 0), 1, 8) := by kernel_rfl
theorem givW_cell (w : World) (b : LB) (x : FL) (s n : Nat) : ∀ j u, [encI s][j]? = some u → (givW w b x s n).cell? ((⟨w.heap.size, 0, none⟩ : Addr).add j) = some u := by
  have := cell_one_new (((w.drewN n).setCell ⟨b.g, s, none⟩ (.int .u64 ((x.gn s : Int) + 1))).setCell ⟨b.t, s, none⟩ (.int .u8 0)) (encI s) 3
  have e : (((w.drewN n).setCell ⟨b.g, s, none⟩ (.int .u64 ((x.gn s : Int) + 1))).setCell ⟨b.t, s, none⟩ (.int .u8 0)).heap.size = w.heap.size := by simp [World.setCell]
  rw [e] at this
  exact this
theorem givW_head {w : World} {b : LB} {x : FL} (h : IsL w b x) {s n : Nat} {w2 : World} (hw : (givW w b x s n).grownBy w2 (some b.s)) :
    w2.heap[b.p]? = some (.cells #[.slice (some ⟨b.s, 0, none⟩) x.m x.n, .slice (some ⟨b.t, 0, none⟩) x.n x.n, .slice (some ⟨b.g, 0, none⟩) x.n x.n, .int .u64 x.most] 109 (0, 0)) := by
  obtain ⟨e1, e2, e3, e4, e5, e6⟩ := isL_ne h
  obtain ⟨h0, h1, h2, h3⟩ := h.drewN n
  have a0 := block_alloc (block_setCell_other (block_setCell_other h0 (p := ⟨b.g, s, none⟩) (Ne.symm e3) (.int .u64 ((x.gn s : Int) + 1))) (p := ⟨b.t, s, none⟩) (Ne.symm e2) (.int .u8 0)) (.cells #[.int .i64 s] 3)
  exact (hw.block b.p (block_lt a0) (fun e => by injection e with e; omega)).trans a0
theorem givW_own {w : World} {b : LB} {x : FL} (h : IsL w b x) (hi : FInv x) (s n : Nat) : (givW w b x s n).ownsRow b.s 3 1 (.slice (some ⟨b.s, 0, none⟩) x.m x.n) x.m ((List.range x.m).map (fun i => encI (x.sk i))) := by
  obtain ⟨e1, e2, e3, e4, e5, e6⟩ := isL_ne h
  obtain ⟨h0, h1, h2, h3⟩ := h.drewN n
  have := hi.n2
  exact Arr.own (((h1.other (p := ⟨b.g, s, none⟩) (Ne.symm e5) _).other (p := ⟨b.t, s, none⟩) (Ne.symm e4) _).alloc _) (by unfold maxLen; omega)

set_option maxRecDepth 100000 in
set_option maxHeartbeats 2000000 in
theorem give_push (b : LB) (x : FL) (s g : Nat) (w : World) (hm : mkOK s g) (hd : liveL x (hMk s g)) (hl : IsL w b x) (hi : FInv x) (hg : x.gn s ≠ x.most) :
    Calls Try.prog 55 #[.pointer (some ⟨b.p, 0, none⟩), .int .u64 (hMk s g)] w fun e w' => e = .returned (.tuple #[.bool false, .int .i64 0]) ∧ IsL w' b (giveL x s) ∧ KeepL b w w' := by
  obtain ⟨i0, hi0, hz0, hz1, hz2⟩ := info_parts infoI
  have HS := Lib.hid (slot_live b x s g w hm hd hl)
  have HL := Lib.hid hl
  have HOWN := Lib.hid (givW_own hl hi s)
  have HCELL := Lib.hid (givW_cell w b x s)
  obtain ⟨s1, s2, s3⟩ := (liveL_mk hm).1 hd
  have hroom := room hi s1 (by omega)
  have hgs := hi.gn s s1
  have hmost := hi.g2
  obtain ⟨n1, n2, n3, n4, n5, n6⟩ := isL_ne hl
  obtain ⟨l0, l1, l2, l3⟩ := hl
  have c2 := l2.cell s1
  have c3 := l3.cell s1
  have f2' := l2.free s
  have f3' := l3.free s
  simp only [encS, encU] at c2 c3
  have hsi : ((s : Nat) : Int) < (x.n : Int) := by omega
  have hge : ((x.gn s : Int) == (x.most : Int)) = false := by simp; omega
  (have q0 := block_cell l0 0; have q1 := block_cell l0 1; have q2 := block_cell l0 2; have q3 := block_cell l0 3; have f0 := block_free l0 0; have f1 := block_free l0 1; have f2 := block_free l0 2; have f3 := block_free l0 3; have hz := block_lt l0; simp at q0 q1 q2 q3)
  clear l0 l1 l2 l3 hd hm s2 s3 hz2
  have HG := Lib.hid hg
  have HROOM := Lib.hid hroom
  clear hroom hg
  go_enter Try.func55, Try.ntmps55
  go_wp2_with fail
  refine HS.out.mono ?_; rintro e w1 ⟨rfl, n, rfl⟩
  go_wp2_with fail
  go_quiet (fail)
  go_wp2_with (at_builtin; refine wpList_append_fits _ rfl _ _ 46 rfl b.s 3 i0 1 Try.underlying46 hi0 hz1 b.s x.m x.n _ rfl (HOWN.out _) ⟨w.heap.size, 0, none⟩ 1 1 [encI s] rfl rfl (HCELL.out _) (by intro u hu; simp at hu; subst hu; rfl) HROOM.out ?_)
  intro w2 ho hw
  have p0 := givW_head HL.out hw
  have r0 := block_cell p0 0
  have r1 := block_free p0 0
  simp at r0
  have HO := Lib.hid ho
  have HW := Lib.hid hw
  clear p0 ho hw
  go_wp2_with fail
  go_ret2
  exact ⟨rfl, give_push_isL HL.out s1 HG.out HO.out HW.out, ((((((KeepL.refl b w).drewN _).set (.inr (.inr (.inr rfl))) _ _).set (.inr (.inr (.inl rfl))) _ _).alloc _).grown HW.out).set (.inl rfl) _ _⟩
end Go.Proofs.Ytfgkbnnojogjpaa

namespace Go.Proofs.Ytfgkbnnojogjpaa
open Go.RowKit

set_option maxRecDepth 100000 in
set_option maxHeartbeats 2000000 in
theorem refLive_none (h : Int) (w : World) :
    Calls Try.prog 73 #[.pointer none, .int .u64 h] w fun e w' => e = .returned (.bool false) ∧ ∃ n, w' = w.drewN n := by
  go_enter Try.func73, Try.ntmps73
  go_wp2_with fail
  go_ret
  exact ⟨rfl, 0, rfl⟩

set_option maxRecDepth 100000 in
set_option maxHeartbeats 2000000 in
theorem refLive_bad (b : YB) (x : FL) (h : Int) (w : World) (h0 : 0 ≤ h) (h1 : h ≤ 18446744073709551615) (hk : ¬ hOK h) (hl : IsY w b x) :
    Calls Try.prog 73 #[.pointer (some ⟨b.p, 0, none⟩), .int .u64 h] w fun e w' => e = .returned (.bool false) ∧ ∃ n, w' = w.drewN n := by
  obtain ⟨l0, -⟩ := hl
  (have q0 := block_cell l0 0; have q1 := block_cell l0 1; have q2 := block_cell l0 2; have q3 := block_cell l0 3; have f0 := block_free l0 0; have f1 := block_free l0 1; have f2 := block_free l0 2; have f3 := block_free l0 3; have hz := block_lt l0; simp at q0 q1 q2 q3)
  clear l0
  go_enter Try.func73, Try.ntmps73
  go_wp2_with fail
  refine (refSlot_no _ _ h0 h1 hk).mono ?_; rintro e w1 ⟨rfl, rfl⟩
  go_wp2_with fail
  go_ret
  exact ⟨rfl, 0, rfl⟩

set_option maxRecDepth 100000 in
set_option maxHeartbeats 2000000 in
theorem refLive_high (b : YB) (x : FL) (s g : Nat) (w : World) (hk : mkOK s g) (hs : x.n ≤ s) (hl : IsY w b x) :
    Calls Try.prog 73 #[.pointer (some ⟨b.p, 0, none⟩), .int .u64 (hMk s g)] w fun e w' => e = .returned (.bool false) ∧ ∃ n, w' = w.drewN n := by
  obtain ⟨l0, -⟩ := hl
  (have q0 := block_cell l0 0; have q1 := block_cell l0 1; have q2 := block_cell l0 2; have q3 := block_cell l0 3; have f0 := block_free l0 0; have f1 := block_free l0 1; have f2 := block_free l0 2; have f3 := block_free l0 3; have hz := block_lt l0; simp at q0 q1 q2 q3)
  clear l0
  have HK := Lib.hid hk
  clear hk
  go_enter Try.func73, Try.ntmps73
  go_wp2_with fail
  refine (refSlot_mk _ _ _ HK.out).mono ?_; rintro e w1 ⟨rfl, rfl⟩
  go_wp2_with fail
  go_ret
  exact ⟨rfl, 0, rfl⟩

set_option maxRecDepth 100000 in
set_option maxHeartbeats 2000000 in
theorem refLive_free (b : YB) (x : FL) (s g : Nat) (w : World) (hk : mkOK s g) (hs : s < x.n) (hst : x.st s ≠ 1) (hl : IsY w b x) :
    Calls Try.prog 73 #[.pointer (some ⟨b.p, 0, none⟩), .int .u64 (hMk s g)] w fun e w' => e = .returned (.bool false) ∧ ∃ n, w' = w.drewN n := by
  obtain ⟨l0, l1, l2, l3, -⟩ := hl
  have c2 := l2.cell hs
  simp only [encI] at c2
  have hsi : ((s : Nat) : Int) < (x.n : Int) := by omega
  have hd : ((x.st s : Int) == 1) = false := by simp; omega
  have hd2 : ((x.st s : Int) != 1) = true := by simp; omega
  (have q0 := block_cell l0 0; have q1 := block_cell l0 1; have q2 := block_cell l0 2; have q3 := block_cell l0 3; have f0 := block_free l0 0; have f1 := block_free l0 1; have f2 := block_free l0 2; have f3 := block_free l0 3; have hz := block_lt l0; simp at q0 q1 q2 q3)
  clear l0 l1 l2 l3 hst
  have HK := Lib.hid hk
  clear hk
  go_enter Try.func73, Try.ntmps73
  go_wp2_with fail
  refine (refSlot_mk _ _ _ HK.out).mono ?_; rintro e w1 ⟨rfl, rfl⟩
  go_wp2_with fail
  go_ret
  exact ⟨rfl, 0, rfl⟩

set_option maxRecDepth 100000 in
set_option maxHeartbeats 2000000 in
theorem refLive_taken (b : YB) (x : FL) (s g : Nat) (w : World) (hk : mkOK s g) (hs : s < x.n) (hst : x.st s = 1) (hl : IsY w b x) :
    Calls Try.prog 73 #[.pointer (some ⟨b.p, 0, none⟩), .int .u64 (hMk s g)] w fun e w' => e = .returned (.bool ((g : Int) == (x.gn s : Int))) ∧ ∃ n, w' = w.drewN n := by
  obtain ⟨l0, l1, l2, l3, -⟩ := hl
  have c2 := l2.cell hs
  have c3 := l3.cell hs
  simp only [encI, encU] at c2 c3
  rw [hst] at c2
  have hsi : ((s : Nat) : Int) < (x.n : Int) := by omega
  (have q0 := block_cell l0 0; have q1 := block_cell l0 1; have q2 := block_cell l0 2; have q3 := block_cell l0 3; have f0 := block_free l0 0; have f1 := block_free l0 1; have f2 := block_free l0 2; have f3 := block_free l0 3; have hz := block_lt l0; simp at q0 q1 q2 q3)
  clear l0 l1 l2 l3 hst
  have HK := Lib.hid hk
  clear hk
  go_enter Try.func73, Try.ntmps73
  go_wp2_with fail
  refine (refSlot_mk _ _ _ HK.out).mono ?_; rintro e w1 ⟨rfl, rfl⟩
  go_wp2_with fail
  refine (refGen_mk _ _ _ HK.out).mono ?_; rintro e w1 ⟨rfl, rfl⟩
  go_wp2_with fail
  go_ret
  exact ⟨rfl, 0, rfl⟩

theorem refLive_any (b : YB) (x : FL) (h : Int) (w : World) (h0 : 0 ≤ h) (h1 : h ≤ 18446744073709551615) (hl : IsY w b x) :
    Calls Try.prog 73 #[.pointer (some ⟨b.p, 0, none⟩), .int .u64 h] w fun e w' => e = .returned (.bool (decide (liveL x h))) ∧ ∃ n, w' = w.drewN n := by
  by_cases hk : hOK h
  · obtain ⟨s, g, hm, rfl⟩ := hOK_mk hk
    by_cases c1 : s < x.n
    · by_cases c2 : x.st s = 1
      · have := refLive_taken b x s g w hm c1 c2 hl
        rwa [show ((g : Int) == (x.gn s : Int)) = decide (liveL x (hMk s g)) by
          by_cases c3 : g = x.gn s
          · rw [decide_eq_true ((liveL_mk hm).2 ⟨c1, c2, c3⟩)]; simp [c3]
          · rw [decide_eq_false (fun k => c3 ((liveL_mk hm).1 k).2.2)]; simp; omega] at this
      · have := refLive_free b x s g w hm c1 c2 hl
        rwa [show false = decide (liveL x (hMk s g)) from (decide_eq_false (by rw [liveL_mk hm]; omega)).symm] at this
    · have := refLive_high b x s g w hm (by omega) hl
      rwa [show false = decide (liveL x (hMk s g)) from (decide_eq_false (by rw [liveL_mk hm]; omega)).symm] at this
  · have := refLive_bad b x h w h0 h1 hk hl
    rwa [show false = decide (liveL x h) from (decide_eq_false (fun k => hk k.1)).symm] at this

set_option maxRecDepth 100000 in
set_option maxHeartbeats 2000000 in
theorem refGive_none (h : Int) (w : World) :
    Calls Try.prog 57 #[.pointer none, .int .u64 h] w fun e w' => e = .returned (.tuple #[.bool false, .int .i64 1]) ∧ w = w' := by
  go_enter Try.func57, Try.ntmps57
  go_wp2_with fail
  go_ret2
  exact ⟨rfl, rfl⟩

set_option maxRecDepth 100000 in
set_option maxHeartbeats 2000000 in
theorem refGive_dead (b : YB) (x : FL) (h : Int) (w : World) (h0 : 0 ≤ h) (h1 : h ≤ 18446744073709551615) (hd : ¬ liveL x h) (hl : IsY w b x) :
    Calls Try.prog 57 #[.pointer (some ⟨b.p, 0, none⟩), .int .u64 h] w fun e w' => e = .returned (.tuple #[.bool false, .int .i64 10]) ∧ ∃ n, w' = w.drewN n := by
  have HS := refLive_any b x h w h0 h1 hl
  rw [decide_eq_false hd] at HS
  have HS := Lib.hid HS
  clear hd hl
  go_enter Try.func57, Try.ntmps57
  go_wp2_with fail
  refine HS.out.mono ?_; rintro e w1 ⟨rfl, n, rfl⟩
  go_wp2_with fail
  go_ret2
  exact ⟨rfl, _, rfl⟩

theorem refGive_last_isY {w : World} {b : YB} {x : FL} (h : IsY w b x) {s : Nat} (hs : s < x.n) (hg : x.gn s = x.most) (n : Nat) :
    IsY ((w.drewN n).setCell ⟨b.t, s, none⟩ (.int .i64 2)) b (giveL x s) := by
  obtain ⟨h0, h1, h2, h3, e4, hc⟩ := h.drewN n
  obtain ⟨e1, e2, e3, e5, e6⟩ := isY_ne ⟨h0, h1, h2, h3⟩
  unfold giveL
  rw [if_pos hg]
  refine ⟨block_setCell_other h0 (p := ⟨b.t, s, none⟩) (Ne.symm e2) _, h1.other (p := ⟨b.t, s, none⟩) (Ne.symm e4) _, ?_, h3.other (p := ⟨b.t, s, none⟩) e6 _, e4, hc⟩
  refine (h2.set hs (.int .i64 2)).congr fun i _ => ?_
  show _ = encI (updN x.st s 2 i)
  unfold updN
  split <;> rfl

set_option maxRecDepth 100000 in
set_option maxHeartbeats 2000000 in
theorem refGive_last (b : YB) (x : FL) (s g : Nat) (w : World) (hm : mkOK s g) (hd : liveL x (hMk s g)) (hl : IsY w b x) (hg : x.gn s = x.most) :
    Calls Try.prog 57 #[.pointer (some ⟨b.p, 0, none⟩), .int .u64 (hMk s g)] w fun e w' => e = .returned (.tuple #[.bool true, .int .i64 0]) ∧ IsY w' b (giveL x s) ∧ KeepL b.toLB w w' := by
  have HS := refLive_any b x (hMk s g) w (hMk_le hm).1 (hMk_le hm).2 hl
  rw [decide_eq_true hd] at HS
  have HS := Lib.hid HS
  have HL := Lib.hid hl
  obtain ⟨s1, s2, s3⟩ := (liveL_mk hm).1 hd
  obtain ⟨l0, l1, l2, l3, -⟩ := hl
  have c2 := l2.cell s1
  have c3 := l3.cell s1
  have f2' := l2.free s
  simp only [encI, encU] at c2 c3
  have hsi : ((s : Nat) : Int) < (x.n : Int) := by omega
  rw [hg] at c3
  (have q0 := block_cell l0 0; have q1 := block_cell l0 1; have q2 := block_cell l0 2; have q3 := block_cell l0 3; have f0 := block_free l0 0; have f1 := block_free l0 1; have f2 := block_free l0 2; have f3 := block_free l0 3; have hz := block_lt l0; simp at q0 q1 q2 q3)
  clear l0 l1 l2 l3 hd s2 s3
  have HG := Lib.hid hg
  have HM := Lib.hid hm
  clear hm hg
  go_enter Try.func57, Try.ntmps57
  go_wp2_with fail
  refine HS.out.mono ?_; rintro e w1 ⟨rfl, n, rfl⟩
  go_wp2_with fail
  refine (refSlot_mk _ _ _ HM.out).mono ?_; rintro e w1 ⟨rfl, rfl⟩
  go_wp2_with fail
  go_quiet (fail)
  go_wp2_with fail
  go_ret2
  exact ⟨rfl, refGive_last_isY HL.out s1 HG.out _, ((KeepL.refl b.toLB w).drewN _).set (.inr (.inr (.inl rfl))) _ _⟩
end Go.Proofs.Ytfgkbnnojogjpaa

namespace Go.Proofs.Ytfgkbnnojogjpaa
open Go.RowKit

/-- the world before the append -/
def givY (w : World) (b : YB) (x : FL) (s n : Nat) : World :=
  (((w.drewN n).setCell ⟨b.g, s, none⟩ (.int .u64 ((x.gn s : Int) + 1))).setCell ⟨b.t, s, none⟩ (.int .i64 0)).alloc (.cells #[.int .i64 s] 3)

theorem refGive_push_isY {w : World} {b : YB} {x : FL} (h : IsY w b x) {s : Nat} (hs : s < x.n) (hg : x.gn s ≠ x.most) {n : Nat} {w2 : World}
    (ho : w2.ownsRow b.s 3 1 (.slice (some ⟨b.s, 0, none⟩) (x.m + 1) b.cs) (x.m + 1) ((List.range x.m).map (fun i => encI (x.sk i)) ++ [encI s])) (hw : (givY w b x s n).grownBy w2 (some b.s)) :
    IsY (w2.setCell ⟨b.p, 3, none⟩ (.slice (some ⟨b.s, 0, none⟩) (x.m + 1) b.cs)) b (giveL x s) := by
  obtain ⟨h0, h1, h2, h3, e4, hc⟩ := h.drewN n
  obtain ⟨e1, e2, e3, e5, e6⟩ := isY_ne ⟨h0, h1, h2, h3⟩
  unfold giveL
  rw [if_neg hg]
  rw [range_snoc] at ho
  have a0 := block_alloc (block_setCell_other (block_setCell_other h0 (p := ⟨b.g, s, none⟩) (Ne.symm e3) (.int .u64 ((x.gn s : Int) + 1))) (p := ⟨b.t, s, none⟩) (Ne.symm e2) (.int .i64 0)) (.cells #[.int .i64 s] 3)
  have a2 := ((h2.other (p := ⟨b.g, s, none⟩) (Ne.symm e6) (.int .u64 ((x.gn s : Int) + 1))).set hs (.int .i64 0)).alloc (.cells #[.int .i64 s] 3)
  have a3 := ((h3.set hs (.int .u64 ((x.gn s : Int) + 1))).other (p := ⟨b.t, s, none⟩) e6 (.int .i64 0)).alloc (.cells #[.int .i64 s] 3)
  have k0 : w2.heap[b.p]? = _ := (hw.block b.p (block_lt a0) (fun e => by injection e with e; omega)).trans a0
  have k2 := a2.keep (hw.block b.t a2.lt (fun e => by injection e with e; omega))
  have k3 := a3.keep (hw.block b.g a3.lt (fun e => by injection e with e; omega))
  refine ⟨?_, ?_, ?_, ?_, e4, hc⟩
  · have := block_setCell k0 3 (.slice (some ⟨b.s, 0, none⟩) (x.m + 1) b.cs)
    rw [this]
    rfl
  · exact (Arr.of_own ho).other (p := ⟨b.p, 3, none⟩) e1 _
  · refine (k2.other (p := ⟨b.p, 3, none⟩) e2 _).congr fun i _ => ?_
    show _ = encI (updN x.st s 0 i)
    unfold updN
    split <;> rfl
  · refine (k3.other (p := ⟨b.p, 3, none⟩) e3 _).congr fun i _ => ?_
    show _ = encU (updN x.gn s (x.gn s + 1) i)
    unfold updN
    split <;> rfl

theorem givY_cell (w : World) (b : YB) (x : FL) (s n : Nat) : ∀ j u, [encI s][j]? = some u → (givY w b x s n).cell? ((⟨w.heap.size, 0, none⟩ : Addr).add j) = some u := by
  have := cell_one_new (((w.drewN n).setCell ⟨b.g, s, none⟩ (.int .u64 ((x.gn s : Int) + 1))).setCell ⟨b.t, s, none⟩ (.int .i64 0)) (encI s) 3
  have e : (((w.drewN n).setCell ⟨b.g, s, none⟩ (.int .u64 ((x.gn s : Int) + 1))).setCell ⟨b.t, s, none⟩ (.int .i64 0)).heap.size = w.heap.size := by simp [World.setCell]
  rw [e] at this
  exact this
theorem givY_head {w : World} {b : YB} {x : FL} (h : IsY w b x) {s n : Nat} {w2 : World} (hw : (givY w b x s n).grownBy w2 (some b.s)) :
    w2.heap[b.p]? = some (.cells #[.int .u64 x.most, .slice (some ⟨b.t, 0, none⟩) x.n b.ct, .slice (some ⟨b.g, 0, none⟩) x.n b.cg, .slice (some ⟨b.s, 0, none⟩) x.m b.cs] 111 (0, 0)) := by
  obtain ⟨h0, h1, h2, h3, e4, hc⟩ := h.drewN n
  obtain ⟨e1, e2, e3, e5, e6⟩ := isY_ne ⟨h0, h1, h2, h3⟩
  have a0 := block_alloc (block_setCell_other (block_setCell_other h0 (p := ⟨b.g, s, none⟩) (Ne.symm e3) (.int .u64 ((x.gn s : Int) + 1))) (p := ⟨b.t, s, none⟩) (Ne.symm e2) (.int .i64 0)) (.cells #[.int .i64 s] 3)
  exact (hw.block b.p (block_lt a0) (fun e => by injection e with e; omega)).trans a0
theorem givY_own {w : World} {b : YB} {x : FL} (h : IsY w b x) (hcs : b.cs ≤ maxLen) (s n : Nat) : (givY w b x s n).ownsRow b.s 3 1 (.slice (some ⟨b.s, 0, none⟩) x.m b.cs) x.m ((List.range x.m).map (fun i => encI (x.sk i))) := by
  obtain ⟨h0, h1, h2, h3, e4, hc⟩ := h.drewN n
  obtain ⟨e1, e2, e3, e5, e6⟩ := isY_ne ⟨h0, h1, h2, h3⟩
  exact Arr.own (((h1.other (p := ⟨b.g, s, none⟩) (Ne.symm e5) _).other (p := ⟨b.t, s, none⟩) (Ne.symm e4) _).alloc _) hcs

set_option maxRecDepth 100000 in
set_option maxHeartbeats 2000000 in
theorem refGive_push (b : YB) (x : FL) (s g : Nat) (w : World) (hm : mkOK s g) (hd : liveL x (hMk s g)) (hl : IsY w b x) (hi : FInv x) (hg : x.gn s ≠ x.most) (hcs : b.cs ≤ maxLen) :
    Calls Try.prog 57 #[.pointer (some ⟨b.p, 0, none⟩), .int .u64 (hMk s g)] w fun e w' => e = .returned (.tuple #[.bool false, .int .i64 0]) ∧ IsY w' b (giveL x s) ∧ KeepL b.toLB w w' := by
  obtain ⟨i0, hi0, hz0, hz1, hz2⟩ := info_parts infoI
  have HS := refLive_any b x (hMk s g) w (hMk_le hm).1 (hMk_le hm).2 hl
  rw [decide_eq_true hd] at HS
  have HS := Lib.hid HS
  have HL := Lib.hid hl
  have HOWN := Lib.hid (givY_own hl hcs s)
  have HCELL := Lib.hid (givY_cell w b x s)
  obtain ⟨s1, s2, s3⟩ := (liveL_mk hm).1 hd
  have hroom := room hi s1 (by omega)
  have hgs := hi.gn s s1
  have hmost := hi.g2
  obtain ⟨l0, l1, l2, l3, n4, hc⟩ := hl
  obtain ⟨n1, n2, n3, n5, n6⟩ := isY_ne ⟨l0, l1, l2, l3⟩
  have hroom2 : x.m + 1 ≤ b.cs := by omega
  have c2 := l2.cell s1
  have c3 := l3.cell s1
  have f2' := l2.free s
  have f3' := l3.free s
  simp only [encI, encU] at c2 c3
  have hsi : ((s : Nat) : Int) < (x.n : Int) := by omega
  have hge : ((x.gn s : Int) == (x.most : Int)) = false := by simp; omega
  have hwr : IntKind.u64.wrap ((x.gn s : Int) + 1) = (x.gn s : Int) + 1 := IntWalk.u64_in _ (by omega)
  (have q0 := block_cell l0 0; have q1 := block_cell l0 1; have q2 := block_cell l0 2; have q3 := block_cell l0 3; have f0 := block_free l0 0; have f1 := block_free l0 1; have f2 := block_free l0 2; have f3 := block_free l0 3; have hz := block_lt l0; simp at q0 q1 q2 q3)
  clear l0 l1 l2 l3 hd s2 s3 hz2 hroom hc hcs
  have HG := Lib.hid hg
  have HROOM2 := Lib.hid hroom2
  have HM := Lib.hid hm
  have HI := Lib.hid hi
  clear hi hm hroom2 hg
  go_enter Try.func57, Try.ntmps57
  go_wp2_with fail
  refine HS.out.mono ?_; rintro e w1 ⟨rfl, n, rfl⟩
  go_wp2_with fail
  refine (refSlot_mk _ _ _ HM.out).mono ?_; rintro e w1 ⟨rfl, rfl⟩
  go_wp2_with fail
  go_quiet (fail)
  go_wp2_with fail
  go_region
  go_wp2_with (at_builtin; refine wpList_append_fits _ rfl _ _ 46 rfl b.s 3 i0 1 Try.underlying46 hi0 hz1 b.s x.m b.cs _ rfl (HOWN.out _) ⟨w.heap.size, 0, none⟩ 1 1 [encI s] rfl rfl (HCELL.out _) (by intro u hu; simp at hu; subst hu; rfl) HROOM2.out ?_)
  intro w2 ho hw
  have p0 := givY_head HL.out hw
  have r0 := block_cell p0 3
  have r1 := block_free p0 3
  simp at r0
  have HO := Lib.hid ho
  have HW := Lib.hid hw
  clear p0 ho hw
  go_wp2_with fail
  go_ret2
  exact ⟨rfl, refGive_push_isY HL.out s1 HG.out HO.out HW.out, ((((((KeepL.refl b.toLB w).drewN _).set (.inr (.inr (.inr rfl))) _ _).set (.inr (.inr (.inl rfl))) _ _).alloc _).grown HW.out).set (.inl rfl) _ _⟩
end Go.Proofs.Ytfgkbnnojogjpaa

namespace Go.Proofs.Ytfgkbnnojogjpaa
open Go.RowKit

theorem drew2 (w : World) (m n : Nat) : ∃ k, (w.drewN m).drewN n = w.drewN k := ⟨m + n, by simp only [World.drewN, Nat.add_assoc]⟩
/-- the slice v has n elements, f 0, f 1, .. -/
def Sl (w : World) (v : Value) (n : Nat) (f : Nat → Value) : Prop :=
  ∃ (ao : Option Addr) (c : Nat), v = .slice ao n c ∧ (0 < n → ∃ b o, ao = some ⟨b, o, none⟩ ∧ ∀ i, i < n → w.cell? ⟨b, o + i, none⟩ = some (f i))
theorem Sl.drewN {w : World} {v : Value} {n : Nat} {f : Nat → Value} (h : Sl w v n f) (m : Nat) : Sl (w.drewN m) v n f := h

def EqTo (n : Nat) (f g : Nat → Int) : Prop := ∀ i, i < n → f i = g i
instance (n : Nat) (f g : Nat → Int) : Decidable (EqTo n f g) := Nat.decidableBallLT n fun i _ => f i = g i

set_option maxRecDepth 100000 in
set_option maxHeartbeats 2000000 in
theorem equalInts_len (w : World) (v v' : Value) (n n' : Nat) (f g : Nat → Value) (h : Sl w v n f) (h' : Sl w v' n' g) (hne : n ≠ n') :
    Calls Try.prog 41 #[v, v'] w fun e w' => e = .returned (.bool false) ∧ ∃ m, w' = w.drewN m := by
  obtain ⟨ao, c, rfl, -⟩ := h
  obtain ⟨ao', c', rfl, -⟩ := h'
  have hd : ((n : Int) == (n' : Int)) = false := by simp; omega
  have hd2 : ((n : Int) != (n' : Int)) = true := by simp; omega
  clear hne
  go_enter Try.func41, Try.ntmps41
  go_wp2_with fail
  go_ret
  exact ⟨rfl, 0, rfl⟩

set_option maxRecDepth 100000 in
set_option maxHeartbeats 2000000 in
theorem equalInts_same (w : World) (v v' : Value) (n : Nat) (f g : Nat → Int) (h : Sl w v n (fun i => .int .i64 (f i))) (h' : Sl w v' n (fun i => .int .i64 (g i))) (hn : n ≤ 9223372036854775807) :
    Calls Try.prog 41 #[v, v'] w fun e w' => e = .returned (.bool (decide (EqTo n f g))) ∧ ∃ m, w' = w.drewN m := by
  obtain ⟨ao, c, rfl, hc⟩ := h
  obtain ⟨ao', c', rfl, hc'⟩ := h'
  have HC := Lib.hid hc
  have HC' := Lib.hid hc'
  clear hc hc'
  go_enter Try.func41, Try.ntmps41
  go_wp2_with fail
  go_loopw [5] (fun i wr => ∃ k : Nat, k ≤ n ∧ i = .int .i64 k ∧ EqTo k f g ∧ ∃ m, wr = w.drewN m) (fun i _ => n - (intOf i).toNat)
  case atStart => exact ⟨0, Nat.zero_le _, rfl, fun i hi => absurd hi (Nat.not_lt_zero _), 0, rfl⟩
  case round =>
    obtain ⟨k, hk, rfl, heq, m, rfl⟩ := hrel
    have HEQ := Lib.hid heq
    clear heq
    by_cases hlt : k < n
    · obtain ⟨b, o, rfl, hcell⟩ := HC.out (by omega)
      obtain ⟨b', o', rfl, hcell'⟩ := HC'.out (by omega)
      have q := hcell k hlt
      have q' := hcell' k hlt
      have hk1 : (k : Int) < (n : Int) := by omega
      clear hcell hcell'
      by_cases he : f k = g k
      · rw [← he] at q'
        have heq2 : EqTo (k + 1) f g := fun i hi => by
          by_cases e : i = k
          · rw [e]; exact he
          · exact HEQ.out i (by omega)
        have HEQ2 := Lib.hid heq2
        clear heq2 he
        go_wp2_with fail
        go_quiet (fail)
        go_wp2_with fail
        go_roundw
        case rel => exact ⟨k + 1, by omega, by go_num, HEQ2.out, _, rfl⟩
        case measure => simp [intOf]; omega
      · have e : decide (EqTo n f g) = false := decide_eq_false fun h => he (h k hlt)
        have HE := Lib.hid e
        have hne : (f k == g k) = false := by simpa using he
        have hne2 : (f k != g k) = true := by simpa using he
        clear e he
        go_wp2_with fail
        go_quiet (fail)
        go_wp2_with fail
        go_ret
        exact ⟨congrArg (fun b => Ending.returned (.bool b)) HE.out.symm, drew2 _ _ _⟩
    · obtain rfl : k = n := by omega
      have e : decide (EqTo k f g) = true := decide_eq_true HEQ.out
      have HE := Lib.hid e
      clear e
      go_wp2_with fail
      go_ret
      exact ⟨congrArg (fun b => Ending.returned (.bool b)) HE.out.symm, _, rfl⟩

theorem equalInts_any (w : World) (v v' : Value) (n n' : Nat) (f g : Nat → Int) (h : Sl w v n (fun i => .int .i64 (f i))) (h' : Sl w v' n' (fun i => .int .i64 (g i))) (hn : n ≤ 9223372036854775807) :
    Calls Try.prog 41 #[v, v'] w fun e w' => e = .returned (.bool (decide (n = n' ∧ EqTo n f g))) ∧ ∃ m, w' = w.drewN m := by
  by_cases e : n = n'
  · subst e
    have := equalInts_same w v v' n f g h h' hn
    rwa [show decide (EqTo n f g) = decide (n = n ∧ EqTo n f g) from decide_eq_decide.2 ⟨fun h => ⟨rfl, h⟩, fun h => h.2⟩] at this
  · rw [show decide (n = n' ∧ EqTo n f g) = false from decide_eq_false fun h => e h.1]
    exact equalInts_len w v v' n n' _ _ h h' e

set_option maxRecDepth 100000 in
set_option maxHeartbeats 2000000 in
theorem equalHandles_len (w : World) (v v' : Value) (n n' : Nat) (f g : Nat → Value) (h : Sl w v n f) (h' : Sl w v' n' g) (hne : n ≠ n') :
    Calls Try.prog 38 #[v, v'] w fun e w' => e = .returned (.bool false) ∧ ∃ m, w' = w.drewN m := by
  obtain ⟨ao, c, rfl, -⟩ := h
  obtain ⟨ao', c', rfl, -⟩ := h'
  have hd : ((n : Int) == (n' : Int)) = false := by simp; omega
  have hd2 : ((n : Int) != (n' : Int)) = true := by simp; omega
  clear hne
  go_enter Try.func38, Try.ntmps38
  go_wp2_with fail
  go_ret
  exact ⟨rfl, 0, rfl⟩

set_option maxRecDepth 100000 in
set_option maxHeartbeats 2000000 in
theorem equalHandles_same (w : World) (v v' : Value) (n : Nat) (f g : Nat → Int) (h : Sl w v n (fun i => .int .u64 (f i))) (h' : Sl w v' n (fun i => .int .u64 (g i))) (hn : n ≤ 9223372036854775807) :
    Calls Try.prog 38 #[v, v'] w fun e w' => e = .returned (.bool (decide (EqTo n f g))) ∧ ∃ m, w' = w.drewN m := by
  obtain ⟨ao, c, rfl, hc⟩ := h
  obtain ⟨ao', c', rfl, hc'⟩ := h'
  have HC := Lib.hid hc
  have HC' := Lib.hid hc'
  clear hc hc'
  go_enter Try.func38, Try.ntmps38
  go_wp2_with fail
  go_loopw [5] (fun i wr => ∃ k : Nat, k ≤ n ∧ i = .int .i64 k ∧ EqTo k f g ∧ ∃ m, wr = w.drewN m) (fun i _ => n - (intOf i).toNat)
  case atStart => exact ⟨0, Nat.zero_le _, rfl, fun i hi => absurd hi (Nat.not_lt_zero _), 0, rfl⟩
  case round =>
    obtain ⟨k, hk, rfl, heq, m, rfl⟩ := hrel
    have HEQ := Lib.hid heq
    clear heq
    by_cases hlt : k < n
    · obtain ⟨b, o, rfl, hcell⟩ := HC.out (by omega)
      obtain ⟨b', o', rfl, hcell'⟩ := HC'.out (by omega)
      have q := hcell k hlt
      have q' := hcell' k hlt
      have hk1 : (k : Int) < (n : Int) := by omega
      clear hcell hcell'
      by_cases he : f k = g k
      · rw [← he] at q'
        have heq2 : EqTo (k + 1) f g := fun i hi => by
          by_cases e : i = k
          · rw [e]; exact he
          · exact HEQ.out i (by omega)
        have HEQ2 := Lib.hid heq2
        clear heq2 he
        go_wp2_with fail
        go_quiet (fail)
        go_wp2_with fail
        go_roundw
        case rel => exact ⟨k + 1, by omega, by go_num, HEQ2.out, _, rfl⟩
        case measure => simp [intOf]; omega
      · have e : decide (EqTo n f g) = false := decide_eq_false fun h => he (h k hlt)
        have HE := Lib.hid e
        have hne : (f k == g k) = false := by simpa using he
        have hne2 : (f k != g k) = true := by simpa using he
        clear e he
        go_wp2_with fail
        go_quiet (fail)
        go_wp2_with fail
        go_ret
        exact ⟨congrArg (fun b => Ending.returned (.bool b)) HE.out.symm, drew2 _ _ _⟩
    · obtain rfl : k = n := by omega
      have e : decide (EqTo k f g) = true := decide_eq_true HEQ.out
      have HE := Lib.hid e
      clear e
      go_wp2_with fail
      go_ret
      exact ⟨congrArg (fun b => Ending.returned (.bool b)) HE.out.symm, _, rfl⟩

theorem equalHandles_any (w : World) (v v' : Value) (n n' : Nat) (f g : Nat → Int) (h : Sl w v n (fun i => .int .u64 (f i))) (h' : Sl w v' n' (fun i => .int .u64 (g i))) (hn : n ≤ 9223372036854775807) :
    Calls Try.prog 38 #[v, v'] w fun e w' => e = .returned (.bool (decide (n = n' ∧ EqTo n f g))) ∧ ∃ m, w' = w.drewN m := by
  by_cases e : n = n'
  · subst e
    have := equalHandles_same w v v' n f g h h' hn
    rwa [show decide (EqTo n f g) = decide (n = n ∧ EqTo n f g) from decide_eq_decide.2 ⟨fun h => ⟨rfl, h⟩, fun h => h.2⟩] at this
  · rw [show decide (n = n' ∧ EqTo n f g) = false from decide_eq_false fun h => e h.1]
    exact equalHandles_len w v v' n n' _ _ h h' e
end Go.Proofs.Ytfgkbnnojogjpaa

namespace Go.Proofs.Ytfgkbnnojogjpaa
open Go.RowKit

/-- the slots below k with the state s, in ascending order -/
def slotsTo (x : FL) (s k : Nat) : List Nat := (List.range k).filter fun i => decide (x.st i = s)
theorem slotsTo_yes {x : FL} {s k : Nat} (h : x.st k = s) : slotsTo x s (k + 1) = slotsTo x s k ++ [k] := by
  unfold slotsTo; rw [List.range_succ, List.filter_append]; simp [h]
theorem slotsTo_no {x : FL} {s k : Nat} (h : x.st k ≠ s) : slotsTo x s (k + 1) = slotsTo x s k := by
  unfold slotsTo; rw [List.range_succ, List.filter_append]; simp [h]
theorem slotsTo_len (x : FL) (s k : Nat) : (slotsTo x s k).length ≤ k := by
  have := List.length_filter_le (fun i => decide (x.st i = s)) (List.range k)
  simpa [slotsTo] using this
theorem encI_one (l : List Nat) : ∀ u ∈ l.map encI, u.oneCell' = true := by
  intro u hu
  obtain ⟨b, _, rfl⟩ := List.mem_map.1 hu
  rfl

set_option maxRecDepth 100000 in
set_option maxHeartbeats 2000000 in
theorem slots_any (b : LB) (x : FL) (s : Nat) (w : World) (hl : IsL w b x) (hn : x.n ≤ 16384) :
    Calls Try.prog 63 #[.pointer (some ⟨b.p, 0, none⟩), .int .u8 s] w fun e w' => ∃ v, e = .returned v ∧ w'.ownsRow w.heap.size 3 1 v (slotsTo x s x.n).length ((slotsTo x s x.n).map encI) ∧ Below w.heap.size w w' := by
  obtain ⟨i0, hi, hz0, hz1, hz2⟩ := info_parts infoI
  obtain ⟨l0, l1, l2, l3⟩ := hl
  have HT := Lib.hid l2
  have HTL := Lib.hid l2.lt
  (have q0 := block_cell l0 0; have q1 := block_cell l0 1; have q2 := block_cell l0 2; have q3 := block_cell l0 3; have f0 := block_free l0 0; have f1 := block_free l0 1; have f2 := block_free l0 2; have f3 := block_free l0 3; have hz := block_lt l0; simp at q0 q1 q2 q3)
  clear l0 l1 l2 l3
  go_enter Try.func63, Try.ntmps63
  go_wp2_with fail
  go_loopw [5, 16] (fun a i wr => ∃ k : Nat, k ≤ x.n ∧ i = .int .i64 k ∧ wr.ownsRow w.heap.size 3 1 a (slotsTo x s k).length ((slotsTo x s k).map encI) ∧ Below w.heap.size w wr) (fun _ i _ => x.n - (intOf i).toNat)
  case atStart => exact ⟨0, Nat.zero_le _, rfl, ⟨rfl, .inl ⟨rfl, rfl⟩⟩, Below.refl _ _⟩
  case round =>
    obtain ⟨k, hk, rfl, hown, hbr⟩ := hrel
    have hsz := hbr.size
    have HO := Lib.hid hown
    have HB := Lib.hid hbr
    by_cases hlt : k < x.n
    · have c : wr.cell? ⟨b.t, k, none⟩ = some (.int .u8 (x.st k)) := (HT.out.keep (hbr.block b.t HTL.out)).cell hlt
      have hk1 : (k : Int) < (x.n : Int) := by omega
      clear hown hbr
      by_cases he : x.st k = s
      · rw [he] at c
        have HE := Lib.hid he
        have HOA : ∀ A, (wr.alloc A).ownsRow w.heap.size 3 1 u5 (slotsTo x s k).length ((slotsTo x s k).map encI) := fun A => HO.out.alloc A
        have HHO := Lib.hid HOA
        have HHN := Lib.hid (cell_one_new wr (encI k) 3)
        have HLEN := Lib.hid (slotsTo_len x s k)
        clear HOA he
        go_wp2_with (at_builtin; refine wpList_append_own_at _ rfl _ _ 46 rfl w.heap.size 3 i0 (.int .i64 0) 1 8 Try.underlying46 hi hz0 hz1 hz2 rfl (by decide) _ (slotsTo x s k).length ((slotsTo x s k).map encI) rfl (HHO.out _) ⟨wr.heap.size, 0, none⟩ 1 _ [encI k] rfl rfl HHN.out (encI_one [k]) ?c3 ?c4 ?c5 ?_)
        case c3 => unfold maxLen; have := HLEN.out; omega
        case c4 => have := HLEN.out; omega
        case c5 => have := HLEN.out; simp; omega
        intro v' w1 hown1 hgrow _ hblk
        have hbr2 : Below w.heap.size w w1 := (HB.out.alloc hsz _).grown hgrow (Nat.le_trans hsz (by simp)) (fun q hq => by
          obtain ⟨_, ⟨e1, _⟩ | ⟨g, cap, cur, e1, e2, _⟩⟩ := HO.out
          · rw [e1] at hq; cases hq
          · rw [e1] at hq; injection hq with hq; subst hq; exact e2)
        have hown2 : w1.ownsRow w.heap.size 3 1 v' (slotsTo x s (k + 1)).length ((slotsTo x s (k + 1)).map encI) := by
          rw [slotsTo_yes HE.out, List.map_append, List.length_append]
          exact hown1
        have HO2 := Lib.hid hown2
        have HB2 := Lib.hid hbr2
        clear hown1 hgrow hblk hbr2 hown2
        go_wp2_with fail
        go_roundw
        case rel => exact ⟨k + 1, by omega, by go_num, HO2.out, HB2.out⟩
        case measure => simp [intOf]; omega
      · have HE := Lib.hid he
        have hne : ((x.st k : Int) == (s : Int)) = false := by simp; omega
        clear he
        go_wp2_with fail
        go_roundw
        case rel => exact ⟨k + 1, by omega, by go_num, by rw [slotsTo_no HE.out]; exact HO.out, HB.out⟩
        case measure => simp [intOf]; omega
    · obtain rfl : k = x.n := by omega
      clear hown hbr
      go_wp2_with fail
      go_ret
      exact ⟨_, rfl, HO.out, HB.out⟩
end Go.Proofs.Ytfgkbnnojogjpaa

namespace Go.Proofs.Ytfgkbnnojogjpaa
open Go.RowKit

set_option maxRecDepth 100000 in
set_option maxHeartbeats 2000000 in
theorem slots_none (s : Nat) (w : World) :
    Calls Try.prog 63 #[.pointer none, .int .u8 s] w fun e w' => e = .returned (.slice none 0 0) ∧ w = w' := by
  go_enter Try.func63, Try.ntmps63
  go_wp2_with fail
  go_ret
  exact ⟨rfl, rfl⟩

set_option maxRecDepth 100000 in
set_option maxHeartbeats 2000000 in
theorem withdrawn_none (w : World) :
    Calls Try.prog 45 #[.pointer none] w fun e w' => e = .returned (.slice none 0 0) ∧ w = w' := by
  go_enter Try.func45, Try.ntmps45
  go_wp2_with fail
  refine (slots_none 2 _).mono ?_; rintro e w1 ⟨rfl, rfl⟩
  go_wp2_with fail
  go_ret
  exact ⟨rfl, rfl⟩

/-- the result is a new slice of these numbers; nothing that was there is written -/
def NewIs (w : World) (l : List Nat) (e : Ending) (w' : World) : Prop := ∃ v, e = .returned v ∧ w'.ownsRow w.heap.size 3 1 v l.length (l.map encI) ∧ Below w.heap.size w w'

set_option maxRecDepth 100000 in
set_option maxHeartbeats 2000000 in
theorem withdrawn_any (b : LB) (x : FL) (w : World) (hl : IsL w b x) (hn : x.n ≤ 16384) :
    Calls Try.prog 45 #[.pointer (some ⟨b.p, 0, none⟩)] w fun e w' => NewIs w (slotsTo x 2 x.n) e w' := by
  have HS := Lib.hid (slots_any b x 2 w hl hn)
  clear hl
  go_enter Try.func45, Try.ntmps45
  go_wp2_with fail
  refine HS.out.mono ?_; rintro e w1 ⟨v, rfl, ho, hb⟩
  have HO := Lib.hid ho
  have HB := Lib.hid hb
  clear ho hb
  go_wp2_with fail
  go_ret
  exact ⟨_, rfl, HO.out, HB.out⟩

set_option maxRecDepth 100000 in
set_option maxHeartbeats 2000000 in
theorem refWithdrawn_none (w : World) :
    Calls Try.prog 76 #[.pointer none] w fun e w' => e = .returned (.slice none 0 0) ∧ w = w' := by
  go_enter Try.func76, Try.ntmps76
  go_wp2_with fail
  go_ret
  exact ⟨rfl, rfl⟩

set_option maxRecDepth 100000 in
set_option maxHeartbeats 2000000 in
theorem refWithdrawn_any (b : YB) (x : FL) (w : World) (hl : IsY w b x) (hn : x.n ≤ 16384) :
    Calls Try.prog 76 #[.pointer (some ⟨b.p, 0, none⟩)] w fun e w' => NewIs w (slotsTo x 2 x.n) e w' := by
  obtain ⟨i0, hi, hz0, hz1, hz2⟩ := info_parts infoI
  obtain ⟨l0, l1, l2, l3, -⟩ := hl
  have HT := Lib.hid l2
  have HTL := Lib.hid l2.lt
  have HP := Lib.hid l0
  have HPL := Lib.hid (block_lt l0)
  clear l0 l1 l2 l3
  go_enter Try.func76, Try.ntmps76
  go_wp2_with fail
  go_loopw [3, 4] (fun a i wr => ∃ k : Nat, k ≤ x.n ∧ i = .int .i64 k ∧ wr.ownsRow w.heap.size 3 1 a (slotsTo x 2 k).length ((slotsTo x 2 k).map encI) ∧ Below w.heap.size w wr) (fun _ i _ => x.n - (intOf i).toNat)
  case atStart => exact ⟨0, Nat.zero_le _, rfl, ⟨rfl, .inl ⟨rfl, rfl⟩⟩, Below.refl _ _⟩
  case round =>
    obtain ⟨k, hk, rfl, hown, hbr⟩ := hrel
    have hsz := hbr.size
    have HO := Lib.hid hown
    have HB := Lib.hid hbr
    have hp := block_below hbr HP.out HPL.out
    (have q0 := block_cell hp 0; have q1 := block_cell hp 1; have q2 := block_cell hp 2; have q3 := block_cell hp 3; have f0 := block_free hp 0; have f1 := block_free hp 1; have f2 := block_free hp 2; have f3 := block_free hp 3; have hz := block_lt hp; simp at q0 q1 q2 q3)
    by_cases hlt : k < x.n
    · have c : wr.cell? ⟨b.t, k, none⟩ = some (.int .i64 (x.st k)) := (HT.out.keep (hbr.block b.t HTL.out)).cell hlt
      have hk1 : (k : Int) < (x.n : Int) := by omega
      clear hown hbr hp
      by_cases he : x.st k = 2
      · rw [he] at c
        have HE := Lib.hid he
        have HOA : ∀ A, (wr.alloc A).ownsRow w.heap.size 3 1 u3 (slotsTo x 2 k).length ((slotsTo x 2 k).map encI) := fun A => HO.out.alloc A
        have HHO := Lib.hid HOA
        have HHN := Lib.hid (cell_one_new wr (encI k) 3)
        have HLEN := Lib.hid (slotsTo_len x 2 k)
        clear HOA he
        go_wp2_with (at_builtin; refine wpList_append_own_at _ rfl _ _ 46 rfl w.heap.size 3 i0 (.int .i64 0) 1 8 Try.underlying46 hi hz0 hz1 hz2 rfl (by decide) _ (slotsTo x 2 k).length ((slotsTo x 2 k).map encI) rfl (HHO.out _) ⟨wr.heap.size, 0, none⟩ 1 _ [encI k] rfl rfl HHN.out (encI_one [k]) ?c3 ?c4 ?c5 ?_)
        case c3 => unfold maxLen; have := HLEN.out; omega
        case c4 => have := HLEN.out; omega
        case c5 => have := HLEN.out; simp; omega
        intro v' w1 hown1 hgrow _ hblk
        have hbr2 : Below w.heap.size w w1 := (HB.out.alloc hsz _).grown hgrow (Nat.le_trans hsz (by simp)) (fun q hq => by
          obtain ⟨_, ⟨e1, _⟩ | ⟨g, cap, cur, e1, e2, _⟩⟩ := HO.out
          · rw [e1] at hq; cases hq
          · rw [e1] at hq; injection hq with hq; subst hq; exact e2)
        have hown2 : w1.ownsRow w.heap.size 3 1 v' (slotsTo x 2 (k + 1)).length ((slotsTo x 2 (k + 1)).map encI) := by
          rw [slotsTo_yes HE.out, List.map_append, List.length_append]
          exact hown1
        have HO2 := Lib.hid hown2
        have HB2 := Lib.hid hbr2
        clear hown1 hgrow hblk hbr2 hown2
        go_wp2_with fail
        go_roundw
        case rel => exact ⟨k + 1, by omega, by go_num, HO2.out, HB2.out⟩
        case measure => simp [intOf]; omega
      · have HE := Lib.hid he
        have hne : ((x.st k : Int) == 2) = false := by simp; omega
        clear he
        go_wp2_with fail
        go_roundw
        case rel => exact ⟨k + 1, by omega, by go_num, by rw [slotsTo_no HE.out]; exact HO.out, HB.out⟩
        case measure => simp [intOf]; omega
    · obtain rfl : k = x.n := by omega
      clear hown hbr hp
      go_wp2_with fail
      go_ret
      exact ⟨_, rfl, HO.out, HB.out⟩
end Go.Proofs.Ytfgkbnnojogjpaa

namespace Go.Proofs.Ytfgkbnnojogjpaa
open Go.RowKit

def encH (x : FL) (s : Nat) : Value := .int .u64 (hMk s (x.gn s))
theorem encH_one (x : FL) (l : List Nat) : ∀ u ∈ l.map (encH x), u.oneCell' = true := by
  intro u hu
  obtain ⟨b, _, rfl⟩ := List.mem_map.1 hu
  rfl
theorem infoH : (Try.prog.info? 31).map (fun i => (i.zero, i.size, i.bytes)) = some (some (.int .u64 0), 1, 8) := by kernel_rfl
theorem mkOK_of {x : FL} (h : FInv x) {k : Nat} (hk : k < x.n) : mkOK k (x.gn k) := by
  have h1 := h.gn k hk
  have h2 := h.n2
  have h3 := h.g2
  unfold mkOK
  omega
/-- the result is a new slice of the live handles, in the order of their slots -/
def NewHs (w : World) (x : FL) (e : Ending) (w' : World) : Prop := ∃ v, e = .returned v ∧ w'.ownsRow w.heap.size 31 1 v (slotsTo x 1 x.n).length ((slotsTo x 1 x.n).map (encH x)) ∧ Below w.heap.size w w'

set_option maxRecDepth 100000 in
set_option maxHeartbeats 2000000 in
theorem refHandles_any (b : YB) (x : FL) (w : World) (hl : IsY w b x) (hfi : FInv x) :
    Calls Try.prog 77 #[.pointer (some ⟨b.p, 0, none⟩)] w fun e w' => NewHs w x e w' := by
  obtain ⟨i0, hi, hz0, hz1, hz2⟩ := info_parts infoH
  obtain ⟨l0, l1, l2, l3, -⟩ := hl
  have hn := hfi.n2
  have HF := Lib.hid hfi
  have HT := Lib.hid l2
  have HG := Lib.hid l3
  have HGL := Lib.hid l3.lt
  have HTL := Lib.hid l2.lt
  have HP := Lib.hid l0
  have HPL := Lib.hid (block_lt l0)
  clear l0 l1 l2 l3 hfi
  go_enter Try.func77, Try.ntmps77
  go_wp2_with fail
  go_loopw [3, 4] (fun a i wr => ∃ k : Nat, k ≤ x.n ∧ i = .int .i64 k ∧ wr.ownsRow w.heap.size 31 1 a (slotsTo x 1 k).length ((slotsTo x 1 k).map (encH x)) ∧ Below w.heap.size w wr) (fun _ i _ => x.n - (intOf i).toNat)
  case atStart => exact ⟨0, Nat.zero_le _, rfl, ⟨rfl, .inl ⟨rfl, rfl⟩⟩, Below.refl _ _⟩
  case round =>
    obtain ⟨k, hk, rfl, hown, hbr⟩ := hrel
    have hsz := hbr.size
    have HO := Lib.hid hown
    have HB := Lib.hid hbr
    have hp := block_below hbr HP.out HPL.out
    (have q0 := block_cell hp 0; have q1 := block_cell hp 1; have q2 := block_cell hp 2; have q3 := block_cell hp 3; have f0 := block_free hp 0; have f1 := block_free hp 1; have f2 := block_free hp 2; have f3 := block_free hp 3; have hz := block_lt hp; simp at q0 q1 q2 q3)
    by_cases hlt : k < x.n
    · have hbr0 := HB
      have c : wr.cell? ⟨b.t, k, none⟩ = some (.int .i64 (x.st k)) := (HT.out.keep (hbr.block b.t HTL.out)).cell hlt
      have hk1 : (k : Int) < (x.n : Int) := by omega
      clear hown hbr hp
      by_cases he : x.st k = 1
      · rw [he] at c
        have HE := Lib.hid he
        have c3 : wr.cell? ⟨b.g, k, none⟩ = some (.int .u64 (x.gn k)) := (HG.out.keep (hbr0.out.block b.g HGL.out)).cell hlt
        have HMK := Lib.hid (mkOK_of HF.out hlt)
        clear hbr0
        have HOA : ∀ A, (wr.alloc A).ownsRow w.heap.size 31 1 u3 (slotsTo x 1 k).length ((slotsTo x 1 k).map (encH x)) := fun A => HO.out.alloc A
        have HHO := Lib.hid HOA
        have HHN := Lib.hid (cell_one_new wr (encH x k) 31)
        have HLEN := Lib.hid (slotsTo_len x 1 k)
        clear HOA he
        go_wp2_with fail
        refine (refMake_ok _ _ _ HMK.out).mono ?_; rintro e w1 ⟨rfl, rfl⟩
        go_wp2_with (at_builtin; refine wpList_append_own_at _ rfl _ _ 53 rfl w.heap.size 31 i0 (.int .u64 0) 1 8 Try.underlying53 hi hz0 hz1 hz2 rfl (by decide) _ (slotsTo x 1 k).length ((slotsTo x 1 k).map (encH x)) rfl (HHO.out _) ⟨wr.heap.size, 0, none⟩ 1 _ [encH x k] rfl rfl HHN.out (encH_one x [k]) ?c3 ?c4 ?c5 ?_)
        case c3 => unfold maxLen; have := HLEN.out; omega
        case c4 => have := HLEN.out; omega
        case c5 => have := HLEN.out; simp; omega
        intro v' w1 hown1 hgrow _ hblk
        have hbr2 : Below w.heap.size w w1 := (HB.out.alloc hsz _).grown hgrow (Nat.le_trans hsz (by simp)) (fun q hq => by
          obtain ⟨_, ⟨e1, _⟩ | ⟨g, cap, cur, e1, e2, _⟩⟩ := HO.out
          · rw [e1] at hq; cases hq
          · rw [e1] at hq; injection hq with hq; subst hq; exact e2)
        have hown2 : w1.ownsRow w.heap.size 31 1 v' (slotsTo x 1 (k + 1)).length ((slotsTo x 1 (k + 1)).map (encH x)) := by
          rw [slotsTo_yes HE.out, List.map_append, List.length_append]
          exact hown1
        have HO2 := Lib.hid hown2
        have HB2 := Lib.hid hbr2
        clear hown1 hgrow hblk hbr2 hown2
        go_wp2_with fail
        go_roundw
        case rel => exact ⟨k + 1, by omega, by go_num, HO2.out, HB2.out⟩
        case measure => simp [intOf]; omega
      · clear hbr0
        have HE := Lib.hid he
        have hne : ((x.st k : Int) == 1) = false := by simp; omega
        clear he
        go_wp2_with fail
        go_roundw
        case rel => exact ⟨k + 1, by omega, by go_num, by rw [slotsTo_no HE.out]; exact HO.out, HB.out⟩
        case measure => simp [intOf]; omega
    · obtain rfl : k = x.n := by omega
      clear hown hbr hp
      go_wp2_with fail
      go_ret
      exact ⟨_, rfl, HO.out, HB.out⟩
end Go.Proofs.Ytfgkbnnojogjpaa

namespace Go.Proofs.Ytfgkbnnojogjpaa
open Go.RowKit

/-- the value is a slice of n elements of its own (no block below B), f 0, f 1, .. -/
def Rs (w : World) (B : Nat) (t : TypeId) (v : Value) (n : Nat) (f : Nat → Value) : Prop :=
  ∃ (ao : Option Addr) (c : Nat), v = .slice ao n c ∧ (0 < n → ∃ b cap, ao = some ⟨b, 0, none⟩ ∧ B ≤ b ∧ Arr w b t cap n f)
theorem Rs.sl {w : World} {B : Nat} {t : TypeId} {v : Value} {n : Nat} {f : Nat → Value} (h : Rs w B t v n f) : Sl w v n f := by
  obtain ⟨ao, c, rfl, h⟩ := h
  refine ⟨ao, c, rfl, fun hn => ?_⟩
  obtain ⟨b, cap, rfl, -, ha⟩ := h hn
  exact ⟨b, 0, rfl, fun i hi => by rw [Nat.zero_add]; exact ha.cell hi⟩
theorem Rs.drewN {w : World} {B : Nat} {t : TypeId} {v : Value} {n : Nat} {f : Nat → Value} (h : Rs w B t v n f) (m : Nat) : Rs (w.drewN m) B t v n f := h
theorem Rs.keep {w w' : World} {B K : Nat} {t : TypeId} {v : Value} {n : Nat} {f : Nat → Value} (h : Rs w B t v n f) (hb : Below K w w') (hK : w.heap.size ≤ K) : Rs w' B t v n f := by
  obtain ⟨ao, c, rfl, h⟩ := h
  refine ⟨ao, c, rfl, fun hn => ?_⟩
  obtain ⟨b, cap, e, hB, ha⟩ := h hn
  exact ⟨b, cap, e, hB, ha.keep (hb.block b (Nat.lt_of_lt_of_le ha.lt hK))⟩
theorem Rs.low {w : World} {B B' : Nat} {t : TypeId} {v : Value} {n : Nat} {f : Nat → Value} (h : Rs w B t v n f) (hb : B' ≤ B) : Rs w B' t v n f := by
  obtain ⟨ao, c, rfl, h⟩ := h
  refine ⟨ao, c, rfl, fun hn => ?_⟩
  obtain ⟨b, cap, e, hB, ha⟩ := h hn
  exact ⟨b, cap, e, Nat.le_trans hb hB, ha⟩
theorem Rs.nil (w : World) (B : Nat) (t : TypeId) (f : Nat → Value) : Rs w B t (.slice none 0 0) 0 f := ⟨none, 0, rfl, fun h => absurd h (Nat.lt_irrefl 0)⟩
theorem Rs.of_own {w : World} {B : Nat} {t : TypeId} {v : Value} {l : List Nat} {e : Nat → Value} (h : w.ownsRow B t 1 v l.length (l.map e)) : Rs w B t v l.length (fun i => e (l.getD i 0)) := by
  obtain ⟨-, ⟨h, h2⟩ | ⟨g, cap', cur, h1, hg, h2, h3, -, h4, h5⟩⟩ := h
  · exact ⟨none, 0, by rw [h, h2], fun hn => by omega⟩
  · subst h1
    refine ⟨_, _, rfl, fun _ => ⟨g, cur.size, rfl, hg, cur, h2, rfl, by omega, fun i hi => ?_⟩⟩
    have := congrArg (fun l => l[i]?) h5
    simp only [List.getElem?_take, Array.getElem?_toList] at this
    rw [if_pos (by omega)] at this
    rw [this]
    simp [hi]

theorem slots_all {x : FL} {s i : Nat} (h : i < (slotsTo x s x.n).length) : (slotsTo x s x.n).getD i 0 < x.n ∧ x.st ((slotsTo x s x.n).getD i 0) = s := by
  have hm : (slotsTo x s x.n).getD i 0 ∈ slotsTo x s x.n := by
    rw [List.getD_eq_getElem?_getD, List.getElem?_eq_getElem h]; exact List.getElem_mem h
  unfold slotsTo at hm
  have := List.mem_filter.1 hm
  exact ⟨List.mem_range.1 this.1, of_decide_eq_true this.2⟩

/-- the first k live handles -/
def hsTo (x : FL) (k : Nat) : List Value := ((slotsTo x 1 x.n).take k).map (encH x)
theorem hsTo_snoc (x : FL) {k : Nat} (h : k < (slotsTo x 1 x.n).length) : hsTo x (k + 1) = hsTo x k ++ [encH x ((slotsTo x 1 x.n).getD k 0)] := by
  unfold hsTo
  rw [List.take_add_one, List.map_append, List.getElem?_eq_getElem h]
  simp [h]
theorem hsTo_all (x : FL) : hsTo x (slotsTo x 1 x.n).length = (slotsTo x 1 x.n).map (encH x) := by
  unfold hsTo
  rw [List.take_length]
theorem own_low {w : World} {B B' : Nat} {t : TypeId} {v : Value} {n : Nat} {l : List Value} (h : w.ownsRow B t 1 v n l) (hb : B' ≤ B) : w.ownsRow B' t 1 v n l := by
  obtain ⟨h0, h | ⟨g, cap', cur, h1, hg, h2⟩⟩ := h
  · exact ⟨h0, .inl h⟩
  · exact ⟨h0, .inr ⟨g, cap', cur, h1, Nat.le_trans hb hg, h2⟩⟩

set_option maxRecDepth 100000 in
set_option maxHeartbeats 2000000 in
theorem handles_none (w : World) :
    Calls Try.prog 46 #[.pointer none] w fun e w' => e = .returned (.slice none 0 0) ∧ ∃ n, w' = w.drewN n := by
  go_enter Try.func46, Try.ntmps46
  go_wp2_with fail
  refine (slots_none 1 _).mono ?_; rintro e w1 ⟨rfl, rfl⟩
  go_wp2_with fail
  go_loop [3, 11] (fun a i => a = .slice none 0 0 ∧ i = .int .i64 0) (fun _ _ => 0)
  case atStart => exact ⟨rfl, rfl⟩
  case round =>
    obtain ⟨rfl, rfl⟩ := hrel
    go_wp2_with fail
    go_ret
    exact ⟨rfl, 0, rfl⟩

set_option maxRecDepth 100000 in
set_option maxHeartbeats 2000000 in
theorem handles_any (b : LB) (x : FL) (w : World) (hl : IsL w b x) (hfi : FInv x) :
    Calls Try.prog 46 #[.pointer (some ⟨b.p, 0, none⟩)] w fun e w' => NewHs w x e w' := by
  obtain ⟨i0, hi, hz0, hz1, hz2⟩ := info_parts infoH
  have HS := Lib.hid (slots_any b x 1 w hl hfi.n2)
  obtain ⟨l0, l1, l2, l3⟩ := hl
  have hn := hfi.n2
  have HF := Lib.hid hfi
  have HG := Lib.hid l3
  have HGL := Lib.hid l3.lt
  have HP := Lib.hid l0
  have HPL := Lib.hid (block_lt l0)
  clear l0 l1 l2 l3 hfi
  go_enter Try.func46, Try.ntmps46
  go_wp2_with fail
  refine HS.out.mono ?_; rintro e w1 ⟨v, rfl, ho, hb⟩
  obtain ⟨ao, c, rfl, hv⟩ := Rs.of_own ho
  have HV := Lib.hid hv
  have HSZ := Lib.hid hb.size
  have HB1 := Lib.hid hb
  have hlen := slotsTo_len x 1 x.n
  clear ho hb hv
  go_wp2_with fail
  go_loopw [3, 11] (fun a i wr => ∃ k : Nat, k ≤ (slotsTo x 1 x.n).length ∧ i = .int .i64 k ∧ wr.ownsRow w1.heap.size 31 1 a k (hsTo x k) ∧ Below w1.heap.size w1 wr) (fun _ i _ => (slotsTo x 1 x.n).length - (intOf i).toNat)
  case atStart => exact ⟨0, Nat.zero_le _, rfl, ⟨rfl, .inl ⟨rfl, rfl⟩⟩, Below.refl _ _⟩
  case round =>
    obtain ⟨k, hk, rfl, hown, hbr⟩ := hrel
    have hsz := hbr.size
    have HO := Lib.hid hown
    have HB := Lib.hid hbr
    clear hown
    by_cases hlt : k < (slotsTo x 1 x.n).length
    · obtain ⟨vb, vcap, rfl, hvb, hva⟩ := HV.out (by omega)
      have c1 : wr.cell? ⟨vb, k, none⟩ = some (.int .i64 ((slotsTo x 1 x.n).getD k 0)) := (hva.keep (hbr.block vb hva.lt)).cell hlt
      have hs1 := (slots_all hlt).1
      have HMK := Lib.hid (mkOK_of HF.out hs1)
      have HSN := Lib.hid (hsTo_snoc x hlt)
      have bb : Below w.heap.size w wr := HB1.out.trans (hbr.mono HSZ.out)
      have hp := block_below bb HP.out HPL.out
      have c3 : wr.cell? ⟨b.g, (slotsTo x 1 x.n).getD k 0, none⟩ = some (.int .u64 (x.gn ((slotsTo x 1 x.n).getD k 0))) := (HG.out.keep (bb.block b.g HGL.out)).cell hs1
      have hk1 : (k : Int) < ((slotsTo x 1 x.n).length : Int) := by omega
      have HOA : ∀ A, (wr.alloc A).ownsRow w1.heap.size 31 1 u3 k (hsTo x k) := fun A => HO.out.alloc A
      have HHO := Lib.hid HOA
      have HHN := Lib.hid (cell_one_new wr (encH x ((slotsTo x 1 x.n).getD k 0)) 31)
      have HLTK := Lib.hid hlt
      clear HOA hbr bb hva hvb
      (have q0 := block_cell hp 0; have q1 := block_cell hp 1; have q2 := block_cell hp 2; have q3 := block_cell hp 3; have f0 := block_free hp 0; have f1 := block_free hp 1; have f2 := block_free hp 2; have f3 := block_free hp 3; have hz := block_lt hp; simp at q0 q1 q2 q3)
      clear hp
      generalize hsl : (slotsTo x 1 x.n).getD k 0 = sl at *
      have hsi : (sl : Int) < (x.n : Int) := by omega
      go_wp2_with fail
      refine (make_ok _ _ _ HMK.out).mono ?_; rintro e w2 ⟨rfl, rfl⟩
      go_wp2_with (at_builtin; refine wpList_append_own_at _ rfl _ _ 53 rfl w1.heap.size 31 i0 (.int .u64 0) 1 8 Try.underlying53 hi hz0 hz1 hz2 rfl (by decide) _ k (hsTo x k) rfl (HHO.out _) ⟨wr.heap.size, 0, none⟩ 1 _ [encH x sl] rfl rfl HHN.out (encH_one x [sl]) ?c3 ?c4 ?c5 ?_)
      case c3 => unfold maxLen; omega
      case c4 => omega
      case c5 => simp; omega
      intro v' w2 hown1 hgrow _ hblk
      have hbr2 : Below w1.heap.size w1 w2 := (HB.out.alloc hsz _).grown hgrow (Nat.le_trans hsz (by simp)) (fun q hq => by
        obtain ⟨_, ⟨e1, _⟩ | ⟨g, cap, cur, e1, e2, _⟩⟩ := HO.out
        · rw [e1] at hq; cases hq
        · rw [e1] at hq; injection hq with hq; subst hq; exact e2)
      have hown2 : w2.ownsRow w1.heap.size 31 1 v' (k + 1) (hsTo x (k + 1)) := by
        rw [HSN.out]
        exact hown1
      have HO2 := Lib.hid hown2
      have HB2 := Lib.hid hbr2
      clear hown1 hgrow hblk hbr2 hown2
      go_wp2_with fail
      go_roundw
      case rel => exact ⟨k + 1, by omega, by go_num, HO2.out, HB2.out⟩
      case measure => simp [intOf]; omega
    · obtain rfl : k = (slotsTo x 1 x.n).length := by omega
      clear hbr
      go_wp2_with fail
      go_ret
      refine ⟨_, rfl, ?_, HB1.out.trans (HB.out.mono HSZ.out)⟩
      have := HO.out
      rw [hsTo_all] at this
      exact own_low this HSZ.out
end Go.Proofs.Ytfgkbnnojogjpaa

namespace Go.Proofs.Ytfgkbnnojogjpaa
open Go.RowKit

theorem Rs.of_fun {w : World} {B : Nat} {t : TypeId} {v : Value} {n : Nat} {f : Nat → Value} (h : w.ownsRow B t 1 v n ((List.range n).map f)) : Rs w B t v n f := by
  obtain ⟨-, ⟨h, h2⟩ | ⟨g, cap', cur, h1, hg, h2, h3, -, h4, h5⟩⟩ := h
  · exact ⟨none, 0, by rw [h, h2], fun hn => by omega⟩
  · subst h1
    refine ⟨_, _, rfl, fun _ => ⟨g, cur.size, rfl, hg, cur, h2, rfl, by omega, fun i hi => ?_⟩⟩
    have := congrArg (fun l => l[i]?) h5
    simp only [List.getElem?_take, Array.getElem?_toList] at this
    rw [if_pos (by omega)] at this
    rw [this]
    simp [hi]
/-- the free slots, the top one first -/
def freeF (x : FL) (i : Nat) : Nat := x.sk (x.m - 1 - i)
def frTo (x : FL) (k : Nat) : List Value := (List.range k).map fun i => encI (freeF x i)
theorem frTo_snoc (x : FL) (k : Nat) : frTo x (k + 1) = frTo x k ++ [encI (freeF x k)] := by
  unfold frTo
  rw [List.range_succ, List.map_append]
  rfl
/-- what Free returns -/
def NewFs (w : World) (x : FL) (e : Ending) (w' : World) : Prop := ∃ v, e = .returned v ∧ Rs w' w.heap.size 3 v x.m (fun i => encI (freeF x i)) ∧ Below w.heap.size w w'

set_option maxRecDepth 100000 in
set_option maxHeartbeats 2000000 in
theorem refFree_any (b : YB) (x : FL) (w : World) (hl : IsY w b x) (hmn : x.m ≤ 16384) :
    Calls Try.prog 75 #[.pointer (some ⟨b.p, 0, none⟩)] w fun e w' => NewFs w x e w' := by
  obtain ⟨i0, hi, hz0, hz1, hz2⟩ := info_parts infoI
  obtain ⟨l0, l1, l2, l3, -⟩ := hl
  have HT := Lib.hid l1
  have HTL := Lib.hid l1.lt
  have HP := Lib.hid l0
  have HPL := Lib.hid (block_lt l0)
  (have q0 := block_cell l0 0; have q1 := block_cell l0 1; have q2 := block_cell l0 2; have q3 := block_cell l0 3; have f0 := block_free l0 0; have f1 := block_free l0 1; have f2 := block_free l0 2; have f3 := block_free l0 3; have hz := block_lt l0; simp at q0 q1 q2 q3)
  clear l0 l1 l2 l3
  go_enter Try.func75, Try.ntmps75
  go_wp2_with fail
  go_loopw [3, 4] (fun a i wr => ∃ k : Nat, k ≤ x.m ∧ (∃ j : Int, i = .int .i64 j ∧ j + k + 1 = x.m) ∧ wr.ownsRow w.heap.size 3 1 a k (frTo x k) ∧ Below w.heap.size w wr) (fun _ i _ => (intOf i + 1).toNat)
  case atStart => exact ⟨0, Nat.zero_le _, ⟨(x.m : Int) - 1, by go_num, by omega⟩, ⟨rfl, .inl ⟨rfl, rfl⟩⟩, Below.refl _ _⟩
  case round =>
    obtain ⟨k, hk, ⟨j, rfl, hj⟩, hown, hbr⟩ := hrel
    have hsz := hbr.size
    have HO := Lib.hid hown
    have HB := Lib.hid hbr
    have hp := block_below hbr HP.out HPL.out
    (have q0 := block_cell hp 0; have q1 := block_cell hp 1; have q2 := block_cell hp 2; have q3 := block_cell hp 3; have f0 := block_free hp 0; have f1 := block_free hp 1; have f2 := block_free hp 2; have f3 := block_free hp 3; have hz := block_lt hp; simp at q0 q1 q2 q3)
    by_cases hlt : k < x.m
    · obtain ⟨i, rfl⟩ : ∃ i : Nat, j = i := ⟨j.toNat, by omega⟩
      have hi2 : i = x.m - 1 - k := by omega
      have c : wr.cell? ⟨b.s, i, none⟩ = some (.int .i64 (freeF x k)) := by rw [hi2]; exact (HT.out.keep (hbr.block b.s HTL.out)).cell (by omega)
      have hi3 : (i : Int) < (x.m : Int) := by omega
      clear hi2
      have HOA : ∀ A, (wr.alloc A).ownsRow w.heap.size 3 1 u3 k (frTo x k) := fun A => HO.out.alloc A
      have HHO := Lib.hid HOA
      have HHN := Lib.hid (cell_one_new wr (encI (freeF x k)) 3)
      have HSN := Lib.hid (frTo_snoc x k)
      clear hown hbr hp HOA
      go_wp2_with (at_builtin; refine wpList_append_own_at _ rfl _ _ 46 rfl w.heap.size 3 i0 (.int .i64 0) 1 8 Try.underlying46 hi hz0 hz1 hz2 rfl (by decide) _ k (frTo x k) rfl (HHO.out _) ⟨wr.heap.size, 0, none⟩ 1 _ [encI (freeF x k)] rfl rfl HHN.out (encI_one [freeF x k]) ?c3 ?c4 ?c5 ?_)
      case c3 => unfold maxLen; omega
      case c4 => omega
      case c5 => simp; omega
      intro v' w1 hown1 hgrow _ hblk
      have hbr2 : Below w.heap.size w w1 := (HB.out.alloc hsz _).grown hgrow (Nat.le_trans hsz (by simp)) (fun q hq => by
        obtain ⟨_, ⟨e1, _⟩ | ⟨g, cap, cur, e1, e2, _⟩⟩ := HO.out
        · rw [e1] at hq; cases hq
        · rw [e1] at hq; injection hq with hq; subst hq; exact e2)
      have hown2 : w1.ownsRow w.heap.size 3 1 v' (k + 1) (frTo x (k + 1)) := by
        rw [HSN.out]
        exact hown1
      have HO2 := Lib.hid hown2
      have HB2 := Lib.hid hbr2
      clear hown1 hgrow hblk hbr2 hown2
      go_wp2_with fail
      go_roundw
      case rel => exact ⟨k + 1, by omega, ⟨(i : Int) - 1, by go_num, by omega⟩, HO2.out, HB2.out⟩
      case measure => simp [intOf] <;> omega
    · obtain rfl : k = x.m := by omega
      obtain rfl : j = -1 := by omega
      clear hown hbr hp
      go_wp2_with fail
      go_ret
      exact ⟨_, rfl, Rs.of_fun HO.out, HB.out⟩
end Go.Proofs.Ytfgkbnnojogjpaa

namespace Go.Proofs.Ytfgkbnnojogjpaa
open Go.RowKit

/-- the copy of the stack after k exchanges -/
def mixF (x : FL) (k p : Nat) : Nat := if p < k ∨ x.m - 1 - k < p then x.sk (x.m - 1 - p) else x.sk p
theorem mixF_zero (x : FL) {p : Nat} (h : p < x.m) : mixF x 0 p = x.sk p := if_neg (by omega)
theorem mixF_lo (x : FL) (k : Nat) (h : 2 * k + 1 < x.m) : mixF x k k = x.sk k := if_neg (by omega)
theorem mixF_hi (x : FL) (k : Nat) (h : 2 * k + 1 < x.m) : mixF x k (x.m - 1 - k) = x.sk (x.m - 1 - k) := if_neg (by omega)
theorem mixF_step (x : FL) {k p : Nat} (h : 2 * k + 1 < x.m) (hp : p < x.m) : mixF x (k + 1) p = if p = x.m - 1 - k then x.sk k else if p = k then x.sk (x.m - 1 - k) else mixF x k p := by
  unfold mixF
  by_cases e1 : p = x.m - 1 - k
  · rw [if_pos e1, if_pos (by omega), show x.m - 1 - p = k by omega]
  · rw [if_neg e1]
    by_cases e2 : p = k
    · rw [if_pos e2, if_pos (by omega), e2]
    · rw [if_neg e2]
      by_cases e3 : p < k ∨ x.m - 1 - k < p
      · rw [if_pos e3, if_pos (by omega)]
      · rw [if_neg e3, if_neg (by omega)]
theorem mixF_end (x : FL) {k p : Nat} (h : x.m ≤ 2 * k + 1) (hp : p < x.m) (hk : 2 * k ≤ x.m + 1) : mixF x k p = freeF x p := by
  unfold mixF freeF
  by_cases e : p < k ∨ x.m - 1 - k < p
  · rw [if_pos e]
  · rw [if_neg e, show x.m - 1 - p = p by omega]

def stackV (x : FL) : List Value := (List.range x.m).map fun i => encI (x.sk i)
theorem stackV_len (x : FL) : (stackV x).length = x.m := by simp [stackV]
theorem stackV_at (x : FL) {i : Nat} (h : i < x.m) : (stackV x)[i]? = some (encI (x.sk i)) := by simp [stackV, h]
theorem stackV_one (x : FL) : ∀ v ∈ stackV x, v.oneCell' = true := by
  intro v hv
  obtain ⟨i, _, rfl⟩ := List.mem_map.1 hv
  rfl
def zeroV (n : Nat) : List Value := List.replicate n (.int .i64 0)
theorem splice_all (x : FL) : splice (zeroV x.m) 0 (stackV x) = stackV x := by
  unfold splice zeroV
  rw [stackV_len]
  simp

set_option maxRecDepth 100000 in
set_option maxHeartbeats 2000000 in
theorem free_none (w : World) :
    Calls Try.prog 44 #[.pointer none] w fun e w' => e = .returned (.slice none 0 0) ∧ w = w' := by
  go_enter Try.func44, Try.ntmps44
  go_wp2_with fail
  go_ret
  exact ⟨rfl, rfl⟩

theorem infoI1 : (Try.prog.info? 3).map (·.size) = some 1 := by kernel_rfl
/-- n equal cells -/
def sameV (n : Nat) (v : Value) : Array Value := (List.replicate n v).toArray
theorem made_one {v : Value} (hv : v.cells = #[v]) (n : Nat) : madeCells v.cells (n * 1) = sameV n v := by
  rw [hv]
  apply Array.ext
  · simp [madeCells, sameV]
  · intro i h1 h2
    simp [madeCells, sameV] at h1 ⊢
    rw [Nat.mod_one]
    rfl
theorem mk_slice {t e : TypeId} {z : Value} {bytes : Nat} (hu : Try.prog.underlying t = some (.slice e)) (h : (Try.prog.info? e).map (fun i => (i.zero, i.size, i.bytes)) = some (some z, 1, bytes)) (hb : bytes ≤ 8) (hz : z.cells = #[z]) (n : Nat) (hn : n ≤ 16384) (w : World) :
    (Instr.makeSlice t (.int .i64 n) (.int .i64 n)).run Try.prog w = .ok (.slice (some ⟨w.heap.size, 0, none⟩) n n) (w.alloc (.cells (sameV n z) e)) := by
  obtain ⟨i, hi, h1, h2, h3⟩ := info_parts h
  have h4 : i.bytes * n ≤ 8 * 16384 := by rw [h3]; exact Nat.mul_le_mul hb hn
  have := run_make (P := Try.prog) w t e i z hu hi h1 .i64 .i64 n n (by omega) (by omega) (by omega) (by omega)
  rw [this, h2, Int.toNat_natCast, made_one hz]
theorem mk_int (n : Nat) (hn : n ≤ 16384) (w : World) :
    (Instr.makeSlice 46 (.int .i64 n) (.int .i64 n)).run Try.prog w = .ok (.slice (some ⟨w.heap.size, 0, none⟩) n n) (w.alloc (.cells (sameV n (.int .i64 0)) 3)) :=
  mk_slice Try.underlying46 infoI (by decide) rfl n hn w

set_option maxRecDepth 100000 in
set_option maxHeartbeats 2000000 in
theorem free_any (b : LB) (x : FL) (w : World) (hl : IsL w b x) (hmn : x.m ≤ 16384) :
    Calls Try.prog 44 #[.pointer (some ⟨b.p, 0, none⟩)] w fun e w' => NewFs w x e w' := by
  have HL := Lib.hid hl
  have hmk := mk_int x.m hmn
  obtain ⟨l0, l1, l2, l3⟩ := hl
  have HT := Lib.hid l1
  have HTL := Lib.hid l1.lt
  have HZ := Lib.hid (block_new w (.cells (sameV x.m (.int .i64 0)) 3))
  (have q0 := block_cell l0 0; have q1 := block_cell l0 1; have q2 := block_cell l0 2; have q3 := block_cell l0 3; have f0 := block_free l0 0; have f1 := block_free l0 1; have f2 := block_free l0 2; have f3 := block_free l0 3; have hz := block_lt l0; simp at q0 q1 q2 q3)
  clear l0 l1 l2 l3
  go_enter Try.func44, Try.ntmps44
  go_wp2_with (with_reducible refine wpList_copy_splice rfl _ _ 46 46 rfl 3 Try.underlying46 infoI1 _ _ _ _ _ _ rfl rfl w.heap.size 0 (zeroV x.m) 3 ?c1 (stackV x) ?c2 ?c3 ?c4 (stackV_one x) w.heap.size w ?c5 (Nat.le_refl _) ?_)
  case c1 => exact HZ.out
  case c2 => rw [stackV_len]; exact (Nat.min_self _).symm
  case c3 =>
    intro _ j v hj
    have hj1 : j < x.m := by rw [← stackV_len x]; exact (List.getElem?_eq_some_iff.1 hj).1
    rw [stackV_at x hj1] at hj
    have := (HT.out.alloc (.cells (sameV x.m (.int .i64 0)) 3)).cell hj1
    rw [this]
    exact hj
  case c4 => rw [stackV_len]; simp [zeroV]
  case c5 => exact (Below.refl _ _).alloc (Nat.le_refl _) _
  intro w2 hg hb
  have ha : Arr w2 w.heap.size 3 x.m x.m (fun p => encI (mixF x 0 p)) := by
    have hg' := hg.out
    rw [splice_all] at hg'
    refine ⟨_, hg', by rw [List.size_toArray, stackV_len], Nat.le_refl _, fun i hi => ?_⟩
    rw [List.getElem?_toArray, stackV_at x hi]; show _ = some (encI (mixF x 0 i)); rw [mixF_zero x hi]
  have HA := Lib.hid ha
  have HB := Lib.hid hb
  have HLEN := Lib.hid (stackV_len x)
  clear ha hg hb hmk HZ HTL HT HL
  go_wp2_with fail
  go_loopw [4, 5] (fun i j wr => ∃ k : Nat, 2 * k ≤ x.m + 1 ∧ i = .int .i64 k ∧ (∃ t : Int, j = .int .i64 t ∧ t + k + 1 = x.m) ∧ Arr wr w.heap.size 3 x.m x.m (fun p => encI (mixF x k p)) ∧ Below w.heap.size w wr) (fun i _ _ => x.m - (intOf i).toNat)
  case atStart => exact ⟨0, by omega, rfl, ⟨(x.m : Int) - 1, by go_num, by omega⟩, HA.out, HB.out⟩
  case round =>
    obtain ⟨k, hk, rfl, ⟨t, rfl, ht⟩, har, hbr⟩ := hrel
    have HAR := Lib.hid har
    have HBR := Lib.hid hbr
    by_cases hlt : 2 * k + 1 < x.m
    · obtain ⟨i, rfl⟩ : ∃ i : Nat, t = i := ⟨t.toNat, by omega⟩
      have hi2 : i = x.m - 1 - k := by omega
      have c1 := har.cell (show k < x.m by omega)
      have c2 := har.cell (show i < x.m by omega)
      have f1 := har.free k
      have f2 := har.free i
      rw [mixF_lo x k hlt] at c1
      simp only [hi2] at c2
      rw [mixF_hi x k hlt, ← hi2] at c2
      simp only [encI] at c1 c2
      have hki : (k : Int) < (i : Int) := by omega
      have hkm : (k : Int) < (x.m : Int) := by omega
      have him : (i : Int) < (x.m : Int) := by omega
      have hne : i ≠ k := by omega
      have hne' : k ≠ i := by omega
      have HI2 := Lib.hid hi2
      clear har hbr hi2
      go_wp2_with fail
      go_region
      go_wp2_with fail
      have a3 := (HAR.out.set (i := k) (by omega) (.int .i64 (x.sk i))).set (i := i) (by omega) (.int .i64 (x.sk k))
      have a4 : Arr ((wr.setCell ⟨w.heap.size, k, none⟩ (.int .i64 (x.sk i))).setCell ⟨w.heap.size, i, none⟩ (.int .i64 (x.sk k))).drew w.heap.size 3 x.m x.m (fun p => encI (mixF x (k + 1) p)) := by
        refine a3.congr fun p hp => ?_
        have hs := mixF_step x (k := k) (by omega) hp
        rw [← HI2.out] at hs
        rw [hs]
        by_cases e1 : p = i
        · simp only [if_pos e1]; rfl
        · simp only [if_neg e1]
          by_cases e2 : p = k
          · simp only [if_pos e2]; rfl
          · simp only [if_neg e2]
      have b4 := ((HBR.out.setCell (p := ⟨w.heap.size, k, none⟩) (Nat.le_refl _) (.int .i64 (x.sk i))).setCell (p := ⟨w.heap.size, i, none⟩) (Nat.le_refl _) (.int .i64 (x.sk k))).drew
      have A4 := Lib.hid a4
      have B4 := Lib.hid b4
      clear a3 a4 b4
      go_roundw
      case rel => exact ⟨k + 1, by omega, by go_num, ⟨(i : Int) - 1, by go_num, by omega⟩, A4.out, B4.out⟩
      case measure => simp [intOf]; omega
    · have HK := Lib.hid hk
      have hki : ¬ ((k : Int) < t) := by omega
      clear har hbr hk
      go_wp2_with fail
      go_ret
      exact ⟨_, rfl, ⟨_, _, rfl, fun hn => ⟨_, _, rfl, Nat.le_refl _, HAR.out.congr fun p hp => by rw [mixF_end x (by omega) hp HK.out]⟩⟩, HBR.out⟩
end Go.Proofs.Ytfgkbnnojogjpaa

