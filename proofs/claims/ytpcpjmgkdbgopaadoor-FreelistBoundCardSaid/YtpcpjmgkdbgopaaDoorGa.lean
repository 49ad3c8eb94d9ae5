/- The freelist: the law FreelistMakes. -/
import Derived.Test.YtpcpjmgkdbgopaaDoorFy
namespace Go.Proofs.YtpcpjmgkdbgopaaDoor
open Go.RowKit

/-- two lists, the program's and the reference's, with the same plain state, their blocks apart and no older than w0 -/
def Pair (w0 w : World) (b : LB) (c : YB) (x : FL) : Prop :=
  IsL w b x ∧ IsY w c x ∧ FInv x ∧ b.apart c.toLB ∧ b.ge w0.heap.size ∧ c.toLB.ge w0.heap.size ∧ c.cs ≤ maxLen ∧ Below w0.heap.size w0 w
theorem Pair.below {w0 w w' : World} {b : LB} {c : YB} {x : FL} (h : Pair w0 w b c x) (k : Below w.heap.size w w') : Pair w0 w' b c x :=
  ⟨h.1.below k (Nat.le_refl _), h.2.1.below k (Nat.le_refl _), h.2.2.1, h.2.2.2.1, h.2.2.2.2.1, h.2.2.2.2.2.1, h.2.2.2.2.2.2.1, below_two h.2.2.2.2.2.2.2 k⟩
theorem Pair.drewN {w0 w : World} {b : LB} {c : YB} {x : FL} (h : Pair w0 w b c x) (n : Nat) : Pair w0 (w.drewN n) b c x :=
  ⟨h.1, h.2.1, h.2.2.1, h.2.2.2.1, h.2.2.2.2.1, h.2.2.2.2.2.1, h.2.2.2.2.2.2.1, below_drewN h.2.2.2.2.2.2.2 n⟩
/-- both lists are turned alike -/
theorem Pair.both {w0 w w1 w2 : World} {b : LB} {c : YB} {x y : FL} (h : Pair w0 w b c x) (hy : FInv y) (h1 : IsL w1 b y) (k1 : KeepL b w w1) (h2 : IsY w2 c y) (k2 : KeepL c.toLB w1 w2) : Pair w0 w2 b c y := by
  obtain ⟨p1, p2, p3, p4, p5, p6, p7, p8⟩ := h
  have e1 := k1.below p8.size p5
  have e2 := k2.below (Nat.le_trans p8.size (k1.below (B := 0) (Nat.zero_le _) ⟨Nat.zero_le _, Nat.zero_le _, Nat.zero_le _, Nat.zero_le _⟩).size) p6
  exact ⟨h1.keep k2 p4.symm, h2, hy, p4, p5, p6, p7, (p8.trans e1).trans e2⟩
theorem Pair.of_new {w0 w1 w2 : World} {b : LB} {c : YB} {n g : Nat} (h1 : 1 ≤ n) (h2 : n ≤ 16384) (h3 : 1 ≤ g) (h4 : g ≤ 4294967295) (hl : IsL w1 b (newL n g)) (hb : Below w0.heap.size w0 w1) (hg : b.ge w0.heap.size)
    (hy : IsY w2 c (newL n g)) (hc : Below w1.heap.size w1 w2) (hd : c.toLB.ge w1.heap.size) (hm : c.cs ≤ maxLen) : Pair w0 w2 b c (newL n g) :=
  ⟨hl.below hc (Nat.le_refl _), hy, newL_inv h1 h2 h3 h4, apart_of hl hd, hg, ⟨Nat.le_trans hb.size hd.1, Nat.le_trans hb.size hd.2.1, Nat.le_trans hb.size hd.2.2.1, Nat.le_trans hb.size hd.2.2.2⟩, hm, below_two hb hc⟩

set_option maxRecDepth 100000 in
set_option maxHeartbeats 2000000 in
theorem makes_bad (n g : Int) (w : World) (h : ¬ newOK n g) :
    Calls Tryd.prog 4 #[.int .i64 n, .int .u64 g] w fun e w' => e = .returned (.bool true) ∧ Below w.heap.size w w' := by
  have c1 : ∀ w, Calls Tryd.prog 10 #[.int .i64 n, .int .u64 g] w fun e w' => e = .returned (.tuple #[.pointer none, .int .i64 3]) ∧ w = w' := fun w => by
    unfold newOK at h
    by_cases e : n < 1 ∨ 16384 < n
    · exact new_n n g w e
    · exact new_g n g w (by omega) (by omega) (by omega)
  have c2 : ∀ w, Calls Tryd.prog 12 #[.int .i64 n, .int .u64 g] w fun e w' => e = .returned (.tuple #[.pointer none, .int .i64 3]) ∧ w = w' := fun w => by
    unfold newOK at h
    by_cases e : n < 1 ∨ 16384 < n
    · exact refNew_n n g w e
    · exact refNew_g n g w (by omega) (by omega) (by omega)
  have C1 := Lib.hid c1
  have C2 := Lib.hid c2
  clear c1 c2 h
  go_enter Tryd.func4, Tryd.ntmps4
  go_wp2_with fail
  refine (C1.out _).mono ?_; rintro e w1 ⟨rfl, rfl⟩
  go_wp2_with fail
  refine (C2.out _).mono ?_; rintro e w1 ⟨rfl, rfl⟩
  go_wp2_with fail
  refine (awake_any _).mono ?_; rintro e w1 ⟨rfl, hb⟩
  have HB := Lib.hid hb
  clear hb
  go_wp2_with fail
  go_ret
  exact ⟨rfl, HB.out⟩

set_option maxRecDepth 100000 in
set_option maxHeartbeats 2000000 in
theorem makes_mid (n g : Nat) (w : World) (h1 : 300 < n) (h2 : n < 16384) (h3 : 1 ≤ g) (h4 : g ≤ 4294967295) :
    Calls Tryd.prog 4 #[.int .i64 n, .int .u64 g] w fun e w' => e = .returned (.bool true) ∧ Below w.heap.size w w' := by
  have k1 : (300 : Int) < n := by omega
  have k2 : (n : Int) < 16384 := by omega
  go_enter Tryd.func4, Tryd.ntmps4
  go_wp2_with fail
  refine (new_ok n g w (by omega) (by omega) h3 h4).mono ?_; rintro e w1 hh
  obtain ⟨b, rfl, hl, hb, -⟩ := hh
  have HB := Lib.hid hb
  clear hl hb
  go_wp2_with fail
  refine (refNew_ok n g w1 (by omega) (by omega) h3 h4).mono ?_; rintro e w2 hh
  obtain ⟨c, rfl, hy, hc, -⟩ := hh
  have HC := Lib.hid (below_two HB.out hc)
  clear hy hc
  go_wp2_with fail
  refine (awake_any _).mono ?_; rintro e w1 ⟨rfl, hb⟩
  have HB := Lib.hid (below_two HC.out hb)
  clear hb
  go_wp2_with fail
  go_ret
  exact ⟨rfl, HB.out⟩

set_option maxRecDepth 100000 in
set_option maxHeartbeats 2000000 in
theorem makes_ok (n g : Nat) (w : World) (h1 : 1 ≤ n) (h2 : n ≤ 300 ∨ n = 16384) (h3 : 1 ≤ g) (h4 : g ≤ 4294967295) :
    Calls Tryd.prog 4 #[.int .i64 n, .int .u64 g] w fun e w' => e = .returned (.bool true) ∧ Below w.heap.size w w' := by
  have hn : n ≤ 16384 := by omega
  by_cases cs : n ≤ 300
  · have k1 : (n : Int) ≤ 300 := by omega
    clear h2 cs
    go_enter Tryd.func4, Tryd.ntmps4
    go_wp2_with fail
    refine (new_ok n g w h1 hn h3 h4).mono ?_; rintro e w1 hh
    obtain ⟨b, rfl, hl, hb, hge⟩ := hh
    have HL := Lib.hid hl
    have HB := Lib.hid hb
    have HG := Lib.hid (show b.ge w.heap.size from hge)
    clear hl hb hge
    go_wp2_with fail
    refine (refNew_ok n g w1 h1 hn h3 h4).mono ?_; rintro e w2 hh
    obtain ⟨c, rfl, hy, hc, d1, d2, d3, d4, hm⟩ := hh
    have HP := Lib.hid (Pair.of_new h1 hn h3 h4 HL.out HB.out HG.out hy hc ⟨d1, d2, d3, d4⟩ hm)
    clear hy hc d1 d2 d3 d4 hm HL HB HG
    go_wp2_with fail
    go_loopw [9] (fun i wr => ∃ k : Nat, k ≤ 4 ∧ i = .int .i64 k ∧ ∃ x, Pair w wr b c x) (fun i _ => 4 - (intOf i).toNat)
    case atStart => exact ⟨0, by decide, rfl, _, HP.out⟩
    case round =>
      obtain ⟨k, hk, rfl, x, hp⟩ := hrel
      have HQ := Lib.hid hp
      clear hp HP
      by_cases hlt : k < 4
      · have hk1 : (k : Int) < 4 := by omega
        go_wp2_with fail
        refine (take_any b x wr HQ.out.1 HQ.out.2.2.1).mono ?_; rintro e w3 ⟨rfl, t1, t2⟩
        have T1 := Lib.hid t1
        have T2 := Lib.hid t2
        clear t1 t2
        go_wp2_with fail
        refine (refTake_any c x w3 (HQ.out.2.1.keep T2.out HQ.out.2.2.2.1) HQ.out.2.2.1).mono ?_; rintro e w4 ⟨rfl, t1, t2⟩
        have HR := Lib.hid (HQ.out.both (takeS_inv HQ.out.2.2.1) T1.out T2.out t1 t2)
        clear t1 t2 T1 T2
        go_wp2_with fail
        go_roundw
        case rel => exact ⟨k + 1, by omega, by go_num, _, HR.out⟩
        case measure => simp [intOf]; omega
      · obtain rfl : k = 4 := by omega
        have hmn : x.m ≤ 16384 := Nat.le_trans HQ.out.2.2.1.mn HQ.out.2.2.1.n2
        have hm2 : x.m ≤ 9223372036854775807 := by omega
        go_wp2_with fail
        refine (free_any b x wr HQ.out.1 hmn).mono ?_; rintro e w3 ⟨va, rfl, ra, ba⟩
        have HQ3 := Lib.hid (HQ.out.below ba)
        have HA := Lib.hid ra
        clear ra ba
        go_wp2_with fail
        refine (refFree_any c x w3 HQ3.out.2.1 hmn).mono ?_; rintro e w4 ⟨vb, rfl, rb, bb⟩
        have HQ4 := Lib.hid (HQ3.out.below bb)
        have HA4 := Lib.hid (HA.out.keep bb (Nat.le_refl _)).sl
        have HB := Lib.hid rb.sl
        clear rb bb HQ3 HA
        go_wp2_with fail
        refine (equalInts_self w4 va vb x.m (freeF x) HA4.out HB.out hm2).mono ?_; rintro e w5 ⟨rfl, m, rfl⟩
        have HQ5 := Lib.hid (HQ4.out.drewN m)
        clear HA4 HB HQ4
        generalize w4.drewN m = w5 at *
        go_wp2_with fail
        refine (awake_any _).mono ?_; rintro e w6 ⟨rfl, hb⟩
        have HB := Lib.hid (HQ5.out.below hb).2.2.2.2.2.2.2
        clear hb
        go_wp2_with fail
        go_ret
        exact ⟨rfl, HB.out⟩
  · have k1 : (300 : Int) < n := by omega
    have k2 : (16384 : Int) ≤ n := by omega
    clear h2 cs
    go_enter Tryd.func4, Tryd.ntmps4
    go_wp2_with fail
    refine (new_ok n g w h1 hn h3 h4).mono ?_; rintro e w1 hh
    obtain ⟨b, rfl, hl, hb, hge⟩ := hh
    have HL := Lib.hid hl
    have HB := Lib.hid hb
    have HG := Lib.hid (show b.ge w.heap.size from hge)
    clear hl hb hge
    go_wp2_with fail
    refine (refNew_ok n g w1 h1 hn h3 h4).mono ?_; rintro e w2 hh
    obtain ⟨c, rfl, hy, hc, d1, d2, d3, d4, hm⟩ := hh
    have HP := Lib.hid (Pair.of_new h1 hn h3 h4 HL.out HB.out HG.out hy hc ⟨d1, d2, d3, d4⟩ hm)
    clear hy hc d1 d2 d3 d4 hm HL HB HG
    go_wp2_with fail
    go_loopw [9] (fun i wr => ∃ k : Nat, k ≤ 4 ∧ i = .int .i64 k ∧ ∃ x, Pair w wr b c x) (fun i _ => 4 - (intOf i).toNat)
    case atStart => exact ⟨0, by decide, rfl, _, HP.out⟩
    case round =>
      obtain ⟨k, hk, rfl, x, hp⟩ := hrel
      have HQ := Lib.hid hp
      clear hp HP
      by_cases hlt : k < 4
      · have hk1 : (k : Int) < 4 := by omega
        go_wp2_with fail
        refine (take_any b x wr HQ.out.1 HQ.out.2.2.1).mono ?_; rintro e w3 ⟨rfl, t1, t2⟩
        have T1 := Lib.hid t1
        have T2 := Lib.hid t2
        clear t1 t2
        go_wp2_with fail
        refine (refTake_any c x w3 (HQ.out.2.1.keep T2.out HQ.out.2.2.2.1) HQ.out.2.2.1).mono ?_; rintro e w4 ⟨rfl, t1, t2⟩
        have HR := Lib.hid (HQ.out.both (takeS_inv HQ.out.2.2.1) T1.out T2.out t1 t2)
        clear t1 t2 T1 T2
        go_wp2_with fail
        go_roundw
        case rel => exact ⟨k + 1, by omega, by go_num, _, HR.out⟩
        case measure => simp [intOf]; omega
      · obtain rfl : k = 4 := by omega
        have hmn : x.m ≤ 16384 := Nat.le_trans HQ.out.2.2.1.mn HQ.out.2.2.1.n2
        have hm2 : x.m ≤ 9223372036854775807 := by omega
        go_wp2_with fail
        refine (free_any b x wr HQ.out.1 hmn).mono ?_; rintro e w3 ⟨va, rfl, ra, ba⟩
        have HQ3 := Lib.hid (HQ.out.below ba)
        have HA := Lib.hid ra
        clear ra ba
        go_wp2_with fail
        refine (refFree_any c x w3 HQ3.out.2.1 hmn).mono ?_; rintro e w4 ⟨vb, rfl, rb, bb⟩
        have HQ4 := Lib.hid (HQ3.out.below bb)
        have HA4 := Lib.hid (HA.out.keep bb (Nat.le_refl _)).sl
        have HB := Lib.hid rb.sl
        clear rb bb HQ3 HA
        go_wp2_with fail
        refine (equalInts_self w4 va vb x.m (freeF x) HA4.out HB.out hm2).mono ?_; rintro e w5 ⟨rfl, m, rfl⟩
        have HQ5 := Lib.hid (HQ4.out.drewN m)
        clear HA4 HB HQ4
        generalize w4.drewN m = w5 at *
        go_wp2_with fail
        refine (awake_any _).mono ?_; rintro e w6 ⟨rfl, hb⟩
        have HB := Lib.hid (HQ5.out.below hb).2.2.2.2.2.2.2
        clear hb
        go_wp2_with fail
        go_ret
        exact ⟨rfl, HB.out⟩

theorem makes_any (n g : Int) (w : World) :
    Calls Tryd.prog 4 #[.int .i64 n, .int .u64 g] w fun e w' => e = .returned (.bool true) ∧ Below w.heap.size w w' := by
  by_cases h : newOK n g
  · unfold newOK at h
    obtain ⟨n', rfl⟩ : ∃ n' : Nat, n = n' := ⟨n.toNat, by omega⟩
    obtain ⟨g', rfl⟩ : ∃ g' : Nat, g = g' := ⟨g.toNat, by omega⟩
    by_cases c : 300 < n' ∧ n' < 16384
    · exact makes_mid n' g' w c.1 c.2 (by omega) (by omega)
    · exact makes_ok n' g' w (by omega) (by omega) (by omega) (by omega)
  · exact makes_bad n g w h
end Go.Proofs.YtpcpjmgkdbgopaaDoor
