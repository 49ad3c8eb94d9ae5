/- The freelist: awake. -/
import Derived.Test.YtpcpjmgkdbgopaaDoorFw
namespace Go.Proofs.YtpcpjmgkdbgopaaDoor
open Go.RowKit

def aw0 : FL := newL 3 2
def aw1 : FL := takeL aw0
def aw2 : FL := takeL aw1
def aw3 : FL := giveL aw2 0
def aw4 : FL := takeL aw3
def aw5 : FL := giveL aw4 0
theorem aw0_inv : FInv aw0 := newL_inv (by decide) (by decide) (by decide) (by decide)
theorem aw1_inv : FInv aw1 := takeL_inv aw0_inv (by decide)
theorem aw2_inv : FInv aw2 := takeL_inv aw1_inv (by decide)
theorem aw3_inv : FInv aw3 := giveL_inv aw2_inv (s := 0) (by decide) (by decide)
theorem aw4_inv : FInv aw4 := takeL_inv aw3_inv (by decide)
theorem aw5_inv : FInv aw5 := giveL_inv aw4_inv (s := 0) (by decide) (by decide)

theorem equalInts_eq (w : World) (v v' : Value) (n : Nat) (f g : Nat → Nat) (h : Sl w v n (fun i => encI (f i))) (h' : Sl w v' n (fun i => encI (g i))) (hn : n ≤ 9223372036854775807) (e : ∀ i, i < n → f i = g i) :
    Calls Tryd.prog 20 #[v, v'] w fun e w' => e = .returned (.bool true) ∧ ∃ m, w' = w.drewN m := by
  have := equalInts_any w v v' n n (fun i => (f i : Int)) (fun i => (g i : Int)) h h' hn
  rwa [show decide (n = n ∧ EqTo n (fun i => (f i : Int)) (fun i => (g i : Int))) = true from decide_eq_true ⟨rfl, fun i hi => congrArg _ (e i hi)⟩] at this
theorem equalHandles_eq (w : World) (v v' : Value) (n : Nat) (f g : Nat → Int) (h : Sl w v n (fun i => .int .u64 (f i))) (h' : Sl w v' n (fun i => .int .u64 (g i))) (hn : n ≤ 9223372036854775807) (e : ∀ i, i < n → f i = g i) :
    Calls Tryd.prog 38 #[v, v'] w fun e w' => e = .returned (.bool true) ∧ ∃ m, w' = w.drewN m := by
  have := equalHandles_any w v v' n n f g h h' hn
  rwa [show decide (n = n ∧ EqTo n f g) = true from decide_eq_true ⟨rfl, e⟩] at this
theorem lit_sl (w : World) (t : TypeId) (l : List Int) (c : Nat) (k : IntKind) : Sl (w.alloc (.cells (l.map (fun i => Value.int k i)).toArray t)) (.slice (some ⟨w.heap.size, 0, none⟩) l.length c) l.length (fun i => .int k (l.getD i 0)) := by
  refine ⟨_, _, rfl, fun _ => ⟨_, _, rfl, fun i hi => ?_⟩⟩
  rw [Nat.zero_add, block_cell (block_new w _) i]
  simp [hi]
theorem lit_ints (w : World) (l : List Nat) (c : Nat) : Sl (w.alloc (.cells (l.map encI).toArray 3)) (.slice (some ⟨w.heap.size, 0, none⟩) l.length c) l.length (fun i => encI (l.getD i 0)) := by
  refine ⟨_, _, rfl, fun _ => ⟨_, _, rfl, fun i hi => ?_⟩⟩
  rw [Nat.zero_add, block_cell (block_new w _) i]
  simp [hi]

theorem gen_lit (b : LB) (x : FL) (i : Int) (w : World) (hl : IsL w b x) (g e : Int) (h : genL x i = (g, e)) :
    Calls Tryd.prog 23 #[.pointer (some ⟨b.p, 0, none⟩), .int .i64 i] w fun r w' => r = .returned (.tuple #[.int .u64 g, .int .i64 e]) ∧ w = w' := by
  have := genL_any b x i w hl
  rwa [h] at this
theorem live_lit (b : LB) (x : FL) (h : Int) (w : World) (h0 : 0 ≤ h) (h1 : h ≤ 18446744073709551615) (hl : IsL w b x) (hd : ¬ liveL x h) :
    Calls Tryd.prog 24 #[.pointer (some ⟨b.p, 0, none⟩), .int .u64 h] w fun e w' => e = .returned (.bool false) ∧ ∃ n, w' = w.drewN n := by
  have := live_any b x h w h0 h1 hl
  rwa [decide_eq_false hd] at this

set_option maxRecDepth 100000 in
set_option maxHeartbeats 4000000 in
theorem awake_any (w : World) : Calls Tryd.prog 19 #[] w fun e w' => e = .returned (.bool true) ∧ Below w.heap.size w w' := by
  go_enter Tryd.func19, Tryd.ntmps19
  go_wp2_with fail
  refine (new_ok 3 2 w (by decide) (by decide) (by decide) (by decide)).mono ?_; rintro e w1 hh
  obtain ⟨b, rfl, hl, hb, bp, bs, bt, bg⟩ := hh
  have BP := Lib.hid bp
  have BS := Lib.hid bs
  have BT := Lib.hid bt
  have BG := Lib.hid bg
  have HL0 := Lib.hid (show IsL w1 b aw0 from hl)
  have HB0 := Lib.hid hb
  clear hl hb bp bs bt bg
  go_wp2_with fail
  refine (took_01 b aw0 w1 2 HL0.out aw0_inv (by decide) (by decide)).mono ?_; rintro e w2 ⟨rfl, hl, hk⟩
  have HL1 := Lib.hid (show IsL w2 b aw1 from hl)
  have HB1 := Lib.hid (HB0.out.trans (hk.1 w.heap.size HB0.out.size BP.out BS.out BT.out BG.out))
  clear hl hk HL0 HB0
  go_wp2_with fail
  refine (took_11 b aw1 w2 1 HL1.out aw1_inv (by decide) (by decide)).mono ?_; rintro e w3 ⟨rfl, hl, hk⟩
  have HL2 := Lib.hid (show IsL w3 b aw2 from hl)
  have HB2 := Lib.hid (HB1.out.trans (hk.1 w.heap.size HB1.out.size BP.out BS.out BT.out BG.out))
  clear hl hk HL1 HB1
  go_wp2_with fail
  refine (free_any b aw2 w3 HL2.out (by decide)).mono ?_; rintro e w4 ⟨va, rfl, ra, ba⟩
  have HA := Lib.hid ra
  have HL3 := Lib.hid (HL2.out.below ba (Nat.le_refl _))
  have HB3 := Lib.hid (below_two HB2.out ba)
  clear ra ba HL2 HB2
  go_wp2_with fail
  refine (equalInts_eq (w4.alloc (.cells #[.int .i64 2] 3)) va _ 1 (freeF aw2) (fun i => [2].getD i 0) (HA.out.keep ((Below.refl _ _).alloc (Nat.le_refl _) (.cells #[.int .i64 2] 3)) (Nat.le_refl _)).sl (lit_ints w4 [2] 1) (by decide) (by decide)).mono ?_; rintro e w5 ⟨rfl, m, rfl⟩
  have HL4 := Lib.hid ((HL3.out.below ((Below.refl w4.heap.size w4).alloc (Nat.le_refl _) (.cells #[.int .i64 2] 3)) (Nat.le_refl _)).drewN m)
  have HB4 := Lib.hid (below_drewN (HB3.out.alloc HB3.out.size (.cells #[.int .i64 2] 3)) m)
  clear HA HL3 HB3
  generalize (w4.alloc (.cells #[.int .i64 2] 3)).drewN m = w5 at *
  go_wp2_with fail
  refine (handles_any b aw2 w5 HL4.out aw2_inv).mono ?_; rintro e w6 hh
  obtain ⟨va, rfl, ra, ba⟩ := hh.rs
  have HA := Lib.hid ra
  have HL5 := Lib.hid (HL4.out.below ba (Nat.le_refl _))
  have HB5 := Lib.hid (below_two HB4.out ba)
  clear hh ra ba HL4 HB4
  go_wp2_with fail
  refine (equalHandles_eq (w6.alloc (.cells #[.int .u64 65536, .int .u64 65537] 33)) va _ 2 (hsF aw2) (fun i => [65536,65537].getD i 0) (HA.out.keep ((Below.refl _ _).alloc (Nat.le_refl _) (.cells #[.int .u64 65536, .int .u64 65537] 33)) (Nat.le_refl _)).sl (lit_sl w6 33 [65536,65537] 2 .u64) (by decide) (by decide)).mono ?_; rintro e w7 ⟨rfl, m, rfl⟩
  have HL6 := Lib.hid ((HL5.out.below ((Below.refl w6.heap.size w6).alloc (Nat.le_refl _) (.cells #[.int .u64 65536, .int .u64 65537] 33)) (Nat.le_refl _)).drewN m)
  have HB6 := Lib.hid (below_drewN (HB5.out.alloc HB5.out.size (.cells #[.int .u64 65536, .int .u64 65537] 33)) m)
  clear HA HL5 HB5
  generalize (w6.alloc (.cells #[.int .u64 65536, .int .u64 65537] 33)).drewN m = w7 at *
  go_wp2_with fail
  refine (give_push b aw2 0 1 w7 (by unfold mkOK; decide) (by decide) HL6.out aw2_inv (by decide)).mono ?_; rintro e w8 ⟨rfl, hl, hk⟩
  have HL7 := Lib.hid (show IsL w8 b aw3 from hl)
  have HB7 := Lib.hid (HB6.out.trans (hk.1 w.heap.size HB6.out.size BP.out BS.out BT.out BG.out))
  clear hl hk HL6 HB6
  go_wp2_with fail
  refine (gen_lit b aw3 0 w8 HL7.out 2 0 (by decide)).mono ?_; rintro e wx ⟨rfl, rfl⟩
  go_wp2_with fail
  refine (free_any b aw3 w8 HL7.out (by decide)).mono ?_; rintro e w9 ⟨va, rfl, ra, ba⟩
  have HA := Lib.hid ra
  have HL8 := Lib.hid (HL7.out.below ba (Nat.le_refl _))
  have HB8 := Lib.hid (below_two HB7.out ba)
  clear ra ba HL7 HB7
  go_wp2_with fail
  refine (equalInts_eq (w9.alloc (.cells #[.int .i64 0, .int .i64 2] 3)) va _ 2 (freeF aw3) (fun i => [0,2].getD i 0) (HA.out.keep ((Below.refl _ _).alloc (Nat.le_refl _) (.cells #[.int .i64 0, .int .i64 2] 3)) (Nat.le_refl _)).sl (lit_ints w9 [0,2] 2) (by decide) (by decide)).mono ?_; rintro e w10 ⟨rfl, m, rfl⟩
  have HL9 := Lib.hid ((HL8.out.below ((Below.refl w9.heap.size w9).alloc (Nat.le_refl _) (.cells #[.int .i64 0, .int .i64 2] 3)) (Nat.le_refl _)).drewN m)
  have HB9 := Lib.hid (below_drewN (HB8.out.alloc HB8.out.size (.cells #[.int .i64 0, .int .i64 2] 3)) m)
  clear HA HL8 HB8
  generalize (w9.alloc (.cells #[.int .i64 0, .int .i64 2] 3)).drewN m = w10 at *
  go_wp2_with fail
  refine (live_lit b aw3 65536 w10 (by decide) (by decide) HL9.out (by decide)).mono ?_; rintro e w11 ⟨rfl, m, rfl⟩
  have HL10 := Lib.hid (HL9.out.drewN m)
  have HB10 := Lib.hid (below_drewN HB9.out m)
  clear HL9 HB9
  generalize w10.drewN m = w11 at *
  go_wp2_with fail
  refine (took_02 b aw3 w11 1 HL10.out aw3_inv (by decide) (by decide)).mono ?_; rintro e w12 ⟨rfl, hl, hk⟩
  have HL11 := Lib.hid (show IsL w12 b aw4 from hl)
  have HB11 := Lib.hid (HB10.out.trans (hk.1 w.heap.size HB10.out.size BP.out BS.out BT.out BG.out))
  clear hl hk HL10 HB10
  go_wp2_with fail
  refine (give_last b aw4 0 2 w12 (by unfold mkOK; decide) (by decide) HL11.out (by decide)).mono ?_; rintro e w13 ⟨rfl, hl, hk⟩
  have HL12 := Lib.hid (show IsL w13 b aw5 from hl)
  have HB12 := Lib.hid (HB11.out.trans (hk.1 w.heap.size HB11.out.size BP.out BS.out BT.out BG.out))
  clear hl hk HL11 HB11
  go_wp2_with fail
  refine (gen_lit b aw5 0 w13 HL12.out 0 7 (by decide)).mono ?_; rintro e wx ⟨rfl, rfl⟩
  go_wp2_with fail
  refine (give_dead b aw5 131072 w13 (by decide) (by decide) (by decide) HL12.out).mono ?_; rintro e w14 ⟨rfl, m, rfl⟩
  have HL13 := Lib.hid (HL12.out.drewN m)
  have HB13 := Lib.hid (below_drewN HB12.out m)
  clear HL12 HB12
  generalize w13.drewN m = w14 at *
  go_wp2_with fail
  refine (withdrawn_any b aw5 w14 HL13.out (by decide)).mono ?_; rintro e w15 hh
  obtain ⟨va, rfl, ra, ba⟩ := hh.rs
  have HA := Lib.hid ra
  have HL14 := Lib.hid (HL13.out.below ba (Nat.le_refl _))
  have HB14 := Lib.hid (below_two HB13.out ba)
  clear hh ra ba HL13 HB13
  go_wp2_with fail
  refine (equalInts_eq (w15.alloc (.cells #[.int .i64 0] 3)) va _ 1 (fun i => (slotsTo aw5 2 aw5.n).getD i 0) (fun i => [0].getD i 0) (HA.out.keep ((Below.refl _ _).alloc (Nat.le_refl _) (.cells #[.int .i64 0] 3)) (Nat.le_refl _)).sl (lit_ints w15 [0] 1) (by decide) (by decide)).mono ?_; rintro e w16 ⟨rfl, m, rfl⟩
  have HL15 := Lib.hid ((HL14.out.below ((Below.refl w15.heap.size w15).alloc (Nat.le_refl _) (.cells #[.int .i64 0] 3)) (Nat.le_refl _)).drewN m)
  have HB15 := Lib.hid (below_drewN (HB14.out.alloc HB14.out.size (.cells #[.int .i64 0] 3)) m)
  clear HA HL14 HB14
  generalize (w15.alloc (.cells #[.int .i64 0] 3)).drewN m = w16 at *
  go_wp2_with fail
  refine (took_21 b aw5 w16 0 HL15.out aw5_inv (by decide) (by decide)).mono ?_; rintro e w17 ⟨rfl, hl, hk⟩
  have HL16 := Lib.hid (show IsL w17 b (takeL aw5) from hl)
  have HB16 := Lib.hid (HB15.out.trans (hk.1 w.heap.size HB15.out.size BP.out BS.out BT.out BG.out))
  clear hl hk HL15 HB15
  go_wp2_with fail
  refine (take_full b (takeL aw5) w17 HL16.out (by decide)).mono ?_; rintro e wx ⟨rfl, rfl⟩
  go_wp2_with fail
  refine (gen_lit b (takeL aw5) 3 w17 HL16.out 0 3 (by decide)).mono ?_; rintro e wx ⟨rfl, rfl⟩
  go_wp2_with fail
  go_ret
  exact ⟨rfl, HB16.out⟩
end Go.Proofs.YtpcpjmgkdbgopaaDoor

