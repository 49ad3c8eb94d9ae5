/- The contract of of. -/
import Derived.Test.YtbodacjhhkjdfaaNo6
namespace Go.Proofs.Ytbodacjhhkjdfaa
open Go.RowKit

def ofK (bs : List Int) : List Kid := bs.mapIdx fun i b => (65536 + (i : Int), b, b, (i : Int))
theorem ofK_len (bs : List Int) : (ofK bs).length = bs.length := by simp [ofK]
theorem ofK_succ (bs : List Int) (k : Nat) (h : k < bs.length) : ofK (bs.take (k + 1)) = ofK (bs.take k) ++ [(65536 + (k : Int), bs[k], bs[k], (k : Int))] := by
  unfold ofK
  rw [List.take_succ_eq_append_getElem h, List.mapIdx_append]
  simp [List.length_take, Nat.min_eq_left (Nat.le_of_lt h)]
theorem ofK_rng (bs : List Int) (hb : bs.length ≤ 5) : ∀ x ∈ ofK bs, 0 ≤ x.1 ∧ x.1 ≤ 18446744073709551615 := by
  intro x hx
  unfold ofK at hx
  rw [List.mem_mapIdx] at hx
  obtain ⟨i, hi, rfl⟩ := hx
  simp only
  omega
def AfterOf (w : World) (base bv : Nat) (h : Int) (k : Nat) (ao : Option Addr) (cap : Nat) (l : List Kid) (i : Nat) (p : Nat) (vs : Nat → Value) (u : World) : Prop :=
  ∃ ao' cap', vs i = .slice ao' (k + 1) cap' ∧ OwnKs base u (.slice ao' (k + 1) cap') (k + 1) l ∧ u.heap[bv]? = some (.cells #[.int .i64 h, .string ⟨#[]⟩, if p = 1 then .slice ao k cap else .slice ao' (k + 1) cap'] 24 (0, 0)) ∧
    u.heap[w.heap.size]? = some (.cells #[.int .i64 0, .string ⟨#[]⟩, .slice none 0 0] 24 (0, 0)) ∧ base ≤ u.heap.size ∧ Below w.heap.size w u
/-- the slice (b, off, n) holds these integers -/
def IsIs (w : World) (b off : Nat) (bs : List Int) : Prop := b < w.heap.size ∧ ∀ k (h : k < bs.length), w.cell? ⟨b, off + k, none⟩ = some (.int .i64 bs[k])

set_option maxRecDepth 100000 in
set_option maxHeartbeats 4000000 in
theorem of_some (h : Int) (bs : List Int) (b off n c : Nat) (w : World) (hn : bs.length = n) (hn5 : n ≤ 5) (hI : IsIs w b off bs) :
    Calls Try.prog 43 #[.int .i64 h, .slice (some ⟨b, off, none⟩) n c] w fun e w' => ∃ v, e = .returned v ∧ OwnN w.heap.size w' v ⟨h, ⟨#[]⟩, ofK bs⟩ ∧ Below w.heap.size w w' := by
  obtain ⟨i0, hi, hz0, hz1, hz2⟩ := info_parts infoK
  obtain ⟨hbw, hcells⟩ := hI
  have HCS := Lib.hid hcells
  have HN := Lib.hid hn
  clear hcells hn
  go_enter Try.func43, Try.ntmps43
  go_wp2_with fail
  obtain ⟨bv, hbv⟩ : ∃ b, b = w.heap.size + 1 := ⟨_, rfl⟩
  have HBW := Lib.hid (((Below.refl w.heap.size w).alloc (Nat.le_refl _) (.cells #[.int .i64 0, .string ⟨#[]⟩, .slice none 0 0] 24)).alloc (by simp) (.cells #[.int .i64 h, .string ⟨#[]⟩, .slice none 0 0] 24))
  have HZ0 := Lib.hid (block_alloc (block_new w (.cells #[.int .i64 0, .string ⟨#[]⟩, .slice none 0 0] 24)) (.cells #[.int .i64 h, .string ⟨#[]⟩, .slice none 0 0] 24))
  have HBL := Lib.hid (block_new' (w.alloc (.cells #[.int .i64 0, .string ⟨#[]⟩, .slice none 0 0] 24)) (.cells #[.int .i64 h, .string ⟨#[]⟩, .slice none 0 0] 24) bv (by rw [hbv]; simp))
  have hge : w.heap.size + 1 ≤ bv := by omega
  obtain ⟨base, hbase⟩ : ∃ b, b = ((w.alloc (.cells #[.int .i64 0, .string ⟨#[]⟩, .slice none 0 0] 24)).alloc (.cells #[.int .i64 h, .string ⟨#[]⟩, .slice none 0 0] 24)).heap.size := ⟨_, rfl⟩
  have HSZU := Lib.hid (Nat.le_of_eq hbase)
  have hbvb : bv < base := by rw [hbase, hbv]; simp
  have hwb : w.heap.size < base := by omega
  clear hbase
  rw [← hbv]
  clear hbv
  go_loopw [6] (fun iv wr => ∃ (k : Nat) (ao : Option Addr) (cap : Nat), k ≤ n ∧ iv = .int .i64 k ∧ Below w.heap.size w wr ∧ wr.heap[w.heap.size]? = some (.cells #[.int .i64 0, .string ⟨#[]⟩, .slice none 0 0] 24 (0, 0)) ∧ wr.heap[bv]? = some (.cells #[.int .i64 h, .string ⟨#[]⟩, .slice ao k cap] 24 (0, 0)) ∧ OwnKs base wr (.slice ao k cap) k (ofK (bs.take k)) ∧ base ≤ wr.heap.size) (fun iv _ => n - (intOf iv).toNat)
  case atStart => exact ⟨0, none, 0, Nat.zero_le _, rfl, HBW.out, HZ0.out, HBL.out, ⟨rfl, by simp [ofK], World.ownsRow_nil _ _ _ _⟩, HSZU.out⟩
  case round =>
    obtain ⟨k, ao, cap, hkn, rfl, hbr, hzb, hx, hown, hszr⟩ := hrel
    (have q0 := block_cell hx 0; have q1 := block_cell hx 1; have q2 := block_cell hx 2; have f0 := block_free hx 0; have f1 := block_free hx 1; have f2 := block_free hx 2; have hz := block_lt hx; simp at q0 q1 q2)
    by_cases hlt : k < n
    · have hkl : k < bs.length := by rw [HN.out]; exact hlt
      have hlen : (ofK (bs.take (k + 1))).length = k + 1 := by rw [ofK_len, List.length_take]; omega
      have hrng : ∀ x ∈ ofK (bs.take (k + 1)), 0 ≤ x.1 ∧ x.1 ≤ 18446744073709551615 := ofK_rng _ (by rw [List.length_take]; omega)
      have hc := (hbr.cell (p := ⟨b, off + k, none⟩) hbw).trans (HCS.out k hkl)
      have hbw' : b < wr.heap.size := Nat.lt_of_lt_of_le hbw hbr.size
      have HC := Lib.hid hc
      have HNEXT := Lib.hid (ofK_succ bs k hkl).symm
      have HLEN := Lib.hid hlen
      have HRNG := Lib.hid hrng
      have HX := Lib.hid hx
      have HZ := Lib.hid hzb
      have HOWN := Lib.hid hown
      have HBR := Lib.hid hbr
      clear hx hzb hown hbr hlen hrng hc
      go_wp2_with fail
      refine wp_region_plan [.make, .make, .make, .make, .make, .make, .make, .make, .make, .make, .make, .make, .make, .make, .make, .make, .make, .write 0, .pure, .write 1] [0, 1, 2, 3, 4, 5, 6, 7, 8, 9, 10, 11, 12, 13, 14, 15, 16] 2 (AfterOf w base bv h k ao cap (ofK (bs.take (k + 1))) 17) (by kernel_rfl) (by decide) (by kernel_rfl) (by kernel_rfl) (by kernel_rfl) (by kernel_rfl) (fun p vs vs' u h hE => by unfold AfterOf at hE ⊢; rw [← h 17 (by decide)] at hE; exact hE) ?_
      simp only [fill, Act.put, List.setIfInBounds_toArray, List.set_cons_zero, List.set_cons_succ, Nat.zero_add, Nat.reduceAdd, List.zip_cons_cons, List.zip_nil_right]
      apply OpsIs.eq
      · intro vs u hb hd
        clear hd
        go_wp2_with fail
        exact ⟨rfl, _, rfl, Below.refl _ _, rfl⟩
      apply OpsIs.eq
      · intro vs u hb hd
        have e0 := hd ⟨0, .data⟩ (by simp) (by decide)
        simp at e0
        clear hd
        simp only [e0]
        have q := block_below hb HX.out (block_lt HX.out)
        have p0 := block_cell q 0
        have p1 := block_cell q 1
        have p2 := block_cell q 2
        simp at p0 p1 p2
        clear q
        go_wp2_with fail
        exact ⟨rfl, _, rfl, Below.refl _ _, rfl⟩
      apply OpsIs.eq
      · intro vs u hb hd
        clear hd
        go_wp2_with fail
        exact ⟨rfl, _, rfl, Below.refl _ _, rfl⟩
      apply OpsIs.eq
      · intro vs u hb hd
        have e2 := hd ⟨2, .data⟩ (by simp) (by decide)
        simp at e2
        clear hd
        simp only [e2]
        go_wp2_with fail
        exact ⟨rfl, _, rfl, Below.refl _ _, rfl⟩
      apply OpsIs.eq
      · intro vs u hb hd
        have e3 := hd ⟨3, .data⟩ (by simp) (by decide)
        simp at e3
        clear hd
        simp only [e3]
        go_wp2_with fail
        exact ⟨rfl, _, rfl, Below.refl _ _, rfl⟩
      apply OpsIs.eq
      · intro vs u hb hd
        clear hd
        go_wp2_with fail
        exact ⟨rfl, _, rfl, Below.refl _ _, rfl⟩
      apply OpsIs.eq
      · intro vs u hb hd
        clear hd
        go_wp2_with fail
        exact ⟨rfl, _, rfl, Below.refl _ _, rfl⟩
      apply OpsIs.eq
      · intro vs u hb hd
        have e5 := hd ⟨5, .data⟩ (by simp) (by decide)
        simp at e5
        have e6 := hd ⟨6, .data⟩ (by simp) (by decide)
        simp at e6
        clear hd
        simp only [e5, e6]
        go_wp2_with fail
        exact ⟨rfl, _, rfl, Below.refl _ _, rfl⟩
      apply OpsIs.eq
      · intro vs u hb hd
        have e7 := hd ⟨7, .data⟩ (by simp) (by decide)
        simp at e7
        clear hd
        simp only [e7]
        have p0 := (hb.cell (p := ⟨b, off + k, none⟩) hbw').trans HC.out
        go_wp2_with fail
        exact ⟨rfl, _, rfl, Below.refl _ _, rfl⟩
      apply OpsIs.eq
      · intro vs u hb hd
        clear hd
        go_wp2_with fail
        exact ⟨rfl, _, rfl, Below.refl _ _, rfl⟩
      apply OpsIs.eq
      · intro vs u hb hd
        clear hd
        go_wp2_with fail
        exact ⟨rfl, _, rfl, Below.refl _ _, rfl⟩
      apply OpsIs.eq
      · intro vs u hb hd
        have e9 := hd ⟨9, .data⟩ (by simp) (by decide)
        simp at e9
        have e10 := hd ⟨10, .data⟩ (by simp) (by decide)
        simp at e10
        clear hd
        simp only [e9, e10]
        go_wp2_with fail
        exact ⟨rfl, _, rfl, Below.refl _ _, rfl⟩
      apply OpsIs.eq
      · intro vs u hb hd
        have e11 := hd ⟨11, .data⟩ (by simp) (by decide)
        simp at e11
        clear hd
        simp only [e11]
        have p0 := (hb.cell (p := ⟨b, off + k, none⟩) hbw').trans HC.out
        go_wp2_with fail
        exact ⟨rfl, _, rfl, Below.refl _ _, rfl⟩
      apply OpsIs.eq
      · intro vs u hb hd
        clear hd
        go_wp2_with fail
        exact ⟨rfl, _, rfl, Below.refl _ _, rfl⟩
      apply OpsIs.eq
      · intro vs u hb hd
        have e8 := hd ⟨8, .data⟩ (by simp) (by decide)
        simp at e8
        have e12 := hd ⟨12, .data⟩ (by simp) (by decide)
        simp at e12
        have e13 := hd ⟨13, .data⟩ (by simp) (by decide)
        simp at e13
        clear hd
        simp only [e8, e12, e13]
        go_wp2_with fail
        exact ⟨rfl, _, rfl, Below.refl _ _, rfl⟩
      apply OpsIs.eq
      · intro vs u hb hd
        have e4 := hd ⟨4, .data⟩ (by simp) (by decide)
        simp at e4
        have e14 := hd ⟨14, .data⟩ (by simp) (by decide)
        simp at e14
        clear hd
        simp only [e4, e14]
        go_wp2_with fail
        exact ⟨rfl, _, rfl, Below.refl _ _, rfl⟩
      refine OpsIs.step (SlK (65536 + (k : Int), bs[k], bs[k], (k : Int))) (Stab_slk _) ?_ ?_
      · intro vs u hb hd
        have e15 := hd ⟨15, .data⟩ (by simp) (by decide)
        simp at e15
        clear hd
        simp only [e15]
        go_wp2_with fail
        exact ⟨rfl, _, rfl, (Below.refl _ _).alloc (Nat.le_refl _) _, _, rfl, block_new _ _⟩
      refine OpsIs.first ?_ ?_
      · intro vs u hb hdis hd
        have e1 := hd 1 (by simp)
        simp at e1
        obtain ⟨b7, e7, hb7⟩ := hd 16 (by simp)
        clear hd
        simp only [e1, e7]
        have q := block_below hb HX.out (block_lt HX.out)
        have hown := HOWN.out.later hb
        have hz := block_below hb HZ.out (block_lt HZ.out)
        have hsz := hb.size
        have HQ := Lib.hid q
        have HOW := Lib.hid hown
        have HHZ := Lib.hid hz
        have HN7 := Lib.hid hb7
        have HB := Lib.hid hb
        clear q hown hz hb7 hb
        go_wp2_with (at_builtin; refine wpList_append_own _ rfl _ _ 22 rfl base 49 i0 (.agg #[.int .u64 0, .int .i64 0, .int .i64 0, .int .i64 0]) 4 32 Try.underlying22 hi hz0 hz1 hz2 rfl (by decide) _ k (flatR fK (ofK (bs.take k))) rfl HOW.out.2.2 ⟨b7, 0, none⟩ 1 _ (flatR fK [(65536 + (k : Int), bs[k], bs[k], (k : Int))]) rfl rfl (slk_news HN7.out) (fK_one _) ?c3 ?c4 ?c5 ?_)
        (case c3 => unfold maxLen; omega)
        (case c4 => omega)
        (case c5 => omega)
        intro v' w1 hown1 hgrow _
        rw [← flatR_app, HNEXT.out] at hown1
        have hlow := HOW.out.2.2.lt
        have hok : OwnKs base w1 v' (k + 1) (ofK (bs.take (k + 1))) := ⟨HLEN.out, HRNG.out, hown1⟩
        obtain ⟨ao', cap', rfl, _⟩ := hok.ks
        exact ⟨rfl, _, rfl, by
          unfold AfterOf
          refine ⟨ao', cap', rfl, hok, ?_, ?_, Nat.le_trans (by omega) hgrow.size, ?_⟩
          · rw [if_pos rfl]; exact (hgrow.block _ (Nat.lt_of_lt_of_le hbvb (by omega)) (fun hj => by have := hlow _ hj.symm; omega)).trans HQ.out
          · exact (hgrow.block _ (Nat.lt_of_lt_of_le hwb (by omega)) (fun hj => by have := hlow _ hj.symm; omega)).trans HHZ.out
          · exact (below_step HBR.out HB.out).grown hgrow (by omega) (fun j hj => by have := hlow j hj; omega)⟩
      apply OpsIs.pure
      · intro vs u hd
        obtain ⟨_, e0⟩ := hd ⟨0, .phase⟩ (by simp) (by decide)
        simp at e0
        obtain ⟨_, e1⟩ := hd ⟨1, .phase⟩ (by simp) (by decide)
        simp at e1
        obtain ⟨_, e2⟩ := hd ⟨2, .phase⟩ (by simp) (by decide)
        simp at e2
        obtain ⟨_, e3⟩ := hd ⟨3, .phase⟩ (by simp) (by decide)
        simp at e3
        obtain ⟨_, e4⟩ := hd ⟨4, .phase⟩ (by simp) (by decide)
        simp at e4
        obtain ⟨_, e5⟩ := hd ⟨5, .phase⟩ (by simp) (by decide)
        simp at e5
        obtain ⟨_, e6⟩ := hd ⟨6, .phase⟩ (by simp) (by decide)
        simp at e6
        obtain ⟨_, e7⟩ := hd ⟨7, .phase⟩ (by simp) (by decide)
        simp at e7
        obtain ⟨_, e8⟩ := hd ⟨8, .phase⟩ (by simp) (by decide)
        simp at e8
        obtain ⟨_, e9⟩ := hd ⟨9, .phase⟩ (by simp) (by decide)
        simp at e9
        obtain ⟨_, e10⟩ := hd ⟨10, .phase⟩ (by simp) (by decide)
        simp at e10
        obtain ⟨_, e11⟩ := hd ⟨11, .phase⟩ (by simp) (by decide)
        simp at e11
        obtain ⟨_, e12⟩ := hd ⟨12, .phase⟩ (by simp) (by decide)
        simp at e12
        obtain ⟨_, e13⟩ := hd ⟨13, .phase⟩ (by simp) (by decide)
        simp at e13
        obtain ⟨_, e14⟩ := hd ⟨14, .phase⟩ (by simp) (by decide)
        simp at e14
        obtain ⟨_, e15⟩ := hd ⟨15, .phase⟩ (by simp) (by decide)
        simp at e15
        clear hd
        simp only [e0, e1, e2, e3, e4, e5, e6, e7, e8, e9, e10, e11, e12, e13, e14, e15]
        go_wp2_with fail
        exact ⟨rfl, _, rfl, rfl, fun _ => rfl⟩
      refine OpsIs.next ?_ ?_
      · intro vs u hE hd
        obtain ⟨_, e18⟩ := hd ⟨18, .data⟩ (by simp) (by decide)
        simp at e18
        obtain ⟨_, e0⟩ := hd ⟨0, .phase⟩ (by simp) (by decide)
        simp at e0
        obtain ⟨_, e1⟩ := hd ⟨1, .phase⟩ (by simp) (by decide)
        simp at e1
        obtain ⟨_, e2⟩ := hd ⟨2, .phase⟩ (by simp) (by decide)
        simp at e2
        obtain ⟨_, e3⟩ := hd ⟨3, .phase⟩ (by simp) (by decide)
        simp at e3
        obtain ⟨_, e4⟩ := hd ⟨4, .phase⟩ (by simp) (by decide)
        simp at e4
        obtain ⟨_, e5⟩ := hd ⟨5, .phase⟩ (by simp) (by decide)
        simp at e5
        obtain ⟨_, e6⟩ := hd ⟨6, .phase⟩ (by simp) (by decide)
        simp at e6
        obtain ⟨_, e7⟩ := hd ⟨7, .phase⟩ (by simp) (by decide)
        simp at e7
        obtain ⟨_, e8⟩ := hd ⟨8, .phase⟩ (by simp) (by decide)
        simp at e8
        obtain ⟨_, e9⟩ := hd ⟨9, .phase⟩ (by simp) (by decide)
        simp at e9
        obtain ⟨_, e10⟩ := hd ⟨10, .phase⟩ (by simp) (by decide)
        simp at e10
        obtain ⟨_, e11⟩ := hd ⟨11, .phase⟩ (by simp) (by decide)
        simp at e11
        obtain ⟨_, e12⟩ := hd ⟨12, .phase⟩ (by simp) (by decide)
        simp at e12
        obtain ⟨_, e13⟩ := hd ⟨13, .phase⟩ (by simp) (by decide)
        simp at e13
        obtain ⟨_, e14⟩ := hd ⟨14, .phase⟩ (by simp) (by decide)
        simp at e14
        obtain ⟨_, e15⟩ := hd ⟨15, .phase⟩ (by simp) (by decide)
        simp at e15
        obtain ⟨ao', cap', hv8, hok, hx, hz, hsz, hbe⟩ := hE
        clear hd
        simp only [e18, e0, e1, e2, e3, e4, e5, e6, e7, e8, e9, e10, e11, e12, e13, e14, e15, hv8]
        rw [if_pos rfl] at hx
        have p2 := block_cell hx 2
        have f2 := block_free hx 2
        simp at p2
        have hlt' := block_lt hx
        have HX2 := Lib.hid hx
        have HOK2 := Lib.hid hok
        have HV2 := Lib.hid hv8
        have HZ2 := Lib.hid hz
        have HBE2 := Lib.hid hbe
        clear hx hok hv8 hz hbe
        go_wp2_with fail
        exact ⟨rfl, undef, rfl, by
          unfold AfterOf
          refine ⟨ao', cap', HV2.out, HOK2.out.setBelow hbvb _, ?_, block_setCell_other HZ2.out (p := ⟨bv, 2, none⟩) (by simp; omega) _, by simpa using hsz, HBE2.out.setCell (by simp; omega) _⟩
          rw [if_neg (by decide)]; exact block_setCell HX2.out 2 _⟩
      refine OpsIs.done ?_
      intro vs11 u11 hE hS
      clear hS
      obtain ⟨ao', cap', hv8, hok, hx, hz, hsz, hbe⟩ := hE
      rw [if_neg (by decide)] at hx
      have HOK := Lib.hid hok
      have HX := Lib.hid hx
      have HZ := Lib.hid hz
      have HBE := Lib.hid hbe
      clear hbe hz hx hok
      clear hv8
      go_wp2_with fail
      go_roundw
      case rel => exact ⟨k + 1, ao', cap', by omega, by go_num, HBE.out, HZ.out, HX.out, HOK.out, hsz⟩
      case measure => simp [intOf]; omega
    · obtain rfl : n = k := by omega
      (have q0 := block_cell hzb 0; have q1 := block_cell hzb 1; have q2 := block_cell hzb 2; have f0 := block_free hzb 0; have f1 := block_free hzb 1; have f2 := block_free hzb 2; have hz := block_lt hzb; simp at q0 q1 q2)
      have HZ := Lib.hid hzb
      have HBR := Lib.hid hbr
      have HTK := Lib.hid (show bs.take n = bs by rw [← HN.out, List.take_length])
      rw [HTK.out] at hown
      have HOWN := Lib.hid hown
      clear hx hzb hbr hown
      go_wp2_with fail
      have hb0 := block_setCell (block_setCell (block_setCell HZ.out 0 (.int .i64 h)) 1 (.string ⟨#[]⟩)) 2 (.slice ao n cap)
      refine bodyPost_ret (res3 Try.results43 (Try.isAgg24 _) (Try.sizeOf24 _) rfl hb0) rfl ⟨_, rfl, ⟨_, rfl, ?_⟩, ((HBR.out.setCell (by simp) _).setCell (by simp) _).setCell (by simp) _⟩
      show OwnKs _ _ _ (ofK bs).length (ofK bs)
      rw [ofK_len, HN.out]
      exact (((HOWN.out.setBelow hwb _).setBelow hwb _).setBelow hwb _).le (by omega)

set_option maxRecDepth 100000 in
set_option maxHeartbeats 2000000 in
theorem of_none (h : Int) (w : World) :
    Calls Try.prog 43 #[.int .i64 h, .slice none 0 0] w fun e w' => ∃ v, e = .returned v ∧ OwnN w.heap.size w' v ⟨h, ⟨#[]⟩, []⟩ ∧ Below w.heap.size w w' := by
  go_enter Try.func43, Try.ntmps43
  go_wp2_with fail
  have hx := (block_new' (w.alloc (.cells #[.int .i64 0, .string ⟨#[]⟩, .slice none 0 0] 24)) (.cells #[.int .i64 h, .string ⟨#[]⟩, .slice none 0 0] 24) (w.heap.size + 1) (by simp))
  have hzb := (block_alloc (block_new w (.cells #[.int .i64 0, .string ⟨#[]⟩, .slice none 0 0] 24)) (.cells #[.int .i64 h, .string ⟨#[]⟩, .slice none 0 0] 24))
  have HBW := Lib.hid (((Below.refl w.heap.size w).alloc (Nat.le_refl _) (.cells #[.int .i64 0, .string ⟨#[]⟩, .slice none 0 0] 24)).alloc (by simp) (.cells #[.int .i64 h, .string ⟨#[]⟩, .slice none 0 0] 24))
  go_loop [6] (fun i => i = .int .i64 0) (fun _ => 0)
  case atStart => rfl
  case round =>
    obtain rfl := hrel
    (have q0 := block_cell hx 0; have q1 := block_cell hx 1; have q2 := block_cell hx 2; have f0 := block_free hx 0; have f1 := block_free hx 1; have f2 := block_free hx 2; have hz := block_lt hx; simp at q0 q1 q2)
    (have q0 := block_cell hzb 0; have q1 := block_cell hzb 1; have q2 := block_cell hzb 2; have f0 := block_free hzb 0; have f1 := block_free hzb 1; have f2 := block_free hzb 2; have hz := block_lt hzb; simp at q0 q1 q2)
    have HZ := Lib.hid hzb
    clear hx hzb
    go_wp2_with fail
    exact bodyPost_ret (res3 Try.results43 (Try.isAgg24 _) (Try.sizeOf24 _) rfl (block_alloc (block_new w (.cells #[.int .i64 h, .string ⟨#[]⟩, .slice none 0 0] 24)) (.cells #[.int .i64 h, .string ⟨#[]⟩, .slice none 0 0] 24))) rfl ⟨_, rfl, ⟨_, rfl, rfl, by simp, World.ownsRow_nil _ _ _ _⟩, by go_grown⟩
end Go.Proofs.Ytbodacjhhkjdfaa
