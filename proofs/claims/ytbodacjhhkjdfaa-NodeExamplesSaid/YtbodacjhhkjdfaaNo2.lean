/- The contract of Decode at inner nodes. -/
import Derived.Test.YtbodacjhhkjdfaaNo1
namespace Go.Proofs.Ytbodacjhhkjdfaa
open Go.RowKit

def strSz : Value → Nat | .string b => b.size | _ => 0
set_option maxRecDepth 100000 in
set_option maxHeartbeats 8000000 in
theorem decode_inner (s : ByteArray) (w : World) (h1 : 0 < s.size) (hs : s.size ≤ 4294967296) (hne : hdN s ≠ 0) (m : Nat) (hm : s.size - 1 = 12 * m) :
    Calls Try.prog 27 #[.string s] w fun e w' => ∃ v, e = .returned (.tuple #[v, .int .i64 (if checkN ⟨hdN s, ⟨#[]⟩, kidsTo s m⟩ = 0 then 0 else 4)]) ∧ OwnN w.heap.size w' v (resN ⟨hdN s, ⟨#[]⟩, kidsTo s m⟩) ∧ Below w.heap.size w w' := by
  have h0 := hdN_at s h1
  have hd256 := hdN_lt s
  obtain ⟨hd, hhd⟩ : ∃ h, hdN s = h := ⟨_, rfl⟩
  rw [hhd] at h0 hne hd256
  have hneB : ((hd : Int) == 0) = false := by simp; omega
  have hemp := nonempty_list h1
  have hlt8 : hd < 256 := hd256
  obtain ⟨i0, hi, hz0, hz1, hz2⟩ := info_parts infoK
  have hsz1 : (s.extract 1 s.size).size = 12 * m := by rw [ex_size _ _ _ (Nat.le_refl _)]; exact hm
  have hrem : (12 * (m : Int)) % 12 = 0 := by omega
  rw [hhd]
  obtain ⟨RR, hRR⟩ : ∃ x, resN ⟨(hd : Int), ⟨#[]⟩, kidsTo s m⟩ = x := ⟨_, rfl⟩
  obtain ⟨EE, hEE⟩ : ∃ e : Int, (if checkN ⟨(hd : Int), ⟨#[]⟩, kidsTo s m⟩ = 0 then 0 else 4) = e := ⟨_, rfl⟩
  rw [hRR, hEE]
  have HHD := Lib.hid hhd
  have HNE := Lib.hid hne
  have HRR := Lib.hid hRR
  have HEE := Lib.hid hEE
  clear hEE hRR hne hhd
  go_enter Try.func27, Try.ntmps27
  go_wp2_with fail
  refine wp_region_plan [.make, .make, .make, .make, .pure, .pure, .make, .write 0, .pure] [0, 1, 2, 3, 6] 1 (fun _ vs u => ∃ b, vs 6 = .pointer (some ⟨b, 0, none⟩) ∧ w.heap.size + 1 ≤ b ∧ u.heap[b]? = some (.cells #[.int .i64 (hd : Int), .string ⟨#[]⟩, .slice none 0 0] 24 (0, 0)) ∧ Below (w.heap.size + 1) (w.alloc (.cells #[.int .i64 0, .string ⟨#[]⟩, .slice none 0 0] 24)) u) (by kernel_rfl) (by decide) (by kernel_rfl) (by kernel_rfl) (by kernel_rfl) (by kernel_rfl) (fun p vs vs' u h hE => by rw [← h 6 (by decide)] at hE; exact hE) ?_
  simp only [fill, Act.put, List.setIfInBounds_toArray, List.set_cons_zero, List.set_cons_succ, Nat.zero_add, Nat.reduceAdd, List.zip_cons_cons, List.zip_nil_right]
  apply OpsIs.eq
  · intro vs u hb hd
    clear hd
    go_wp2_with fail
    exact ⟨rfl, _, rfl, Below.refl _ _, rfl⟩
  apply OpsIs.eq
  · intro vs u hb hd
    have e0 := hd ⟨0, .data⟩ (by simp) (by decide)
    simp at e0
    clear hd
    simp only [e0]
    go_wp2_with fail
    exact ⟨rfl, _, rfl, Below.refl _ _, rfl⟩
  apply OpsIs.eq
  · intro vs u hb hd
    have e1 := hd ⟨1, .data⟩ (by simp) (by decide)
    simp at e1
    clear hd
    simp only [e1]
    go_wp2_with fail
    exact ⟨rfl, _, rfl, Below.refl _ _, rfl⟩
  apply OpsIs.eq
  · intro vs u hb hd
    have e2 := hd ⟨2, .data⟩ (by simp) (by decide)
    simp at e2
    clear hd
    simp only [e2]
    go_wp2_with fail
    exact ⟨rfl, _, rfl, Below.refl _ _, rfl⟩
  apply OpsIs.pure
  · intro vs u hd
    clear hd
    go_wp2_with fail
    exact ⟨rfl, _, rfl, rfl, fun _ => rfl⟩
  apply OpsIs.pure
  · intro vs u hd
    obtain ⟨_, e4⟩ := hd ⟨4, .data⟩ (by simp) (by decide)
    simp at e4
    clear hd
    simp only [e4]
    go_wp2_with fail
    exact ⟨rfl, _, rfl, rfl, fun _ => rfl⟩
  refine OpsIs.step (PtrTo (w.heap.size + 1) (.cells #[.int .i64 0, .string ⟨#[]⟩, .slice none 0 0] 24)) (Stab_ptr _ _) ?_ ?_
  · intro vs u hb hd
    clear hd
    go_wp2_with fail
    exact ⟨rfl, _, rfl, (Below.refl _ _).alloc (Nat.le_refl _) _, _, rfl, by have := hb.size; simpa using this, block_new _ _⟩
  refine OpsIs.first ?_ ?_
  · intro vs u hb hdis hd
    have e3 := hd 3 (by simp)
    simp at e3
    obtain ⟨bv, hv, hge, hbl⟩ := hd 6 (by simp)
    clear hd
    simp only [e3, hv]
    have p0 := block_cell hbl 0
    have p1 := block_cell hbl 1
    have p2 := block_cell hbl 2
    have f0 := block_free hbl 0
    have f1 := block_free hbl 1
    have f2 := block_free hbl 2
    simp at p0 p1 p2
    have hlt := block_lt hbl
    go_wp2_with fail
    exact ⟨rfl, undef, rfl, bv, hv, hge, block_setCell (block_setCell (block_setCell hbl 0 _) 1 _) 2 _, (((hb.mono (by simp)).setCell hge _).setCell hge _).setCell hge _⟩
  apply OpsIs.pure
  · intro vs u hd
    obtain ⟨_, e5⟩ := hd ⟨5, .data⟩ (by simp) (by decide)
    simp at e5
    obtain ⟨_, e0⟩ := hd ⟨0, .phase⟩ (by simp) (by decide)
    simp at e0
    obtain ⟨_, e1⟩ := hd ⟨1, .phase⟩ (by simp) (by decide)
    simp at e1
    obtain ⟨_, e2⟩ := hd ⟨2, .phase⟩ (by simp) (by decide)
    simp at e2
    obtain ⟨_, e3⟩ := hd ⟨3, .phase⟩ (by simp) (by decide)
    simp at e3
    obtain ⟨_, e4⟩ := hd ⟨4, .phase⟩ (by simp) (by decide)
    simp at e4
    clear hd
    simp only [e5, e0, e1, e2, e3, e4]
    go_wp2_with fail
    exact ⟨rfl, _, rfl, rfl, fun _ => rfl⟩
  refine OpsIs.done ?_
  intro vs u hE hS
  obtain ⟨_, h8⟩ := hS 8 (by decide)
  simp at h8
  simp only [h8]
  clear h8
  clear hS
  obtain ⟨bv, hv, hge, hbl, hbe⟩ := hE
  simp only [hv]
  have HV := Lib.hid hv
  clear hv
  (have q0 := block_cell hbl 0; have q1 := block_cell hbl 1; have q2 := block_cell hbl 2; have f0 := block_free hbl 0; have f1 := block_free hbl 1; have f2 := block_free hbl 2; have hz := block_lt hbl; simp at q0 q1 q2)
  have hz0' := block_below hbe (block_new w _) (by simp)
  have hbw : Below w.heap.size w u := ((Below.refl _ _).alloc (Nat.le_refl _) _).trans (hbe.mono (Nat.le_succ _))
  have hbvu := block_lt hbl
  have hwu := block_lt hz0'
  have HBL := Lib.hid hbl
  have HBW := Lib.hid hbw
  have HZ0 := Lib.hid hz0'
  have HSZ1 := Lib.hid hsz1
  have hszI : ((s.extract 1 s.size).size : Int) = 12 * (m : Int) := by rw [hsz1]; push_cast; rfl
  clear hbe hbl hbw hz0' hsz1
  go_wp2_with fail
  clear hszI
  obtain ⟨base, hbase⟩ : ∃ b, u.heap.size = b := ⟨_, rfl⟩
  have HSZU := Lib.hid (Nat.le_of_eq hbase.symm)
  have hbvb : bv < base := by omega
  have hwb : w.heap.size < base := by omega
  have hmb : m ≤ 357913942 := by omega
  clear hbase hbvu hwu
  go_loopw [5] (fun b5 wr => ∃ (k : Nat) (bs : ByteArray) (ao : Option Addr) (cap : Nat), k ≤ m ∧ b5 = .string bs ∧ Hid (bs = s.extract (1 + 12 * k) s.size) ∧ Below w.heap.size w wr ∧ wr.heap[w.heap.size]? = some (.cells #[.int .i64 0, .string ⟨#[]⟩, .slice none 0 0] 24 (0, 0)) ∧ wr.heap[bv]? = some (.cells #[.int .i64 hd, .string ⟨#[]⟩, .slice ao k cap] 24 (0, 0)) ∧ OwnKs base wr (.slice ao k cap) k (kidsTo s k) ∧ base ≤ wr.heap.size) (fun b5 _ => strSz b5)
  case atStart => exact ⟨0, _, none, 0, Nat.zero_le _, rfl, Lib.hid rfl, HBW.out, HZ0.out, HBL.out, ⟨rfl, by simp [kidsTo], World.ownsRow_nil _ _ _ _⟩, HSZU.out⟩
  case round =>
    obtain ⟨k, bs, ao, cap, hkm, rfl, hbs, hbr, hzb, hx, hown, hszr⟩ := hrel
    have hbsz : bs.size = 12 * (m - k) := by rw [hbs.out, ex_size _ _ _ (Nat.le_refl _)]; omega
    by_cases hlt : k < m
    · have hge12 : 12 ≤ bs.size := by omega
      have hne2 := nonempty_list (s := bs) (by omega)
      obtain ⟨g0, hg0⟩ : ∃ g, getV (bs.extract 0 6) = g := ⟨_, rfl⟩
      obtain ⟨g1, hg1⟩ : ∃ g, getV (bs.extract 6 8) = g := ⟨_, rfl⟩
      obtain ⟨g2, hg2⟩ : ∃ g, getV (bs.extract 8 10) = g := ⟨_, rfl⟩
      obtain ⟨g3, hg3⟩ : ∃ g, getV (bs.extract 10 12) = g := ⟨_, rfl⟩
      have hgb0 : g0 < 281474976710656 := by have h := getV_lt (bs.extract 0 6) 6 (ex_size _ _ _ (by omega)); rw [hg0] at h; exact Nat.lt_of_lt_of_eq h (by decide)
      have hgb1 : g1 < 65536 := by have h := getV_lt (bs.extract 6 8) 2 (ex_size _ _ _ (by omega)); rw [hg1] at h; exact Nat.lt_of_lt_of_eq h (by decide)
      have hgb2 : g2 < 65536 := by have h := getV_lt (bs.extract 8 10) 2 (ex_size _ _ _ (by omega)); rw [hg2] at h; exact Nat.lt_of_lt_of_eq h (by decide)
      have hgb3 : g3 < 65536 := by have h := getV_lt (bs.extract 10 12) 2 (ex_size _ _ _ (by omega)); rw [hg3] at h; exact Nat.lt_of_lt_of_eq h (by decide)
      have hnext : kidsTo s k ++ [((g0 : Int), (g1 : Int), (g2 : Int), (g3 : Int))] = kidsTo s (k + 1) := by
        rw [kidsTo_succ]
        unfold kidAt
        rw [← hg0, ← hg1, ← hg2, ← hg3, hbs.out, ex_ex s _ 0 6 (by omega), ex_ex s _ 6 8 (by omega), ex_ex s _ 8 10 (by omega), ex_ex s _ 10 12 (by omega)]
        rfl
      have hrng : ∀ x ∈ kidsTo s (k + 1), 0 ≤ x.1 ∧ x.1 ≤ 18446744073709551615 := by
        intro x hxm
        rw [← hnext, List.mem_append, List.mem_singleton] at hxm
        rcases hxm with hxm | rfl
        · exact hown.2.1 x hxm
        · simp only; omega
      have hbs12 : bs.extract 12 bs.size = s.extract (1 + 12 * (k + 1)) s.size := by
        rw [hbs.out, ByteArray.extract_extract, ex_size _ _ _ (Nat.le_refl _)]
        congr 1
        omega
      have hsz12 : (bs.extract 12 bs.size).size = bs.size - 12 := ex_size _ _ _ (Nat.le_refl _)
      have HX := Lib.hid hx
      have HZ := Lib.hid hzb
      have HOWN := Lib.hid hown
      have HBR := Lib.hid hbr
      have HNEXT := Lib.hid hnext
      have HRNG := Lib.hid hrng
      have HG0 := Lib.hid hg0
      have HG1 := Lib.hid hg1
      have HG2 := Lib.hid hg2
      have HG3 := Lib.hid hg3
      have HB12 := Lib.hid hbs12
      have HS12 := Lib.hid hsz12
      clear hx hzb hown hbr hnext hrng hg0 hg1 hg2 hg3 hbs12 hsz12 hbsz hbs
      go_wp2_with fail
      refine wp_region_plan [.make, .make, .make, .make, .make, .make, .make, .make, .make, .make, .make, .make, .make, .make, .write 0] [0, 1, 2, 3, 4, 5, 6, 7, 8, 9, 10, 11, 12, 13] 1 (fun _ vs u => ∃ b, vs 13 = .pointer (some ⟨b, 0, none⟩) ∧ wr.heap.size ≤ b ∧ u.heap[b]? = some (.cells #[.int .i64 (g1 : Int), .int .i64 (g2 : Int), .int .i64 (g3 : Int)] 27 (0, 0)) ∧ Below wr.heap.size wr u) (by kernel_rfl) (by decide) (by kernel_rfl) (by kernel_rfl) (by kernel_rfl) (by kernel_rfl) (fun p vs vs' u h hE => by rw [← h 13 (by decide)] at hE; exact hE) ?_
      simp only [fill, Act.put, List.setIfInBounds_toArray, List.set_cons_zero, List.set_cons_succ, Nat.zero_add, Nat.reduceAdd, List.zip_cons_cons, List.zip_nil_right]
      apply OpsIs.eq
      · intro vs u hb hd
        clear hd
        go_wp2_with fail
        exact ⟨rfl, _, rfl, Below.refl _ _, rfl⟩
      apply OpsIs.eq
      · intro vs u hb hd
        have e0 := hd ⟨0, .data⟩ (by simp) (by decide)
        simp at e0
        clear hd
        simp only [e0]
        go_wp2_with fail
        exact ⟨rfl, _, rfl, Below.refl _ _, rfl⟩
      apply OpsIs.eq
      · intro vs u hb hd
        have e1 := hd ⟨1, .data⟩ (by simp) (by decide)
        simp at e1
        clear hd
        simp only [e1]
        go_wp2_with fail
        refine (get_at _ _ HG1.out (by rw [ex_size _ _ _ (by omega)]; omega) _).mono ?_; rintro e w1 ⟨rfl, rfl⟩; go_wp2_with fail; exact ⟨rfl, _, rfl, Below.refl _ _, rfl⟩
      apply OpsIs.eq
      · intro vs u hb hd
        have e2 := hd ⟨2, .data⟩ (by simp) (by decide)
        simp at e2
        clear hd
        simp only [e2]
        go_wp2_with fail
        exact ⟨rfl, _, rfl, Below.refl _ _, rfl⟩
      apply OpsIs.eq
      · intro vs u hb hd
        clear hd
        go_wp2_with fail
        exact ⟨rfl, _, rfl, Below.refl _ _, rfl⟩
      apply OpsIs.eq
      · intro vs u hb hd
        have e4 := hd ⟨4, .data⟩ (by simp) (by decide)
        simp at e4
        clear hd
        simp only [e4]
        go_wp2_with fail
        exact ⟨rfl, _, rfl, Below.refl _ _, rfl⟩
      apply OpsIs.eq
      · intro vs u hb hd
        have e5 := hd ⟨5, .data⟩ (by simp) (by decide)
        simp at e5
        have e2 := hd ⟨2, .chain⟩ (by simp) (by decide)
        simp at e2
        clear hd
        simp only [e5, e2]
        go_wp2_with fail
        refine (get_at _ _ HG2.out (by rw [ex_size _ _ _ (by omega)]; omega) _).mono ?_; rintro e w1 ⟨rfl, rfl⟩; go_wp2_with fail; exact ⟨rfl, _, rfl, Below.refl _ _, rfl⟩
      apply OpsIs.eq
      · intro vs u hb hd
        have e6 := hd ⟨6, .data⟩ (by simp) (by decide)
        simp at e6
        clear hd
        simp only [e6]
        go_wp2_with fail
        exact ⟨rfl, _, rfl, Below.refl _ _, rfl⟩
      apply OpsIs.eq
      · intro vs u hb hd
        clear hd
        go_wp2_with fail
        exact ⟨rfl, _, rfl, Below.refl _ _, rfl⟩
      apply OpsIs.eq
      · intro vs u hb hd
        have e8 := hd ⟨8, .data⟩ (by simp) (by decide)
        simp at e8
        clear hd
        simp only [e8]
        go_wp2_with fail
        exact ⟨rfl, _, rfl, Below.refl _ _, rfl⟩
      apply OpsIs.eq
      · intro vs u hb hd
        have e9 := hd ⟨9, .data⟩ (by simp) (by decide)
        simp at e9
        have e6 := hd ⟨6, .chain⟩ (by simp) (by decide)
        simp at e6
        clear hd
        simp only [e9, e6]
        go_wp2_with fail
        refine (get_at _ _ HG3.out (by rw [ex_size _ _ _ (by omega)]; omega) _).mono ?_; rintro e w1 ⟨rfl, rfl⟩; go_wp2_with fail; exact ⟨rfl, _, rfl, Below.refl _ _, rfl⟩
      apply OpsIs.eq
      · intro vs u hb hd
        have e10 := hd ⟨10, .data⟩ (by simp) (by decide)
        simp at e10
        clear hd
        simp only [e10]
        go_wp2_with fail
        exact ⟨rfl, _, rfl, Below.refl _ _, rfl⟩
      apply OpsIs.eq
      · intro vs u hb hd
        have e3 := hd ⟨3, .data⟩ (by simp) (by decide)
        simp at e3
        have e7 := hd ⟨7, .data⟩ (by simp) (by decide)
        simp at e7
        have e11 := hd ⟨11, .data⟩ (by simp) (by decide)
        simp at e11
        clear hd
        simp only [e3, e7, e11]
        go_wp2_with fail
        exact ⟨rfl, _, rfl, Below.refl _ _, rfl⟩
      refine OpsIs.step (PtrTo wr.heap.size (.cells #[.int .i64 0, .int .i64 0, .int .i64 0] 27)) (Stab_ptr _ _) ?_ ?_
      · intro vs u hb hd
        clear hd
        go_wp2_with fail
        exact ⟨rfl, _, rfl, (Below.refl _ _).alloc (Nat.le_refl _) _, _, rfl, hb.size, block_new _ _⟩
      refine OpsIs.first ?_ ?_
      · intro vs u hb hdis hd
        have e12 := hd 12 (by simp)
        simp at e12
        obtain ⟨bm, hvm, hgem, hblm⟩ := hd 13 (by simp)
        clear hd
        simp only [e12, hvm]
        have p0 := block_cell hblm 0
        have p1 := block_cell hblm 1
        have p2 := block_cell hblm 2
        have f0 := block_free hblm 0
        have f1 := block_free hblm 1
        have f2 := block_free hblm 2
        simp at p0 p1 p2
        have hlt' := block_lt hblm
        go_wp2_with fail
        exact ⟨rfl, undef, rfl, bm, hvm, hgem, block_setCell (block_setCell (block_setCell hblm 0 _) 1 _) 2 _, ((hb.setCell hgem _).setCell hgem _).setCell hgem _⟩
      refine OpsIs.done ?_
      intro vs10 u10 hE hS
      clear hS
      obtain ⟨bm, hvm, hgem, hbm, hbe⟩ := hE
      simp only [hvm]
      have HBU := Lib.hid (below_step HBR.out hbe)
      have HM := Lib.hid hbm
      replace HX := Lib.hid (block_below hbe HX.out (block_lt HX.out))
      replace HZ := Lib.hid (block_below hbe HZ.out (block_lt HZ.out))
      replace HOWN := Lib.hid (HOWN.out.later hbe)
      have hszu := hbe.size
      clear hvm hbm hbe
      go_wp2_with fail
      refine wp_region_plan [.make, .make, .make, .make, .make, .make, .make, .make, .write 0, .pure, .write 1] [0, 1, 2, 3, 4, 5, 6, 7] 2 (AfterApp w base bv hd k ao cap (kidsTo s (k + 1)) 8) (by kernel_rfl) (by decide) (by kernel_rfl) (by kernel_rfl) (by kernel_rfl) (by kernel_rfl) (fun p vs vs' u h hE => by unfold AfterApp at hE ⊢; rw [← h 8 (by decide)] at hE; exact hE) ?_
      simp only [fill, Act.put, List.setIfInBounds_toArray, List.set_cons_zero, List.set_cons_succ, Nat.zero_add, Nat.reduceAdd, List.zip_cons_cons, List.zip_nil_right]
      apply OpsIs.eq
      · intro vs u hb hd
        clear hd
        go_wp2_with fail
        exact ⟨rfl, _, rfl, Below.refl _ _, rfl⟩
      apply OpsIs.eq
      · intro vs u hb hd
        have e0 := hd ⟨0, .data⟩ (by simp) (by decide)
        simp at e0
        clear hd
        simp only [e0]
        have q := block_below hb HX.out (block_lt HX.out)
        have p0 := block_cell q 0
        have p1 := block_cell q 1
        have p2 := block_cell q 2
        simp at p0 p1 p2
        clear q
        go_wp2_with fail
        exact ⟨rfl, _, rfl, Below.refl _ _, rfl⟩
      apply OpsIs.eq
      · intro vs u hb hd
        clear hd
        go_wp2_with fail
        exact ⟨rfl, _, rfl, Below.refl _ _, rfl⟩
      apply OpsIs.eq
      · intro vs u hb hd
        have e2 := hd ⟨2, .data⟩ (by simp) (by decide)
        simp at e2
        clear hd
        simp only [e2]
        go_wp2_with fail
        exact ⟨rfl, _, rfl, Below.refl _ _, rfl⟩
      apply OpsIs.eq
      · intro vs u hb hd
        have e3 := hd ⟨3, .data⟩ (by simp) (by decide)
        simp at e3
        clear hd
        simp only [e3]
        go_wp2_with fail
        refine (get_at _ _ HG0.out (by rw [ex_size _ _ _ (by omega)]; omega) _).mono ?_; rintro e w1 ⟨rfl, rfl⟩; go_wp2_with fail; exact ⟨rfl, _, rfl, Below.refl _ _, rfl⟩
      apply OpsIs.eq
      · intro vs u hb hd
        clear hd
        have q := block_below hb HM.out (block_lt HM.out)
        have p0 := block_cell q 0
        have p1 := block_cell q 1
        have p2 := block_cell q 2
        simp at p0 p1 p2
        clear q
        go_wp2_with fail
        exact ⟨rfl, _, rfl, Below.refl _ _, rfl⟩
      apply OpsIs.eq
      · intro vs u hb hd
        have e4 := hd ⟨4, .data⟩ (by simp) (by decide)
        simp at e4
        have e5 := hd ⟨5, .data⟩ (by simp) (by decide)
        simp at e5
        clear hd
        simp only [e4, e5]
        go_wp2_with fail
        exact ⟨rfl, _, rfl, Below.refl _ _, rfl⟩
      refine OpsIs.step (SlK (g0, g1, g2, g3)) (Stab_slk _) ?_ ?_
      · intro vs u hb hd
        have e6 := hd ⟨6, .data⟩ (by simp) (by decide)
        simp at e6
        clear hd
        simp only [e6]
        go_wp2_with fail
        exact ⟨rfl, _, rfl, (Below.refl _ _).alloc (Nat.le_refl _) _, _, rfl, block_new _ _⟩
      refine OpsIs.first ?_ ?_
      · intro vs u hb hdis hd
        have e1 := hd 1 (by simp)
        simp at e1
        obtain ⟨b7, e7, hb7⟩ := hd 7 (by simp)
        clear hd
        simp only [e1, e7]
        have q := block_below hb HX.out (block_lt HX.out)
        have hown := HOWN.out.later hb
        have hz := block_below hb HZ.out (block_lt HZ.out)
        have hsz := hb.size
        have HQ := Lib.hid q
        have HOW := Lib.hid hown
        have HHZ := Lib.hid hz
        have HN7 := Lib.hid hb7
        have HB := Lib.hid hb
        clear q hown hz hb7 hb
        go_wp2_with (at_builtin; refine wpList_append_own _ rfl _ _ 22 rfl base 49 i0 (.agg #[.int .u64 0, .int .i64 0, .int .i64 0, .int .i64 0]) 4 32 Try.underlying22 hi hz0 hz1 hz2 rfl (by decide) _ k (flatR fK (kidsTo s k)) rfl HOW.out.2.2 ⟨b7, 0, none⟩ 1 _ (flatR fK [(g0, g1, g2, g3)]) rfl rfl (slk_news HN7.out) (fK_one _) ?c3 ?c4 ?c5 ?_)
        (case c3 => unfold maxLen; omega)
        (case c4 => omega)
        (case c5 => omega)
        intro v' w1 hown1 hgrow _
        rw [← flatR_app, HNEXT.out] at hown1
        have hlow := HOW.out.2.2.lt
        have hok : OwnKs base w1 v' (k + 1) (kidsTo s (k + 1)) := ⟨kidsTo_len _ _, HRNG.out, hown1⟩
        obtain ⟨ao', cap', rfl, _⟩ := hok.ks
        exact ⟨rfl, _, rfl, by
          unfold AfterApp
          refine ⟨ao', cap', rfl, hok, ?_, ?_, Nat.le_trans (by omega) hgrow.size, ?_⟩
          · rw [if_pos rfl]; exact (hgrow.block _ (Nat.lt_of_lt_of_le hbvb (by omega)) (fun hj => by have := hlow _ hj.symm; omega)).trans HQ.out
          · exact (hgrow.block _ (Nat.lt_of_lt_of_le hwb (by omega)) (fun hj => by have := hlow _ hj.symm; omega)).trans HHZ.out
          · exact (below_step HBU.out HB.out).grown hgrow (by omega) (fun j hj => by have := hlow j hj; omega)⟩
      apply OpsIs.pure
      · intro vs u hd
        obtain ⟨_, e0⟩ := hd ⟨0, .phase⟩ (by simp) (by decide)
        simp at e0
        obtain ⟨_, e1⟩ := hd ⟨1, .phase⟩ (by simp) (by decide)
        simp at e1
        obtain ⟨_, e2⟩ := hd ⟨2, .phase⟩ (by simp) (by decide)
        simp at e2
        obtain ⟨_, e3⟩ := hd ⟨3, .phase⟩ (by simp) (by decide)
        simp at e3
        obtain ⟨_, e4⟩ := hd ⟨4, .phase⟩ (by simp) (by decide)
        simp at e4
        obtain ⟨_, e5⟩ := hd ⟨5, .phase⟩ (by simp) (by decide)
        simp at e5
        obtain ⟨_, e6⟩ := hd ⟨6, .phase⟩ (by simp) (by decide)
        simp at e6
        clear hd
        simp only [e0, e1, e2, e3, e4, e5, e6]
        go_wp2_with fail
        exact ⟨rfl, _, rfl, rfl, fun _ => rfl⟩
      refine OpsIs.next ?_ ?_
      · intro vs u hE hd
        obtain ⟨_, e9⟩ := hd ⟨9, .data⟩ (by simp) (by decide)
        simp at e9
        obtain ⟨_, e0⟩ := hd ⟨0, .phase⟩ (by simp) (by decide)
        simp at e0
        obtain ⟨_, e1⟩ := hd ⟨1, .phase⟩ (by simp) (by decide)
        simp at e1
        obtain ⟨_, e2⟩ := hd ⟨2, .phase⟩ (by simp) (by decide)
        simp at e2
        obtain ⟨_, e3⟩ := hd ⟨3, .phase⟩ (by simp) (by decide)
        simp at e3
        obtain ⟨_, e4⟩ := hd ⟨4, .phase⟩ (by simp) (by decide)
        simp at e4
        obtain ⟨_, e5⟩ := hd ⟨5, .phase⟩ (by simp) (by decide)
        simp at e5
        obtain ⟨_, e6⟩ := hd ⟨6, .phase⟩ (by simp) (by decide)
        simp at e6
        obtain ⟨ao', cap', hv8, hok, hx, hz, hsz, hbe⟩ := hE
        clear hd
        simp only [e9, e0, e1, e2, e3, e4, e5, e6, hv8]
        rw [if_pos rfl] at hx
        have p2 := block_cell hx 2
        have f2 := block_free hx 2
        simp at p2
        have hlt' := block_lt hx
        have HX2 := Lib.hid hx
        have HOK2 := Lib.hid hok
        have HV2 := Lib.hid hv8
        have HZ2 := Lib.hid hz
        have HBE2 := Lib.hid hbe
        clear hx hok hv8 hz hbe
        go_wp2_with fail
        exact ⟨rfl, undef, rfl, by
          unfold AfterApp
          refine ⟨ao', cap', HV2.out, HOK2.out.setBelow hbvb _, ?_, block_setCell_other HZ2.out (p := ⟨bv, 2, none⟩) (by simp; omega) _, by simpa using hsz, HBE2.out.setCell (by simp; omega) _⟩
          rw [if_neg (by decide)]; exact block_setCell HX2.out 2 _⟩
      refine OpsIs.done ?_
      intro vs11 u11 hE hS
      clear hS
      obtain ⟨ao', cap', hv8, hok, hx, hz, hsz, hbe⟩ := hE
      rw [if_neg (by decide)] at hx
      have HOK := Lib.hid hok
      have HX := Lib.hid hx
      have HZ := Lib.hid hz
      have HBE := Lib.hid hbe
      clear hbe hz hx hok
      clear hv8
      go_wp2_with fail
      go_roundw
      case rel => exact ⟨k + 1, bs.extract 12 bs.size, ao', cap', by omega, rfl, HB12, HBE.out, HZ.out, HX.out, HOK.out, hsz⟩
      case measure => simp only [strSz]; have h := HS12.out; omega
    · obtain rfl : m = k := by omega
      have hbs0 := empty_of (s := bs) (by omega)
      clear hbs hbsz
      subst hbs0
      (have q0 := block_cell hx 0; have q1 := block_cell hx 1; have q2 := block_cell hx 2; have f0 := block_free hx 0; have f1 := block_free hx 1; have f2 := block_free hx 2; have hz := block_lt hx; simp at q0 q1 q2)
      (have q0 := block_cell hzb 0; have q1 := block_cell hzb 1; have q2 := block_cell hzb 2; have f0 := block_free hzb 0; have f1 := block_free hzb 1; have f2 := block_free hzb 2; have hz := block_lt hzb; simp at q0 q1 q2)
      have HX := Lib.hid hx
      have HZ := Lib.hid hzb
      have HBR := Lib.hid hbr
      have HOWN := Lib.hid hown
      obtain ⟨_, _, e1, hks, _⟩ := hown.ks
      injection e1 with e1 _ e3
      subst e1 e3
      have HKS := Lib.hid hks
      by_cases hc : checkN ⟨(hd : Int), ⟨#[]⟩, kidsTo s m⟩ = 0
      · have HR0 := Lib.hid (show RR = ⟨(hd : Int), ⟨#[]⟩, kidsTo s m⟩ by rw [← HRR.out]; exact if_pos hc)
        have HE0 := Lib.hid (show EE = 0 by rw [← HEE.out]; exact if_pos hc)
        have HC := Lib.hid hc
        clear hc
        clear hx hzb hbr hown hks
        go_wp2_with fail
        refine (check_any ⟨(hd : Int), ⟨#[]⟩, kidsTo s m⟩ ao m cap _ HKS.out).mono ?_; rintro e w1 ⟨rfl, hb⟩
        rw [HC.out]
        have hb0 := block_below hb HZ.out (block_lt HZ.out)
        have hb1 := block_below hb HX.out (block_lt HX.out)
        (have q0 := block_cell hb0 0; have q1 := block_cell hb0 1; have q2 := block_cell hb0 2; have f0 := block_free hb0 0; have f1 := block_free hb0 1; have f2 := block_free hb0 2; have hz := block_lt hb0; simp at q0 q1 q2)
        (have q0 := block_cell hb1 0; have q1 := block_cell hb1 1; have q2 := block_cell hb1 2; have f0 := block_free hb1 0; have f1 := block_free hb1 1; have f2 := block_free hb1 2; have hz := block_lt hb1; simp at q0 q1 q2)
        have hbw1 := below_step HBR.out hb
        have hok := HOWN.out.later hb
        have HB0 := Lib.hid hb0
        have HBW1 := Lib.hid hbw1
        have HOK := Lib.hid hok
        clear hok hbw1 hb0
        clear hb hb1
        go_wp2_with fail
        have hb0 := block_setCell (block_setCell (block_setCell HB0.out 0 (.int .i64 hd)) 1 (.string ⟨#[]⟩)) 2 (.slice ao m cap)
        refine bodyPost_ret (res3_tmp Try.results27 (Try.isAgg24 _) (Try.sizeOf24 _) rfl hb0) rfl ⟨.agg #[.int .i64 hd, .string ⟨#[]⟩, .slice ao m cap], (by rw [HE0.out] <;> rfl), ?_, ((HBW1.out.setCell (by simp) _).setCell (by simp) _).setCell (by simp) _⟩
        rw [HR0.out]
        refine ⟨_, rfl, ?_⟩
        show OwnKs _ _ _ (kidsTo s m).length (kidsTo s m)
        rw [kidsTo_len]
        exact ((((HOK.out.setBelow hwb _).setBelow hwb _).setBelow hwb _)).le (by omega)
      · have HR0 := Lib.hid (show RR = noN by rw [← HRR.out]; exact if_neg hc)
        have HE0 := Lib.hid (show EE = 4 by rw [← HEE.out]; exact if_neg hc)
        have hc' : (checkN ⟨(hd : Int), ⟨#[]⟩, kidsTo s m⟩ == 0) = false := by simpa using hc
        clear hc hx hzb hbr hown hks
        go_wp2_with fail
        refine (check_any ⟨(hd : Int), ⟨#[]⟩, kidsTo s m⟩ ao m cap _ HKS.out).mono ?_; rintro e w1 ⟨rfl, hb⟩
        have hb0 := block_below hb HZ.out (block_lt HZ.out)
        (have q0 := block_cell hb0 0; have q1 := block_cell hb0 1; have q2 := block_cell hb0 2; have f0 := block_free hb0 0; have f1 := block_free hb0 1; have f2 := block_free hb0 2; have hz := block_lt hb0; simp at q0 q1 q2)
        have hbw1 := below_step HBR.out hb
        have HB0 := Lib.hid hb0
        have HBW1 := Lib.hid hbw1
        clear hbw1 hb0
        clear hb
        go_wp2_with fail
        have hb0 := block_setCell (block_setCell (block_setCell HB0.out 0 (.int .i64 0)) 1 (.string ⟨#[]⟩)) 2 (.slice none 0 0)
        exact bodyPost_ret (res3_tmp Try.results27 (Try.isAgg24 _) (Try.sizeOf24 _) rfl hb0) rfl ⟨.agg #[.int .i64 0, .string ⟨#[]⟩, .slice none 0 0], (by rw [HE0.out] <;> rfl), (by rw [HR0.out]; exact ownN_none _ _), ((HBW1.out.setCell (by simp) _).setCell (by simp) _).setCell (by simp) _⟩

set_option maxRecDepth 100000 in
set_option maxHeartbeats 4000000 in
theorem decode_rem (s : ByteArray) (w : World) (h1 : 0 < s.size) (hne : hdN s ≠ 0) (hm : (s.size - 1) % 12 ≠ 0) (hs : s.size ≤ 4294967296) :
    Calls Try.prog 27 #[.string s] w fun e w' => ∃ v, e = .returned (.tuple #[v, .int .i64 4]) ∧ OwnN w.heap.size w' v noN ∧ Below w.heap.size w w' := by
  have h0 := hdN_at s h1
  have hd256 := hdN_lt s
  obtain ⟨hd, hhd⟩ : ∃ h, hdN s = h := ⟨_, rfl⟩
  rw [hhd] at h0 hne hd256
  have hneB : ((hd : Int) == 0) = false := by simp; omega
  have hemp := nonempty_list h1
  have hlt8 : hd < 256 := hd256
  have hremB : ((((s.size - 1 : Nat) : Int) % 12) == 0) = false := by simp; omega
  have hsz1 : (s.extract 1 s.size).size = s.size - 1 := ex_size _ _ _ (Nat.le_refl _)
  have HHD := Lib.hid hhd
  have HNE := Lib.hid hne
  clear hne hhd
  go_enter Try.func27, Try.ntmps27
  go_wp2_with fail
  refine wp_region_plan [.make, .make, .make, .make, .pure, .pure, .make, .write 0, .pure] [0, 1, 2, 3, 6] 1 (fun _ vs u => ∃ b, vs 6 = .pointer (some ⟨b, 0, none⟩) ∧ w.heap.size + 1 ≤ b ∧ u.heap[b]? = some (.cells #[.int .i64 (hd : Int), .string ⟨#[]⟩, .slice none 0 0] 24 (0, 0)) ∧ Below (w.heap.size + 1) (w.alloc (.cells #[.int .i64 0, .string ⟨#[]⟩, .slice none 0 0] 24)) u) (by kernel_rfl) (by decide) (by kernel_rfl) (by kernel_rfl) (by kernel_rfl) (by kernel_rfl) (fun p vs vs' u h hE => by rw [← h 6 (by decide)] at hE; exact hE) ?_
  simp only [fill, Act.put, List.setIfInBounds_toArray, List.set_cons_zero, List.set_cons_succ, Nat.zero_add, Nat.reduceAdd, List.zip_cons_cons, List.zip_nil_right]
  apply OpsIs.eq
  · intro vs u hb hd
    clear hd
    go_wp2_with fail
    exact ⟨rfl, _, rfl, Below.refl _ _, rfl⟩
  apply OpsIs.eq
  · intro vs u hb hd
    have e0 := hd ⟨0, .data⟩ (by simp) (by decide)
    simp at e0
    clear hd
    simp only [e0]
    go_wp2_with fail
    exact ⟨rfl, _, rfl, Below.refl _ _, rfl⟩
  apply OpsIs.eq
  · intro vs u hb hd
    have e1 := hd ⟨1, .data⟩ (by simp) (by decide)
    simp at e1
    clear hd
    simp only [e1]
    go_wp2_with fail
    exact ⟨rfl, _, rfl, Below.refl _ _, rfl⟩
  apply OpsIs.eq
  · intro vs u hb hd
    have e2 := hd ⟨2, .data⟩ (by simp) (by decide)
    simp at e2
    clear hd
    simp only [e2]
    go_wp2_with fail
    exact ⟨rfl, _, rfl, Below.refl _ _, rfl⟩
  apply OpsIs.pure
  · intro vs u hd
    clear hd
    go_wp2_with fail
    exact ⟨rfl, _, rfl, rfl, fun _ => rfl⟩
  apply OpsIs.pure
  · intro vs u hd
    obtain ⟨_, e4⟩ := hd ⟨4, .data⟩ (by simp) (by decide)
    simp at e4
    clear hd
    simp only [e4]
    go_wp2_with fail
    exact ⟨rfl, _, rfl, rfl, fun _ => rfl⟩
  refine OpsIs.step (PtrTo (w.heap.size + 1) (.cells #[.int .i64 0, .string ⟨#[]⟩, .slice none 0 0] 24)) (Stab_ptr _ _) ?_ ?_
  · intro vs u hb hd
    clear hd
    go_wp2_with fail
    exact ⟨rfl, _, rfl, (Below.refl _ _).alloc (Nat.le_refl _) _, _, rfl, by have := hb.size; simpa using this, block_new _ _⟩
  refine OpsIs.first ?_ ?_
  · intro vs u hb hdis hd
    have e3 := hd 3 (by simp)
    simp at e3
    obtain ⟨bv, hv, hge, hbl⟩ := hd 6 (by simp)
    clear hd
    simp only [e3, hv]
    have p0 := block_cell hbl 0
    have p1 := block_cell hbl 1
    have p2 := block_cell hbl 2
    have f0 := block_free hbl 0
    have f1 := block_free hbl 1
    have f2 := block_free hbl 2
    simp at p0 p1 p2
    have hlt := block_lt hbl
    go_wp2_with fail
    exact ⟨rfl, undef, rfl, bv, hv, hge, block_setCell (block_setCell (block_setCell hbl 0 _) 1 _) 2 _, (((hb.mono (by simp)).setCell hge _).setCell hge _).setCell hge _⟩
  apply OpsIs.pure
  · intro vs u hd
    obtain ⟨_, e5⟩ := hd ⟨5, .data⟩ (by simp) (by decide)
    simp at e5
    obtain ⟨_, e0⟩ := hd ⟨0, .phase⟩ (by simp) (by decide)
    simp at e0
    obtain ⟨_, e1⟩ := hd ⟨1, .phase⟩ (by simp) (by decide)
    simp at e1
    obtain ⟨_, e2⟩ := hd ⟨2, .phase⟩ (by simp) (by decide)
    simp at e2
    obtain ⟨_, e3⟩ := hd ⟨3, .phase⟩ (by simp) (by decide)
    simp at e3
    obtain ⟨_, e4⟩ := hd ⟨4, .phase⟩ (by simp) (by decide)
    simp at e4
    clear hd
    simp only [e5, e0, e1, e2, e3, e4]
    go_wp2_with fail
    exact ⟨rfl, _, rfl, rfl, fun _ => rfl⟩
  refine OpsIs.done ?_
  intro vs u hE hS
  obtain ⟨_, h8⟩ := hS 8 (by decide)
  simp at h8
  simp only [h8]
  clear h8
  clear hS
  obtain ⟨bv, hv, hge, hbl, hbe⟩ := hE
  simp only [hv]
  have HV := Lib.hid hv
  clear hv
  (have q0 := block_cell hbl 0; have q1 := block_cell hbl 1; have q2 := block_cell hbl 2; have f0 := block_free hbl 0; have f1 := block_free hbl 1; have f2 := block_free hbl 2; have hz := block_lt hbl; simp at q0 q1 q2)
  have hz0' := block_below hbe (block_new w _) (by simp)
  have hbw : Below w.heap.size w u := ((Below.refl _ _).alloc (Nat.le_refl _) _).trans (hbe.mono (Nat.le_succ _))
  (have q0 := block_cell hz0' 0; have q1 := block_cell hz0' 1; have q2 := block_cell hz0' 2; have f0 := block_free hz0' 0; have f1 := block_free hz0' 1; have f2 := block_free hz0' 2; have hz := block_lt hz0'; simp at q0 q1 q2)
  have HBW := Lib.hid hbw
  have HZ0 := Lib.hid hz0'
  have hszI : ((s.extract 1 s.size).size : Int) = ((s.size - 1 : Nat) : Int) := by rw [hsz1]
  clear hbe hbl hbw hz0' hsz1
  go_wp2_with fail
  have hb0 := block_setCell (block_setCell (block_setCell HZ0.out 0 (.int .i64 0)) 1 (.string ⟨#[]⟩)) 2 (.slice none 0 0)
  exact bodyPost_ret (res3_tmp Try.results27 (Try.isAgg24 _) (Try.sizeOf24 _) rfl hb0) rfl ⟨_, rfl, ownN_none _ _, ((HBW.out.setCell (by simp) _).setCell (by simp) _).setCell (by simp) _⟩

set_option maxRecDepth 100000 in
set_option maxHeartbeats 2000000 in
theorem decode_empty (w : World) :
    Calls Try.prog 27 #[.string ⟨#[]⟩] w fun e w' => ∃ v, e = .returned (.tuple #[v, .int .i64 4]) ∧ OwnN w.heap.size w' v noN ∧ Below w.heap.size w w' := by
  go_enter Try.func27, Try.ntmps27
  go_wp2_with fail
  exact bodyPost_ret (res3_tmp Try.results27 (Try.isAgg24 _) (Try.sizeOf24 _) rfl (block_new w (.cells #[.int .i64 0, .string ⟨#[]⟩, .slice none 0 0] 24))) rfl ⟨_, rfl, ownN_none _ _, by go_grown⟩

theorem decode_any (s : ByteArray) (w : World) (hs : s.size ≤ 4294967296) :
    Calls Try.prog 27 #[.string s] w fun e w' => ∃ v, e = .returned (.tuple #[v, .int .i64 (decE s)]) ∧ OwnN w.heap.size w' v (decN s) ∧ Below w.heap.size w w' := by
  rcases Nat.eq_zero_or_pos s.size with h0 | h1
  · have hn : ¬ decOK s := fun h => by have := h.1; omega
    obtain rfl := empty_of h0
    rw [(decN_no hn).1, (decN_no hn).2]
    exact decode_empty w
  · by_cases hh : hdN s = 0
    · have hx : decX s = ⟨0, s.extract 1 s.size, []⟩ := if_pos hh
      by_cases hc : checkN ⟨0, s.extract 1 s.size, []⟩ = 0
      · have hok : decOK s := ⟨h1, .inl hh, by rw [hx]; exact hc⟩
        rw [(decN_ok hok).1, (decN_ok hok).2, hx]
        refine (decode_leaf s w h1 _ (hdN_at s h1) hh hc).mono ?_
        rintro e w1 ⟨rfl, hb⟩
        exact ⟨_, rfl, ⟨_, rfl, rfl, by simp, World.ownsRow_nil _ _ _ _⟩, hb⟩
      · have hn : ¬ decOK s := fun h => hc (by have := h.2.2; rw [hx] at this; exact this)
        rw [(decN_no hn).1, (decN_no hn).2]
        refine (decode_bad s w h1 _ (hdN_at s h1) hh hc).mono ?_
        rintro e w1 ⟨rfl, hb⟩
        exact ⟨_, rfl, ownN_none _ _, hb⟩
    · by_cases hm : (s.size - 1) % 12 = 0
      · have hx : decX s = ⟨hdN s, ⟨#[]⟩, kidsTo s ((s.size - 1) / 12)⟩ := if_neg hh
        have h := decode_inner s w h1 hs hh ((s.size - 1) / 12) (by omega)
        by_cases hc : checkN ⟨hdN s, ⟨#[]⟩, kidsTo s ((s.size - 1) / 12)⟩ = 0
        · have hok : decOK s := ⟨h1, .inr hm, by rw [hx]; exact hc⟩
          rw [(decN_ok hok).1, (decN_ok hok).2, hx]
          have e : resN ⟨hdN s, ⟨#[]⟩, kidsTo s ((s.size - 1) / 12)⟩ = ⟨hdN s, ⟨#[]⟩, kidsTo s ((s.size - 1) / 12)⟩ := if_pos hc
          rw [if_pos hc, e] at h
          exact h
        · have hn : ¬ decOK s := fun h => hc (by have := h.2.2; rw [hx] at this; exact this)
          rw [(decN_no hn).1, (decN_no hn).2]
          have e : resN ⟨hdN s, ⟨#[]⟩, kidsTo s ((s.size - 1) / 12)⟩ = noN := if_neg hc
          rw [if_neg hc, e] at h
          exact h
      · have hn : ¬ decOK s := fun h => by rcases h.2.1 with h | h <;> contradiction
        rw [(decN_no hn).1, (decN_no hn).2]
        exact decode_rem s w h1 hh hm hs
end Go.Proofs.Ytbodacjhhkjdfaa
