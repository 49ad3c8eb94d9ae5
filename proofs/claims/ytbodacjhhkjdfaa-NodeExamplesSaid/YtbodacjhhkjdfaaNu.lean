/- The contract of the reference's Encode. -/
import Derived.Test.YtbodacjhhkjdfaaNt
import Derived.Test.YtbodacjhhkjdfaaRegU
namespace Go.Proofs.Ytbodacjhhkjdfaa
open Go.RowKit

def nS (m v : Nat) : ByteArray := ⟨(be m v).toArray⟩
theorem nS_size (m v : Nat) : (nS m v).size = m := by simp [nS, ByteArray.size, be_len]
theorem number_at (vi mi : Int) (v m : Nat) (w : World) (hvi : vi = (v : Int)) (hmi : mi = (m : Int)) (hv : v < 18446744073709551616) (hm : m ≤ 8) :
    Calls Try.prog 56 #[.int .u64 vi, .int .i64 mi] w fun e w' => e = .returned (.string (nS m v)) ∧ Below w.heap.size w w' := by
  rw [hvi, hmi]; exact number_any v m w hv hm
theorem str_app (l m : List UInt8) : (⟨l.toArray⟩ : ByteArray) ++ ⟨m.toArray⟩ = ⟨(l ++ m).toArray⟩ := by
  apply ByteArray.ext
  simp

set_option maxRecDepth 100000 in
set_option maxHeartbeats 40000000 in
theorem refEncode_inner (x : Nd) (ao : Option Addr) (n c : Nat) (w : World) (hk : IsKs w ao n x.kids) (hc : checkN x = 0) (hh : x.h ≠ 0) :
    Calls Try.prog 24 #[aggN x.h x.text ao n c] w fun e w' => e = .returned (.tuple #[.string (encN x), .int .i64 0]) ∧ Below w.heap.size w w' := by
  have e : encN x = ⟨(encL x).toArray⟩ := by unfold encN; rw [if_pos hc, if_neg hh]
  rw [e]
  have hf := (checkN_zero hc).1
  have ht := formed_tame hf
  obtain ⟨hx1, hx16, htx⟩ : 1 ≤ x.h ∧ x.h ≤ 16 ∧ x.text = ⟨#[]⟩ := by
    rcases formed_cases hf with ⟨h, _⟩ | ⟨_, h1, h2, h3, _⟩
    · exact absurd h hh
    · exact ⟨h1, h2, h3⟩
  have hl := hk.1
  have hn4 : n ≤ 4 := by have := ht.1; omega
  have HK := Lib.hid hk
  have HC := Lib.hid hc
  have HT := Lib.hid ht
  have HL := Lib.hid hl
  have HTX := Lib.hid htx
  have hmod : x.h % 256 = x.h := by omega
  clear hk hc hh hf ht hl e htx
  unfold aggN
  go_enter Try.func24, Try.ntmps24
  go_wp2_with fail
  refine (refCheck_any x ao n c _ (HK.out.box _)).mono ?_; rintro e w1 ⟨rfl, hb⟩
  rw [HC.out]
  obtain ⟨hbw, hb0⟩ := box_later hb
  rw [HTX.out] at hb0
  (have q0 := block_cell hb0 0; have q1 := block_cell hb0 1; have q2 := block_cell hb0 2; have f0 := block_free hb0 0; have f1 := block_free hb0 1; have f2 := block_free hb0 2; have hz := block_lt hb0; simp at q0 q1 q2)
  have hlt1 := block_lt hb0
  have hconv := run_convert_bytes_back (P := Try.prog) (w1.alloc (.cells #[.int .u8 x.h] 5)) 66 9 5 ⟨w1.heap.size, 0, none⟩ 1 [UInt8.ofNat x.h.toNat] Try.underlying66 Try.underlying5 Try.underlying9 (fun j hj => by
    obtain rfl : j = 0 := by simpa using hj
    rw [add_to, block_cell (block_new _ _)]
    have : (UInt8.ofNat x.h.toNat).toNat = x.h.toNat := by
      rw [UInt8.toNat_ofNat']
      exact Nat.mod_eq_of_lt (by omega)
    simp only [List.getElem_cons_zero, this]
    simp
    omega)
  simp only [List.length_singleton] at hconv
  have HB0 := Lib.hid hb0
  have HBW := Lib.hid hbw
  clear hb hb0 hbw
  go_wp2_with fail
  have HB1 := Lib.hid (block_alloc HB0.out (.cells #[.int .u8 x.h] 5))
  have HBW1 := Lib.hid (HBW.out.alloc HBW.out.size (.cells #[.int .u8 x.h] 5))
  clear hconv
  go_loopw [5, 6] (fun o i wr => ∃ (k : Nat) (os : ByteArray), k ≤ n ∧ i = .int .i64 k ∧ o = .string os ∧ Hid (os = ⟨(encTo x k).toArray⟩) ∧ Below w.heap.size w wr ∧ wr.heap[w.heap.size]? = some (.cells #[.int .i64 x.h, .string ⟨#[]⟩, .slice ao n c] 24 (0, 0))) (fun _ i _ => n - (intOf i).toNat)
  case atStart => exact ⟨0, _, Nat.zero_le _, rfl, rfl, Lib.hid (by apply ByteArray.ext; simp [encTo]), HBW1.out, HB1.out⟩
  case round =>
    obtain ⟨k, os, hkn, rfl, rfl, hos, hbr, hb0⟩ := hrel
    have hsz := hbr.size
    (have q0 := block_cell hb0 0; have q1 := block_cell hb0 1; have q2 := block_cell hb0 2; have f0 := block_free hb0 0; have f1 := block_free hb0 1; have f2 := block_free hb0 2; have hz := block_lt hb0; simp at q0 q1 q2)
    have hosz : os.size = 1 + 12 * k := by
      rw [hos.out]
      simp only [ByteArray.size, List.size_toArray]
      exact encTo_len x k (by have := HL.out; omega)
    by_cases hlt : k < n
    · obtain ⟨_, hu, hcx⟩ := HK.out
      obtain ⟨b, off, rfl, hcell⟩ := hcx (by omega)
      have hkl : k < x.kids.length := by have := HL.out; omega
      obtain ⟨m0, m1, m2, m3⟩ := cellK_below (hcell k hkl) hbr (cellK_lt (hcell k hkl))
      obtain ⟨v0, v1⟩ := hu _ (List.getElem_mem hkl)
      obtain ⟨t0, t1, t2, t3, t4, t5⟩ := HT.out.2 _ (List.getElem_mem hkl)
      have HBR := Lib.hid hbr
      have HBX := Lib.hid hb0
      have hnext : os ++ nS 6 x.kids[k].1.toNat ++ nS 2 x.kids[k].2.1.toNat ++ nS 2 x.kids[k].2.2.1.toNat ++ nS 2 x.kids[k].2.2.2.toNat = ⟨(encTo x (k + 1)).toArray⟩ := by
        rw [hos.out, encTo_succ x k hkl]
        unfold nS encK
        rw [str_app, str_app, str_app, str_app]
        simp only [List.append_assoc]
      have HNEXT := Lib.hid hnext
      have e1 : x.kids[k].2.1 % 18446744073709551616 = x.kids[k].2.1 := by omega
      have e2 : x.kids[k].2.2.1 % 18446744073709551616 = x.kids[k].2.2.1 := by omega
      have e3 : x.kids[k].2.2.2 % 18446744073709551616 = x.kids[k].2.2.2 := by omega
      have c1 : ¬ 9223372036854775807 < os.size + (nS 6 x.kids[k].1.toNat).size := by rw [nS_size]; omega
      have c2 : ¬ 9223372036854775807 < os.size + (nS 6 x.kids[k].1.toNat).size + (nS 2 x.kids[k].2.1.toNat).size := by rw [nS_size, nS_size]; omega
      have c3 : ¬ 9223372036854775807 < os.size + (nS 6 x.kids[k].1.toNat).size + (nS 2 x.kids[k].2.1.toNat).size + (nS 2 x.kids[k].2.2.1.toNat).size := by rw [nS_size, nS_size, nS_size]; omega
      have c4 : ¬ 9223372036854775807 < os.size + (nS 6 x.kids[k].1.toNat).size + (nS 2 x.kids[k].2.1.toNat).size + (nS 2 x.kids[k].2.2.1.toNat).size + (nS 2 x.kids[k].2.2.2.toNat).size := by rw [nS_size, nS_size, nS_size, nS_size]; omega
      clear hu hcx hcell hbr hb0 hosz hnext hos
      go_wp2_with fail
      have HNB := Lib.hid (block_new wr (.cells #[.int .u64 x.kids[k].1, .int .i64 x.kids[k].2.1, .int .i64 x.kids[k].2.2.1, .int .i64 x.kids[k].2.2.2] 49))
      refine wp_region_specsU (by kernel_rfl) (by decide) (by kernel_rfl) ?_
      simp only [fill, Act.put, List.setIfInBounds_toArray, List.set_cons_zero, List.set_cons_succ, Nat.zero_add, Nat.reduceAdd]
      apply OpsOKU.eq
      · intro vs u hb hun hd
        have u23 := hun 23 (by kernel_rfl)
        simp [initOf] at u23
        simp only [u23]
        clear hun
        clear hd
        go_wp2_with fail
        exact ⟨rfl, _, rfl, Below.refl _ _, rfl⟩
      apply OpsOKU.eq
      · intro vs u hb hun hd
        clear hun
        clear hd
        go_wp2_with fail
        exact ⟨rfl, _, rfl, Below.refl _ _, rfl⟩
      apply OpsOKU.eq
      · intro vs u hb hun hd
        clear hun
        simp [Region.binds] at hd
        have e1 := hd
        clear hd
        simp only [e1]
        have q := block_below hb HNB.out (by simp)
        have p0 := block_cell q 0
        have p1 := block_cell q 1
        have p2 := block_cell q 2
        have p3 := block_cell q 3
        simp at p0 p1 p2 p3
        clear q
        go_wp2_with fail
        exact ⟨rfl, _, rfl, Below.refl _ _, rfl⟩
      apply OpsOKU.eq
      · intro vs u hb hun hd
        clear hun
        simp [Region.binds] at hd
        have e2 := hd
        clear hd
        simp only [e2]
        go_wp2_with fail
        refine (number_at _ _ (x.kids[k].1.toNat) 6 _ (by omega) rfl (by omega) (by omega)).mono ?_; rintro e w1 ⟨rfl, hb1⟩; go_wp2_with fail; exact ⟨rfl, _, rfl, hb1, rfl⟩
      apply OpsOKU.eq
      · intro vs u hb hun hd
        clear hun
        simp [Region.binds] at hd
        obtain ⟨e0, e3⟩ := hd
        simp only [e0, e3]
        go_wp2_with fail
        exact ⟨rfl, _, rfl, Below.refl _ _, rfl⟩
      apply OpsOKU.eq
      · intro vs u hb hun hd
        clear hun
        clear hd
        go_wp2_with fail
        exact ⟨rfl, _, rfl, Below.refl _ _, rfl⟩
      apply OpsOKU.eq
      · intro vs u hb hun hd
        clear hun
        simp [Region.binds] at hd
        have e5 := hd
        clear hd
        simp only [e5]
        go_wp2_with fail
        exact ⟨rfl, _, rfl, Below.refl _ _, rfl⟩
      apply OpsOKU.eq
      · intro vs u hb hun hd
        clear hun
        simp [Region.binds] at hd
        have e6 := hd
        clear hd
        simp only [e6]
        have q := block_below hb HNB.out (by simp)
        have p0 := block_cell q 0
        have p1 := block_cell q 1
        have p2 := block_cell q 2
        have p3 := block_cell q 3
        simp at p0 p1 p2 p3
        clear q
        go_wp2_with fail
        exact ⟨rfl, _, rfl, Below.refl _ _, rfl⟩
      apply OpsOKU.eq
      · intro vs u hb hun hd
        clear hun
        simp [Region.binds] at hd
        have e7 := hd
        clear hd
        simp only [e7]
        go_wp2_with fail
        exact ⟨rfl, _, rfl, Below.refl _ _, rfl⟩
      apply OpsOKU.eq
      · intro vs u hb hun hd
        clear hun
        simp [Region.binds] at hd
        obtain ⟨e8, e3⟩ := hd
        simp only [e8, e3]
        go_wp2_with fail
        refine (number_at _ _ (x.kids[k].2.1.toNat) 2 _ (by omega) rfl (by omega) (by omega)).mono ?_; rintro e w1 ⟨rfl, hb1⟩; go_wp2_with fail; exact ⟨rfl, _, rfl, hb1, rfl⟩
      apply OpsOKU.eq
      · intro vs u hb hun hd
        clear hun
        simp [Region.binds] at hd
        obtain ⟨e4, e9⟩ := hd
        simp only [e4, e9]
        go_wp2_with fail
        exact ⟨rfl, _, rfl, Below.refl _ _, rfl⟩
      apply OpsOKU.eq
      · intro vs u hb hun hd
        clear hun
        clear hd
        go_wp2_with fail
        exact ⟨rfl, _, rfl, Below.refl _ _, rfl⟩
      apply OpsOKU.eq
      · intro vs u hb hun hd
        clear hun
        simp [Region.binds] at hd
        have e11 := hd
        clear hd
        simp only [e11]
        go_wp2_with fail
        exact ⟨rfl, _, rfl, Below.refl _ _, rfl⟩
      apply OpsOKU.eq
      · intro vs u hb hun hd
        clear hun
        simp [Region.binds] at hd
        have e12 := hd
        clear hd
        simp only [e12]
        have q := block_below hb HNB.out (by simp)
        have p0 := block_cell q 0
        have p1 := block_cell q 1
        have p2 := block_cell q 2
        have p3 := block_cell q 3
        simp at p0 p1 p2 p3
        clear q
        go_wp2_with fail
        exact ⟨rfl, _, rfl, Below.refl _ _, rfl⟩
      apply OpsOKU.eq
      · intro vs u hb hun hd
        clear hun
        simp [Region.binds] at hd
        have e13 := hd
        clear hd
        simp only [e13]
        go_wp2_with fail
        exact ⟨rfl, _, rfl, Below.refl _ _, rfl⟩
      apply OpsOKU.eq
      · intro vs u hb hun hd
        clear hun
        simp [Region.binds] at hd
        obtain ⟨e14, e9⟩ := hd
        simp only [e14, e9]
        go_wp2_with fail
        refine (number_at _ _ (x.kids[k].2.2.1.toNat) 2 _ (by omega) rfl (by omega) (by omega)).mono ?_; rintro e w1 ⟨rfl, hb1⟩; go_wp2_with fail; exact ⟨rfl, _, rfl, hb1, rfl⟩
      apply OpsOKU.eq
      · intro vs u hb hun hd
        clear hun
        simp [Region.binds] at hd
        obtain ⟨e10, e15⟩ := hd
        simp only [e10, e15]
        go_wp2_with fail
        exact ⟨rfl, _, rfl, Below.refl _ _, rfl⟩
      apply OpsOKU.eq
      · intro vs u hb hun hd
        clear hun
        clear hd
        go_wp2_with fail
        exact ⟨rfl, _, rfl, Below.refl _ _, rfl⟩
      apply OpsOKU.eq
      · intro vs u hb hun hd
        clear hun
        simp [Region.binds] at hd
        have e17 := hd
        clear hd
        simp only [e17]
        go_wp2_with fail
        exact ⟨rfl, _, rfl, Below.refl _ _, rfl⟩
      apply OpsOKU.eq
      · intro vs u hb hun hd
        clear hun
        simp [Region.binds] at hd
        have e18 := hd
        clear hd
        simp only [e18]
        have q := block_below hb HNB.out (by simp)
        have p0 := block_cell q 0
        have p1 := block_cell q 1
        have p2 := block_cell q 2
        have p3 := block_cell q 3
        simp at p0 p1 p2 p3
        clear q
        go_wp2_with fail
        exact ⟨rfl, _, rfl, Below.refl _ _, rfl⟩
      apply OpsOKU.eq
      · intro vs u hb hun hd
        clear hun
        simp [Region.binds] at hd
        have e19 := hd
        clear hd
        simp only [e19]
        go_wp2_with fail
        exact ⟨rfl, _, rfl, Below.refl _ _, rfl⟩
      apply OpsOKU.eq
      · intro vs u hb hun hd
        clear hun
        simp [Region.binds] at hd
        obtain ⟨e20, e15⟩ := hd
        simp only [e20, e15]
        go_wp2_with fail
        refine (number_at _ _ (x.kids[k].2.2.2.toNat) 2 _ (by omega) rfl (by omega) (by omega)).mono ?_; rintro e w1 ⟨rfl, hb1⟩; go_wp2_with fail; exact ⟨rfl, _, rfl, hb1, rfl⟩
      apply OpsOKU.eq
      · intro vs u hb hun hd
        clear hun
        simp [Region.binds] at hd
        obtain ⟨e16, e21⟩ := hd
        simp only [e16, e21]
        go_wp2_with fail
        exact ⟨rfl, _, rfl, Below.refl _ _, rfl⟩
      apply OpsOKU.eq
      · intro vs u hb hun hd
        clear hun
        simp [Region.binds] at hd
        obtain ⟨e22, e21, e0, e1, e2, e3, e4, e5, e6, e7, e8, e9, e10, e11, e12, e13, e14, e15, e16, e17, e18, e19, e20, e21, e22⟩ := hd
        simp only [e22, e21, e0, e1, e2, e3, e4, e5, e6, e7, e8, e9, e10, e11, e12, e13, e14, e15, e16, e17, e18, e19, e20]
        go_wp2_with fail
        exact ⟨rfl, _, rfl, Below.refl _ _, rfl⟩
      refine OpsOKU.done ?_
      intro vs u hbu hS
      have h23 := hS 23 (by decide)
      simp at h23
      simp only [h23]
      clear h23
      clear hS
      have HY := Lib.hid hbu
      clear hbu
      go_wp2_with fail
      go_roundw
      case rel => exact ⟨k + 1, os ++ nS 6 x.kids[k].1.toNat ++ nS 2 x.kids[k].2.1.toNat ++ nS 2 x.kids[k].2.2.1.toNat ++ nS 2 x.kids[k].2.2.2.toNat, by omega, by go_num, rfl, HNEXT, below_step (HBR.out.alloc HBR.out.size _) HY.out, block_below HY.out (block_alloc HBX.out _) (by simp; have := block_lt HBX.out; omega)⟩
      case measure => simp [intOf]; omega
    · obtain rfl : n = k := by omega
      have HBR := Lib.hid hbr
      have hfin : os = ⟨(encL x).toArray⟩ := by rw [hos.out, ← HL.out, encTo_end]
      have HFIN := Lib.hid hfin
      clear hbr hb0 hfin hosz hos
      go_wp2_with fail
      go_ret2
      exact ⟨by rw [← HFIN.out] <;> rfl, HBR.out⟩
end Go.Proofs.Ytbodacjhhkjdfaa
