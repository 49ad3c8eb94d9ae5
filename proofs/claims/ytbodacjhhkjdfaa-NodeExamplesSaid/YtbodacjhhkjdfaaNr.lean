/- The contract of Encode. -/
import Derived.Test.YtbodacjhhkjdfaaNq
namespace Go.Proofs.Ytbodacjhhkjdfaa
open Go.RowKit

def encK (k : Kid) : List UInt8 := be 6 k.1.toNat ++ be 2 k.2.1.toNat ++ be 2 k.2.2.1.toNat ++ be 2 k.2.2.2.toNat
def encTo (x : Nd) (k : Nat) : List UInt8 := UInt8.ofNat (x.h.toNat) :: (x.kids.take k).flatMap encK
def encL (x : Nd) : List UInt8 := UInt8.ofNat (x.h.toNat) :: x.kids.flatMap encK
def encN (x : Nd) : ByteArray := if checkN x = 0 then (if x.h = 0 then ⟨#[0]⟩ ++ x.text else ⟨(encL x).toArray⟩) else ⟨#[]⟩
theorem be_len : ∀ m v, (be m v).length = m
  | 0, _ => rfl
  | m + 1, v => by unfold be; rw [List.length_cons, be_len m v]
theorem encK_len (k : Kid) : (encK k).length = 12 := by unfold encK; simp [be_len]
theorem encTo_succ (x : Nd) (k : Nat) (h : k < x.kids.length) : encTo x (k + 1) = encTo x k ++ encK x.kids[k] := by
  unfold encTo
  rw [List.take_succ_eq_append_getElem h, List.flatMap_append]
  simp
theorem flat_encK_len : ∀ l : List Kid, (l.flatMap encK).length = 12 * l.length
  | [] => rfl
  | k :: l => by rw [List.flatMap_cons, List.length_append, encK_len, flat_encK_len l, List.length_cons]; omega
theorem encTo_len (x : Nd) (k : Nat) (h : k ≤ x.kids.length) : (encTo x k).length = 1 + 12 * k := by
  unfold encTo
  rw [List.length_cons, flat_encK_len, List.length_take, Nat.min_eq_left h]
  omega
theorem encTo_end (x : Nd) : encTo x x.kids.length = encL x := by unfold encTo encL; rw [List.take_length]

set_option maxRecDepth 100000 in
set_option maxHeartbeats 2000000 in
theorem encode_easy (x : Nd) (ao : Option Addr) (n c : Nat) (w : World) (hk : IsKs w ao n x.kids) (he : checkN x ≠ 0 ∨ x.h = 0) :
    Calls Try.prog 23 #[aggN x.h x.text ao n c] w fun e w' => e = .returned (.tuple #[.string (encN x), .int .i64 (checkN x)]) ∧ Below w.heap.size w w' := by
  have HK := Lib.hid hk
  clear hk
  unfold aggN
  by_cases hc : checkN x = 0
  · have hh : x.h = 0 := by
      rcases he with h | h
      · exact absurd hc h
      · exact h
    have e : encN x = ⟨#[0]⟩ ++ x.text := by unfold encN; rw [if_pos hc, if_pos hh]
    rw [e, hc]
    have hcat : ¬ 9223372036854775807 < 1 + x.text.size := by
      rcases formed_cases (checkN_zero hc).1 with ⟨_, _, h, _⟩ | ⟨h0, _⟩
      · omega
      · exact absurd hh h0
    have HC := Lib.hid hc
    have HH := Lib.hid hh
    clear e hc hh he
    go_enter Try.func23, Try.ntmps23
    go_wp2_with fail
    refine (check_any x ao n c _ (HK.out.box _)).mono ?_; rintro e w1 ⟨rfl, hb⟩
    rw [HC.out]
    have hh := HH.out
    obtain ⟨hbw, hb0⟩ := box_later hb
    (have q0 := block_cell hb0 0; have q1 := block_cell hb0 1; have q2 := block_cell hb0 2; have f0 := block_free hb0 0; have f1 := block_free hb0 1; have f2 := block_free hb0 2; have hz := block_lt hb0; simp at q0 q1 q2)
    have HBW := Lib.hid hbw
    clear hb hb0 hbw
    go_wp2_with fail
    go_ret2
    exact ⟨rfl, HBW.out⟩
  · have e : encN x = ⟨#[]⟩ := by unfold encN; rw [if_neg hc]
    rw [e]
    have hc' : (checkN x == 0) = false := by simpa using hc
    clear e hc he
    go_enter Try.func23, Try.ntmps23
    go_wp2_with fail
    refine (check_any x ao n c _ (HK.out.box _)).mono ?_; rintro e w1 ⟨rfl, hb⟩
    obtain ⟨hbw, hb0⟩ := box_later hb
    have HBW := Lib.hid hbw
    clear hb hb0 hbw
    go_wp2_with fail
    go_ret2
    exact ⟨rfl, HBW.out⟩

theorem run_index3i (x y z : Value) : (∀ w, (Instr.index 68 (.agg #[x, y, z]) (.int .i64 0)).run Try.prog w = .ok x w) ∧ (∀ w, (Instr.index 68 (.agg #[x, y, z]) (.int .i64 1)).run Try.prog w = .ok y w) ∧
    (∀ w, (Instr.index 68 (.agg #[x, y, z]) (.int .i64 2)).run Try.prog w = .ok z w) := by
  refine ⟨fun _ => by kernel_rfl, fun _ => by kernel_rfl, fun _ => by kernel_rfl⟩

set_option maxRecDepth 100000 in
set_option maxHeartbeats 4000000 in
theorem encode_inner (x : Nd) (ao : Option Addr) (n c : Nat) (w : World) (hk : IsKs w ao n x.kids) (hc : checkN x = 0) (hh : x.h ≠ 0) :
    Calls Try.prog 23 #[aggN x.h x.text ao n c] w fun e w' => e = .returned (.tuple #[.string (encN x), .int .i64 0]) ∧ Below w.heap.size w w' := by
  have e : encN x = ⟨(encL x).toArray⟩ := by unfold encN; rw [if_pos hc, if_neg hh]
  rw [e]
  have hf := (checkN_zero hc).1
  have ht := formed_tame hf
  have hh' : (x.h == 0) = false := by simpa using hh
  have hx16 : 1 ≤ x.h ∧ x.h ≤ 16 := by
    rcases formed_cases hf with ⟨h, _⟩ | ⟨_, h1, h2, _⟩
    · exact absurd h hh
    · exact ⟨h1, h2⟩
  have hl := hk.1
  have hn4 : n ≤ 4 := by have := ht.1; omega
  have HK := Lib.hid hk
  have HC := Lib.hid hc
  have HT := Lib.hid ht
  have HL := Lib.hid hl
  have hmod : x.h % 256 = x.h := by omega
  clear hk hc hh hf ht hl e
  unfold aggN
  go_enter Try.func23, Try.ntmps23
  go_wp2_with fail
  refine (check_any x ao n c _ (HK.out.box _)).mono ?_; rintro e w1 ⟨rfl, hb⟩
  rw [HC.out]
  obtain ⟨hbw, hb0⟩ := box_later hb
  (have q0 := block_cell hb0 0; have q1 := block_cell hb0 1; have q2 := block_cell hb0 2; have f0 := block_free hb0 0; have f1 := block_free hb0 1; have f2 := block_free hb0 2; have hz := block_lt hb0; simp at q0 q1 q2)
  have hlt1 := block_lt hb0
  have HBW := Lib.hid hbw
  clear hb hb0 hbw
  go_wp2_with fail
  go_loopw [5, 28] (fun a i wr => ∃ k : Nat, k ≤ n ∧ i = .int .i64 k ∧ Below w.heap.size w wr ∧ wr.ownsRow (w.heap.size + 1) 5 1 a (1 + 12 * k) ((encTo x k).map encB)) (fun _ i _ => n - (intOf i).toNat)
  case atStart =>
    refine ⟨0, Nat.zero_le _, rfl, HBW.out.alloc HBW.out.size _, ?_⟩
    have e : List.map encB (encTo x 0) = [.int .u8 x.h] := by
      unfold encTo encB
      simp
      omega
    rw [e]
    exact World.ownsRow_lit w1 #[.int .u8 x.h] 1 (by omega) (by decide) rfl
  case round =>
    obtain ⟨k, hkn, rfl, hbr, hown⟩ := hrel
    have hsz := hbr.size
    by_cases hlt : k < n
    · obtain ⟨_, hu, hcx⟩ := HK.out
      obtain ⟨b, off, rfl, hcell⟩ := hcx (by omega)
      have hkl : k < x.kids.length := by have := HL.out; omega
      obtain ⟨m0, m1, m2, m3⟩ := cellK_below (hcell k hkl) hbr (cellK_lt (hcell k hkl))
      obtain ⟨v0, v1⟩ := hu _ (List.getElem_mem hkl)
      obtain ⟨t0, t1, t2, t3, t4, t5⟩ := HT.out.2 _ (List.getElem_mem hkl)
      have HOW := Lib.hid hown
      have HBR := Lib.hid hbr
      clear hu hcx hcell hbr hown
      have e1 : x.kids[k].2.1 % 18446744073709551616 = x.kids[k].2.1 := by omega
      have e2 : x.kids[k].2.2.1 % 18446744073709551616 = x.kids[k].2.2.1 := by omega
      have e3 : x.kids[k].2.2.2 % 18446744073709551616 = x.kids[k].2.2.2 := by omega
      obtain ⟨i0, i1, i2⟩ := run_index3i (.int .i64 x.kids[k].2.1) (.int .i64 x.kids[k].2.2.1) (.int .i64 x.kids[k].2.2.2)
      go_wp2_with fail
      refine (put_at _ _ 6 (x.kids[k].1.toNat) _ (1 + 12 * k) (w.heap.size + 1) (encTo x k) _ rfl (by omega) (HOW.out.alloc _) (by omega) (by omega) (by simp; omega)).mono ?_; rintro e w2 ⟨s2, rfl, ho2, hg2, _⟩
      have hkb := (hg2.block wr.heap.size (by simp) (fun h => by have := HOW.out.lt _ h.symm; omega)).trans (block_new _ _)
      have g0 := block_cell hkb 0
      have g1 := block_cell hkb 1
      have g2 := block_cell hkb 2
      have g3 := block_cell hkb 3
      simp at g0 g1 g2 g3
      have HB2 := Lib.hid ((HBR.out.alloc HBR.out.size _).grown hg2 (by simp; omega) (fun j hj => by have := HOW.out.lt j hj; omega))
      have HS2 : Hid (w.heap.size + 1 ≤ w2.heap.size) := Lib.hid (by have := hg2.size; simp at this; omega)
      have HO2 := Lib.hid ho2
      clear ho2 hg2 hkb
      go_wp2_with fail
      refine wp_loop_rounds 4 ?_
      rw [rounds_succ]
      go_wp2_with fail
      refine (put_at _ _ 2 (x.kids[k].2.1.toNat) _ (1 + 12 * k + 6) (w.heap.size + 1) (encTo x k ++ be 6 x.kids[k].1.toNat) _ rfl (by omega) HO2.out (by omega) (by omega) (by have := HB2.out.size; have := HS2.out; omega)).mono ?_; rintro e w3 ⟨s3, rfl, ho3, hg3, _⟩
      have HB3 := Lib.hid (HB2.out.grown hg3 (HB2.out.size) (fun j hj => by have := HO2.out.lt j hj; omega))
      have HS3 := Lib.hid (Nat.le_trans HS2.out hg3.size)
      have HO3 := Lib.hid ho3
      clear ho3 hg3
      go_wp2_with fail
      rw [rounds_succ]
      go_wp2_with fail
      refine (put_at _ _ 2 (x.kids[k].2.2.1.toNat) _ (1 + 12 * k + 6 + 2) (w.heap.size + 1) (encTo x k ++ be 6 x.kids[k].1.toNat ++ be 2 x.kids[k].2.1.toNat) _ rfl (by omega) HO3.out (by omega) (by omega) (by have := HB3.out.size; have := HS3.out; omega)).mono ?_; rintro e w4 ⟨s4, rfl, ho4, hg4, _⟩
      have HB4 := Lib.hid (HB3.out.grown hg4 (HB3.out.size) (fun j hj => by have := HO3.out.lt j hj; omega))
      have HS4 := Lib.hid (Nat.le_trans HS3.out hg4.size)
      have HO4 := Lib.hid ho4
      clear ho4 hg4
      go_wp2_with fail
      rw [rounds_succ]
      go_wp2_with fail
      refine (put_at _ _ 2 (x.kids[k].2.2.2.toNat) _ (1 + 12 * k + 6 + 2 + 2) (w.heap.size + 1) (encTo x k ++ be 6 x.kids[k].1.toNat ++ be 2 x.kids[k].2.1.toNat ++ be 2 x.kids[k].2.2.1.toNat) _ rfl (by omega) HO4.out (by omega) (by omega) (by have := HB4.out.size; have := HS4.out; omega)).mono ?_; rintro e w5 ⟨s5, rfl, ho5, hg5, _⟩
      have HB5 := Lib.hid (HB4.out.grown hg5 (HB4.out.size) (fun j hj => by have := HO4.out.lt j hj; omega))
      have HS5 := Lib.hid (Nat.le_trans HS4.out hg5.size)
      have HO5 := Lib.hid ho5
      clear ho5 hg5
      go_wp2_with fail
      rw [rounds_succ]
      go_wp2_with fail
      go_roundw
      case rel =>
        refine ⟨k + 1, by omega, by go_num, HB5.out, ?_⟩
        rw [encTo_succ x k hkl]
        have := HO5.out
        unfold encK
        simp only [List.append_assoc] at this ⊢
        rw [show 1 + 12 * (k + 1) = 1 + 12 * k + 6 + 2 + 2 + 2 by omega]
        exact this
      case measure => simp [intOf]; omega
    · obtain rfl : n = k := by omega
      have hke := encTo_end x
      rw [HL.out] at hke
      rw [hke] at hown
      have hlen : (encL x).length = 1 + 12 * n := by rw [← hke]; exact encTo_len x n (by have := HL.out; omega)
      rcases hown with ⟨_, ⟨_, h⟩ | ⟨g, cap, cur, rfl, hb, hg, hcap, hm, hs, htk⟩⟩
      · omega
      · have hconv := run_convert_bytes_back (P := Try.prog) wr 66 9 5 ⟨g, 0, none⟩ cap (encL x) Try.underlying66 Try.underlying5 Try.underlying9 (fun j hj => by
          rw [add_to, block_cell hg, Nat.zero_add]
          have e := congrArg (fun l => l[j]?) htk
          rw [List.getElem?_take_of_lt (by omega), Array.getElem?_toList] at e
          rw [e]
          simp [encB, hj])
        rw [hlen] at hconv
        have HBR := Lib.hid hbr
        clear hke hlen hb hg hcap hm hs htk hbr
        go_wp2_with fail
        go_ret2
        exact ⟨rfl, HBR.out⟩

theorem encode_any (x : Nd) (ao : Option Addr) (n c : Nat) (w : World) (hk : IsKs w ao n x.kids) :
    Calls Try.prog 23 #[aggN x.h x.text ao n c] w fun e w' => e = .returned (.tuple #[.string (encN x), .int .i64 (checkN x)]) ∧ Below w.heap.size w w' := by
  by_cases hc : checkN x = 0
  · by_cases hh : x.h = 0
    · exact encode_easy x ao n c w hk (.inr hh)
    · rw [hc]
      exact encode_inner x ao n c w hk hc hh
  · exact encode_easy x ao n c w hk (.inl hc)
end Go.Proofs.Ytbodacjhhkjdfaa
