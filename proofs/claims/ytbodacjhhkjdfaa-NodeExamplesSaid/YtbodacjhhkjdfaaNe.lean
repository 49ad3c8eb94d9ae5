/- The contract of the reference's sum. -/
import Derived.Test.YtbodacjhhkjdfaaNd
namespace Go.Proofs.Ytbodacjhhkjdfaa
open Go.RowKit

theorem sumM_snoc (l : List Trip) (x : Trip) : sumM (l ++ [x]) = addM (sumM l) x := by
  unfold sumM; rw [List.foldl_append]; rfl

set_option maxRecDepth 100000 in
set_option maxHeartbeats 2000000 in
theorem refSum_any (h : Int) (t : ByteArray) (l : List Kid) (ao : Option Addr) (n c m : Nat) (w : World) (hl : IsKs w ao n l) (hm : m ≤ n) (hn : n ≤ 9223372036854775807) :
    Calls Try.prog 46 #[aggN h t ao n c, .int .i64 m] w fun e w' => e = .returned (aggM (sumM (msTo l m))) ∧ Below w.heap.size w w' := by
  unfold aggN
  have H := Lib.hid hl
  clear hl
  go_enter Try.func46, Try.ntmps46
  go_wp2_with fail
  go_loopw [6] (fun i wr => ∃ k : Nat, k ≤ m ∧ i = .int .i64 k ∧ Below w.heap.size w wr ∧ wr.heap[w.heap.size]? = some (.cells #[.int .i64 h, .string t, .slice ao n c] 24 (0, 0)) ∧
     wr.heap[w.heap.size + 1]? = some (.cells #[.int .i64 0, .int .i64 0, .int .i64 0] 27 (0, 0)) ∧
     wr.heap[w.heap.size + 2]? = some (.cells #[.int .i64 (sumM (msTo l k)).1, .int .i64 (sumM (msTo l k)).2.1, .int .i64 (sumM (msTo l k)).2.2] 27 (0, 0))) (fun i _ => m - (intOf i).toNat)
  case atStart => exact ⟨0, Nat.zero_le _, rfl, by go_grown, block_alloc (block_alloc (block_new _ _) _) _, block_alloc (block_new' _ _ _ (by simp)) _, block_new' _ _ _ (by simp)⟩
  case round =>
    obtain ⟨k, hkn, rfl, hbr, hb0, hb1, hb2⟩ := hrel
    have hsz := block_lt hb2
    have f0 := block_free hb2 0
    have f1 := block_free hb2 1
    have f2 := block_free hb2 2
    have q0 := block_cell hb2 0
    have q1 := block_cell hb2 1
    have q2 := block_cell hb2 2
    simp at q0 q1 q2
    by_cases hlt : k < m
    · obtain ⟨hlen, _, hc⟩ := H.out
      obtain ⟨b, off, rfl, hcell⟩ := hc (by omega)
      have hkl : k < l.length := by omega
      have hbw := cellK_lt (hcell k hkl)
      obtain ⟨m0, m1, m2, m3⟩ := cellK_below (hcell k hkl) hbr hbw
      have hs : sumM (msTo l (k + 1)) = addM (sumM (msTo l k)) l[k].2 := by rw [msTo_succ l k hkl, sumM_snoc]
      have p2 := block_cell hb0 2
      simp at p2
      have hkn' : k < n := by omega
      have HS := Lib.hid hs
      have HB0 := Lib.hid hb0
      have HB1 := Lib.hid hb1
      have HB2 := Lib.hid hb2
      have HBR := Lib.hid hbr
      clear hc hcell hlen hs hb0 hb1 hb2 hbr
      go_wp2_with fail
      go_roundw
      case rel =>
        refine ⟨k + 1, by omega, by go_num, (((HBR.out.setCell (by simp; omega) _).setCell (by simp; omega) _).setCell (by simp; omega) _).alloc (by simp [World.setCell]; omega) _, ?_, ?_, ?_⟩
        · exact block_alloc (block_setCell_other (block_setCell_other (block_setCell_other HB0.out (by simp; try omega) _) (by simp; try omega) _) (by simp; try omega) _) _
        · exact block_alloc (block_setCell_other (block_setCell_other (block_setCell_other HB1.out (by simp; try omega) _) (by simp; try omega) _) (by simp; try omega) _) _
        · rw [HS.out]
          exact block_alloc (block_setCell (block_setCell (block_setCell HB2.out 0 _) 1 _) 2 _) _
      case measure => simp [intOf]; omega
    · obtain rfl : m = k := by omega
      have g0 := block_free hb1 0
      have g1 := block_free hb1 1
      have g2 := block_free hb1 2
      have r0 := block_cell hb1 0
      have r1 := block_cell hb1 1
      have r2 := block_cell hb1 2
      simp at r0 r1 r2
      have HB1 := Lib.hid hb1
      have HBR := Lib.hid hbr
      clear hb0 hb1 hb2 hbr
      go_wp2_with fail
      have hb0 := block_setCell (block_setCell (block_setCell HB1.out 0 (.int .i64 (sumM (msTo l m)).1)) 1 (.int .i64 (sumM (msTo l m)).2.1)) 2 (.int .i64 (sumM (msTo l m)).2.2)
      exact bodyPost_ret (res3 Try.results46 (Try.isAgg27 _) (Try.sizeOf27 _) rfl hb0) rfl ⟨rfl, ((HBR.out.setCell (by simp) _).setCell (by simp) _).setCell (by simp) _⟩
end Go.Proofs.Ytbodacjhhkjdfaa
