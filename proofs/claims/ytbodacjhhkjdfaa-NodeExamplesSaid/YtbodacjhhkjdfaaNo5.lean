/- The contract of spoil, finer. -/
import Derived.Test.YtbodacjhhkjdfaaNy
namespace Go.Proofs.Ytbodacjhhkjdfaa
open Go.RowKit

set_option maxRecDepth 100000 in
set_option maxHeartbeats 2000000 in
theorem spoil_fine (h : Int) (t : ByteArray) (v : Value) (n c : Nat) (ao : Option Addr) (l : List Kid) (base : Nat) (w : World) (hv : v = .slice ao n c) (hb : base ≤ w.heap.size) (ho : OwnKs base w v n l) (hn : n ≤ 9223372036854775807) :
    Calls Try.prog 29 #[.agg #[.int .i64 h, .string t, v]] w fun e w' => e = .returned (.tuple #[]) ∧ Below base w w' ∧ ∀ q, q < w.heap.size → (∀ o, ao ≠ some ⟨q, o, none⟩) → w'.heap[q]? = w.heap[q]? := by
  subst hv
  obtain ⟨h1, h2, h3, h4⟩ := ho
  rcases h4 with ⟨e, rfl⟩ | ⟨g, cap, cur, e, hg, hh, hnc, hm, hsz, htk⟩
  · injection e with e1 e2 e3
    subst e1 e3
    go_enter Try.func29, Try.ntmps29
    go_wp2_with fail
    go_loop [2] (fun i => i = .int .i64 0) (fun _ => 0)
    case atStart => rfl
    case round =>
      obtain rfl := hrel
      go_wp2_with fail
      go_end0
      exact ⟨rfl, by go_grown, fun q hq => Below.heap_alloc _ _ _ hq⟩
  · injection e with e1 e2 e3
    subst e1 e3
    have hgl := block_lt hh
    have hn4 : n * 4 ≤ cur.size := by rw [hsz]; exact Nat.mul_le_mul_right 4 hnc
    have HH := Lib.hid (block_alloc hh (.cells #[.int .i64 h, .string t, .slice (some ⟨g, 0, none⟩) n c] 24))
    have HB := Lib.hid hb
    have HS := Lib.hid hsz
    clear h1 h2 h3 hh htk hsz hm hnc
    go_enter Try.func29, Try.ntmps29
    go_wp2_with fail
    go_loopw [2] (fun i wr => ∃ (k : Nat) (cur' : Array Value), k ≤ n ∧ i = .int .i64 k ∧ Below base w wr ∧ (∀ q, q < w.heap.size → q ≠ g → wr.heap[q]? = w.heap[q]?) ∧ wr.heap[w.heap.size]? = some (.cells #[.int .i64 h, .string t, .slice (some ⟨g, 0, none⟩) n c] 24 (0, 0)) ∧ wr.heap[g]? = some (.cells cur' 49 (0, 0)) ∧ n * 4 ≤ cur'.size) (fun i _ => n - (intOf i).toNat)
    case atStart => exact ⟨0, cur, Nat.zero_le _, rfl, (Below.refl _ _).alloc HB.out _, (fun q hq _ => Below.heap_alloc _ _ _ hq), block_new _ _, HH.out, hn4⟩
    case round =>
      obtain ⟨k, cur', hkn, rfl, hbr, hq, hb0, hb1, hs4⟩ := hrel
      have HQ := Lib.hid hq
      clear hq
      (have q0 := block_cell hb0 0; have q1 := block_cell hb0 1; have q2 := block_cell hb0 2; have f0 := block_free hb0 0; have f1 := block_free hb0 1; have f2 := block_free hb0 2; have hz := block_lt hb0; simp at q0 q1 q2)
      by_cases hlt : k < n
      · have c0 := block_cell hb1 (k * 4)
        have c1 := block_cell hb1 (k * 4 + 1)
        have c2 := block_cell hb1 (k * 4 + 2)
        have c3 := block_cell hb1 (k * 4 + 3)
        rw [Array.getElem?_eq_getElem (by omega)] at c0 c1 c2 c3
        have g0 := block_free hb1 (k * 4)
        have g1 := block_free hb1 (k * 4 + 1)
        have g2 := block_free hb1 (k * 4 + 2)
        have g3 := block_free hb1 (k * 4 + 3)
        have hne : g ≠ w.heap.size := by omega
        have HB1 := Lib.hid (block_setCell (block_setCell (block_setCell (block_setCell hb1 (k * 4) (.int .u64 1)) (k * 4 + 1) (.int .i64 0)) (k * 4 + 2) (.int .i64 0)) (k * 4 + 3) (.int .i64 0))
        have HB0 := Lib.hid (block_setCell_other (block_setCell_other (block_setCell_other (block_setCell_other hb0 (p := ⟨g, k * 4, none⟩) hne (.int .u64 1)) (p := ⟨g, k * 4 + 1, none⟩) hne (.int .i64 0)) (p := ⟨g, k * 4 + 2, none⟩) hne (.int .i64 0)) (p := ⟨g, k * 4 + 3, none⟩) hne (.int .i64 0))
        have HBR := Lib.hid ((((hbr.setCell (p := ⟨g, k * 4, none⟩) hg (.int .u64 1)).setCell (p := ⟨g, k * 4 + 1, none⟩) hg (.int .i64 0)).setCell (p := ⟨g, k * 4 + 2, none⟩) hg (.int .i64 0)).setCell (p := ⟨g, k * 4 + 3, none⟩) hg (.int .i64 0))
        clear hbr hb0 hb1
        go_wp2_with fail
        go_roundw
        case rel => exact ⟨k + 1, _, by omega, by go_num, HBR.out, (fun q hq hne' => by rw [Below.heap_setCell _ _ _ _ hne', Below.heap_setCell _ _ _ _ hne', Below.heap_setCell _ _ _ _ hne', Below.heap_setCell _ _ _ _ hne']; exact HQ.out q hq hne'), HB0.out, HB1.out, by simpa using hs4⟩
        case measure => simp [intOf]; omega
      · have HBR := Lib.hid hbr
        clear hbr hb0 hb1
        go_wp2_with fail
        go_end0
        exact ⟨rfl, HBR.out, fun q hq hne => HQ.out q hq (fun e => hne 0 (by rw [e]))⟩
end Go.Proofs.Ytbodacjhhkjdfaa
