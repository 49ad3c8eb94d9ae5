/- The contracts of sum. -/
import Derived.Test.YtbodacjhhkjdfaaNc
import Derived.Test.YtbodacjhhkjdfaaRow
namespace Go.Proofs.Ytbodacjhhkjdfaa
open Go.RowKit

def fM (x : Trip) : List Value := [.int .i64 x.1, .int .i64 x.2.1, .int .i64 x.2.2]
theorem fM_len (x : Trip) : (fM x).length = 3 := rfl
theorem fM_one (l : List Trip) : ∀ u ∈ flatR fM l, u.oneCell' = true := flatR_all (by
  intro x u hu
  simp only [fM, List.mem_cons, List.not_mem_nil, or_false] at hu
  rcases hu with rfl | rfl | rfl <;> rfl) l
theorem IsR.ms {w : World} {a : Option Addr} {n : Nat} {l : List Trip} (h : IsR fM w a n l) : IsMs w a n l := by
  obtain ⟨h1, h2⟩ := h
  refine ⟨h1, fun hn => ?_⟩
  obtain ⟨b, off, e, _, h3⟩ := h2 hn
  refine ⟨b, off, e, fun k hk => ?_⟩
  have f : ∀ i u, i < 3 → (fM l[k])[i]? = some u → w.cell? ⟨b, off + k * 3 + i, none⟩ = some u := fun i u hi hu => by
    rw [Nat.add_assoc]
    exact h3 _ _ ((flatR_at fM_len l k i hk hi).trans hu)
  exact ⟨f 0 _ (by omega) rfl, f 1 _ (by omega) rfl, f 2 _ (by omega) rfl⟩

theorem infoM : (Try.prog.info? 27).map (fun i => (i.zero, i.size, i.bytes)) = some (some (.agg #[.int .i64 0, .int .i64 0, .int .i64 0]), 3, 24) := by kernel_rfl

def msTo (l : List Kid) (k : Nat) : List Trip := (l.take k).map (·.2)
theorem msTo_succ (l : List Kid) (k : Nat) (h : k < l.length) : msTo l (k + 1) = msTo l k ++ [l[k].2] := by
  unfold msTo
  rw [List.take_succ_eq_append_getElem h, List.map_append]; rfl
theorem msTo_end (l : List Kid) : msTo l l.length = l.map (·.2) := by unfold msTo; rw [List.take_length]
theorem msTo_len (l : List Kid) (k : Nat) (h : k ≤ l.length) : (msTo l k).length = k := by unfold msTo; simp; omega

set_option maxRecDepth 100000 in
set_option maxHeartbeats 2000000 in
theorem sum_inner (h : Int) (t : ByteArray) (l : List Kid) (b off n c : Nat) (w : World) (hl : l.length = n) (h0 : h ≠ 0) (hn : n ≤ 4) (hbw : b < w.heap.size) (hk : ∀ k (h : k < l.length), cellK w b (off + k * 4) l[k]) :
    Calls Try.prog 44 #[aggN h t (some ⟨b, off, none⟩) n c] w fun e w' => e = .returned (aggM (sumM (l.map (·.2)))) ∧ Below w.heap.size w w' := by
  obtain ⟨i0, hi, hz0, hz1, hz2⟩ := info_parts infoM
  have h0' : (h == 0) = false := by simpa using h0
  unfold aggN
  have HK := Lib.hid hk
  have HL := Lib.hid hl
  clear hk hl
  go_enter Try.func44, Try.ntmps44
  go_wp2_with fail
  go_loopw [3, 15] (fun v i wr => ∃ k : Nat, k ≤ n ∧ i = .int .i64 k ∧ Below w.heap.size w wr ∧ wr.heap[w.heap.size + 1]? = some (.cells #[.int .i64 0, .int .i64 0, .int .i64 0] 27 (0, 0)) ∧ wr.ownsRow (w.heap.size + 2) 27 3 v k (flatR fM (msTo l k))) (fun _ i _ => n - (intOf i).toNat)
  case atStart => exact ⟨0, Nat.zero_le _, rfl, by go_grown, block_new' _ _ _ (by simp), World.ownsRow_nil _ _ _ _⟩
  case round =>
    obtain ⟨k, hkn, rfl, hbr, hb1, hown⟩ := hrel
    have hsz := block_lt hb1
    by_cases hlt : k < n
    · have hkl : k < l.length := by rw [HL.out]; exact hlt
      obtain ⟨m0, m1, m2, m3⟩ := cellK_below (HK.out k hkl) hbr hbw
      have HBR := Lib.hid hbr
      have HB1 := Lib.hid hb1
      have HO : ∀ A B, ((wr.alloc A).alloc B).ownsRow (w.heap.size + 2) 27 3 _ k (flatR fM (msTo l k)) := fun A B => (hown.alloc A).alloc B
      have HOW := Lib.hid hown
      have HHO := Lib.hid HO
      have hlen : (flatR fM (msTo l k)).length = k * 3 := by rw [flatR_len fM_len, msTo_len l k (by omega)]
      have HLEN := Lib.hid hlen
      clear hbr hb1 hown HO hlen
      have HN : ∀ A, IsR fM ((wr.alloc A).alloc (.cells #[.int .i64 l[k].2.1, .int .i64 l[k].2.2.1, .int .i64 l[k].2.2.2] 27)) (some ⟨wr.heap.size + 1, 0, none⟩) 1 [l[k].2] := fun A =>
        ⟨rfl, fun _ => ⟨_, _, rfl, by simp, fun j u hj => by
          rw [block_cell (block_new' _ _ _ (by simp)), Nat.zero_add, ← hj, flatR_one]
          exact (Array.getElem?_toList).symm⟩⟩
      have HHN := Lib.hid HN
      clear HN
      go_wp2_with (at_builtin; refine wpList_append_own _ rfl _ _ 80 rfl (w.heap.size + 2) 27 i0 (.agg #[.int .i64 0, .int .i64 0, .int .i64 0]) 3 24 Try.underlying80 hi hz0 hz1 hz2 rfl (by decide) _ k (flatR fM (msTo l k)) rfl (HHO.out _ _) ⟨wr.heap.size + 1, 0, none⟩ 1 _ (flatR fM [l[k].2]) rfl rfl ((HHN.out _).news (by decide)) (fM_one _) ?c3 ?c4 ?c5 ?_)
      case c3 => unfold maxLen; omega
      case c4 => omega
      case c5 => simp; omega
      intro v' w1 hown1 hgrow _
      rw [← flatR_app, ← msTo_succ l k hkl] at hown1
      have hlow := HOW.out.lt
      have hbel : Below w.heap.size w w1 := ((HBR.out.alloc HBR.out.size _).alloc (by simp; omega) _).grown hgrow (by simp; omega) (fun j hj => by have := hlow j hj; omega)
      have hbx : w1.heap[w.heap.size + 1]? = some (.cells #[.int .i64 0, .int .i64 0, .int .i64 0] 27 (0, 0)) :=
        (hgrow.block _ (by simp; omega) (fun hj => by have := hlow _ hj.symm; omega)).trans (block_alloc (block_alloc HB1.out _) _)
      have HBX := Lib.hid hbx
      have HBEL := Lib.hid hbel
      have HOWN1 := Lib.hid hown1
      clear hown1 hgrow hlow hbx hbel
      go_wp2_with fail
      go_roundw
      case rel => exact ⟨k + 1, by omega, by go_num, HBEL.out, HBX.out, HOWN1.out⟩
      case measure => simp [intOf]; omega
    · have hkn' : k = l.length := by have := HL.out; omega
      obtain ⟨ao, cap, rfl, hr, _, _⟩ := IsR.owned fM_len (msTo_len l k (by omega)) hown
      rw [hkn', msTo_end, ← hkn'] at hr
      have HR := Lib.hid hr.ms
      have HBR := Lib.hid hbr
      have HB1 := Lib.hid hb1
      clear hr hbr hb1 hown hkn'
      go_wp2_with fail
      refine (add_any _ _ _ _ _ (by omega) HR.out).mono ?_; rintro e w2 ⟨rfl, hb2⟩
      have hbx := block_below hb2 HB1.out (block_lt HB1.out)
      have f0 := block_free hbx 0
      have f1 := block_free hbx 1
      have f2 := block_free hbx 2
      have q0 := block_cell hbx 0
      have q1 := block_cell hbx 1
      have q2 := block_cell hbx 2
      have hz := block_lt hbx
      simp at q0 q1 q2
      have HBX := Lib.hid hbx
      have HB2 := Lib.hid hb2
      clear hbx hb2
      unfold aggM
      go_wp2_with fail
      have hb0 := block_setCell (block_setCell (block_setCell HBX.out 0 (.int .i64 (sumM (l.map (·.2))).1)) 1 (.int .i64 (sumM (l.map (·.2))).2.1)) 2 (.int .i64 (sumM (l.map (·.2))).2.2)
      exact bodyPost_ret (res3 Try.results44 (Try.isAgg27 _) (Try.sizeOf27 _) rfl hb0) rfl ⟨rfl, (((below_step HBR.out HB2.out).setCell (by simp) _).setCell (by simp) _).setCell (by simp) _⟩
end Go.Proofs.Ytbodacjhhkjdfaa
