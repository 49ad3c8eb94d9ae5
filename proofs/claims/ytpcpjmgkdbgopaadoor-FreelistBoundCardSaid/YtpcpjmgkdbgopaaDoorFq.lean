/- The freelist: Free of the program. -/
import Derived.Test.YtpcpjmgkdbgopaaDoorFp
import Derived.Laws.CopyOwn
namespace Go.Proofs.YtpcpjmgkdbgopaaDoor
open Go.RowKit

/-- the copy of the stack after k exchanges -/
def mixF (x : FL) (k p : Nat) : Nat := if p < k ∨ x.m - 1 - k < p then x.sk (x.m - 1 - p) else x.sk p
theorem mixF_zero (x : FL) {p : Nat} (h : p < x.m) : mixF x 0 p = x.sk p := if_neg (by omega)
theorem mixF_lo (x : FL) (k : Nat) (h : 2 * k + 1 < x.m) : mixF x k k = x.sk k := if_neg (by omega)
theorem mixF_hi (x : FL) (k : Nat) (h : 2 * k + 1 < x.m) : mixF x k (x.m - 1 - k) = x.sk (x.m - 1 - k) := if_neg (by omega)
theorem mixF_step (x : FL) {k p : Nat} (h : 2 * k + 1 < x.m) (hp : p < x.m) : mixF x (k + 1) p = if p = x.m - 1 - k then x.sk k else if p = k then x.sk (x.m - 1 - k) else mixF x k p := by
  unfold mixF
  by_cases e1 : p = x.m - 1 - k
  · rw [if_pos e1, if_pos (by omega), show x.m - 1 - p = k by omega]
  · rw [if_neg e1]
    by_cases e2 : p = k
    · rw [if_pos e2, if_pos (by omega), e2]
    · rw [if_neg e2]
      by_cases e3 : p < k ∨ x.m - 1 - k < p
      · rw [if_pos e3, if_pos (by omega)]
      · rw [if_neg e3, if_neg (by omega)]
theorem mixF_end (x : FL) {k p : Nat} (h : x.m ≤ 2 * k + 1) (hp : p < x.m) (hk : 2 * k ≤ x.m + 1) : mixF x k p = freeF x p := by
  unfold mixF freeF
  by_cases e : p < k ∨ x.m - 1 - k < p
  · rw [if_pos e]
  · rw [if_neg e, show x.m - 1 - p = p by omega]

def stackV (x : FL) : List Value := (List.range x.m).map fun i => encI (x.sk i)
theorem stackV_len (x : FL) : (stackV x).length = x.m := by simp [stackV]
theorem stackV_at (x : FL) {i : Nat} (h : i < x.m) : (stackV x)[i]? = some (encI (x.sk i)) := by simp [stackV, h]
theorem stackV_one (x : FL) : ∀ v ∈ stackV x, v.oneCell' = true := by
  intro v hv
  obtain ⟨i, _, rfl⟩ := List.mem_map.1 hv
  rfl
def zeroV (n : Nat) : List Value := List.replicate n (.int .i64 0)
theorem splice_all (x : FL) : splice (zeroV x.m) 0 (stackV x) = stackV x := by
  unfold splice zeroV
  rw [stackV_len]
  simp

set_option maxRecDepth 100000 in
set_option maxHeartbeats 2000000 in
theorem free_none (w : World) :
    Calls Tryd.prog 21 #[.pointer none] w fun e w' => e = .returned (.slice none 0 0) ∧ w = w' := by
  go_enter Tryd.func21, Tryd.ntmps21
  go_wp2_with fail
  go_ret
  exact ⟨rfl, rfl⟩

theorem infoI1 : (Tryd.prog.info? 3).map (·.size) = some 1 := by kernel_rfl
/-- n equal cells -/
def sameV (n : Nat) (v : Value) : Array Value := (List.replicate n v).toArray
theorem made_one {v : Value} (hv : v.cells = #[v]) (n : Nat) : madeCells v.cells (n * 1) = sameV n v := by
  rw [hv]
  apply Array.ext
  · simp [madeCells, sameV]
  · intro i h1 h2
    simp [madeCells, sameV] at h1 ⊢
    rw [Nat.mod_one]
    rfl
theorem mk_slice {t e : TypeId} {z : Value} {bytes : Nat} (hu : Tryd.prog.underlying t = some (.slice e)) (h : (Tryd.prog.info? e).map (fun i => (i.zero, i.size, i.bytes)) = some (some z, 1, bytes)) (hb : bytes ≤ 8) (hz : z.cells = #[z]) (n : Nat) (hn : n ≤ 16384) (w : World) :
    (Instr.makeSlice t (.int .i64 n) (.int .i64 n)).run Tryd.prog w = .ok (.slice (some ⟨w.heap.size, 0, none⟩) n n) (w.alloc (.cells (sameV n z) e)) := by
  obtain ⟨i, hi, h1, h2, h3⟩ := info_parts h
  have h4 : i.bytes * n ≤ 8 * 16384 := by rw [h3]; exact Nat.mul_le_mul hb hn
  have := run_make (P := Tryd.prog) w t e i z hu hi h1 .i64 .i64 n n (by omega) (by omega) (by omega) (by omega)
  rw [this, h2, Int.toNat_natCast, made_one hz]
theorem mk_int (n : Nat) (hn : n ≤ 16384) (w : World) :
    (Instr.makeSlice 45 (.int .i64 n) (.int .i64 n)).run Tryd.prog w = .ok (.slice (some ⟨w.heap.size, 0, none⟩) n n) (w.alloc (.cells (sameV n (.int .i64 0)) 3)) :=
  mk_slice Tryd.underlying45 infoI (by decide) rfl n hn w

set_option maxRecDepth 100000 in
set_option maxHeartbeats 2000000 in
theorem free_any (b : LB) (x : FL) (w : World) (hl : IsL w b x) (hmn : x.m ≤ 16384) :
    Calls Tryd.prog 21 #[.pointer (some ⟨b.p, 0, none⟩)] w fun e w' => NewFs w x e w' := by
  have HL := Lib.hid hl
  have hmk := mk_int x.m hmn
  obtain ⟨l0, l1, l2, l3⟩ := hl
  have HT := Lib.hid l1
  have HTL := Lib.hid l1.lt
  have HZ := Lib.hid (block_new w (.cells (sameV x.m (.int .i64 0)) 3))
  (have q0 := block_cell l0 0; have q1 := block_cell l0 1; have q2 := block_cell l0 2; have q3 := block_cell l0 3; have f0 := block_free l0 0; have f1 := block_free l0 1; have f2 := block_free l0 2; have f3 := block_free l0 3; have hz := block_lt l0; simp at q0 q1 q2 q3)
  clear l0 l1 l2 l3
  go_enter Tryd.func21, Tryd.ntmps21
  go_wp2_with (with_reducible refine wpList_copy_splice rfl _ _ 45 45 rfl 3 Tryd.underlying45 infoI1 _ _ _ _ _ _ rfl rfl w.heap.size 0 (zeroV x.m) 3 ?c1 (stackV x) ?c2 ?c3 ?c4 (stackV_one x) w.heap.size w ?c5 (Nat.le_refl _) ?_)
  case c1 => exact HZ.out
  case c2 => rw [stackV_len]; exact (Nat.min_self _).symm
  case c3 =>
    intro _ j v hj
    have hj1 : j < x.m := by rw [← stackV_len x]; exact (List.getElem?_eq_some_iff.1 hj).1
    rw [stackV_at x hj1] at hj
    have := (HT.out.alloc (.cells (sameV x.m (.int .i64 0)) 3)).cell hj1
    rw [this]
    exact hj
  case c4 => rw [stackV_len]; simp [zeroV]
  case c5 => exact (Below.refl _ _).alloc (Nat.le_refl _) _
  intro w2 hg hb
  have ha : Arr w2 w.heap.size 3 x.m x.m (fun p => encI (mixF x 0 p)) := by
    have hg' := hg.out
    rw [splice_all] at hg'
    refine ⟨_, hg', by rw [List.size_toArray, stackV_len], Nat.le_refl _, fun i hi => ?_⟩
    rw [List.getElem?_toArray, stackV_at x hi]; show _ = some (encI (mixF x 0 i)); rw [mixF_zero x hi]
  have HA := Lib.hid ha
  have HB := Lib.hid hb
  have HLEN := Lib.hid (stackV_len x)
  clear ha hg hb hmk HZ HTL HT HL
  go_wp2_with fail
  go_loopw [4, 5] (fun i j wr => ∃ k : Nat, 2 * k ≤ x.m + 1 ∧ i = .int .i64 k ∧ (∃ t : Int, j = .int .i64 t ∧ t + k + 1 = x.m) ∧ Arr wr w.heap.size 3 x.m x.m (fun p => encI (mixF x k p)) ∧ Below w.heap.size w wr) (fun i _ _ => x.m - (intOf i).toNat)
  case atStart => exact ⟨0, by omega, rfl, ⟨(x.m : Int) - 1, by go_num, by omega⟩, HA.out, HB.out⟩
  case round =>
    obtain ⟨k, hk, rfl, ⟨t, rfl, ht⟩, har, hbr⟩ := hrel
    have HAR := Lib.hid har
    have HBR := Lib.hid hbr
    by_cases hlt : 2 * k + 1 < x.m
    · obtain ⟨i, rfl⟩ : ∃ i : Nat, t = i := ⟨t.toNat, by omega⟩
      have hi2 : i = x.m - 1 - k := by omega
      have c1 := har.cell (show k < x.m by omega)
      have c2 := har.cell (show i < x.m by omega)
      have f1 := har.free k
      have f2 := har.free i
      rw [mixF_lo x k hlt] at c1
      simp only [hi2] at c2
      rw [mixF_hi x k hlt, ← hi2] at c2
      simp only [encI] at c1 c2
      have hki : (k : Int) < (i : Int) := by omega
      have hkm : (k : Int) < (x.m : Int) := by omega
      have him : (i : Int) < (x.m : Int) := by omega
      have hne : i ≠ k := by omega
      have hne' : k ≠ i := by omega
      have HI2 := Lib.hid hi2
      clear har hbr hi2
      go_wp2_with fail
      go_region
      go_wp2_with fail
      have a3 := (HAR.out.set (i := k) (by omega) (.int .i64 (x.sk i))).set (i := i) (by omega) (.int .i64 (x.sk k))
      have a4 : Arr ((wr.setCell ⟨w.heap.size, k, none⟩ (.int .i64 (x.sk i))).setCell ⟨w.heap.size, i, none⟩ (.int .i64 (x.sk k))).drew w.heap.size 3 x.m x.m (fun p => encI (mixF x (k + 1) p)) := by
        refine a3.congr fun p hp => ?_
        have hs := mixF_step x (k := k) (by omega) hp
        rw [← HI2.out] at hs
        rw [hs]
        by_cases e1 : p = i
        · simp only [if_pos e1]; rfl
        · simp only [if_neg e1]
          by_cases e2 : p = k
          · simp only [if_pos e2]; rfl
          · simp only [if_neg e2]
      have b4 := ((HBR.out.setCell (p := ⟨w.heap.size, k, none⟩) (Nat.le_refl _) (.int .i64 (x.sk i))).setCell (p := ⟨w.heap.size, i, none⟩) (Nat.le_refl _) (.int .i64 (x.sk k))).drew
      have A4 := Lib.hid a4
      have B4 := Lib.hid b4
      clear a3 a4 b4
      go_roundw
      case rel => exact ⟨k + 1, by omega, by go_num, ⟨(i : Int) - 1, by go_num, by omega⟩, A4.out, B4.out⟩
      case measure => simp [intOf]; omega
    · have HK := Lib.hid hk
      have hki : ¬ ((k : Int) < t) := by omega
      clear har hbr hk
      go_wp2_with fail
      go_ret
      exact ⟨_, rfl, ⟨_, _, rfl, fun hn => ⟨_, _, rfl, Nat.le_refl _, HAR.out.congr fun p hp => by rw [mixF_end x (by omega) hp HK.out]⟩⟩, HBR.out⟩
end Go.Proofs.YtpcpjmgkdbgopaaDoor
