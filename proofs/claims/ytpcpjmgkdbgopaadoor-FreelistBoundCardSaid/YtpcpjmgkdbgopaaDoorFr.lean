/- The freelist: New of the program. -/
import Derived.Test.YtpcpjmgkdbgopaaDoorFq
namespace Go.Proofs.YtpcpjmgkdbgopaaDoor
open Go.RowKit

theorem infoS : (Tryd.prog.info? 66).map (fun i => (i.zero, i.size, i.bytes)) = some (some (.int .u8 0), 1, 1) := by kernel_rfl
theorem infoU : (Tryd.prog.info? 28).map (fun i => (i.zero, i.size, i.bytes)) = some (some (.int .u64 0), 1, 8) := by kernel_rfl
theorem mk_state (n : Nat) (hn : n ≤ 16384) (w : World) :
    (Instr.makeSlice 60 (.int .i64 n) (.int .i64 n)).run Tryd.prog w = .ok (.slice (some ⟨w.heap.size, 0, none⟩) n n) (w.alloc (.cells (sameV n (.int .u8 0)) 66)) :=
  mk_slice Tryd.underlying60 infoS (by decide) rfl n hn w
theorem mk_u64 (n : Nat) (hn : n ≤ 16384) (w : World) :
    (Instr.makeSlice 61 (.int .i64 n) (.int .i64 n)).run Tryd.prog w = .ok (.slice (some ⟨w.heap.size, 0, none⟩) n n) (w.alloc (.cells (sameV n (.int .u64 0)) 28)) :=
  mk_slice Tryd.underlying61 infoU (by decide) rfl n hn w

/-- the numbers that New takes -/
def newOK (n g : Int) : Prop := 1 ≤ n ∧ n ≤ 16384 ∧ 1 ≤ g ∧ g ≤ 4294967295
instance (n g : Int) : Decidable (newOK n g) := by unfold newOK; infer_instance

set_option maxRecDepth 100000 in
set_option maxHeartbeats 2000000 in
theorem new_n (n g : Int) (w : World) (h : n < 1 ∨ 16384 < n) :
    Calls Tryd.prog 10 #[.int .i64 n, .int .u64 g] w fun e w' => e = .returned (.tuple #[.pointer none, .int .i64 3]) ∧ w = w' := by
  by_cases c1 : n < 1
  · clear h
    go_enter Tryd.func10, Tryd.ntmps10
    go_wp2_with fail
    go_ret2
    exact ⟨rfl, rfl⟩
  · have c2 : 16384 < n := by omega
    clear h
    go_enter Tryd.func10, Tryd.ntmps10
    go_wp2_with fail
    go_ret2
    exact ⟨rfl, rfl⟩

set_option maxRecDepth 100000 in
set_option maxHeartbeats 2000000 in
theorem new_g (n g : Int) (w : World) (h1 : 1 ≤ n) (h2 : n ≤ 16384) (h : g < 1 ∨ 4294967295 < g) :
    Calls Tryd.prog 10 #[.int .i64 n, .int .u64 g] w fun e w' => e = .returned (.tuple #[.pointer none, .int .i64 3]) ∧ w = w' := by
  by_cases c1 : g < 1
  · clear h
    go_enter Tryd.func10, Tryd.ntmps10
    go_wp2_with fail
    go_ret2
    exact ⟨rfl, rfl⟩
  · have c2 : 4294967295 < g := by omega
    clear h
    go_enter Tryd.func10, Tryd.ntmps10
    go_wp2_with fail
    go_ret2
    exact ⟨rfl, rfl⟩

/-- what New returns, where the numbers are in range: the blocks are new -/
def NewL (w : World) (n g : Nat) (e : Ending) (w' : World) : Prop :=
  ∃ b : LB, e = .returned (.tuple #[.pointer (some ⟨b.p, 0, none⟩), .int .i64 0]) ∧ IsL w' b (newL n g) ∧ Below w.heap.size w w' ∧ w.heap.size ≤ b.p ∧ w.heap.size ≤ b.s ∧ w.heap.size ≤ b.t ∧ w.heap.size ≤ b.g

/-- the new list, of which k slots are written -/
def NewS (n g k B : Nat) (w : World) : Prop :=
  ∃ b : LB, b.p = B + 1 + 1 + 1 ∧ B ≤ b.s ∧ B ≤ b.t ∧ B ≤ b.g ∧
  w.heap[b.p]? = some (.cells #[.slice (some ⟨b.s, 0, none⟩) n n, .slice (some ⟨b.t, 0, none⟩) n n, .slice (some ⟨b.g, 0, none⟩) n n, .int .u64 g] 63 (0, 0)) ∧
  Arr w b.s 3 n n (fun i => if i < k then encI (n - 1 - i) else encI 0) ∧ Arr w b.t 66 n n (fun _ => encS 0) ∧ Arr w b.g 28 n n (fun i => if i < k then encU 1 else encU 0)
theorem four_new (w : World) (o1 o2 o3 o4 : Obj) : ((((w.alloc o1).alloc o2).alloc o3).alloc o4).drew.heap[w.heap.size]? = some o1 ∧ ((((w.alloc o1).alloc o2).alloc o3).alloc o4).drew.heap[w.heap.size + 1]? = some o2 ∧
    ((((w.alloc o1).alloc o2).alloc o3).alloc o4).drew.heap[w.heap.size + 1 + 1]? = some o3 ∧ ((((w.alloc o1).alloc o2).alloc o3).alloc o4).drew.heap[w.heap.size + 1 + 1 + 1]? = some o4 :=
  ⟨block_alloc (block_alloc (block_alloc (block_new w o1) o2) o3) o4, block_alloc (block_alloc (block_new' (w.alloc o1) o2 _ (by simp)) o3) o4, block_alloc (block_new' _ o3 _ (by simp)) o4, block_new' _ o4 _ (by simp)⟩
theorem arr_same {w : World} {b n : Nat} {t : TypeId} {v : Value} {f : Nat → Value} (h : w.heap[b]? = some (.cells (sameV n v) t (0, 0))) (hf : ∀ i, i < n → v = f i) : Arr w b t n n f :=
  ⟨_, h, by simp [sameV], Nat.le_refl _, fun i hi => by
    rw [← hf i hi]
    simp [sameV, hi]⟩
theorem start0 (w : World) (n g : Nat) : NewS n g 0 w.heap.size (((((w.alloc (.cells (sameV n (.int .i64 0)) 3)).alloc (.cells (sameV n (.int .u8 0)) 66)).alloc (.cells (sameV n (.int .u64 0)) 28)).alloc (.cells #[.slice (some ⟨w.heap.size, 0, none⟩) n n, .slice (some ⟨(w.heap.size + 1), 0, none⟩) n n, .slice (some ⟨(w.heap.size + 1 + 1), 0, none⟩) n n, .int .u64 g] 63)).drew) := by
  have hf := four_new w (.cells (sameV n (.int .i64 0)) 3) (.cells (sameV n (.int .u8 0)) 66) (.cells (sameV n (.int .u64 0)) 28) (.cells #[.slice (some ⟨w.heap.size, 0, none⟩) n n, .slice (some ⟨(w.heap.size + 1), 0, none⟩) n n, .slice (some ⟨(w.heap.size + 1 + 1), 0, none⟩) n n, .int .u64 g] 63)
  exact ⟨⟨w.heap.size + 1 + 1 + 1, w.heap.size, (w.heap.size + 1), (w.heap.size + 1 + 1)⟩, rfl, Nat.le_add_right _ 0, Nat.le_add_right _ 1, Nat.le_add_right _ 2, hf.2.2.2, arr_same hf.1 (fun _ _ => rfl), arr_same hf.2.1 (fun _ _ => rfl), arr_same hf.2.2.1 (fun _ _ => rfl)⟩
theorem start1 (w : World) (n g : Nat) : NewS n g 0 w.heap.size (((((w.alloc (.cells (sameV n (.int .i64 0)) 3)).alloc (.cells (sameV n (.int .u64 0)) 28)).alloc (.cells (sameV n (.int .u8 0)) 66)).alloc (.cells #[.slice (some ⟨w.heap.size, 0, none⟩) n n, .slice (some ⟨(w.heap.size + 1 + 1), 0, none⟩) n n, .slice (some ⟨(w.heap.size + 1), 0, none⟩) n n, .int .u64 g] 63)).drew) := by
  have hf := four_new w (.cells (sameV n (.int .i64 0)) 3) (.cells (sameV n (.int .u64 0)) 28) (.cells (sameV n (.int .u8 0)) 66) (.cells #[.slice (some ⟨w.heap.size, 0, none⟩) n n, .slice (some ⟨(w.heap.size + 1 + 1), 0, none⟩) n n, .slice (some ⟨(w.heap.size + 1), 0, none⟩) n n, .int .u64 g] 63)
  exact ⟨⟨w.heap.size + 1 + 1 + 1, w.heap.size, (w.heap.size + 1 + 1), (w.heap.size + 1)⟩, rfl, Nat.le_add_right _ 0, Nat.le_add_right _ 2, Nat.le_add_right _ 1, hf.2.2.2, arr_same hf.1 (fun _ _ => rfl), arr_same hf.2.2.1 (fun _ _ => rfl), arr_same hf.2.1 (fun _ _ => rfl)⟩
theorem start2 (w : World) (n g : Nat) : NewS n g 0 w.heap.size (((((w.alloc (.cells (sameV n (.int .u8 0)) 66)).alloc (.cells (sameV n (.int .i64 0)) 3)).alloc (.cells (sameV n (.int .u64 0)) 28)).alloc (.cells #[.slice (some ⟨(w.heap.size + 1), 0, none⟩) n n, .slice (some ⟨w.heap.size, 0, none⟩) n n, .slice (some ⟨(w.heap.size + 1 + 1), 0, none⟩) n n, .int .u64 g] 63)).drew) := by
  have hf := four_new w (.cells (sameV n (.int .u8 0)) 66) (.cells (sameV n (.int .i64 0)) 3) (.cells (sameV n (.int .u64 0)) 28) (.cells #[.slice (some ⟨(w.heap.size + 1), 0, none⟩) n n, .slice (some ⟨w.heap.size, 0, none⟩) n n, .slice (some ⟨(w.heap.size + 1 + 1), 0, none⟩) n n, .int .u64 g] 63)
  exact ⟨⟨w.heap.size + 1 + 1 + 1, (w.heap.size + 1), w.heap.size, (w.heap.size + 1 + 1)⟩, rfl, Nat.le_add_right _ 1, Nat.le_add_right _ 0, Nat.le_add_right _ 2, hf.2.2.2, arr_same hf.2.1 (fun _ _ => rfl), arr_same hf.1 (fun _ _ => rfl), arr_same hf.2.2.1 (fun _ _ => rfl)⟩
theorem start3 (w : World) (n g : Nat) : NewS n g 0 w.heap.size (((((w.alloc (.cells (sameV n (.int .u8 0)) 66)).alloc (.cells (sameV n (.int .u64 0)) 28)).alloc (.cells (sameV n (.int .i64 0)) 3)).alloc (.cells #[.slice (some ⟨(w.heap.size + 1 + 1), 0, none⟩) n n, .slice (some ⟨w.heap.size, 0, none⟩) n n, .slice (some ⟨(w.heap.size + 1), 0, none⟩) n n, .int .u64 g] 63)).drew) := by
  have hf := four_new w (.cells (sameV n (.int .u8 0)) 66) (.cells (sameV n (.int .u64 0)) 28) (.cells (sameV n (.int .i64 0)) 3) (.cells #[.slice (some ⟨(w.heap.size + 1 + 1), 0, none⟩) n n, .slice (some ⟨w.heap.size, 0, none⟩) n n, .slice (some ⟨(w.heap.size + 1), 0, none⟩) n n, .int .u64 g] 63)
  exact ⟨⟨w.heap.size + 1 + 1 + 1, (w.heap.size + 1 + 1), w.heap.size, (w.heap.size + 1)⟩, rfl, Nat.le_add_right _ 2, Nat.le_add_right _ 0, Nat.le_add_right _ 1, hf.2.2.2, arr_same hf.2.2.1 (fun _ _ => rfl), arr_same hf.1 (fun _ _ => rfl), arr_same hf.2.1 (fun _ _ => rfl)⟩
theorem start4 (w : World) (n g : Nat) : NewS n g 0 w.heap.size (((((w.alloc (.cells (sameV n (.int .u64 0)) 28)).alloc (.cells (sameV n (.int .i64 0)) 3)).alloc (.cells (sameV n (.int .u8 0)) 66)).alloc (.cells #[.slice (some ⟨(w.heap.size + 1), 0, none⟩) n n, .slice (some ⟨(w.heap.size + 1 + 1), 0, none⟩) n n, .slice (some ⟨w.heap.size, 0, none⟩) n n, .int .u64 g] 63)).drew) := by
  have hf := four_new w (.cells (sameV n (.int .u64 0)) 28) (.cells (sameV n (.int .i64 0)) 3) (.cells (sameV n (.int .u8 0)) 66) (.cells #[.slice (some ⟨(w.heap.size + 1), 0, none⟩) n n, .slice (some ⟨(w.heap.size + 1 + 1), 0, none⟩) n n, .slice (some ⟨w.heap.size, 0, none⟩) n n, .int .u64 g] 63)
  exact ⟨⟨w.heap.size + 1 + 1 + 1, (w.heap.size + 1), (w.heap.size + 1 + 1), w.heap.size⟩, rfl, Nat.le_add_right _ 1, Nat.le_add_right _ 2, Nat.le_add_right _ 0, hf.2.2.2, arr_same hf.2.1 (fun _ _ => rfl), arr_same hf.2.2.1 (fun _ _ => rfl), arr_same hf.1 (fun _ _ => rfl)⟩
theorem start5 (w : World) (n g : Nat) : NewS n g 0 w.heap.size (((((w.alloc (.cells (sameV n (.int .u64 0)) 28)).alloc (.cells (sameV n (.int .u8 0)) 66)).alloc (.cells (sameV n (.int .i64 0)) 3)).alloc (.cells #[.slice (some ⟨(w.heap.size + 1 + 1), 0, none⟩) n n, .slice (some ⟨(w.heap.size + 1), 0, none⟩) n n, .slice (some ⟨w.heap.size, 0, none⟩) n n, .int .u64 g] 63)).drew) := by
  have hf := four_new w (.cells (sameV n (.int .u64 0)) 28) (.cells (sameV n (.int .u8 0)) 66) (.cells (sameV n (.int .i64 0)) 3) (.cells #[.slice (some ⟨(w.heap.size + 1 + 1), 0, none⟩) n n, .slice (some ⟨(w.heap.size + 1), 0, none⟩) n n, .slice (some ⟨w.heap.size, 0, none⟩) n n, .int .u64 g] 63)
  exact ⟨⟨w.heap.size + 1 + 1 + 1, (w.heap.size + 1 + 1), (w.heap.size + 1), w.heap.size⟩, rfl, Nat.le_add_right _ 2, Nat.le_add_right _ 1, Nat.le_add_right _ 0, hf.2.2.2, arr_same hf.2.2.1 (fun _ _ => rfl), arr_same hf.2.1 (fun _ _ => rfl), arr_same hf.1 (fun _ _ => rfl)⟩

theorem newS_step {n g k B : Nat} {w : World} {b : LB} (hp : w.heap[b.p]? = some (.cells #[.slice (some ⟨b.s, 0, none⟩) n n, .slice (some ⟨b.t, 0, none⟩) n n, .slice (some ⟨b.g, 0, none⟩) n n, .int .u64 g] 63 (0, 0)))
    (e0 : b.p = B + 1 + 1 + 1) (e1 : B ≤ b.s) (e2 : B ≤ b.t) (e3 : B ≤ b.g) (hs : Arr w b.s 3 n n (fun i => if i < k then encI (n - 1 - i) else encI 0)) (ht : Arr w b.t 66 n n (fun _ => encS 0)) (hg : Arr w b.g 28 n n (fun i => if i < k then encU 1 else encU 0))
    (hk : k < n) : NewS n g (k + 1) B ((w.setCell ⟨b.s, k, none⟩ (.int .i64 ((n : Int) - 1 - k))).setCell ⟨b.g, k, none⟩ (.int .u64 1)) := by
  obtain ⟨n1, n2, n3, n4, n5, n6⟩ := isL_ne ⟨hp, hs, ht, hg⟩
  refine ⟨b, e0, e1, e2, e3, block_setCell_other (block_setCell_other hp (p := ⟨b.s, k, none⟩) (Ne.symm n1) _) (p := ⟨b.g, k, none⟩) (Ne.symm n3) _, ?_, (ht.other (p := ⟨b.s, k, none⟩) n4 _).other (p := ⟨b.g, k, none⟩) (Ne.symm n6) _, ?_⟩
  · refine ((hs.set hk (.int .i64 ((n : Int) - 1 - k))).other (p := ⟨b.g, k, none⟩) (Ne.symm n5) _).congr fun i hi => ?_
    by_cases e : i = k
    · simp only [e, if_pos, Nat.lt_succ_self]
      unfold encI
      congr 1
      omega
    · simp only [if_neg e]
      by_cases e' : i < k
      · rw [if_pos e', if_pos (by omega)]
      · rw [if_neg e', if_neg (by omega)]
  · refine ((hg.other (p := ⟨b.s, k, none⟩) n5 _).set hk (.int .u64 1)).congr fun i hi => ?_
    by_cases e : i = k
    · simp only [e, if_pos, Nat.lt_succ_self]
      rfl
    · simp only [if_neg e]
      by_cases e' : i < k
      · rw [if_pos e', if_pos (by omega)]
      · rw [if_neg e', if_neg (by omega)]
theorem newS_end {n g : Nat} {w w' : World} (h : NewS n g n w.heap.size w') (hb : Below w.heap.size w w') : NewL w n g (.returned (.tuple #[.pointer (some ⟨w.heap.size + 1 + 1 + 1, 0, none⟩), .int .i64 0])) w' := by
  obtain ⟨b, e0, e1, e2, e3, hp, hs, ht, hg⟩ := h
  refine ⟨b, by rw [e0], ⟨hp, ?_, ht, ?_⟩, hb, by omega, e1, e2, e3⟩
  · exact hs.congr fun i hi => by have hi' : i < n := hi; rw [if_pos hi']; rfl
  · exact hg.congr fun i hi => by have hi' : i < n := hi; rw [if_pos hi']; rfl

set_option maxRecDepth 100000 in
set_option maxHeartbeats 2000000 in
theorem new_ok (n g : Nat) (w : World) (h1 : 1 ≤ n) (h2 : n ≤ 16384) (h3 : 1 ≤ g) (h4 : g ≤ 4294967295) :
    Calls Tryd.prog 10 #[.int .i64 n, .int .u64 g] w fun e w' => NewL w n g e w' := by
  have hm1 := mk_int n h2
  have hm2 := mk_state n h2
  have hm3 := mk_u64 n h2
  have k1 : (1 : Int) ≤ n := by omega
  have k2 : (n : Int) ≤ 16384 := by omega
  have k3 : (1 : Int) ≤ g := by omega
  have k4 : (g : Int) ≤ 4294967295 := by omega
  have HB0 := Lib.hid (Below.refl w.heap.size w)
  go_enter Tryd.func10, Tryd.ntmps10
  go_wp2_with fail
  go_region
  all_goals (
    clear hm1 hm2 hm3
    go_wp2_with fail
    go_loopw [32] (fun i wr => ∃ k : Nat, k ≤ n ∧ i = .int .i64 k ∧ NewS n g k w.heap.size wr ∧ Below w.heap.size w wr) (fun i _ => n - (intOf i).toNat)
    case atStart => exact ⟨0, Nat.zero_le _, rfl, by first | exact start0 w n g | exact start1 w n g | exact start2 w n g | exact start3 w n g | exact start4 w n g | exact start5 w n g, ((((HB0.out.alloc (Nat.le_refl _) _).alloc (by simp) _).alloc (by simp; omega) _).alloc (by simp; omega) _).drew⟩
    case round =>
      obtain ⟨k, hk, rfl, hnew, hbr⟩ := hrel
      have HBR := Lib.hid hbr
      by_cases hlt : k < n
      · obtain ⟨b, e0, e1, e2, e3, hp, hs, ht, hg⟩ := hnew
        have HN := Lib.hid (newS_step hp e0 e1 e2 e3 hs ht hg hlt)
        obtain ⟨n1, n2, n3, n4, n5, n6⟩ := isL_ne ⟨hp, hs, ht, hg⟩
        have c1 := hs.cell hlt
        have c2 := hg.cell hlt
        have f1' := hs.free k
        have f2' := hg.free k
        have hlt' : (k : Int) < (n : Int) := by omega
        (have q0 := block_cell hp 0; have q1 := block_cell hp 1; have q2 := block_cell hp 2; have q3 := block_cell hp 3; have f0 := block_free hp 0; have f1 := block_free hp 1; have f2 := block_free hp 2; have f3 := block_free hp 3; have hz := block_lt hp; simp at q0 q1 q2 q3)
        rw [e0] at q0 q1 q2 q3 f0 f1 f2 f3 n1 n2 n3
        clear hp hs ht hg hbr
        have E1 := Lib.hid e1
        have E2 := Lib.hid e2
        have E3 := Lib.hid e3
        clear e3 e2 e1
        go_wp2_with fail
        go_roundw
        case rel => exact ⟨k + 1, by omega, by go_num, HN.out, (HBR.out.setCell (p := ⟨b.s, k, none⟩) E1.out _).setCell (p := ⟨b.g, k, none⟩) E3.out _⟩
        case measure => simp [intOf]; omega
      · obtain rfl : k = n := by omega
        have HN := Lib.hid hnew
        clear hnew hbr
        go_wp2_with fail
        go_ret2
        exact newS_end HN.out HBR.out)
end Go.Proofs.YtpcpjmgkdbgopaaDoor
