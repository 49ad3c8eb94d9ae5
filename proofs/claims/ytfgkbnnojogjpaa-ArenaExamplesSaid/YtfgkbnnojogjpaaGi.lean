/- The freelist: New of the program. The freelist: New of the reference. The freelist: mod, has, handle.Next. The freelist: spoil. The freelist: same. The freelist: awake. The freelist: Take and Give as functions of the plain state; two lists side by side. The freelist: the law FreelistMakes. The freelist: what the laws on calls share: deeds, the handles returned so far. The freelist: the plain law of handles: every handle that was taken, and which of them live. The freelist: the law FreelistStack. The freelist: the law FreelistFresh. The freelist: plain facts for the partition: the slots of each state; marks. -/
import Derived.Test.YtfgkbnnojogjpaaFq
namespace Go.Proofs.Ytfgkbnnojogjpaa
open Go.RowKit

theorem infoS : (Try.prog.info? 112).map (fun i => (i.zero, i.size, i.bytes)) = some (some (.int .u8 0), 1, 1) := by kernel_rfl
theorem infoU : (Try.prog.info? 22).map (fun i => (i.zero, i.size, i.bytes)) = some (some (.int .u64 0), 1, 8) := by kernel_rfl
theorem mk_state (n : Nat) (hn : n ≤ 16384) (w : World) :
    (Instr.makeSlice 106 (.int .i64 n) (.int .i64 n)).run Try.prog w = .ok (.slice (some ⟨w.heap.size, 0, none⟩) n n) (w.alloc (.cells (sameV n (.int .u8 0)) 112)) :=
  mk_slice Try.underlying106 infoS (by decide) rfl n hn w
theorem mk_u64 (n : Nat) (hn : n ≤ 16384) (w : World) :
    (Instr.makeSlice 107 (.int .i64 n) (.int .i64 n)).run Try.prog w = .ok (.slice (some ⟨w.heap.size, 0, none⟩) n n) (w.alloc (.cells (sameV n (.int .u64 0)) 22)) :=
  mk_slice Try.underlying107 infoU (by decide) rfl n hn w

/-- the numbers that New takes -/
def newOK (n g : Int) : Prop := 1 ≤ n ∧ n ≤ 16384 ∧ 1 ≤ g ∧ g ≤ 4294967295
instance (n g : Int) : Decidable (newOK n g) := by unfold newOK; infer_instance

set_option maxRecDepth 100000 in
set_option maxHeartbeats 2000000 in
theorem new_n (n g : Int) (w : World) (h : n < 1 ∨ 16384 < n) :
    Calls Try.prog 39 #[.int .i64 n, .int .u64 g] w fun e w' => e = .returned (.tuple #[.pointer none, .int .i64 3]) ∧ w = w' := by
  by_cases c1 : n < 1
  · clear h
    go_enter Try.func39, Try.ntmps39
    go_wp2_with fail
    go_ret2
    exact ⟨rfl, rfl⟩
  · have c2 : 16384 < n := by omega
    clear h
    go_enter Try.func39, Try.ntmps39
    go_wp2_with fail
    go_ret2
    exact ⟨rfl, rfl⟩

set_option maxRecDepth 100000 in
set_option maxHeartbeats 2000000 in
theorem new_g (n g : Int) (w : World) (h1 : 1 ≤ n) (h2 : n ≤ 16384) (h : g < 1 ∨ 4294967295 < g) :
    Calls Try.prog 39 #[.int .i64 n, .int .u64 g] w fun e w' => e = .returned (.tuple #[.pointer none, .int .i64 3]) ∧ w = w' := by
  by_cases c1 : g < 1
  · clear h
    go_enter Try.func39, Try.ntmps39
    go_wp2_with fail
    go_ret2
    exact ⟨rfl, rfl⟩
  · have c2 : 4294967295 < g := by omega
    clear h
    go_enter Try.func39, Try.ntmps39
    go_wp2_with fail
    go_ret2
    exact ⟨rfl, rfl⟩

/-- what New returns, where the numbers are in range: the blocks are new -/
def NewL (w : World) (n g : Nat) (e : Ending) (w' : World) : Prop :=
  ∃ b : LB, e = .returned (.tuple #[.pointer (some ⟨b.p, 0, none⟩), .int .i64 0]) ∧ IsL w' b (newL n g) ∧ Below w.heap.size w w' ∧ w.heap.size ≤ b.p ∧ w.heap.size ≤ b.s ∧ w.heap.size ≤ b.t ∧ w.heap.size ≤ b.g

/-- the new list, of which k slots are written -/
def NewS (n g k B : Nat) (w : World) : Prop :=
  ∃ b : LB, b.p = B + 1 + 1 + 1 ∧ B ≤ b.s ∧ B ≤ b.t ∧ B ≤ b.g ∧
  w.heap[b.p]? = some (.cells #[.slice (some ⟨b.s, 0, none⟩) n n, .slice (some ⟨b.t, 0, none⟩) n n, .slice (some ⟨b.g, 0, none⟩) n n, .int .u64 g] 109 (0, 0)) ∧
  Arr w b.s 3 n n (fun i => if i < k then encI (n - 1 - i) else encI 0) ∧ Arr w b.t 112 n n (fun _ => encS 0) ∧ Arr w b.g 22 n n (fun i => if i < k then encU 1 else encU 0)
theorem four_new (w : World) (o1 o2 o3 o4 : Obj) : ((((w.alloc o1).alloc o2).alloc o3).alloc o4).drew.heap[w.heap.size]? = some o1 ∧ ((((w.alloc o1).alloc o2).alloc o3).alloc o4).drew.heap[w.heap.size + 1]? = some o2 ∧
    ((((w.alloc o1).alloc o2).alloc o3).alloc o4).drew.heap[w.heap.size + 1 + 1]? = some o3 ∧ ((((w.alloc o1).alloc o2).alloc o3).alloc o4).drew.heap[w.heap.size + 1 + 1 + 1]? = some o4 :=
  ⟨block_alloc (block_alloc (block_alloc (block_new w o1) o2) o3) o4, block_alloc (block_alloc (block_new' (w.alloc o1) o2 _ (by simp)) o3) o4, block_alloc (block_new' _ o3 _ (by simp)) o4, block_new' _ o4 _ (by simp)⟩
theorem arr_same {w : World} {b n : Nat} {t : TypeId} {v : Value} {f : Nat → Value} (h : w.heap[b]? = some (.cells (sameV n v) t (0, 0))) (hf : ∀ i, i < n → v = f i) : Arr w b t n n f :=
  ⟨_, h, by simp [sameV], Nat.le_refl _, fun i hi => by
    rw [← hf i hi]
    simp [sameV, hi]⟩
theorem start0 (w : World) (n g : Nat) : NewS n g 0 w.heap.size (((((w.alloc (.cells (sameV n (.int .i64 0)) 3)).alloc (.cells (sameV n (.int .u8 0)) 112)).alloc (.cells (sameV n (.int .u64 0)) 22)).alloc (.cells #[.slice (some ⟨w.heap.size, 0, none⟩) n n, .slice (some ⟨(w.heap.size + 1), 0, none⟩) n n, .slice (some ⟨(w.heap.size + 1 + 1), 0, none⟩) n n, .int .u64 g] 109)).drew) := by
  have hf := four_new w (.cells (sameV n (.int .i64 0)) 3) (.cells (sameV n (.int .u8 0)) 112) (.cells (sameV n (.int .u64 0)) 22) (.cells #[.slice (some ⟨w.heap.size, 0, none⟩) n n, .slice (some ⟨(w.heap.size + 1), 0, none⟩) n n, .slice (some ⟨(w.heap.size + 1 + 1), 0, none⟩) n n, .int .u64 g] 109)
  exact ⟨⟨w.heap.size + 1 + 1 + 1, w.heap.size, (w.heap.size + 1), (w.heap.size + 1 + 1)⟩, rfl, Nat.le_add_right _ 0, Nat.le_add_right _ 1, Nat.le_add_right _ 2, hf.2.2.2, arr_same hf.1 (fun _ _ => rfl), arr_same hf.2.1 (fun _ _ => rfl), arr_same hf.2.2.1 (fun _ _ => rfl)⟩
theorem start1 (w : World) (n g : Nat) : NewS n g 0 w.heap.size (((((w.alloc (.cells (sameV n (.int .i64 0)) 3)).alloc (.cells (sameV n (.int .u64 0)) 22)).alloc (.cells (sameV n (.int .u8 0)) 112)).alloc (.cells #[.slice (some ⟨w.heap.size, 0, none⟩) n n, .slice (some ⟨(w.heap.size + 1 + 1), 0, none⟩) n n, .slice (some ⟨(w.heap.size + 1), 0, none⟩) n n, .int .u64 g] 109)).drew) := by
  have hf := four_new w (.cells (sameV n (.int .i64 0)) 3) (.cells (sameV n (.int .u64 0)) 22) (.cells (sameV n (.int .u8 0)) 112) (.cells #[.slice (some ⟨w.heap.size, 0, none⟩) n n, .slice (some ⟨(w.heap.size + 1 + 1), 0, none⟩) n n, .slice (some ⟨(w.heap.size + 1), 0, none⟩) n n, .int .u64 g] 109)
  exact ⟨⟨w.heap.size + 1 + 1 + 1, w.heap.size, (w.heap.size + 1 + 1), (w.heap.size + 1)⟩, rfl, Nat.le_add_right _ 0, Nat.le_add_right _ 2, Nat.le_add_right _ 1, hf.2.2.2, arr_same hf.1 (fun _ _ => rfl), arr_same hf.2.2.1 (fun _ _ => rfl), arr_same hf.2.1 (fun _ _ => rfl)⟩
theorem start2 (w : World) (n g : Nat) : NewS n g 0 w.heap.size (((((w.alloc (.cells (sameV n (.int .u8 0)) 112)).alloc (.cells (sameV n (.int .i64 0)) 3)).alloc (.cells (sameV n (.int .u64 0)) 22)).alloc (.cells #[.slice (some ⟨(w.heap.size + 1), 0, none⟩) n n, .slice (some ⟨w.heap.size, 0, none⟩) n n, .slice (some ⟨(w.heap.size + 1 + 1), 0, none⟩) n n, .int .u64 g] 109)).drew) := by
  have hf := four_new w (.cells (sameV n (.int .u8 0)) 112) (.cells (sameV n (.int .i64 0)) 3) (.cells (sameV n (.int .u64 0)) 22) (.cells #[.slice (some ⟨(w.heap.size + 1), 0, none⟩) n n, .slice (some ⟨w.heap.size, 0, none⟩) n n, .slice (some ⟨(w.heap.size + 1 + 1), 0, none⟩) n n, .int .u64 g] 109)
  exact ⟨⟨w.heap.size + 1 + 1 + 1, (w.heap.size + 1), w.heap.size, (w.heap.size + 1 + 1)⟩, rfl, Nat.le_add_right _ 1, Nat.le_add_right _ 0, Nat.le_add_right _ 2, hf.2.2.2, arr_same hf.2.1 (fun _ _ => rfl), arr_same hf.1 (fun _ _ => rfl), arr_same hf.2.2.1 (fun _ _ => rfl)⟩
theorem start3 (w : World) (n g : Nat) : NewS n g 0 w.heap.size (((((w.alloc (.cells (sameV n (.int .u8 0)) 112)).alloc (.cells (sameV n (.int .u64 0)) 22)).alloc (.cells (sameV n (.int .i64 0)) 3)).alloc (.cells #[.slice (some ⟨(w.heap.size + 1 + 1), 0, none⟩) n n, .slice (some ⟨w.heap.size, 0, none⟩) n n, .slice (some ⟨(w.heap.size + 1), 0, none⟩) n n, .int .u64 g] 109)).drew) := by
  have hf := four_new w (.cells (sameV n (.int .u8 0)) 112) (.cells (sameV n (.int .u64 0)) 22) (.cells (sameV n (.int .i64 0)) 3) (.cells #[.slice (some ⟨(w.heap.size + 1 + 1), 0, none⟩) n n, .slice (some ⟨w.heap.size, 0, none⟩) n n, .slice (some ⟨(w.heap.size + 1), 0, none⟩) n n, .int .u64 g] 109)
  exact ⟨⟨w.heap.size + 1 + 1 + 1, (w.heap.size + 1 + 1), w.heap.size, (w.heap.size + 1)⟩, rfl, Nat.le_add_right _ 2, Nat.le_add_right _ 0, Nat.le_add_right _ 1, hf.2.2.2, arr_same hf.2.2.1 (fun _ _ => rfl), arr_same hf.1 (fun _ _ => rfl), arr_same hf.2.1 (fun _ _ => rfl)⟩
theorem start4 (w : World) (n g : Nat) : NewS n g 0 w.heap.size (((((w.alloc (.cells (sameV n (.int .u64 0)) 22)).alloc (.cells (sameV n (.int .i64 0)) 3)).alloc (.cells (sameV n (.int .u8 0)) 112)).alloc (.cells #[.slice (some ⟨(w.heap.size + 1), 0, none⟩) n n, .slice (some ⟨(w.heap.size + 1 + 1), 0, none⟩) n n, .slice (some ⟨w.heap.size, 0, none⟩) n n, .int .u64 g] 109)).drew) := by
  have hf := four_new w (.cells (sameV n (.int .u64 0)) 22) (.cells (sameV n (.int .i64 0)) 3) (.cells (sameV n (.int .u8 0)) 112) (.cells #[.slice (some ⟨(w.heap.size + 1), 0, none⟩) n n, .slice (some ⟨(w.heap.size + 1 + 1), 0, none⟩) n n, .slice (some ⟨w.heap.size, 0, none⟩) n n, .int .u64 g] 109)
  exact ⟨⟨w.heap.size + 1 + 1 + 1, (w.heap.size + 1), (w.heap.size + 1 + 1), w.heap.size⟩, rfl, Nat.le_add_right _ 1, Nat.le_add_right _ 2, Nat.le_add_right _ 0, hf.2.2.2, arr_same hf.2.1 (fun _ _ => rfl), arr_same hf.2.2.1 (fun _ _ => rfl), arr_same hf.1 (fun _ _ => rfl)⟩
theorem start5 (w : World) (n g : Nat) : NewS n g 0 w.heap.size (((((w.alloc (.cells (sameV n (.int .u64 0)) 22)).alloc (.cells (sameV n (.int .u8 0)) 112)).alloc (.cells (sameV n (.int .i64 0)) 3)).alloc (.cells #[.slice (some ⟨(w.heap.size + 1 + 1), 0, none⟩) n n, .slice (some ⟨(w.heap.size + 1), 0, none⟩) n n, .slice (some ⟨w.heap.size, 0, none⟩) n n, .int .u64 g] 109)).drew) := by
  have hf := four_new w (.cells (sameV n (.int .u64 0)) 22) (.cells (sameV n (.int .u8 0)) 112) (.cells (sameV n (.int .i64 0)) 3) (.cells #[.slice (some ⟨(w.heap.size + 1 + 1), 0, none⟩) n n, .slice (some ⟨(w.heap.size + 1), 0, none⟩) n n, .slice (some ⟨w.heap.size, 0, none⟩) n n, .int .u64 g] 109)
  exact ⟨⟨w.heap.size + 1 + 1 + 1, (w.heap.size + 1 + 1), (w.heap.size + 1), w.heap.size⟩, rfl, Nat.le_add_right _ 2, Nat.le_add_right _ 1, Nat.le_add_right _ 0, hf.2.2.2, arr_same hf.2.2.1 (fun _ _ => rfl), arr_same hf.2.1 (fun _ _ => rfl), arr_same hf.1 (fun _ _ => rfl)⟩

theorem newS_step {n g k B : Nat} {w : World} {b : LB} (hp : w.heap[b.p]? = some (.cells #[.slice (some ⟨b.s, 0, none⟩) n n, .slice (some ⟨b.t, 0, none⟩) n n, .slice (some ⟨b.g, 0, none⟩) n n, .int .u64 g] 109 (0, 0)))
    (e0 : b.p = B + 1 + 1 + 1) (e1 : B ≤ b.s) (e2 : B ≤ b.t) (e3 : B ≤ b.g) (hs : Arr w b.s 3 n n (fun i => if i < k then encI (n - 1 - i) else encI 0)) (ht : Arr w b.t 112 n n (fun _ => encS 0)) (hg : Arr w b.g 22 n n (fun i => if i < k then encU 1 else encU 0))
    (hk : k < n) : NewS n g (k + 1) B ((w.setCell ⟨b.s, k, none⟩ (.int .i64 ((n : Int) - 1 - k))).setCell ⟨b.g, k, none⟩ (.int .u64 1)) := by
  obtain ⟨n1, n2, n3, n4, n5, n6⟩ := isL_ne ⟨hp, hs, ht, hg⟩
  refine ⟨b, e0, e1, e2, e3, block_setCell_other (block_setCell_other hp (p := ⟨b.s, k, none⟩) (Ne.symm n1) _) (p := ⟨b.g, k, none⟩) (Ne.symm n3) _, ?_, (ht.other (p := ⟨b.s, k, none⟩) n4 _).other (p := ⟨b.g, k, none⟩) (Ne.symm n6) _, ?_⟩
  · refine ((hs.set hk (.int .i64 ((n : Int) - 1 - k))).other (p := ⟨b.g, k, none⟩) (Ne.symm n5) _).congr fun i hi => ?_
    by_cases e : i = k
    · simp only [e, if_pos, Nat.lt_succ_self]
      unfold encI
      congr 1
      omega
    · simp only [if_neg e]
      by_cases e' : i < k
      · rw [if_pos e', if_pos (by omega)]
      · rw [if_neg e', if_neg (by omega)]
  · refine ((hg.other (p := ⟨b.s, k, none⟩) n5 _).set hk (.int .u64 1)).congr fun i hi => ?_
    by_cases e : i = k
    · simp only [e, if_pos, Nat.lt_succ_self]
      rfl
    · simp only [if_neg e]
      by_cases e' : i < k
      · rw [if_pos e', if_pos (by omega)]
      · rw [if_neg e', if_neg (by omega)]
theorem newS_end {n g : Nat} {w w' : World} (h : NewS n g n w.heap.size w') (hb : Below w.heap.size w w') : NewL w n g (.returned (.tuple #[.pointer (some ⟨w.heap.size + 1 + 1 + 1, 0, none⟩), .int .i64 0])) w' := by
  obtain ⟨b, e0, e1, e2, e3, hp, hs, ht, hg⟩ := h
  refine ⟨b, by rw [e0], ⟨hp, ?_, ht, ?_⟩, hb, by omega, e1, e2, e3⟩
  · exact hs.congr fun i hi => by have hi' : i < n := hi; rw [if_pos hi']; rfl
  · exact hg.congr fun i hi => by have hi' : i < n := hi; rw [if_pos hi']; rfl

set_option maxRecDepth 100000 in
set_option maxHeartbeats 2000000 in
theorem new_ok (n g : Nat) (w : World) (h1 : 1 ≤ n) (h2 : n ≤ 16384) (h3 : 1 ≤ g) (h4 : g ≤ 4294967295) :
    Calls Try.prog 39 #[.int .i64 n, .int .u64 g] w fun e w' => NewL w n g e w' := by
  have hm1 := mk_int n h2
  have hm2 := mk_state n h2
  have hm3 := mk_u64 n h2
  have k1 : (1 : Int) ≤ n := by omega
  have k2 : (n : Int) ≤ 16384 := by omega
  have k3 : (1 : Int) ≤ g := by omega
  have k4 : (g : Int) ≤ 4294967295 := by omega
  have HB0 := Lib.hid (Below.refl w.heap.size w)
  go_enter Try.func39, Try.ntmps39
  go_wp2_with fail
  go_region
  all_goals (
    clear hm1 hm2 hm3
    go_wp2_with fail
    go_loopw [32] (fun i wr => ∃ k : Nat, k ≤ n ∧ i = .int .i64 k ∧ NewS n g k w.heap.size wr ∧ Below w.heap.size w wr) (fun i _ => n - (intOf i).toNat)
    case atStart => exact ⟨0, Nat.zero_le _, rfl, by first | exact start0 w n g | exact start1 w n g | exact start2 w n g | exact start3 w n g | exact start4 w n g | exact start5 w n g, ((((HB0.out.alloc (Nat.le_refl _) _).alloc (by simp) _).alloc (by simp; omega) _).alloc (by simp; omega) _).drew⟩
    case round =>
      obtain ⟨k, hk, rfl, hnew, hbr⟩ := hrel
      have HBR := Lib.hid hbr
      by_cases hlt : k < n
      · obtain ⟨b, e0, e1, e2, e3, hp, hs, ht, hg⟩ := hnew
        have HN := Lib.hid (newS_step hp e0 e1 e2 e3 hs ht hg hlt)
        obtain ⟨n1, n2, n3, n4, n5, n6⟩ := isL_ne ⟨hp, hs, ht, hg⟩
        have c1 := hs.cell hlt
        have c2 := hg.cell hlt
        have f1' := hs.free k
        have f2' := hg.free k
        have hlt' : (k : Int) < (n : Int) := by omega
        (have q0 := block_cell hp 0; have q1 := block_cell hp 1; have q2 := block_cell hp 2; have q3 := block_cell hp 3; have f0 := block_free hp 0; have f1 := block_free hp 1; have f2 := block_free hp 2; have f3 := block_free hp 3; have hz := block_lt hp; simp at q0 q1 q2 q3)
        rw [e0] at q0 q1 q2 q3 f0 f1 f2 f3 n1 n2 n3
        clear hp hs ht hg hbr
        have E1 := Lib.hid e1
        have E2 := Lib.hid e2
        have E3 := Lib.hid e3
        clear e3 e2 e1
        go_wp2_with fail
        go_roundw
        case rel => exact ⟨k + 1, by omega, by go_num, HN.out, (HBR.out.setCell (p := ⟨b.s, k, none⟩) E1.out _).setCell (p := ⟨b.g, k, none⟩) E3.out _⟩
        case measure => simp [intOf]; omega
      · obtain rfl : k = n := by omega
        have HN := Lib.hid hnew
        clear hnew hbr
        go_wp2_with fail
        go_ret2
        exact newS_end HN.out HBR.out)
end Go.Proofs.Ytfgkbnnojogjpaa

namespace Go.Proofs.Ytfgkbnnojogjpaa
open Go.RowKit

def repI (k : Nat) : List Value := List.replicate k (encI 0)
def repU (k : Nat) : List Value := List.replicate k (encU 1)
def repS (n k : Nat) : List Value := (List.range k).map fun i => encI (n - 1 - i)
theorem repI_snoc (k : Nat) : repI (k + 1) = repI k ++ [encI 0] := List.replicate_succ'
theorem repU_snoc (k : Nat) : repU (k + 1) = repU k ++ [encU 1] := List.replicate_succ'
theorem repS_snoc (n k : Nat) : repS n (k + 1) = repS n k ++ [encI (n - 1 - k)] := by
  unfold repS
  rw [List.range_succ, List.map_append]
  rfl
theorem cell_one_at {w : World} {S : Nat} (hS : S = w.heap.size) (x : Value) (t : TypeId) : ∀ j u, [x][j]? = some u → (w.alloc (.cells #[x] t)).cell? ((⟨S, 0, none⟩ : Addr).add j) = some u := by
  subst hS
  exact cell_one_new w x t
theorem head_grown {w w1 : World} {o : Obj} {B : Nat} {x : Obj} {row : Option Nat} (hp : w.heap[B]? = some x) (hg : (w.alloc o).grownBy w1 row) (hr : some B ≠ row) : w1.heap[B]? = some x :=
  (hg.block B (Nat.lt_of_lt_of_le (block_lt hp) (by simp)) hr).trans (block_alloc hp o)
def Ap (a b : Option Addr) (n m c d : Nat) : Prop := ∀ q, (Value.slice a n c).ownBlock = some q → (Value.slice b m d).ownBlock ≠ some q
theorem Ap.symm {a b : Option Addr} {n m c d : Nat} (h : Ap a b n m c d) : Ap b a m n d c := fun q h1 h2 => h q h2 h1
theorem ap_block {a b : Option Addr} {n m c d : Nat} (h : Ap a b n m c d) {q : Nat} (hq : (Value.slice b m d).ownBlock = some q) : some q ≠ (Value.slice a n c).ownBlock := fun e => h q e.symm hq
theorem Ap.other {a b : Option Addr} {n m c d : Nat} (h : Ap a b n m c d) (n' m' c' d' : Nat) : Ap a b n' m' c' d' := fun q h1 h2 => by
  refine h q ?_ ?_
  · cases a with
    | none => exact h1
    | some p => exact h1
  · cases b with
    | none => exact h2
    | some p => exact h2
/-- the value's block lies at B or above, and is there -/
def Lt (B : Nat) (w : World) (v : Value) : Prop := ∀ q, v.ownBlock = some q → B ≤ q ∧ q < w.heap.size
theorem own_lt {w : World} {B : Nat} {t : TypeId} {v : Value} {n : Nat} {l : List Value} (h : w.ownsRow B t 1 v n l) : Lt B w v := by
  intro q hq
  obtain ⟨-, ⟨h, -⟩ | ⟨g, cap', cur, h1, hg, h2, -⟩⟩ := h
  · subst h; cases hq
  · subst h1; cases hq; exact ⟨hg, block_lt h2⟩
theorem own_ne {w : World} {B : Nat} {v : Value} (h : Lt B w v) {q : Nat} (hq : q < B) : some q ≠ v.ownBlock := fun e => by
  have := (h q e.symm).1
  omega
theorem own_keep {w w' : World} {B : Nat} {t : TypeId} {v : Value} {n : Nat} {l : List Value} (h : w.ownsRow B t 1 v n l) (hk : ∀ q, v.ownBlock = some q → w'.heap[q]? = w.heap[q]?) : w'.ownsRow B t 1 v n l := by
  obtain ⟨h0, h | ⟨g, cap', cur, h1, hg, h2, h3⟩⟩ := h
  · exact ⟨h0, .inl h⟩
  · exact ⟨h0, .inr ⟨g, cap', cur, h1, hg, by rw [hk g (by rw [h1]; rfl)]; exact h2, h3⟩⟩
theorem own_set {w : World} {B : Nat} {t : TypeId} {v : Value} {n : Nat} {l : List Value} (h : w.ownsRow (B + 1) t 1 v n l) {i : Nat} {x : Value} : (w.setCell ⟨B, i, none⟩ x).ownsRow (B + 1) t 1 v n l := by
  have hl := own_lt h
  exact own_keep h (fun q hq => Below.heap_setCell _ _ _ _ (by have := (hl q hq).1; show q ≠ B; omega))
theorem own_form {w : World} {B : Nat} {t : TypeId} {v : Value} {k : Nat} {l : List Value} (h : w.ownsRow B t 1 v (k + 1) l) : ∃ g c, v = .slice (some ⟨g, 0, none⟩) (k + 1) c := by
  obtain ⟨-, ⟨-, h⟩ | ⟨g, cap', cur, h1, -⟩⟩ := h
  · omega
  · exact ⟨g, cap', h1⟩
theorem ap_new {w : World} {B : Nat} {a b : Option Addr} {n m c d q n' c' m' d' : Nat} (hb : Lt B w (.slice b m d)) (hq : some q = (Value.slice a n c).ownBlock ∨ some q = some (w.heap.size + 1)) (h : Ap b a m n d c) : Ap b (some ⟨q, 0, none⟩) m' n' d' c' := by
  intro r h1 h2
  have h1' : (Value.slice b m d).ownBlock = some r := by
    cases b with
    | none => exact h1
    | some p => exact h1
  have e : some q = some r := h2
  rcases hq with hq | hq
  · exact h r h1' (hq.symm.trans e)
  · have := (hb r h1').2
    rw [hq] at e
    injection e with e
    omega
/-- the new list of the reference, k1, k2, k3 elements appended -/
def NewR (n g k1 k2 k3 B : Nat) (a1 a2 a3 : Option Addr) (c1 c2 c3 : Nat) (w : World) : Prop :=
  w.heap[B]? = some (.cells #[.int .u64 g, .slice a1 k1 c1, .slice a2 k2 c2, .slice a3 k3 c3] 111 (0, 0)) ∧
  w.ownsRow (B + 1) 3 1 (.slice a1 k1 c1) k1 (repI k1) ∧ w.ownsRow (B + 1) 22 1 (.slice a2 k2 c2) k2 (repU k2) ∧ w.ownsRow (B + 1) 3 1 (.slice a3 k3 c3) k3 (repS n k3) ∧
  Ap a1 a2 k1 k2 c1 c2 ∧ Ap a1 a3 k1 k3 c1 c3 ∧ Ap a2 a3 k2 k3 c2 c3
theorem ap_nil : Ap none none 0 0 0 0 := fun _ h => nomatch h
theorem newR_zero (w : World) (g n : Nat) : NewR n g 0 0 0 w.heap.size none none none 0 0 0 (w.alloc (.cells #[.int .u64 g, .slice none 0 0, .slice none 0 0, .slice none 0 0] 111)) :=
  ⟨block_new w _, ⟨rfl, .inl ⟨rfl, rfl⟩⟩, ⟨rfl, .inl ⟨rfl, rfl⟩⟩, ⟨rfl, .inl ⟨rfl, rfl⟩⟩, ap_nil, ap_nil, ap_nil⟩
theorem newR_step1 {n g k B : Nat} {a1 a2 a3 : Option Addr} {c1 c2 c3 : Nat} {w w1 : World} {o : Obj} {q c S : Nat} (hS : S = w.heap.size) (h : NewR n g k k k B a1 a2 a3 c1 c2 c3 w)
    (hw : w1.ownsRow (B + 1) 3 1 (.slice (some ⟨q, 0, none⟩) (k + 1) c) (k + 1) (repI k ++ [encI 0])) (hg : (w.alloc o).grownBy w1 (Value.slice a1 k c1).ownBlock)
    (hq : some q = (Value.slice a1 k c1).ownBlock ∨ some q = some (S + 1)) :
    NewR n g (k + 1) k k B (some ⟨q, 0, none⟩) a2 a3 c c2 c3 (w1.setCell ⟨B, 1, none⟩ (.slice (some ⟨q, 0, none⟩) (k + 1) c)) := by
  subst hS
  obtain ⟨hp, h1, h2, h3, h12, h13, h23⟩ := h
  have hb1 := own_lt h1
  have hb2 := own_lt h2
  have hb3 := own_lt h3
  have hB := block_lt hp
  have hp1 : w1.heap[B]? = _ := (hg.block B (by simp; omega) (own_ne hb1 (by omega))).trans (block_alloc hp o)
  refine ⟨?_, own_set (by rw [repI_snoc]; exact hw), own_set (own_keep (h2.alloc o) (fun q hq => hg.block q (by have := (hb2 _ hq).2; simp; omega) (ap_block h12 hq))), own_set (own_keep (h3.alloc o) (fun q hq => hg.block q (by have := (hb3 _ hq).2; simp; omega) (ap_block h13 hq))), (ap_new hb2 hq h12.symm).symm, (ap_new hb3 hq h13.symm).symm, h23⟩
  have := block_setCell hp1 1 (.slice (some ⟨q, 0, none⟩) (k + 1) c)
  rw [this]
  rfl
theorem newR_step2 {n g k B : Nat} {a1 a2 a3 : Option Addr} {c1 c2 c3 : Nat} {w w1 : World} {o : Obj} {q c S : Nat} (hS : S = w.heap.size) (h : NewR n g (k + 1) k k B a1 a2 a3 c1 c2 c3 w)
    (hw : w1.ownsRow (B + 1) 22 1 (.slice (some ⟨q, 0, none⟩) (k + 1) c) (k + 1) (repU k ++ [encU 1])) (hg : (w.alloc o).grownBy w1 (Value.slice a2 k c2).ownBlock)
    (hq : some q = (Value.slice a2 k c2).ownBlock ∨ some q = some (S + 1)) :
    NewR n g (k + 1) (k + 1) k B a1 (some ⟨q, 0, none⟩) a3 c1 c c3 (w1.setCell ⟨B, 2, none⟩ (.slice (some ⟨q, 0, none⟩) (k + 1) c)) := by
  subst hS
  obtain ⟨hp, h1, h2, h3, h12, h13, h23⟩ := h
  have hb1 := own_lt h1
  have hb2 := own_lt h2
  have hb3 := own_lt h3
  have hB := block_lt hp
  have hp1 : w1.heap[B]? = _ := (hg.block B (by simp; omega) (own_ne hb2 (by omega))).trans (block_alloc hp o)
  refine ⟨?_, own_set (own_keep (h1.alloc o) (fun q hq => hg.block q (by have := (hb1 _ hq).2; simp; omega) (ap_block h12.symm hq))), own_set (by rw [repU_snoc]; exact hw), own_set (own_keep (h3.alloc o) (fun q hq => hg.block q (by have := (hb3 _ hq).2; simp; omega) (ap_block h23 hq))), (ap_new hb1 hq h12), h13, (ap_new hb3 hq h23.symm).symm⟩
  have := block_setCell hp1 2 (.slice (some ⟨q, 0, none⟩) (k + 1) c)
  rw [this]
  rfl
theorem newR_step3 {n g k B : Nat} {a1 a2 a3 : Option Addr} {c1 c2 c3 : Nat} {w w1 : World} {o : Obj} {q c S : Nat} (hS : S = w.heap.size) (h : NewR n g (k + 1) (k + 1) k B a1 a2 a3 c1 c2 c3 w)
    (hw : w1.ownsRow (B + 1) 3 1 (.slice (some ⟨q, 0, none⟩) (k + 1) c) (k + 1) (repS n k ++ [encI (n - 1 - k)])) (hg : (w.alloc o).grownBy w1 (Value.slice a3 k c3).ownBlock)
    (hq : some q = (Value.slice a3 k c3).ownBlock ∨ some q = some (S + 1)) :
    NewR n g (k + 1) (k + 1) (k + 1) B a1 a2 (some ⟨q, 0, none⟩) c1 c2 c (w1.setCell ⟨B, 3, none⟩ (.slice (some ⟨q, 0, none⟩) (k + 1) c)) := by
  subst hS
  obtain ⟨hp, h1, h2, h3, h12, h13, h23⟩ := h
  have hb1 := own_lt h1
  have hb2 := own_lt h2
  have hb3 := own_lt h3
  have hB := block_lt hp
  have hp1 : w1.heap[B]? = _ := (hg.block B (by simp; omega) (own_ne hb3 (by omega))).trans (block_alloc hp o)
  refine ⟨?_, own_set (own_keep (h1.alloc o) (fun q hq => hg.block q (by have := (hb1 _ hq).2; simp; omega) (ap_block h13.symm hq))), own_set (own_keep (h2.alloc o) (fun q hq => hg.block q (by have := (hb2 _ hq).2; simp; omega) (ap_block h23.symm hq))), own_set (by rw [repS_snoc]; exact hw), h12, (ap_new hb1 hq h13), (ap_new hb2 hq h23)⟩
  have := block_setCell hp1 3 (.slice (some ⟨q, 0, none⟩) (k + 1) c)
  rw [this]
  rfl

/-- what New of the reference returns, where the numbers are in range: the blocks are new -/
def NewY (w : World) (n g : Nat) (e : Ending) (w' : World) : Prop :=
  ∃ b : YB, e = .returned (.tuple #[.pointer (some ⟨b.p, 0, none⟩), .int .i64 0]) ∧ IsY w' b (newL n g) ∧ Below w.heap.size w w' ∧ w.heap.size ≤ b.p ∧ w.heap.size ≤ b.s ∧ w.heap.size ≤ b.t ∧ w.heap.size ≤ b.g ∧ b.cs ≤ maxLen

theorem rep_arr {w : World} {B b : Nat} {t : TypeId} {n c : Nat} {l : List Value} {f : Nat → Value} (h : w.ownsRow B t 1 (.slice (some ⟨b, 0, none⟩) n c) n l) (hl : ∀ i, i < n → l[i]? = some (f i)) : B ≤ b ∧ Arr w b t c n f ∧ n ≤ c ∧ c ≤ maxLen := by
  obtain ⟨-, ⟨h, -⟩ | ⟨g, cap', cur, h1, hg, h2, h3, h4, h5, h6⟩⟩ := h
  · cases h
  · cases h1
    refine ⟨hg, ⟨cur, h2, by omega, h3, fun i hi => ?_⟩, h3, h4⟩
    have := congrArg (fun l => l[i]?) h6
    simp only [List.getElem?_take, Array.getElem?_toList] at this
    rw [if_pos (by omega)] at this
    rw [this]
    exact hl i hi
theorem newR_end {n g : Nat} {a1 a2 a3 : Option Addr} {c1 c2 c3 : Nat} {w w' : World} (hn : 1 ≤ n) (h : NewR n g n n n w.heap.size a1 a2 a3 c1 c2 c3 w') (hb : Below w.heap.size w w') :
    NewY w n g (.returned (.tuple #[.pointer (some ⟨w.heap.size, 0, none⟩), .int .i64 0])) w' := by
  obtain ⟨m, rfl⟩ : ∃ m, n = m + 1 := ⟨n - 1, by omega⟩
  obtain ⟨hp, h1, h2, h3, h12, h13, h23⟩ := h
  obtain ⟨b1, d1, e1⟩ := own_form h1
  obtain ⟨b2, d2, e2⟩ := own_form h2
  obtain ⟨b3, d3, e3⟩ := own_form h3
  cases e1
  cases e2
  cases e3
  obtain ⟨l1, r1, s1, t1⟩ := rep_arr (f := fun _ => encI 0) h1 (fun i hi => by simp [repI, hi])
  obtain ⟨l2, r2, s2, t2⟩ := rep_arr (f := fun _ => encU 1) h2 (fun i hi => by simp [repU, hi])
  obtain ⟨l3, r3, s3, t3⟩ := rep_arr (f := fun i => encI (m + 1 - 1 - i)) h3 (fun i hi => by simp [repS, hi])
  exact ⟨{ p := w.heap.size, s := b3, t := b1, g := b2, cs := c3, ct := c1, cg := c2 }, rfl, ⟨hp, r3, r1, r2, fun e => h13 b1 rfl (congrArg some (show b3 = b1 from e)), s3⟩, hb, Nat.le_refl _, Nat.le_of_succ_le l3, Nat.le_of_succ_le l1, Nat.le_of_succ_le l2, t3⟩

set_option maxRecDepth 100000 in
set_option maxHeartbeats 2000000 in
theorem refNew_n (n g : Int) (w : World) (h : n < 1 ∨ 16384 < n) :
    Calls Try.prog 40 #[.int .i64 n, .int .u64 g] w fun e w' => e = .returned (.tuple #[.pointer none, .int .i64 3]) ∧ w = w' := by
  by_cases c1 : n < 1
  · clear h
    go_enter Try.func40, Try.ntmps40
    go_wp2_with fail
    go_ret2
    exact ⟨rfl, rfl⟩
  · have c2 : 16384 < n := by omega
    clear h
    go_enter Try.func40, Try.ntmps40
    go_wp2_with fail
    go_ret2
    exact ⟨rfl, rfl⟩

set_option maxRecDepth 100000 in
set_option maxHeartbeats 2000000 in
theorem refNew_g (n g : Int) (w : World) (h1 : 1 ≤ n) (h2 : n ≤ 16384) (h : g < 1 ∨ 4294967295 < g) :
    Calls Try.prog 40 #[.int .i64 n, .int .u64 g] w fun e w' => e = .returned (.tuple #[.pointer none, .int .i64 3]) ∧ w = w' := by
  by_cases c1 : g < 1
  · clear h
    go_enter Try.func40, Try.ntmps40
    go_wp2_with fail
    go_ret2
    exact ⟨rfl, rfl⟩
  · have c2 : 4294967295 < g := by omega
    clear h
    go_enter Try.func40, Try.ntmps40
    go_wp2_with fail
    go_ret2
    exact ⟨rfl, rfl⟩

set_option maxRecDepth 100000 in
set_option maxHeartbeats 2000000 in
theorem refNew_ok (n g : Nat) (w : World) (h1 : 1 ≤ n) (h2 : n ≤ 16384) (h3 : 1 ≤ g) (h4 : g ≤ 4294967295) :
    Calls Try.prog 40 #[.int .i64 n, .int .u64 g] w fun e w' => NewY w n g e w' := by
  obtain ⟨i0, hi, hz0, hz1, hz2⟩ := info_parts infoI
  obtain ⟨j0, hj, hw0, hw1, hw2⟩ := info_parts infoU
  have k1 : (1 : Int) ≤ n := by omega
  have k2 : (n : Int) ≤ 16384 := by omega
  have k3 : (1 : Int) ≤ g := by omega
  have k4 : (g : Int) ≤ 4294967295 := by omega
  have HB0 := Lib.hid (Below.refl w.heap.size w)
  go_enter Try.func40, Try.ntmps40
  go_wp2_with fail
  go_loopw [7] (fun i wr => ∃ k : Nat, k ≤ n ∧ i = .int .i64 k ∧ (∃ a1 a2 a3 c1 c2 c3, NewR n g k k k w.heap.size a1 a2 a3 c1 c2 c3 wr) ∧ Below w.heap.size w wr) (fun i _ => n - (intOf i).toNat)
  case atStart =>
    exact ⟨0, Nat.zero_le _, rfl, ⟨none, none, none, 0, 0, 0, newR_zero w g n⟩, HB0.out.alloc (Nat.le_refl _) _⟩
  case round =>
    obtain ⟨k, hk, rfl, ⟨a1, a2, a3, c1, c2, c3, hr⟩, hbr⟩ := hrel
    have HBR := Lib.hid hbr
    have HR := Lib.hid hr
    by_cases hlt : k < n
    · have hp := hr.1
      have hlt' : (k : Int) < (n : Int) := by omega
      have HNK := Lib.hid (show Value.int .i64 ((n : Int) - 1 - k) = encI (n - 1 - k) by unfold encI; congr 1; omega)
      (have q0 := block_cell hp 0; have q1 := block_cell hp 1; have q2 := block_cell hp 2; have q3 := block_cell hp 3; have f0 := block_free hp 0; have f1 := block_free hp 1; have f2 := block_free hp 2; have f3 := block_free hp 3; have hz := block_lt hp; simp at q0 q1 q2 q3)
      clear hp hr hbr
      have HHO1 := Lib.hid (fun A => (HR.out.2.1).alloc A)
      have HHN1 := Lib.hid (cell_one_new wr (encI 0) 3)
      go_wp2_with (at_builtin; refine wpList_append_own_at _ rfl _ _ 46 rfl (w.heap.size + 1) 3 i0 (.int .i64 0) 1 8 Try.underlying46 hi hz0 hz1 hz2 rfl (by decide) _ k (repI k) rfl (HHO1.out _) ⟨wr.heap.size, 0, none⟩ 1 _ [encI 0] rfl rfl HHN1.out (by intro u hu; simp at hu; subst hu; rfl) ?c3 ?c4 ?c5 ?_)
      case c3 => unfold maxLen; omega
      case c4 => omega
      case c5 => have := block_lt HR.out.1; simp; omega
      intro v' w1 hown hgrow _ hblk
      obtain ⟨g1, d1, rfl⟩ := own_form hown
      have hp := head_grown HR.out.1 hgrow (own_ne (own_lt HR.out.2.1) (Nat.lt_succ_self _))
      have HR2 := Lib.hid (newR_step1 rfl HR.out hown hgrow hblk)
      have HB2 := Lib.hid (((HBR.out.alloc HBR.out.size _).grown hgrow (Nat.le_trans HBR.out.size (by simp)) (fun q hq => Nat.le_of_succ_le (own_lt HR.out.2.1 q hq).1)).setCell (p := ⟨w.heap.size, 1, none⟩) (Nat.le_refl _) (.slice (some ⟨g1, 0, none⟩) (k + 1) d1))
      clear hown hgrow hblk q0 q1 q2 q3 f0 f1 f2 f3 hz
      (have q0 := block_cell hp 0; have q1 := block_cell hp 1; have q2 := block_cell hp 2; have q3 := block_cell hp 3; have f0 := block_free hp 0; have f1 := block_free hp 1; have f2 := block_free hp 2; have f3 := block_free hp 3; have hz := block_lt hp; simp at q0 q1 q2 q3)
      clear hp
      have HHO2 := Lib.hid (fun A => (HR2.out.2.2.1).alloc A)
      have HSZ2 := Lib.hid (show w1.heap.size = (w1.setCell ⟨w.heap.size, 1, none⟩ (.slice (some ⟨g1, 0, none⟩) (k + 1) d1)).heap.size by simp [World.setCell])
      have HHN2 := Lib.hid (cell_one_at HSZ2.out (encU 1) 22)
      go_wp2_with (at_builtin; refine wpList_append_own_at _ rfl _ _ 107 rfl (w.heap.size + 1) 22 j0 (.int .u64 0) 1 8 Try.underlying107 hj hw0 hw1 hw2 rfl (by decide) _ k (repU k) rfl (HHO2.out _) ⟨w1.heap.size, 0, none⟩ 1 _ [encU 1] rfl rfl HHN2.out (by intro u hu; simp at hu; subst hu; rfl) ?c3 ?c4 ?c5 ?_)
      case c3 => unfold maxLen; omega
      case c4 => omega
      case c5 => have := block_lt HR2.out.1; simp; omega
      intro v' w2 hown hgrow _ hblk
      obtain ⟨g2, d2, rfl⟩ := own_form hown
      have hp := head_grown HR2.out.1 hgrow (own_ne (own_lt HR2.out.2.2.1) (Nat.lt_succ_self _))
      have HR3 := Lib.hid (newR_step2 HSZ2.out HR2.out hown hgrow hblk)
      have HB3 := Lib.hid (((HB2.out.alloc HB2.out.size _).grown hgrow (Nat.le_trans HB2.out.size (by simp)) (fun q hq => Nat.le_of_succ_le (own_lt HR2.out.2.2.1 q hq).1)).setCell (p := ⟨w.heap.size, 2, none⟩) (Nat.le_refl _) (.slice (some ⟨g2, 0, none⟩) (k + 1) d2))
      clear hown hgrow hblk q0 q1 q2 q3 f0 f1 f2 f3 hz
      (have q0 := block_cell hp 0; have q1 := block_cell hp 1; have q2 := block_cell hp 2; have q3 := block_cell hp 3; have f0 := block_free hp 0; have f1 := block_free hp 1; have f2 := block_free hp 2; have f3 := block_free hp 3; have hz := block_lt hp; simp at q0 q1 q2 q3)
      clear hp
      have HHO3 := Lib.hid (fun A => (HR3.out.2.2.2.1).alloc A)
      have HSZ3 := Lib.hid (show w2.heap.size = (w2.setCell ⟨w.heap.size, 2, none⟩ (.slice (some ⟨g2, 0, none⟩) (k + 1) d2)).heap.size by simp [World.setCell])
      have HHN3 := Lib.hid (cell_one_at HSZ3.out (.int .i64 ((n : Int) - 1 - k)) 3)
      go_wp2_with (at_builtin; refine wpList_append_own_at _ rfl _ _ 46 rfl (w.heap.size + 1) 3 i0 (.int .i64 0) 1 8 Try.underlying46 hi hz0 hz1 hz2 rfl (by decide) _ k (repS n k) rfl (HHO3.out _) ⟨w2.heap.size, 0, none⟩ 1 _ [.int .i64 ((n : Int) - 1 - k)] rfl rfl HHN3.out (by intro u hu; simp at hu; subst hu; rfl) ?c3 ?c4 ?c5 ?_)
      case c3 => unfold maxLen; omega
      case c4 => omega
      case c5 => have := block_lt HR3.out.1; simp; omega
      intro v' w3 hown hgrow _ hblk
      obtain ⟨g3, d3, rfl⟩ := own_form hown
      rw [HNK.out] at hown
      have hp := head_grown HR3.out.1 hgrow (own_ne (own_lt HR3.out.2.2.2.1) (Nat.lt_succ_self _))
      have HR4 := Lib.hid (newR_step3 HSZ3.out HR3.out hown hgrow hblk)
      have HB4 := Lib.hid (((HB3.out.alloc HB3.out.size _).grown hgrow (Nat.le_trans HB3.out.size (by simp)) (fun q hq => Nat.le_of_succ_le (own_lt HR3.out.2.2.2.1 q hq).1)).setCell (p := ⟨w.heap.size, 3, none⟩) (Nat.le_refl _) (.slice (some ⟨g3, 0, none⟩) (k + 1) d3))
      clear hown hgrow hblk q0 q1 q2 q3 f0 f1 f2 f3 hz
      (have q0 := block_cell hp 0; have q1 := block_cell hp 1; have q2 := block_cell hp 2; have q3 := block_cell hp 3; have f0 := block_free hp 0; have f1 := block_free hp 1; have f2 := block_free hp 2; have f3 := block_free hp 3; have hz := block_lt hp; simp at q0 q1 q2 q3)
      clear hp
      go_wp2_with fail
      go_roundw
      case rel => exact ⟨k + 1, by omega, by go_num, ⟨_, _, _, _, _, _, HR4.out⟩, HB4.out⟩
      case measure => simp [intOf]; omega
    · obtain rfl : k = n := by omega
      clear hr hbr
      go_wp2_with fail
      go_ret2
      exact newR_end h1 HR.out HBR.out
end Go.Proofs.Ytfgkbnnojogjpaa

namespace Go.Proofs.Ytfgkbnnojogjpaa
open Go.RowKit

theorem mod_plain (n m : Int) : (n.tmod m + m) % m = n % m := by
  rw [Int.add_emod_right]
  have := Int.tmod_def n m
  rw [this, show n - m * n.tdiv m = n + m * (-(n.tdiv m)) by rw [Int.mul_neg]; omega, Int.add_mul_emod_self_left]

theorem next_plain (s g : Nat) (h : mkOK s g) (h2 : g < 4294967295) : mkOK s (g + 1) := by unfold mkOK at *; omega
/-- the first n handles hold h -/
def HasTo (n : Nat) (f : Nat → Int) (h : Int) : Prop := ∃ i, i < n ∧ f i = h
instance (n : Nat) (f : Nat → Int) (h : Int) : Decidable (HasTo n f h) := Nat.decidableExistsLT n

end Go.Proofs.Ytfgkbnnojogjpaa

namespace Go.Proofs.Ytfgkbnnojogjpaa
open Go.RowKit

theorem IsL.below {w w' : World} {b : LB} {x : FL} {K : Nat} (h : IsL w b x) (hb : Below K w w') (hK : w.heap.size ≤ K) : IsL w' b x :=
  ⟨block_below hb h.1 (Nat.lt_of_lt_of_le (block_lt h.1) hK), h.2.1.keep (hb.block _ (Nat.lt_of_lt_of_le h.2.1.lt hK)), h.2.2.1.keep (hb.block _ (Nat.lt_of_lt_of_le h.2.2.1.lt hK)), h.2.2.2.keep (hb.block _ (Nat.lt_of_lt_of_le h.2.2.2.lt hK))⟩
theorem IsY.below {w w' : World} {b : YB} {x : FL} {K : Nat} (h : IsY w b x) (hb : Below K w w') (hK : w.heap.size ≤ K) : IsY w' b x :=
  ⟨block_below hb h.1 (Nat.lt_of_lt_of_le (block_lt h.1) hK), h.2.1.keep (hb.block _ (Nat.lt_of_lt_of_le h.2.1.lt hK)), h.2.2.1.keep (hb.block _ (Nat.lt_of_lt_of_le h.2.2.1.lt hK)), h.2.2.2.1.keep (hb.block _ (Nat.lt_of_lt_of_le h.2.2.2.1.lt hK)), h.2.2.2.2⟩

/-- a slice of n elements in a block between lo and hi -/
def RsI (w : World) (lo hi : Nat) (t : TypeId) (v : Value) (n : Nat) : Prop :=
  ∃ (ao : Option Addr) (c : Nat), v = .slice ao n c ∧ (0 < n → ∃ b cap f, ao = some ⟨b, 0, none⟩ ∧ lo ≤ b ∧ b < hi ∧ Arr w b t cap n f)
theorem RsI.of {w : World} {lo hi : Nat} {t : TypeId} {ao : Option Addr} {c n : Nat} (h : RsI w lo hi t (.slice ao n c) n) (hn : 0 < n) : ∃ b cap f, ao = some ⟨b, 0, none⟩ ∧ lo ≤ b ∧ b < hi ∧ Arr w b t cap n f := by
  obtain ⟨ao', c', e, h⟩ := h
  cases e
  exact h hn
theorem RsI.of_rs {w : World} {B : Nat} {t : TypeId} {v : Value} {n : Nat} {f : Nat → Value} (h : Rs w B t v n f) : RsI w B w.heap.size t v n := by
  obtain ⟨ao, c, rfl, h⟩ := h
  refine ⟨ao, c, rfl, fun hn => ?_⟩
  obtain ⟨b, cap, e, hB, ha⟩ := h hn
  exact ⟨b, cap, f, e, hB, ha.lt, ha⟩
theorem RsI.keep {w w' : World} {lo hi K : Nat} {t : TypeId} {v : Value} {n : Nat} (h : RsI w lo hi t v n) (hb : Below K w w') (hK : hi ≤ K) : RsI w' lo hi t v n := by
  obtain ⟨ao, c, rfl, h⟩ := h
  refine ⟨ao, c, rfl, fun hn => ?_⟩
  obtain ⟨b, cap, f, e, h1, h2, ha⟩ := h hn
  exact ⟨b, cap, f, e, h1, h2, ha.keep (hb.block b (Nat.lt_of_lt_of_le h2 hK))⟩
theorem RsI.set {w : World} {lo hi lo' hi' : Nat} {t : TypeId} {v : Value} {n : Nat} (h : RsI w lo hi t v n) {b i : Nat} (hb : lo' ≤ b ∧ b < hi') (hd : hi ≤ lo' ∨ hi' ≤ lo) (x : Value) : RsI (w.setCell ⟨b, i, none⟩ x) lo hi t v n := by
  obtain ⟨ao, c, rfl, h⟩ := h
  refine ⟨ao, c, rfl, fun hn => ?_⟩
  obtain ⟨b', cap, f, e, h1, h2, ha⟩ := h hn
  exact ⟨b', cap, f, e, h1, h2, ha.other (by show b ≠ b'; omega) x⟩
theorem RsI.self {w : World} {lo hi : Nat} {t : TypeId} {b k n c : Nat} (h : RsI w lo hi t (.slice (some ⟨b, 0, none⟩) n c) n) (hk : k < n) (hb : lo ≤ b ∧ b < hi) (x : Value) : RsI (w.setCell ⟨b, k, none⟩ x) lo hi t (.slice (some ⟨b, 0, none⟩) n c) n := by
  obtain ⟨b', cap, f, e, h1, h2, ha⟩ := h.of (by omega)
  cases e
  exact ⟨_, _, rfl, fun _ => ⟨b, cap, _, rfl, hb.1, hb.2, ha.set hk x⟩⟩

/-- what Handles and Withdrawn return, as a slice of its own -/
theorem NewHs.rs {w w' : World} {x : FL} {e : Ending} (h : NewHs w x e w') : ∃ v, e = .returned v ∧ Rs w' w.heap.size 31 v (slotsTo x 1 x.n).length (fun i => encH x ((slotsTo x 1 x.n).getD i 0)) ∧ Below w.heap.size w w' := by
  obtain ⟨v, he, ho, hb⟩ := h
  exact ⟨v, he, Rs.of_own ho, hb⟩
theorem NewIs.rs {w w' : World} {l : List Nat} {e : Ending} (h : NewIs w l e w') : ∃ v, e = .returned v ∧ Rs w' w.heap.size 3 v l.length (fun i => encI (l.getD i 0)) ∧ Below w.heap.size w w' := by
  obtain ⟨v, he, ho, hb⟩ := h
  exact ⟨v, he, Rs.of_own ho, hb⟩

end Go.Proofs.Ytfgkbnnojogjpaa

namespace Go.Proofs.Ytfgkbnnojogjpaa
open Go.RowKit

theorem below_two {w w1 w2 : World} (h : Below w.heap.size w w1) (k : Below w1.heap.size w1 w2) : Below w.heap.size w w2 := h.trans (k.mono h.size)
theorem below_drewN {B : Nat} {w w1 : World} (h : Below B w w1) (n : Nat) : Below B w (w1.drewN n) := ⟨h.os, h.tape, h.output, h.size, h.block⟩
theorem eqTo_self (n : Nat) (f : Nat → Int) : decide (n = n ∧ EqTo n f f) = true := decide_eq_true ⟨rfl, fun _ _ => rfl⟩
theorem equalInts_self (w : World) (v v' : Value) (n : Nat) (f : Nat → Nat) (h : Sl w v n (fun i => encI (f i))) (h' : Sl w v' n (fun i => encI (f i))) (hn : n ≤ 9223372036854775807) :
    Calls Try.prog 41 #[v, v'] w fun e w' => e = .returned (.bool true) ∧ ∃ m, w' = w.drewN m := by
  have := equalInts_any w v v' n n (fun i => (f i : Int)) (fun i => (f i : Int)) h h' hn
  rwa [eqTo_self] at this
theorem equalHandles_self (w : World) (v v' : Value) (n : Nat) (f : Nat → Int) (h : Sl w v n (fun i => .int .u64 (f i))) (h' : Sl w v' n (fun i => .int .u64 (f i))) (hn : n ≤ 9223372036854775807) :
    Calls Try.prog 38 #[v, v'] w fun e w' => e = .returned (.bool true) ∧ ∃ m, w' = w.drewN m := by
  have := equalHandles_any w v v' n n f f h h' hn
  rwa [eqTo_self] at this
/-- the handles, as numbers -/
def hsF (x : FL) (i : Nat) : Int := hMk ((slotsTo x 1 x.n).getD i 0) (x.gn ((slotsTo x 1 x.n).getD i 0))

end Go.Proofs.Ytfgkbnnojogjpaa

namespace Go.Proofs.Ytfgkbnnojogjpaa
open Go.RowKit

def aw0 : FL := newL 3 2
def aw1 : FL := takeL aw0
def aw2 : FL := takeL aw1
def aw3 : FL := giveL aw2 0
def aw4 : FL := takeL aw3
def aw5 : FL := giveL aw4 0
theorem aw0_inv : FInv aw0 := newL_inv (by decide) (by decide) (by decide) (by decide)
theorem aw1_inv : FInv aw1 := takeL_inv aw0_inv (by decide)
theorem aw2_inv : FInv aw2 := takeL_inv aw1_inv (by decide)
theorem aw3_inv : FInv aw3 := giveL_inv aw2_inv (s := 0) (by decide) (by decide)
theorem aw4_inv : FInv aw4 := takeL_inv aw3_inv (by decide)
theorem aw5_inv : FInv aw5 := giveL_inv aw4_inv (s := 0) (by decide) (by decide)

theorem equalInts_eq (w : World) (v v' : Value) (n : Nat) (f g : Nat → Nat) (h : Sl w v n (fun i => encI (f i))) (h' : Sl w v' n (fun i => encI (g i))) (hn : n ≤ 9223372036854775807) (e : ∀ i, i < n → f i = g i) :
    Calls Try.prog 41 #[v, v'] w fun e w' => e = .returned (.bool true) ∧ ∃ m, w' = w.drewN m := by
  have := equalInts_any w v v' n n (fun i => (f i : Int)) (fun i => (g i : Int)) h h' hn
  rwa [show decide (n = n ∧ EqTo n (fun i => (f i : Int)) (fun i => (g i : Int))) = true from decide_eq_true ⟨rfl, fun i hi => congrArg _ (e i hi)⟩] at this
theorem equalHandles_eq (w : World) (v v' : Value) (n : Nat) (f g : Nat → Int) (h : Sl w v n (fun i => .int .u64 (f i))) (h' : Sl w v' n (fun i => .int .u64 (g i))) (hn : n ≤ 9223372036854775807) (e : ∀ i, i < n → f i = g i) :
    Calls Try.prog 38 #[v, v'] w fun e w' => e = .returned (.bool true) ∧ ∃ m, w' = w.drewN m := by
  have := equalHandles_any w v v' n n f g h h' hn
  rwa [show decide (n = n ∧ EqTo n f g) = true from decide_eq_true ⟨rfl, e⟩] at this
theorem lit_sl (w : World) (t : TypeId) (l : List Int) (c : Nat) (k : IntKind) : Sl (w.alloc (.cells (l.map (fun i => Value.int k i)).toArray t)) (.slice (some ⟨w.heap.size, 0, none⟩) l.length c) l.length (fun i => .int k (l.getD i 0)) := by
  refine ⟨_, _, rfl, fun _ => ⟨_, _, rfl, fun i hi => ?_⟩⟩
  rw [Nat.zero_add, block_cell (block_new w _) i]
  simp [hi]
theorem lit_ints (w : World) (l : List Nat) (c : Nat) : Sl (w.alloc (.cells (l.map encI).toArray 3)) (.slice (some ⟨w.heap.size, 0, none⟩) l.length c) l.length (fun i => encI (l.getD i 0)) := by
  refine ⟨_, _, rfl, fun _ => ⟨_, _, rfl, fun i hi => ?_⟩⟩
  rw [Nat.zero_add, block_cell (block_new w _) i]
  simp [hi]

theorem live_lit (b : LB) (x : FL) (h : Int) (w : World) (h0 : 0 ≤ h) (h1 : h ≤ 18446744073709551615) (hl : IsL w b x) (hd : ¬ liveL x h) :
    Calls Try.prog 61 #[.pointer (some ⟨b.p, 0, none⟩), .int .u64 h] w fun e w' => e = .returned (.bool false) ∧ ∃ n, w' = w.drewN n := by
  have := live_any b x h w h0 h1 hl
  rwa [decide_eq_false hd] at this

end Go.Proofs.Ytfgkbnnojogjpaa

namespace Go.Proofs.Ytfgkbnnojogjpaa
open Go.RowKit

def takeR (x : FL) : Int × Int := if x.m = 0 then (0, 6) else (hMk (x.sk (x.m - 1)) (x.gn (x.sk (x.m - 1))), 0)
def takeS (x : FL) : FL := if x.m = 0 then x else takeL x
def slotOf (h : Int) : Nat := (h % 65536).toNat
def giveR (x : FL) (h : Int) : Bool × Int := if liveL x h then (decide (x.gn (slotOf h) = x.most), 0) else (false, 10)
def giveS (x : FL) (h : Int) : FL := if liveL x h then giveL x (slotOf h) else x
theorem takeS_inv {x : FL} (h : FInv x) : FInv (takeS x) := by
  unfold takeS
  split
  · exact h
  · exact takeL_inv h (by omega)
theorem giveS_inv {x : FL} (h : FInv x) (k : Int) : FInv (giveS x k) := by
  unfold giveS
  split
  · rename_i hl
    exact giveL_inv h hl.2.1 hl.2.2.1
  · exact h
theorem takeR_range {x : FL} (h : FInv x) : 0 ≤ (takeR x).1 ∧ (takeR x).1 ≤ 18446744073709551615 := by
  unfold takeR
  split
  · exact ⟨by decide, by decide⟩
  · exact hMk_le (mkOK_of h (h.lo _ (by omega)).1)
theorem slotOf_mk {s g : Nat} (h : mkOK s g) : slotOf (hMk s g) = s := by
  unfold slotOf
  rw [hMk_mod h]
  rfl

theorem take_any (b : LB) (x : FL) (w : World) (hl : IsL w b x) (hi : FInv x) :
    Calls Try.prog 42 #[.pointer (some ⟨b.p, 0, none⟩)] w fun e w' => e = .returned (.tuple #[.int .u64 (takeR x).1, .int .i64 (takeR x).2]) ∧ IsL w' b (takeS x) ∧ KeepL b w w' := by
  unfold takeR takeS
  by_cases hm : x.m = 0
  · rw [if_pos hm, if_pos hm]
    refine (take_full b x w hl hm).mono ?_
    rintro e w1 ⟨rfl, rfl⟩
    exact ⟨rfl, hl, KeepL.refl _ _⟩
  · rw [if_neg hm, if_neg hm]
    exact take_ok b x w hl hi (x.m - 1) (by omega)
theorem refTake_any (b : YB) (x : FL) (w : World) (hl : IsY w b x) (hi : FInv x) :
    Calls Try.prog 53 #[.pointer (some ⟨b.p, 0, none⟩)] w fun e w' => e = .returned (.tuple #[.int .u64 (takeR x).1, .int .i64 (takeR x).2]) ∧ IsY w' b (takeS x) ∧ KeepL b.toLB w w' := by
  unfold takeR takeS
  by_cases hm : x.m = 0
  · rw [if_pos hm, if_pos hm]
    refine (refTake_full b x w hl hm).mono ?_
    rintro e w1 ⟨rfl, rfl⟩
    exact ⟨rfl, hl, KeepL.refl _ _⟩
  · rw [if_neg hm, if_neg hm]
    exact refTake_ok b x w hl hi (x.m - 1) (by omega)
theorem give_any (b : LB) (x : FL) (h : Int) (w : World) (h0 : 0 ≤ h) (h1 : h ≤ 18446744073709551615) (hl : IsL w b x) (hi : FInv x) :
    Calls Try.prog 55 #[.pointer (some ⟨b.p, 0, none⟩), .int .u64 h] w fun e w' => e = .returned (.tuple #[.bool (giveR x h).1, .int .i64 (giveR x h).2]) ∧ IsL w' b (giveS x h) ∧ KeepL b w w' := by
  unfold giveR giveS
  by_cases hd : liveL x h
  · rw [if_pos hd, if_pos hd]
    obtain ⟨s, g, hm, rfl⟩ := hOK_mk hd.1
    rw [slotOf_mk hm]
    by_cases hg : x.gn s = x.most
    · rw [decide_eq_true hg]
      exact give_last b x s g w hm hd hl hg
    · rw [decide_eq_false hg]
      exact give_push b x s g w hm hd hl hi hg
  · rw [if_neg hd, if_neg hd]
    refine (give_dead b x h w h0 h1 hd hl).mono ?_
    rintro e w1 ⟨rfl, n, rfl⟩
    exact ⟨rfl, hl, (KeepL.refl _ _).drewN n⟩
theorem refGive_any (b : YB) (x : FL) (h : Int) (w : World) (h0 : 0 ≤ h) (h1 : h ≤ 18446744073709551615) (hl : IsY w b x) (hi : FInv x) (hc : b.cs ≤ maxLen) :
    Calls Try.prog 57 #[.pointer (some ⟨b.p, 0, none⟩), .int .u64 h] w fun e w' => e = .returned (.tuple #[.bool (giveR x h).1, .int .i64 (giveR x h).2]) ∧ IsY w' b (giveS x h) ∧ KeepL b.toLB w w' := by
  unfold giveR giveS
  by_cases hd : liveL x h
  · rw [if_pos hd, if_pos hd]
    obtain ⟨s, g, hm, rfl⟩ := hOK_mk hd.1
    rw [slotOf_mk hm]
    by_cases hg : x.gn s = x.most
    · rw [decide_eq_true hg]
      exact refGive_last b x s g w hm hd hl hg
    · rw [decide_eq_false hg]
      exact refGive_push b x s g w hm hd hl hi hg hc
  · rw [if_neg hd, if_neg hd]
    refine (refGive_dead b x h w h0 h1 hd hl).mono ?_
    rintro e w1 ⟨rfl, n, rfl⟩
    exact ⟨rfl, hl, (KeepL.refl _ _).drewN n⟩

/-- the blocks lie at B or above -/
def LB.ge (b : LB) (B : Nat) : Prop := B ≤ b.p ∧ B ≤ b.s ∧ B ≤ b.t ∧ B ≤ b.g
/-- no block is of both -/
def LB.apart (b c : LB) : Prop := ∀ q, (q = c.p ∨ q = c.s ∨ q = c.t ∨ q = c.g) → q ≠ b.p ∧ q ≠ b.s ∧ q ≠ b.t ∧ q ≠ b.g
theorem LB.apart.symm {b c : LB} (h : b.apart c) : c.apart b := by
  intro q hq
  refine ⟨fun e => ?_, fun e => ?_, fun e => ?_, fun e => ?_⟩
  · obtain ⟨a1, a2, a3, a4⟩ := h q (.inl e)
    rcases hq with k | k | k | k <;> contradiction
  · obtain ⟨a1, a2, a3, a4⟩ := h q (.inr (.inl e))
    rcases hq with k | k | k | k <;> contradiction
  · obtain ⟨a1, a2, a3, a4⟩ := h q (.inr (.inr (.inl e)))
    rcases hq with k | k | k | k <;> contradiction
  · obtain ⟨a1, a2, a3, a4⟩ := h q (.inr (.inr (.inr e)))
    rcases hq with k | k | k | k <;> contradiction
theorem apart_of {b c : LB} {w : World} {x : FL} (h : IsL w b x) (hc : c.ge w.heap.size) : b.apart c := by
  have h1 := block_lt h.1
  have h2 := h.2.1.lt
  have h3 := h.2.2.1.lt
  have h4 := h.2.2.2.lt
  obtain ⟨c1, c2, c3, c4⟩ := hc
  intro q hq
  omega
theorem KeepL.below {b : LB} {w w' : World} {B : Nat} (h : KeepL b w w') (hB : B ≤ w.heap.size) (hb : b.ge B) : Below B w w' := h.1 B hB hb.1 hb.2.1 hb.2.2.1 hb.2.2.2
theorem IsY.keep {b : LB} {c : YB} {w w' : World} {x : FL} (h : IsY w c x) (hk : KeepL b w w') (ha : b.apart c.toLB) : IsY w' c x := by
  have k : ∀ q, q < w.heap.size → (q = c.p ∨ q = c.s ∨ q = c.t ∨ q = c.g) → w'.heap[q]? = w.heap[q]? := fun q hq hc => by
    obtain ⟨a1, a2, a3, a4⟩ := ha q hc
    exact hk.2 q hq a1 a2 a3 a4
  exact ⟨(k _ (block_lt h.1) (.inl rfl)).trans h.1, h.2.1.keep (k _ h.2.1.lt (.inr (.inl rfl))), h.2.2.1.keep (k _ h.2.2.1.lt (.inr (.inr (.inl rfl)))), h.2.2.2.1.keep (k _ h.2.2.2.1.lt (.inr (.inr (.inr rfl)))), h.2.2.2.2⟩
theorem IsL.keep {b c : LB} {w w' : World} {x : FL} (h : IsL w c x) (hk : KeepL b w w') (ha : b.apart c) : IsL w' c x := by
  have k : ∀ q, q < w.heap.size → (q = c.p ∨ q = c.s ∨ q = c.t ∨ q = c.g) → w'.heap[q]? = w.heap[q]? := fun q hq hc => by
    obtain ⟨a1, a2, a3, a4⟩ := ha q hc
    exact hk.2 q hq a1 a2 a3 a4
  exact ⟨(k _ (block_lt h.1) (.inl rfl)).trans h.1, h.2.1.keep (k _ h.2.1.lt (.inr (.inl rfl))), h.2.2.1.keep (k _ h.2.2.1.lt (.inr (.inr (.inl rfl)))), h.2.2.2.keep (k _ h.2.2.2.lt (.inr (.inr (.inr rfl))))⟩
end Go.Proofs.Ytfgkbnnojogjpaa

namespace Go.Proofs.Ytfgkbnnojogjpaa
open Go.RowKit

/-- two lists, the program's and the reference's, with the same plain state, their blocks apart and no older than w0 -/
def Pair (w0 w : World) (b : LB) (c : YB) (x : FL) : Prop :=
  IsL w b x ∧ IsY w c x ∧ FInv x ∧ b.apart c.toLB ∧ b.ge w0.heap.size ∧ c.toLB.ge w0.heap.size ∧ c.cs ≤ maxLen ∧ Below w0.heap.size w0 w
theorem Pair.below {w0 w w' : World} {b : LB} {c : YB} {x : FL} (h : Pair w0 w b c x) (k : Below w.heap.size w w') : Pair w0 w' b c x :=
  ⟨h.1.below k (Nat.le_refl _), h.2.1.below k (Nat.le_refl _), h.2.2.1, h.2.2.2.1, h.2.2.2.2.1, h.2.2.2.2.2.1, h.2.2.2.2.2.2.1, below_two h.2.2.2.2.2.2.2 k⟩
theorem Pair.drewN {w0 w : World} {b : LB} {c : YB} {x : FL} (h : Pair w0 w b c x) (n : Nat) : Pair w0 (w.drewN n) b c x :=
  ⟨h.1, h.2.1, h.2.2.1, h.2.2.2.1, h.2.2.2.2.1, h.2.2.2.2.2.1, h.2.2.2.2.2.2.1, below_drewN h.2.2.2.2.2.2.2 n⟩
/-- both lists are turned alike -/
theorem Pair.both {w0 w w1 w2 : World} {b : LB} {c : YB} {x y : FL} (h : Pair w0 w b c x) (hy : FInv y) (h1 : IsL w1 b y) (k1 : KeepL b w w1) (h2 : IsY w2 c y) (k2 : KeepL c.toLB w1 w2) : Pair w0 w2 b c y := by
  obtain ⟨p1, p2, p3, p4, p5, p6, p7, p8⟩ := h
  have e1 := k1.below p8.size p5
  have e2 := k2.below (Nat.le_trans p8.size (k1.below (B := 0) (Nat.zero_le _) ⟨Nat.zero_le _, Nat.zero_le _, Nat.zero_le _, Nat.zero_le _⟩).size) p6
  exact ⟨h1.keep k2 p4.symm, h2, hy, p4, p5, p6, p7, (p8.trans e1).trans e2⟩
theorem Pair.of_new {w0 w1 w2 : World} {b : LB} {c : YB} {n g : Nat} (h1 : 1 ≤ n) (h2 : n ≤ 16384) (h3 : 1 ≤ g) (h4 : g ≤ 4294967295) (hl : IsL w1 b (newL n g)) (hb : Below w0.heap.size w0 w1) (hg : b.ge w0.heap.size)
    (hy : IsY w2 c (newL n g)) (hc : Below w1.heap.size w1 w2) (hd : c.toLB.ge w1.heap.size) (hm : c.cs ≤ maxLen) : Pair w0 w2 b c (newL n g) :=
  ⟨hl.below hc (Nat.le_refl _), hy, newL_inv h1 h2 h3 h4, apart_of hl hd, hg, ⟨Nat.le_trans hb.size hd.1, Nat.le_trans hb.size hd.2.1, Nat.le_trans hb.size hd.2.2.1, Nat.le_trans hb.size hd.2.2.2⟩, hm, below_two hb hc⟩

end Go.Proofs.Ytfgkbnnojogjpaa

namespace Go.Proofs.Ytfgkbnnojogjpaa
open Go.RowKit

/-- a deed -/
structure Dd where
  k : Int
  j : Int
  h : Int
def ddF (d : Dd) : List Value := [.int .i64 d.k, .int .i64 d.j, .int .u64 d.h]
theorem ddF_len (d : Dd) : (ddF d).length = 3 := rfl
/-- element k of a row of elements: its cells -/
theorem row_at {α : Type} {f : α → List Value} {s : Nat} (hf : ∀ x, (f x).length = s) {w : World} {l : List α} {b off : Nat} (h : ∀ j u, (flatR f l)[j]? = some u → w.cell? ⟨b, off + j, none⟩ = some u) (k : Nat) (hk : k < l.length) (i : Nat) (u : Value) (hi : (f l[k])[i]? = some u) : w.cell? ⟨b, off + k * s + i, none⟩ = some u := by
  have hi' : i < s := by
    have := (List.getElem?_eq_some_iff.1 hi).1
    rw [hf] at this; exact this
  have := h (k * s + i) u (by rw [flatR_at hf l k i hk hi']; exact hi)
  rw [← Nat.add_assoc] at this
  exact this
theorem mod_nat (n : Int) (m : Nat) (hm : 0 < m) : ∃ a : Nat, a < m ∧ n % (m : Int) = a := by
  have h1 := Int.emod_nonneg n (show (m : Int) ≠ 0 by omega)
  have h2 := Int.emod_lt_of_pos n (show (0 : Int) < m by omega)
  exact ⟨(n % (m : Int)).toNat, by omega, by omega⟩
theorem new_at (a c : Nat) (ha : a < 8) (hc : c < 4) (w : World) :
    Calls Try.prog 39 #[.int .i64 (1 + (a : Int)), .int .u64 (1 + (c : Int))] w fun e w' => NewL w (a + 1) (c + 1) e w' := by
  have := new_ok (a + 1) (c + 1) w (by omega) (by omega) (by omega) (by omega)
  rwa [show ((a + 1 : Nat) : Int) = 1 + (a : Int) by omega, show ((c + 1 : Nat) : Int) = 1 + (c : Int) by omega] at this
theorem refNew_at (a c : Nat) (ha : a < 8) (hc : c < 4) (w : World) :
    Calls Try.prog 40 #[.int .i64 (1 + (a : Int)), .int .u64 (1 + (c : Int))] w fun e w' => NewY w (a + 1) (c + 1) e w' := by
  have := refNew_ok (a + 1) (c + 1) w (by omega) (by omega) (by omega) (by omega)
  rwa [show ((a + 1 : Nat) : Int) = 1 + (a : Int) by omega, show ((c + 1 : Nat) : Int) = 1 + (c : Int) by omega] at this

/-- the handles l lie in the slice v of its own -/
def encHd (h : Int) : Value := .int .u64 h
def All (w : World) (B : Nat) (v : Value) (l : List Int) : Prop := w.ownsRow B 31 1 v l.length (l.map encHd)
def InU (l : List Int) : Prop := ∀ h ∈ l, 0 ≤ h ∧ h ≤ 18446744073709551615
theorem InU.snoc {l : List Int} {h : Int} (hl : InU l) (h0 : 0 ≤ h ∧ h ≤ 18446744073709551615) : InU (l ++ [h]) := by
  intro k hk
  rcases List.mem_append.1 hk with hk | hk
  · exact hl k hk
  · rw [List.mem_singleton.1 hk]; exact h0
theorem own_typ {w : World} {B : Nat} {t : TypeId} {v : Value} {n : Nat} {l : List Value} (h : w.ownsRow B t 1 v n l) {q : Nat} (hq : v.ownBlock = some q) : ∃ cur, w.heap[q]? = some (.cells cur t (0, 0)) := by
  obtain ⟨-, ⟨h, -⟩ | ⟨g, cap', cur, h1, hg, h2, -⟩⟩ := h
  · subst h; cases hq
  · subst h1; cases hq; exact ⟨cur, h2⟩
theorem All.ne {w : World} {B : Nat} {v : Value} {l : List Int} (h : All w B v l) {b : LB} {x : FL} (hl : IsL w b x) {q : Nat} (hq : v.ownBlock = some q) : q ≠ b.p ∧ q ≠ b.s ∧ q ≠ b.t ∧ q ≠ b.g := by
  obtain ⟨cur, hc⟩ := own_typ h hq
  obtain ⟨h0, ⟨c1, h1, _⟩, ⟨c2, h2, _⟩, ⟨c3, h3, _⟩⟩ := hl
  refine ⟨fun e => ?_, fun e => ?_, fun e => ?_, fun e => ?_⟩
  · rw [e, h0] at hc; injection hc with hc; injection hc with _ hc; revert hc; decide
  · rw [e, h1] at hc; injection hc with hc; injection hc with _ hc; revert hc; decide
  · rw [e, h2] at hc; injection hc with hc; injection hc with _ hc; revert hc; decide
  · rw [e, h3] at hc; injection hc with hc; injection hc with _ hc; revert hc; decide
theorem All.neY {w : World} {B : Nat} {v : Value} {l : List Int} (h : All w B v l) {b : YB} {x : FL} (hl : IsY w b x) {q : Nat} (hq : v.ownBlock = some q) : q ≠ b.p ∧ q ≠ b.s ∧ q ≠ b.t ∧ q ≠ b.g := by
  obtain ⟨cur, hc⟩ := own_typ h hq
  obtain ⟨h0, ⟨c1, h1, _⟩, ⟨c2, h2, _⟩, ⟨c3, h3, _⟩, -⟩ := hl
  refine ⟨fun e => ?_, fun e => ?_, fun e => ?_, fun e => ?_⟩
  · rw [e, h0] at hc; injection hc with hc; injection hc with _ hc; revert hc; decide
  · rw [e, h1] at hc; injection hc with hc; injection hc with _ hc; revert hc; decide
  · rw [e, h2] at hc; injection hc with hc; injection hc with _ hc; revert hc; decide
  · rw [e, h3] at hc; injection hc with hc; injection hc with _ hc; revert hc; decide
/-- Take and Give leave the handles -/
theorem All.keep {w w' : World} {B : Nat} {v : Value} {l : List Int} (h : All w B v l) {b : LB} {x : FL} (hl : IsL w b x) (k : KeepL b w w') : All w' B v l :=
  own_keep h fun q hq => by
    obtain ⟨a1, a2, a3, a4⟩ := h.ne hl hq
    exact k.2 q (own_lt h q hq).2 a1 a2 a3 a4
theorem All.keepY {w w' : World} {B : Nat} {v : Value} {l : List Int} (h : All w B v l) {b : YB} {x : FL} (hl : IsY w b x) (k : KeepL b.toLB w w') : All w' B v l :=
  own_keep h fun q hq => by
    obtain ⟨a1, a2, a3, a4⟩ := h.neY hl hq
    exact k.2 q (own_lt h q hq).2 a1 a2 a3 a4
theorem All.below {w w' : World} {B : Nat} {v : Value} {l : List Int} (h : All w B v l) (k : Below w.heap.size w w') : All w' B v l :=
  own_keep h fun q hq => k.block q (own_lt h q hq).2
theorem All.drewN {w : World} {B : Nat} {v : Value} {l : List Int} (h : All w B v l) (n : Nat) : All (w.drewN n) B v l := h
theorem All.nil (w : World) (B : Nat) : All w B (.slice none 0 0) [] := ⟨rfl, .inl ⟨rfl, rfl⟩⟩
theorem All.rs {w : World} {B : Nat} {v : Value} {l : List Int} (h : All w B v l) : Sl w v l.length (fun i => .int .u64 (l.getD i 0)) := by
  obtain ⟨-, ⟨h, h2⟩ | ⟨g, cap', cur, h1, hg, h2, h3, -, h4, h5⟩⟩ := h
  · exact ⟨none, 0, by rw [h, h2], fun hn => by omega⟩
  · subst h1
    refine ⟨_, _, rfl, fun _ => ⟨g, 0, rfl, fun i hi => ?_⟩⟩
    have := congrArg (fun l => l[i]?) h5
    simp only [List.getElem?_take, Array.getElem?_toList] at this
    rw [if_pos (by omega)] at this
    rw [Nat.zero_add, block_cell h2 i, this]
    simp [hi, encHd]
/-- the lists are kept when the handles grow -/
theorem IsL.grown {w w' : World} {b : LB} {x : FL} (h : IsL w b x) {B : Nat} {v : Value} {l : List Int} (ha : All w B v l) (hg : w.grownBy w' v.ownBlock) : IsL w' b x := by
  have k : ∀ q, q < w.heap.size → (q = b.p ∨ q = b.s ∨ q = b.t ∨ q = b.g) → w'.heap[q]? = w.heap[q]? := fun q hq hc => hg.block q hq fun e => by
    obtain ⟨a1, a2, a3, a4⟩ := ha.ne h e.symm
    rcases hc with h | h | h | h <;> contradiction
  exact ⟨(k _ (block_lt h.1) (.inl rfl)).trans h.1, h.2.1.keep (k _ h.2.1.lt (.inr (.inl rfl))), h.2.2.1.keep (k _ h.2.2.1.lt (.inr (.inr (.inl rfl)))), h.2.2.2.keep (k _ h.2.2.2.lt (.inr (.inr (.inr rfl))))⟩
theorem IsY.grown {w w' : World} {b : YB} {x : FL} (h : IsY w b x) {B : Nat} {v : Value} {l : List Int} (ha : All w B v l) (hg : w.grownBy w' v.ownBlock) : IsY w' b x := by
  have k : ∀ q, q < w.heap.size → (q = b.p ∨ q = b.s ∨ q = b.t ∨ q = b.g) → w'.heap[q]? = w.heap[q]? := fun q hq hc => hg.block q hq fun e => by
    obtain ⟨a1, a2, a3, a4⟩ := ha.neY h e.symm
    rcases hc with h | h | h | h <;> contradiction
  exact ⟨(k _ (block_lt h.1) (.inl rfl)).trans h.1, h.2.1.keep (k _ h.2.1.lt (.inr (.inl rfl))), h.2.2.1.keep (k _ h.2.2.1.lt (.inr (.inr (.inl rfl)))), h.2.2.2.1.keep (k _ h.2.2.2.1.lt (.inr (.inr (.inr rfl)))), h.2.2.2.2⟩
theorem grown_below {w0 w w' : World} {v : Value} {B : Nat} {l : List Int} (h : Below B w0 w) (hB : B ≤ w.heap.size) (ha : All w B v l) (hg : w.grownBy w' v.ownBlock) : Below B w0 w' :=
  h.grown hg hB fun q hq => (own_lt ha q hq).1
theorem Pair.grown {w0 w w' : World} {b : LB} {c : YB} {x : FL} (h : Pair w0 w b c x) {v : Value} {l : List Int} (ha : All w w0.heap.size v l) (hg : w.grownBy w' v.ownBlock) : Pair w0 w' b c x :=
  ⟨h.1.grown ha hg, h.2.1.grown ha hg, h.2.2.1, h.2.2.2.1, h.2.2.2.2.1, h.2.2.2.2.2.1, h.2.2.2.2.2.2.1, grown_below h.2.2.2.2.2.2.2 h.2.2.2.2.2.2.2.size ha hg⟩
theorem encHd_one (h : Int) : ∀ u ∈ [encHd h], u.oneCell' = true := by
  intro u hu
  rw [List.mem_singleton.1 hu]
  rfl
theorem KeepL.at {b : LB} {w w' : World} (k : KeepL b w w') {S : Nat} (hS : S < w.heap.size) (h : S ≠ b.p ∧ S ≠ b.s ∧ S ≠ b.t ∧ S ≠ b.g) : w'.heap[S]? = w.heap[S]? := k.2 S hS h.1 h.2.1 h.2.2.1 h.2.2.2
theorem IsL.new {w : World} {b : LB} {x : FL} (h : IsL w b x) : w.heap.size ≠ b.p ∧ w.heap.size ≠ b.s ∧ w.heap.size ≠ b.t ∧ w.heap.size ≠ b.g := by
  have h1 := block_lt h.1
  have h2 := h.2.1.lt
  have h3 := h.2.2.1.lt
  have h4 := h.2.2.2.lt
  omega
theorem IsY.new {w : World} {b : YB} {x : FL} (h : IsY w b x) : w.heap.size ≠ b.p ∧ w.heap.size ≠ b.s ∧ w.heap.size ≠ b.t ∧ w.heap.size ≠ b.g := by
  have h1 := block_lt h.1
  have h2 := h.2.1.lt
  have h3 := h.2.2.1.lt
  have h4 := h.2.2.2.1.lt
  omega
end Go.Proofs.Ytfgkbnnojogjpaa

namespace Go.Proofs.Ytfgkbnnojogjpaa
open Go.RowKit

/-- what is known of the handles that were taken so far -/
structure HInv (x : FL) (hs : List Int) : Prop where
  nd : hs.Nodup
  old : ∀ h ∈ hs, ∃ s g, h = hMk s g ∧ s < x.n ∧ 1 ≤ g ∧ g ≤ x.gn s ∧ (g = x.gn s → x.st s ≠ 0)
  cur : ∀ s, s < x.n → x.st s = 1 → hMk s (x.gn s) ∈ hs

theorem mkOK_le {x : FL} (hf : FInv x) {s g : Nat} (hs : s < x.n) (h1 : 1 ≤ g) (h2 : g ≤ x.gn s) : mkOK s g := by
  have := hf.gn s hs
  have := hf.g2
  have := hf.n2
  unfold mkOK
  omega
theorem HInv.inU {x : FL} {hs : List Int} (hf : FInv x) (h : HInv x hs) : InU hs := by
  intro k hk
  obtain ⟨s, g, rfl, h1, h2, h3, -⟩ := h.old k hk
  exact hMk_le (mkOK_le hf h1 h2 h3)
theorem HInv.nil (n g : Nat) : HInv (newL n g) [] where
  nd := List.nodup_nil
  old := fun _ h => nomatch h
  cur := fun s _ h => by
    have h' : (0 : Nat) = 1 := h
    omega
theorem take_fresh {x : FL} {hs : List Int} (hf : FInv x) (h : HInv x hs) (hm : x.m ≠ 0) : hMk (x.sk (x.m - 1)) (x.gn (x.sk (x.m - 1))) ∉ hs := by
  intro hk
  have hl := hf.lo (x.m - 1) (by omega)
  obtain ⟨s, g, e, h1, h2, h3, h4⟩ := h.old _ hk
  have hg := hf.gn _ hl.1
  obtain ⟨e1, e2⟩ := hMk_inj (mkOK_le hf hl.1 hg.1 (Nat.le_refl _)) (mkOK_le hf h1 h2 h3) e
  rw [← e1, ← e2] at h4
  exact h4 rfl hl.2
theorem HInv.take {x : FL} {hs : List Int} (hf : FInv x) (h : HInv x hs) (hm : x.m ≠ 0) : HInv (takeL x) (hs ++ [hMk (x.sk (x.m - 1)) (x.gn (x.sk (x.m - 1)))]) := by
  have hl := hf.lo (x.m - 1) (by omega)
  refine { nd := ?_, old := fun k hk => ?_, cur := fun s hs' h1 => ?_ }
  · rw [List.nodup_append]
    refine ⟨h.nd, by simp, fun a ha c hc e => ?_⟩
    rw [List.mem_singleton.1 hc] at e
    rw [e] at ha
    exact take_fresh hf h hm ha
  · rcases List.mem_append.1 hk with hk | hk
    · obtain ⟨s, g, rfl, h1, h2, h3, h4⟩ := h.old _ hk
      refine ⟨s, g, rfl, h1, h2, h3, fun e => ?_⟩
      show updN x.st (x.sk (x.m - 1)) 1 s ≠ 0
      unfold updN
      split
      · decide
      · exact h4 e
    · rw [List.mem_singleton.1 hk]
      refine ⟨_, _, rfl, hl.1, (hf.gn _ hl.1).1, Nat.le_refl _, fun _ => ?_⟩
      show updN x.st (x.sk (x.m - 1)) 1 (x.sk (x.m - 1)) ≠ 0
      rw [updN_same]
      decide
  · by_cases e : s = x.sk (x.m - 1)
    · rw [e]
      exact List.mem_append_right _ (List.mem_singleton.2 rfl)
    · have h1' : updN x.st (x.sk (x.m - 1)) 1 s = 1 := h1
      rw [updN_other _ e] at h1'
      exact List.mem_append_left _ (h.cur s hs' h1')
theorem HInv.give {x : FL} {hs : List Int} (h : HInv x hs) {t : Nat} : HInv (giveL x t) hs := by
  unfold giveL
  split
  · refine { nd := h.nd, old := fun k hk => ?_, cur := fun s hs' h1 => ?_ }
    · obtain ⟨s, g, rfl, h1, h2, h3, h4⟩ := h.old _ hk
      refine ⟨s, g, rfl, h1, h2, h3, fun e => ?_⟩
      show updN x.st t 2 s ≠ 0
      unfold updN
      split
      · decide
      · exact h4 e
    · have h1' : updN x.st t 2 s = 1 := h1
      by_cases e : s = t
      · rw [e, updN_same] at h1'; omega
      · rw [updN_other _ e] at h1'; exact h.cur s hs' h1'
  · refine { nd := h.nd, old := fun k hk => ?_, cur := fun s hs' h1 => ?_ }
    · obtain ⟨s, g, rfl, h1, h2, h3, h4⟩ := h.old _ hk
      refine ⟨s, g, rfl, h1, h2, ?_, fun e => ?_⟩
      · show g ≤ updN x.gn t (x.gn t + 1) s
        unfold updN
        split
        · rename_i e; rw [e] at h3; omega
        · exact h3
      · show updN x.st t 0 s ≠ 0
        have e' : g = updN x.gn t (x.gn t + 1) s := e
        by_cases e2 : s = t
        · rw [e2, updN_same] at e'
          rw [e2] at h3
          omega
        · rw [updN_other _ e2] at e' ⊢
          exact h4 e'
    · have h1' : updN x.st t 0 s = 1 := h1
      show hMk s (updN x.gn t (x.gn t + 1) s) ∈ hs
      by_cases e : s = t
      · rw [e, updN_same] at h1'; omega
      · rw [updN_other _ e] at h1' ⊢; exact h.cur s hs' h1'
theorem HInv.giveS {x : FL} {hs : List Int} (h : HInv x hs) (k : Int) : HInv (giveS x k) hs := by
  unfold Go.Proofs.Ytfgkbnnojogjpaa.giveS
  split
  · exact h.give
  · exact h
theorem takeS_n (x : FL) : (takeS x).n = x.n ∧ (takeS x).most = x.most := by
  unfold takeS
  split <;> exact ⟨rfl, rfl⟩
theorem giveL_n (x : FL) (s : Nat) : (giveL x s).n = x.n ∧ (giveL x s).most = x.most := by
  unfold giveL
  split <;> exact ⟨rfl, rfl⟩
theorem giveS_n (x : FL) (k : Int) : (giveS x k).n = x.n ∧ (giveS x k).most = x.most := by
  unfold giveS
  split
  · exact giveL_n x _
  · exact ⟨rfl, rfl⟩
/-- Take, in its two cases -/
theorem take_two (x : FL) (hf : FInv x) : (x.m = 0 ∧ takeR x = (0, 6) ∧ takeS x = x) ∨ (x.m ≠ 0 ∧ takeR x = (hMk (x.sk (x.m - 1)) (x.gn (x.sk (x.m - 1))), 0) ∧ takeS x = takeL x ∧ mkOK (x.sk (x.m - 1)) (x.gn (x.sk (x.m - 1)))) := by
  unfold takeR takeS
  by_cases h : x.m = 0
  · rw [if_pos h, if_pos h]; exact .inl ⟨h, rfl, rfl⟩
  · rw [if_neg h, if_neg h]
    have hl := hf.lo (x.m - 1) (by omega)
    exact .inr ⟨h, rfl, rfl, mkOK_of hf hl.1⟩

/-- a list, its blocks no older than w0 -/
def Solo (w0 w : World) (b : LB) (x : FL) : Prop := IsL w b x ∧ FInv x ∧ b.ge w0.heap.size ∧ Below w0.heap.size w0 w
theorem Solo.below {w0 w w' : World} {b : LB} {x : FL} (h : Solo w0 w b x) (k : Below w.heap.size w w') : Solo w0 w' b x := ⟨h.1.below k (Nat.le_refl _), h.2.1, h.2.2.1, below_two h.2.2.2 k⟩
theorem Solo.drewN {w0 w : World} {b : LB} {x : FL} (h : Solo w0 w b x) (n : Nat) : Solo w0 (w.drewN n) b x := ⟨h.1, h.2.1, h.2.2.1, below_drewN h.2.2.2 n⟩
theorem Solo.turn {w0 w w' : World} {b : LB} {x y : FL} (h : Solo w0 w b x) (hy : FInv y) (hl : IsL w' b y) (k : KeepL b w w') : Solo w0 w' b y := ⟨hl, hy, h.2.2.1, h.2.2.2.trans (k.below h.2.2.2.size h.2.2.1)⟩
theorem Solo.grown {w0 w w' : World} {b : LB} {x : FL} (h : Solo w0 w b x) {v : Value} {l : List Int} (ha : All w w0.heap.size v l) (hg : w.grownBy w' v.ownBlock) : Solo w0 w' b x := ⟨h.1.grown ha hg, h.2.1, h.2.2.1, grown_below h.2.2.2 h.2.2.2.size ha hg⟩
theorem Solo.of_new {w0 w1 : World} {b : LB} {n g : Nat} (h1 : 1 ≤ n) (h2 : n ≤ 16384) (h3 : 1 ≤ g) (h4 : g ≤ 4294967295) (hl : IsL w1 b (newL n g)) (hb : Below w0.heap.size w0 w1) (hg : b.ge w0.heap.size) : Solo w0 w1 b (newL n g) := ⟨hl, newL_inv h1 h2 h3 h4, hg, hb⟩

theorem results_tmp4 {fn : Func} {t u v z : Tmp} (h : fn.results = #[.tmp t, .tmp u, .tmp v, .tmp z]) (tmps : Array Value) (P : Program) (w : World) :
    (results fn tmps).run P w = .ok (.tuple #[tmps.getD t undef, tmps.getD u undef, tmps.getD v undef, tmps.getD z undef]) w := by
  simp [results, h]
end Go.Proofs.Ytfgkbnnojogjpaa

namespace Go.Proofs.Ytfgkbnnojogjpaa
open Go.RowKit

/-- the top slot of the stack -/
def topS (x : FL) : Nat := x.sk (x.m - 1)
theorem top_live {x : FL} (hf : FInv x) (hm : x.m ≠ 0) : liveL (takeL x) (hMk (topS x) (x.gn (topS x))) := by
  have hl := hf.lo (x.m - 1) (by omega)
  refine (liveL_mk (mkOK_of hf hl.1)).2 ⟨hl.1, ?_, rfl⟩
  show updN x.st (x.sk (x.m - 1)) 1 (x.sk (x.m - 1)) = 1
  exact updN_same _ _ _
theorem top_slot {x : FL} (hf : FInv x) (hm : x.m ≠ 0) : slotOf (hMk (topS x) (x.gn (topS x))) = topS x := slotOf_mk (mkOK_of hf (hf.lo (x.m - 1) (by omega)).1)
theorem top_last {x : FL} (hf : FInv x) (hm : x.m ≠ 0) (hg : x.gn (topS x) = x.most) : giveR (takeL x) (hMk (topS x) (x.gn (topS x))) = (true, 0) ∧ giveS (takeL x) (hMk (topS x) (x.gn (topS x))) = giveL (takeL x) (topS x) := by
  unfold giveR giveS
  rw [if_pos (top_live hf hm), if_pos (top_live hf hm), top_slot hf hm]
  exact ⟨by rw [show decide ((takeL x).gn (topS x) = (takeL x).most) = true from decide_eq_true hg], rfl⟩
theorem top_push {x : FL} (hf : FInv x) (hm : x.m ≠ 0) (hg : x.gn (topS x) ≠ x.most) : giveR (takeL x) (hMk (topS x) (x.gn (topS x))) = (false, 0) ∧ giveS (takeL x) (hMk (topS x) (x.gn (topS x))) = giveL (takeL x) (topS x) := by
  unfold giveR giveS
  rw [if_pos (top_live hf hm), if_pos (top_live hf hm), top_slot hf hm]
  exact ⟨by rw [show decide ((takeL x).gn (topS x) = (takeL x).most) = false from decide_eq_false hg], rfl⟩
theorem last_free {x : FL} (hg : x.gn (topS x) = x.most) : (giveL (takeL x) (topS x)).m = (takeL x).m ∧ ∀ i, freeF (giveL (takeL x) (topS x)) i = freeF (takeL x) i := by
  have e : giveL (takeL x) (topS x) = { takeL x with st := updN (takeL x).st (topS x) 2 } := by unfold giveL; exact if_pos hg
  rw [e]
  exact ⟨rfl, fun _ => rfl⟩
theorem push_take {x : FL} (hg : x.gn (topS x) ≠ x.most) :
    takeR (giveL (takeL x) (topS x)) = (hMk (topS x) (x.gn (topS x) + 1), 0) ∧ (takeS (giveL (takeL x) (topS x))).m = (takeL x).m ∧ ∀ i, i < (takeL x).m → freeF (takeS (giveL (takeL x) (topS x))) i = freeF (takeL x) i := by
  have e : giveL (takeL x) (topS x) = { takeL x with m := (takeL x).m + 1, sk := updN (takeL x).sk (takeL x).m (topS x), st := updN (takeL x).st (topS x) 0, gn := updN (takeL x).gn (topS x) ((takeL x).gn (topS x) + 1) } := by unfold giveL; exact if_neg hg
  rw [e]
  refine ⟨?_, rfl, fun i hi => ?_⟩
  · show (hMk (updN x.sk (x.m - 1) (topS x) (x.m - 1 + 1 - 1)) (updN x.gn (topS x) (x.gn (topS x) + 1) (updN x.sk (x.m - 1) (topS x) (x.m - 1 + 1 - 1))), (0 : Int)) = _
    rw [show x.m - 1 + 1 - 1 = x.m - 1 by omega, updN_same, updN_same]
  · have hi' : i < x.m - 1 := hi
    show updN x.sk (x.m - 1) (topS x) (x.m - 1 + 1 - 1 - 1 - i) = x.sk (x.m - 1 - 1 - i)
    rw [show x.m - 1 + 1 - 1 - 1 - i = x.m - 1 - 1 - i by omega, updN_other _ (by omega)]

theorem Rs.keepL {w w' : World} {B : Nat} {t : TypeId} {v : Value} {n : Nat} {f : Nat → Value} {b : LB} (h : Rs w B t v n f) (hb : b.p < B ∧ b.s < B ∧ b.t < B ∧ b.g < B) (k : KeepL b w w') : Rs w' B t v n f := by
  obtain ⟨ao, c, rfl, h⟩ := h
  refine ⟨ao, c, rfl, fun hn => ?_⟩
  obtain ⟨q, cap, e, hB, ha⟩ := h hn
  exact ⟨q, cap, e, hB, ha.keep (k.2 q ha.lt (by omega) (by omega) (by omega) (by omega))⟩
theorem IsL.lts {w : World} {b : LB} {x : FL} (h : IsL w b x) : b.p < w.heap.size ∧ b.s < w.heap.size ∧ b.t < w.heap.size ∧ b.g < w.heap.size := ⟨block_lt h.1, h.2.1.lt, h.2.2.1.lt, h.2.2.2.lt⟩
theorem free_solo {w0 w : World} {b : LB} {x : FL} (h : Solo w0 w b x) : Calls Try.prog 44 #[.pointer (some ⟨b.p, 0, none⟩)] w fun e w' => NewFs w x e w' :=
  free_any b x w h.1 (Nat.le_trans h.2.1.mn h.2.1.n2)

end Go.Proofs.Ytfgkbnnojogjpaa

namespace Go.Proofs.Ytfgkbnnojogjpaa
open Go.RowKit

/-- ds: the handles that were given back -/
structure DInv (x : FL) (hs ds : List Int) : Prop where
  sub : ∀ h ∈ ds, h ∈ hs
  liv : ∀ h ∈ hs, liveL x h ↔ h ∉ ds
theorem DInv.take {x : FL} {hs ds : List Int} (hd : DInv x hs ds) (hf : FInv x) (hi : HInv x hs) (hm : x.m ≠ 0) : DInv (takeL x) (hs ++ [hMk (x.sk (x.m - 1)) (x.gn (x.sk (x.m - 1)))]) ds := by
  have hl := hf.lo (x.m - 1) (by omega)
  refine ⟨fun h hh => List.mem_append_left _ (hd.sub h hh), fun h hh => ?_⟩
  rcases List.mem_append.1 hh with hh | hh
  · rw [← hd.liv h hh]
    obtain ⟨s, g, rfl, h1, h2, h3, h4⟩ := hi.old h hh
    rw [liveL_mk (mkOK_le hf h1 h2 h3), liveL_mk (mkOK_le hf h1 h2 h3)]
    show s < x.n ∧ updN x.st (x.sk (x.m - 1)) 1 s = 1 ∧ g = x.gn s ↔ _
    by_cases e : s = x.sk (x.m - 1)
    · rw [← e] at hl ⊢
      rw [updN_same]
      constructor
      · rintro ⟨-, -, e3⟩; exact absurd hl.2 (h4 e3)
      · rintro ⟨-, e2, -⟩; rw [hl.2] at e2; omega
    · rw [updN_other _ e]
  · rw [List.mem_singleton.1 hh]
    exact ⟨fun _ hc => take_fresh hf hi hm (hd.sub _ hc), fun _ => top_live hf hm⟩
theorem DInv.give {x : FL} {hs ds : List Int} (hd : DInv x hs ds) (hf : FInv x) (hi : HInv x hs) {k : Int} (hk : liveL x k) : k ∈ hs → DInv (giveS x k) hs (ds ++ [k]) := by
  intro hmem
  obtain ⟨s, g, hm, rfl⟩ := hOK_mk hk.1
  obtain ⟨k1, k2, k3⟩ := (liveL_mk hm).1 hk
  have e : giveS x (hMk s g) = giveL x s := by unfold giveS; rw [if_pos hk, slotOf_mk hm]
  rw [e]
  refine ⟨fun h hh => ?_, fun h hh => ?_⟩
  · rcases List.mem_append.1 hh with hh | hh
    · exact hd.sub h hh
    · rw [List.mem_singleton.1 hh]; exact hmem
  · have hliv := hd.liv h hh
    obtain ⟨s', g', rfl, h1, h2, h3, h4⟩ := hi.old h hh
    have hm' := mkOK_le hf h1 h2 h3
    rw [liveL_mk hm'] at hliv
    rw [liveL_mk hm', List.mem_append, List.mem_singleton]
    by_cases e : s' = s
    · subst e
      have hst : (giveL x s').st s' ≠ 1 := by
        unfold giveL
        split
        · show updN x.st s' 2 s' ≠ 1
          rw [updN_same]; decide
        · show updN x.st s' 0 s' ≠ 1
          rw [updN_same]; decide
      constructor
      · rintro ⟨-, h, -⟩; exact absurd h hst
      · intro hno
        by_cases e2 : g' = x.gn s'
        · exact absurd (.inr (by rw [e2, k3])) hno
        · by_cases hc : hMk s' g' ∈ ds
          · exact absurd (.inl hc) hno
          · exact absurd (hliv.2 hc).2.2 e2
    · have hne : hMk s' g' ≠ hMk s g := fun h => e (hMk_inj hm' hm h).1
      have hg : (giveL x s).st s' = x.st s' ∧ (giveL x s).gn s' = x.gn s' := by
        unfold giveL
        split
        · exact ⟨updN_other _ e, rfl⟩
        · exact ⟨updN_other _ e, updN_other _ e⟩
      rw [(giveL_n x s).1, hg.1, hg.2, hliv]
      exact ⟨fun h hc => hc.elim h hne, fun h hc => h (.inl hc)⟩
theorem give_live (x : FL) (k : Int) (hk : liveL x k) : giveR x k = ((giveR x k).1, 0) ∧ True ∧ True := by
  refine ⟨?_, trivial, trivial⟩
  unfold giveR
  rw [if_pos hk]
theorem give_gone (x : FL) (k : Int) (hk : ¬ liveL x k) : giveR x k = (false, 10) ∧ True ∧ giveS x k = x := by
  refine ⟨?_, trivial, ?_⟩
  · unfold giveR; rw [if_neg hk]
  · unfold giveS; rw [if_neg hk]
theorem mem_at {l : List Int} {t : Nat} (ht : t < l.length) : l.getD t 0 ∈ l := by
  rw [List.getD_eq_getElem?_getD, List.getElem?_eq_getElem ht]
  exact List.getElem_mem ht
theorem hasTo_mem (l : List Int) (h : Int) : HasTo l.length (fun i => l.getD i 0) h ↔ h ∈ l := by
  constructor
  · rintro ⟨i, hi, rfl⟩; exact mem_at hi
  · intro hm
    obtain ⟨i, hi, e⟩ := List.getElem_of_mem hm
    exact ⟨i, hi, by rw [← e]; simp [hi]⟩
theorem All.len {w : World} {B : Nat} {v : Value} {l : List Int} (ha : All w B v l) : l.length ≤ 9223372036854775807 := by
  obtain ⟨-, ⟨h, h2⟩ | ⟨g, cap', cur, h1, hg, h2, h3, h4, h5⟩⟩ := ha
  · omega
  · have : maxLen = 9223372036854775807 := rfl
    omega
theorem live_yes (b : LB) (x : FL) (h : Int) (w : World) (h0 : 0 ≤ h) (h1 : h ≤ 18446744073709551615) (hl : IsL w b x) (hd : liveL x h) :
    Calls Try.prog 61 #[.pointer (some ⟨b.p, 0, none⟩), .int .u64 h] w fun e w' => e = .returned (.bool true) ∧ ∃ n, w' = w.drewN n := by
  have := live_any b x h w h0 h1 hl
  rwa [decide_eq_true hd] at this
theorem live_no (b : LB) (x : FL) (h : Int) (w : World) (h0 : 0 ≤ h) (h1 : h ≤ 18446744073709551615) (hl : IsL w b x) (hd : ¬ liveL x h) :
    Calls Try.prog 61 #[.pointer (some ⟨b.p, 0, none⟩), .int .u64 h] w fun e w' => e = .returned (.bool false) ∧ ∃ n, w' = w.drewN n := live_lit b x h w h0 h1 hl hd
/-- two slices share no block -/
def Part (v u : Value) : Prop := ∀ q, v.ownBlock = some q → u.ownBlock ≠ some q
theorem apart_symm {v u : Value} (h : Part v u) : Part u v := fun q h1 h2 => h q h2 h1
theorem ne_of_ap {v u : Value} (h : Part v u) {q : Nat} (hq : u.ownBlock = some q) : some q ≠ v.ownBlock := fun e => h q e.symm hq
theorem All.other {w w' : World} {B : Nat} {v u : Value} {l : List Int} (h : All w B u l) (hg : w.grownBy w' v.ownBlock) (hn : ∀ q, u.ownBlock = some q → some q ≠ v.ownBlock) : All w' B u l :=
  own_keep h fun q hq => hg.block q (own_lt h q hq).2 (hn q hq)
theorem ap_append {w : World} {B : Nat} {v v' u : Value} {l : List Int} (h : Part v u) (hu : All w B u l) (hb : v'.ownBlock = v.ownBlock ∨ v'.ownBlock = some (w.heap.size + 1)) : Part v' u := by
  intro q h1 h2
  rcases hb with hb | hb
  · rw [hb] at h1; exact h q h1 h2
  · rw [hb] at h1
    injection h1 with h1
    have := (own_lt hu q h2).2
    omega

end Go.Proofs.Ytfgkbnnojogjpaa

namespace Go.Proofs.Ytfgkbnnojogjpaa
open Go.RowKit

theorem free_lt {x : FL} (hf : FInv x) {i : Nat} (h : i < x.m) : freeF x i < x.n ∧ x.st (freeF x i) = 0 := hf.lo _ (by omega)
theorem free_inj {x : FL} (hf : FInv x) {i j : Nat} (hi : i < x.m) (hj : j < x.m) (e : freeF x i = freeF x j) : i = j := by
  have := hf.inj _ _ (show x.m - 1 - i < x.m by omega) (show x.m - 1 - j < x.m by omega) e
  omega
theorem free_all {x : FL} (hf : FInv x) {s : Nat} (hs : s < x.n) (h0 : x.st s = 0) : ∃ i, i < x.m ∧ freeF x i = s := by
  obtain ⟨i, hi, e⟩ := hf.all s hs h0
  exact ⟨x.m - 1 - i, by omega, by unfold freeF; rw [show x.m - 1 - (x.m - 1 - i) = i by omega]; exact e⟩
/-- the slots with the state s, ascending -/
def goF (x : FL) (s i : Nat) : Nat := (slotsTo x s x.n).getD i 0
def goN (x : FL) (s : Nat) : Nat := (slotsTo x s x.n).length
theorem go_lt {x : FL} {s i : Nat} (h : i < goN x s) : goF x s i < x.n ∧ x.st (goF x s i) = s := slots_all h
theorem go_up {x : FL} {s i j : Nat} (hij : i < j) (hj : j < goN x s) : goF x s i < goF x s j := by
  have hp : (slotsTo x s x.n).Pairwise (· < ·) := List.pairwise_lt_range.filter _
  have := List.pairwise_iff_getElem.1 hp i j (by unfold goN at hj; omega) hj hij
  unfold goF
  unfold goN at hj
  rw [List.getD_eq_getElem?_getD, List.getD_eq_getElem?_getD, List.getElem?_eq_getElem hj, List.getElem?_eq_getElem (by omega)]
  exact this
theorem go_inj {x : FL} {s i j : Nat} (hi : i < goN x s) (hj : j < goN x s) (e : goF x s i = goF x s j) : i = j := by
  rcases Nat.lt_trichotomy i j with h | h | h
  · have := go_up h hj; omega
  · exact h
  · have := go_up h hi; omega
theorem go_all {x : FL} {s t : Nat} (ht : t < x.n) (h : x.st t = s) : ∃ i, i < goN x s ∧ goF x s i = t := by
  have hm : t ∈ slotsTo x s x.n := List.mem_filter.2 ⟨List.mem_range.2 ht, decide_eq_true h⟩
  obtain ⟨i, hi, e⟩ := List.getElem_of_mem hm
  refine ⟨i, hi, ?_⟩
  unfold goF
  rw [List.getD_eq_getElem?_getD, List.getElem?_eq_getElem hi]
  exact e

def mark (M : Nat → Bool) (s : Nat) : Nat → Bool := fun t => if t = s then true else M t
def seenV (M : Nat → Bool) (s : Nat) : Value := encI (if M s then 1 else 0)
theorem seen_no {M : Nat → Bool} {s : Nat} (h : M s = false) : seenV M s = .int .i64 0 := by unfold seenV; rw [h]; rfl
theorem seen_yes {M : Nat → Bool} {s : Nat} (h : M s = true) : seenV M s = .int .i64 1 := by unfold seenV; rw [h]; rfl
theorem arr_mark {w : World} {S N : Nat} {M : Nat → Bool} (h : Arr w S 3 N N (seenV M)) {s : Nat} (hs : s < N) : Arr (w.setCell ⟨S, s, none⟩ (.int .i64 1)) S 3 N N (seenV (mark M s)) := by
  refine (h.set hs (.int .i64 1)).congr fun i _ => ?_
  unfold seenV mark
  by_cases e : i = s
  · rw [if_pos e, if_pos e]; rfl
  · rw [if_neg e, if_neg e]
/-- the marks after the first k of a list of slots, A: those marked before -/
def Marks (N : Nat) (M : Nat → Bool) (A : Nat → Prop) (g : Nat → Nat) (k : Nat) : Prop := ∀ s, s < N → (M s = true ↔ A s ∨ ∃ i, i < k ∧ g i = s)
theorem Marks.start {N : Nat} {M : Nat → Bool} {A A' : Nat → Prop} {g g' : Nat → Nat} {k : Nat} (h : Marks N M A g k) (e : ∀ s, s < N → ((A s ∨ ∃ i, i < k ∧ g i = s) ↔ A' s)) : Marks N M A' g' 0 := fun s hs => by
  rw [h s hs, e s hs]
  exact ⟨.inl, fun h => h.elim id fun ⟨i, hi, _⟩ => absurd hi (Nat.not_lt_zero _)⟩
theorem Marks.new {N : Nat} {M : Nat → Bool} {A : Nat → Prop} {g : Nat → Nat} {k : Nat} (h : Marks N M A g k) (hk : g k < N) (ha : ¬ A (g k)) (hi : ∀ i, i < k → g i ≠ g k) : M (g k) = false := by
  cases e : M (g k) with
  | false => rfl
  | true =>
    rcases (h _ hk).1 e with h1 | ⟨i, h1, h2⟩
    · exact absurd h1 ha
    · exact absurd h2 (hi i h1)
theorem Marks.step {N : Nat} {M : Nat → Bool} {A : Nat → Prop} {g : Nat → Nat} {k : Nat} (h : Marks N M A g k) : Marks N (mark M (g k)) A g (k + 1) := fun s hs => by
  unfold mark
  by_cases e : s = g k
  · rw [if_pos e]
    exact ⟨fun _ => .inr ⟨k, Nat.lt_succ_self _, e.symm⟩, fun _ => rfl⟩
  · rw [if_neg e, h s hs]
    constructor
    · rintro (h1 | ⟨i, h1, h2⟩)
      · exact .inl h1
      · exact .inr ⟨i, by omega, h2⟩
    · rintro (h1 | ⟨i, h1, h2⟩)
      · exact .inl h1
      · refine .inr ⟨i, ?_, h2⟩
        have : i ≠ k := fun e2 => e (by rw [← h2, e2])
        omega

/-- only the block S is written -/
def Only (S : Nat) (w w' : World) : Prop := Below S w w' ∧ ∀ q, q < w.heap.size → q ≠ S → w'.heap[q]? = w.heap[q]?
theorem Only.refl (S : Nat) (w : World) : Only S w w := ⟨Below.refl _ _, fun _ _ _ => rfl⟩
theorem Only.set {S : Nat} {w w' : World} (h : Only S w w') (i : Nat) (v : Value) : Only S w (w'.setCell ⟨S, i, none⟩ v) :=
  ⟨h.1.setCell (Nat.le_refl _) v, fun q hq hne => (Below.heap_setCell _ _ _ _ (by show q ≠ S; exact hne)).trans (h.2 q hq hne)⟩
theorem Only.drewN {S : Nat} {w w' : World} (h : Only S w w') (n : Nat) : Only S w (w'.drewN n) := ⟨below_drewN h.1 n, h.2⟩
theorem Only.isL {S : Nat} {w w' : World} {b : LB} {x : FL} (h : IsL w b x) (k : Only S w w') (hb : b.p < S ∧ b.s < S ∧ b.t < S ∧ b.g < S) : IsL w' b x :=
  ⟨(k.2 _ (block_lt h.1) (by omega)).trans h.1, h.2.1.keep (k.2 _ h.2.1.lt (by omega)), h.2.2.1.keep (k.2 _ h.2.2.1.lt (by omega)), h.2.2.2.keep (k.2 _ h.2.2.2.lt (by omega))⟩
theorem Only.arr {S : Nat} {w w' : World} {q : Nat} {t : TypeId} {c m : Nat} {f : Nat → Value} (k : Only S w w') (h : Arr w q t c m f) (hq : S < q) : Arr w' q t c m f := h.keep (k.2 q h.lt (by omega))

theorem nodup_le : ∀ (l m : List Int), l.Nodup → l ⊆ m → l.length ≤ m.length
  | [], _, _, _ => Nat.zero_le _
  | a :: l, m, hn, hs => by
    have hn' := List.nodup_cons.1 hn
    have ha : a ∈ m := hs (List.mem_cons_self)
    have := nodup_le l (m.erase a) hn'.2 (fun y hy => (List.mem_erase_of_ne (fun e => hn'.1 (by rw [← e]; exact hy))).2 (hs (List.mem_cons_of_mem _ hy)))
    rw [List.length_erase_of_mem ha] at this
    have : 0 < m.length := List.length_pos_of_mem ha
    rw [List.length_cons]
    omega
/-- how many of the first j handles live -/
def liveN (x : FL) (hs : List Int) (j : Nat) : Nat := ((hs.take j).filter fun h => decide (liveL x h)).length
theorem liveN_yes {x : FL} {hs : List Int} {j : Nat} (hj : j < hs.length) (h : liveL x (hs.getD j 0)) : liveN x hs (j + 1) = liveN x hs j + 1 := by
  rw [List.getD_eq_getElem?_getD, List.getElem?_eq_getElem hj] at h
  unfold liveN
  rw [List.take_add_one, List.filter_append, List.length_append, List.getElem?_eq_getElem hj]
  simp at h
  simp [h]
theorem liveN_no {x : FL} {hs : List Int} {j : Nat} (hj : j < hs.length) (h : ¬ liveL x (hs.getD j 0)) : liveN x hs (j + 1) = liveN x hs j := by
  rw [List.getD_eq_getElem?_getD, List.getElem?_eq_getElem hj] at h
  unfold liveN
  rw [List.take_add_one, List.filter_append, List.length_append, List.getElem?_eq_getElem hj]
  simp at h
  simp [h]
theorem liveN_all {x : FL} {hs : List Int} (hf : FInv x) (hi : HInv x hs) : liveN x hs hs.length = goN x 1 := by
  unfold liveN goN
  rw [List.take_length]
  have hok : ∀ s, s ∈ slotsTo x 1 x.n → s < x.n ∧ x.st s = 1 := fun s h => ⟨List.mem_range.1 (List.mem_filter.1 h).1, of_decide_eq_true (List.mem_filter.1 h).2⟩
  have n1 : (hs.filter fun h => decide (liveL x h)).Nodup := hi.nd.filter _
  have n2 : ((slotsTo x 1 x.n).map fun s => hMk s (x.gn s)).Nodup := by
    rw [List.nodup_iff_pairwise_ne, List.pairwise_map]
    refine (List.nodup_iff_pairwise_ne.1 ((List.nodup_range (n := x.n)).filter fun i => decide (x.st i = 1))).imp_of_mem ?_
    intro s t hs ht hne e
    exact hne (hMk_inj (mkOK_of hf (hok s hs).1) (mkOK_of hf (hok t ht).1) e).1
  have s1 : (hs.filter fun h => decide (liveL x h)) ⊆ ((slotsTo x 1 x.n).map fun s => hMk s (x.gn s)) := by
    intro h hh
    obtain ⟨h1, h2⟩ := List.mem_filter.1 hh
    have h2 := of_decide_eq_true h2
    obtain ⟨s, g, hm, rfl⟩ := hOK_mk h2.1
    obtain ⟨k1, k2, k3⟩ := (liveL_mk hm).1 h2
    exact List.mem_map.2 ⟨s, List.mem_filter.2 ⟨List.mem_range.2 k1, decide_eq_true k2⟩, by rw [k3]⟩
  have s2 : ((slotsTo x 1 x.n).map fun s => hMk s (x.gn s)) ⊆ (hs.filter fun h => decide (liveL x h)) := by
    intro h hh
    obtain ⟨s, h1, rfl⟩ := List.mem_map.1 hh
    obtain ⟨k1, k2⟩ := hok s h1
    exact List.mem_filter.2 ⟨hi.cur s k1 k2, decide_eq_true ((liveL_mk (mkOK_of hf k1)).2 ⟨k1, k2, rfl⟩)⟩
  have l1 := nodup_le _ _ n1 s1
  have l2 := nodup_le _ _ n2 s2
  rw [List.length_map] at l1 l2
  omega
end Go.Proofs.Ytfgkbnnojogjpaa

