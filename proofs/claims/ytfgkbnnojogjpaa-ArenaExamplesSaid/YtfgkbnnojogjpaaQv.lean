/- The arena's reference: its state in memory; find, Live, Handles, Slots, Stats, New. -/
import Derived.Test.YtfgkbnnojogjpaaQq
import Derived.Deep.QuietTactic
import Derived.BigQuiet
namespace Go.Proofs.Ytfgkbnnojogjpaa
open Go.RowKit
set_option linter.unusedVariables false

structure CB where
  lb : YB
  p : Nat
def CB.fix (C : CB) (q : Nat) : Prop := q = C.p ∨ q = C.lb.p ∨ q = C.lb.s ∨ q = C.lb.t ∨ q = C.lb.g
def ItB (w : World) (q : Nat) : Prop := ∃ cur, w.heap[q]? = some (.cells cur 101 (0, 0))
def AllI (b0 : Nat) (w : World) (v : Value) (M : List Kn) : Prop := w.ownsRow b0 101 4 v M.length (flatR fKn M) ∧ ∀ k ∈ M, KnOK b0 w k
def toIt (M : List Kn) : List (Int × Nd) := M.map fun k => (k.h, k.x)
def cellsB (C : CB) (v : Value) (A : AS) : Array Value := #[.pointer (some ⟨C.lb.p, 0, none⟩), v, .int .i64 0, .int .i64 0, .int .i64 0, .int .i64 0, .int .i64 A.al, .int .i64 A.fr, .int .i64 A.st]
structure IsB (w : World) (b0 : Nat) (C : CB) (A : AS) (v : Value) (M : List Kn) : Prop where
  p : w.heap[C.p]? = some (.cells (cellsB C v A) 94 (0, 0))
  l : IsY w C.lb A.x
  a : AllI b0 w v M
  e : toIt M = A.it
theorem IsB.keep {w w' : World} {b0 : Nat} {C : CB} {A : AS} {v : Value} {M : List Kn} (h : IsB w b0 C A v M) (k : ∀ q, q < w.heap.size → (C.fix q ∨ ItB w q ∨ q < b0 ∨ Kb w q) → w'.heap[q]? = w.heap[q]?) : IsB w' b0 C A v M := by
  obtain ⟨h0, ⟨l0, l1, l2, l3, l4⟩, ⟨a1, a2⟩, e⟩ := h
  refine ⟨(k _ (block_lt h0) (.inl (.inl rfl))).trans h0, ⟨(k _ (block_lt l0) (.inl (.inr (.inl rfl)))).trans l0, l1.keep (k _ l1.lt (.inl (.inr (.inr (.inl rfl))))), l2.keep (k _ l2.lt (.inl (.inr (.inr (.inr (.inl rfl)))))), l3.keep (k _ l3.lt (.inl (.inr (.inr (.inr (.inr rfl)))))), l4⟩, ⟨own_keep4 a1 fun q hq => ?_, fun x hx => ⟨(a2 x hx).1.keep fun q hq hc => k q hq (.inr (.inr hc)), (a2 x hx).2⟩⟩, e⟩
  obtain ⟨-, cur, hc⟩ := own_typ4 a1 hq
  exact k q (block_lt hc) (.inr (.inl ⟨cur, hc⟩))
theorem IsB.below {w w' : World} {b0 : Nat} {C : CB} {A : AS} {v : Value} {M : List Kn} (h : IsB w b0 C A v M) (k : Below w.heap.size w w') : IsB w' b0 C A v M := h.keep fun q hq _ => k.block q hq
theorem IsB.drewN {w : World} {b0 : Nat} {C : CB} {A : AS} {v : Value} {M : List Kn} (h : IsB w b0 C A v M) (n : Nat) : IsB (w.drewN n) b0 C A v M := h.keep fun _ _ _ => rfl
theorem IsB.alloc {w : World} {b0 : Nat} {C : CB} {A : AS} {v : Value} {M : List Kn} (h : IsB w b0 C A v M) (o : Obj) : IsB (w.alloc o) b0 C A v M := h.below ((Below.refl _ _).alloc (Nat.le_refl _) o)
theorem own4_at {w : World} {b0 : Nat} {T : TypeId} {ao : Option Addr} {n c : Nat} {M : List Kn} (h : w.ownsRow b0 T 4 (.slice ao n c) M.length (flatR fKn M)) {i : Nat} (hi : i < M.length) : ∃ b, ao = some ⟨b, 0, none⟩ ∧ b < w.heap.size ∧ (w.cell? ⟨b, i * 4, none⟩ = some (.int .u64 M[i].h) ∧ w.cell? ⟨b, i * 4 + 1, none⟩ = some (.int .i64 M[i].x.h) ∧ w.cell? ⟨b, i * 4 + 2, none⟩ = some (.string M[i].x.text) ∧ w.cell? ⟨b, i * 4 + 3, none⟩ = some (.slice M[i].a M[i].x.kids.length M[i].c)) := by
  obtain ⟨ao', cap, e, hr, h4, h5⟩ := IsR.owned fKn_len rfl h
  injection e with e1 e2 e3
  subst e1
  obtain ⟨b, off, e2, hlt, hc⟩ := hr.2 (by omega)
  obtain ⟨g, e3, -, -⟩ := h5 (by omega)
  rw [e2] at e3; injection e3 with e3; injection e3 with e3 e4
  subst e3 e4
  have g := fun j (u : Value) (hj : (fKn M[i])[j]? = some u) => row_at fKn_len (off := 0) hc i hi j u hj
  simp only [Nat.zero_add] at g
  exact ⟨b, e2, hlt, g 0 _ rfl, g 1 _ rfl, g 2 _ rfl, g 3 _ rfl⟩
theorem own4_slice {w : World} {b0 : Nat} {T : TypeId} {v : Value} {M : List Kn} (h : w.ownsRow b0 T 4 v M.length (flatR fKn M)) : ∃ ao c, v = .slice ao M.length c := by
  obtain ⟨ao', cap, e, -⟩ := IsR.owned fKn_len rfl h
  exact ⟨ao', cap, e⟩
theorem toIt_keys (M : List Kn) : (toIt M).map (·.1) = M.map (·.h) := by unfold toIt; rw [List.map_map]; rfl
theorem IsB.keys {w : World} {b0 : Nat} {C : CB} {A : AS} {v : Value} {M : List Kn} (h : IsB w b0 C A v M) : A.keys = M.map (·.h) := by
  unfold AS.keys
  rw [← h.e, toIt_keys]
theorem IsB.len {w : World} {b0 : Nat} {C : CB} {A : AS} {v : Value} {M : List Kn} (h : IsB w b0 C A v M) : M.length = A.it.length := by rw [← h.e]; simp [toIt]
/-- the item of a live handle -/
theorem IsB.find {w : World} {b0 : Nat} {C : CB} {A : AS} {v : Value} {M : List Kn} (h : IsB w b0 C A v M) (hi : AInv A) {k : Int} (hl : liveL A.x k) : ∃ (i : Nat) (hi : i < M.length), M[i].h = k ∧ lookI A.it k = some M[i].x ∧ ∀ j (hj : j < M.length), j < i → M[j].h ≠ k := by
  have hk := (hi.liv k).1 hl
  rw [h.keys] at hk
  obtain ⟨i, hlt, e⟩ := List.getElem_of_mem hk
  rw [List.length_map] at hlt
  rw [List.getElem_map] at e
  refine ⟨i, hlt, e, ?_, fun j hj hji e2 => ?_⟩
  · refine lookI_mem hi.nd ?_
    rw [← h.e]
    unfold toIt
    rw [← e]
    exact List.mem_map.2 ⟨_, List.getElem_mem hlt, rfl⟩
  · have hnd := hi.nd
    have hkk := h.keys
    unfold AS.keys at hnd hkk
    rw [hkk] at hnd
    have := (List.nodup_iff_pairwise_ne.1 hnd)
    rw [List.pairwise_iff_getElem] at this
    refine this j i (by rw [List.length_map]; exact hj) (by rw [List.length_map]; exact hlt) hji ?_
    rw [List.getElem_map, List.getElem_map, e2, e]
theorem IsB.lost {w : World} {b0 : Nat} {C : CB} {A : AS} {v : Value} {M : List Kn} (h : IsB w b0 C A v M) (hi : AInv A) {k : Int} (hl : ¬ liveL A.x k) : ∀ j (hj : j < M.length), M[j].h ≠ k := fun j hj e => by
  refine hl ((hi.liv k).2 ?_)
  rw [h.keys, ← e]
  exact List.mem_map.2 ⟨_, List.getElem_mem hj, rfl⟩

set_option maxRecDepth 100000 in
set_option maxHeartbeats 4000000 in
theorem refFind_yes (C : CB) (A : AS) (v : Value) (M : List Kn) (b0 : Nat) (h : Int) (w : World) (hb : IsB w b0 C A v M) (i : Nat) (hi : i < M.length) (hh : M[i].h = h) (hj : ∀ j (hj : j < M.length), j < i → M[j].h ≠ h) (h63 : M.length ≤ 1000000) :
    Calls Try.prog 56 #[.pointer (some ⟨C.p, 0, none⟩), .int .u64 h] w fun e w' => e = .returned (.int .i64 i) ∧ w = w' := by
  obtain ⟨ao, c, rfl⟩ := own4_slice hb.a.1
  have HB := Lib.hid hb
  have HJ := Lib.hid hj
  have HH := Lib.hid hh
  have hp := hb.p
  unfold cellsB at hp
  (have q0 := block_cell hp 0; have q1 := block_cell hp 1; have q2 := block_cell hp 2; have q3 := block_cell hp 3; have q4 := block_cell hp 4; have q5 := block_cell hp 5; have q6 := block_cell hp 6; have q7 := block_cell hp 7; have q8 := block_cell hp 8; have f0 := block_free hp 0; have f1 := block_free hp 1; have f2 := block_free hp 2; have f3 := block_free hp 3; have f4 := block_free hp 4; have f5 := block_free hp 5; have f6 := block_free hp 6; have f7 := block_free hp 7; have f8 := block_free hp 8; have hz := block_lt hp; simp at q0 q1 q2 q3 q4 q5 q6 q7 q8)
  clear hp hb hj hh
  go_enter Try.func56, Try.ntmps56
  go_wp2_with fail
  go_loop [5] (fun s => ∃ j : Nat, j ≤ i ∧ s = .int .i64 j) (fun s => i - (intOf s).toNat)
  case atStart => exact ⟨0, Nat.zero_le _, rfl⟩
  case round =>
    obtain ⟨j, hjn, rfl⟩ := hrel
    have hjl : j < M.length := by omega
    have hj1 : (j : Int) < (M.length : Int) := by omega
    obtain ⟨b, rfl, hbw, e0, -, -, -⟩ := own4_at HB.out.a.1 hjl
    by_cases e : j = i
    · subst e
      rw [HH.out] at e0
      go_wp2_with fail
      go_ret
      exact ⟨rfl, rfl⟩
    · have hne : (M[j].h == h) = false := by rw [beq_eq_false_iff_ne]; exact HJ.out j hjl (by omega)
      generalize M[j].h = th at *
      go_wp2_with fail
      go_round
      case rel => exact ⟨j + 1, by omega, by go_num⟩
      case measure => simp [intOf]; omega

set_option maxRecDepth 100000 in
set_option maxHeartbeats 4000000 in
theorem refFind_no (C : CB) (A : AS) (v : Value) (M : List Kn) (b0 : Nat) (h : Int) (w : World) (hb : IsB w b0 C A v M) (hj : ∀ j (hj : j < M.length), M[j].h ≠ h) (h63 : M.length ≤ 1000000) :
    Calls Try.prog 56 #[.pointer (some ⟨C.p, 0, none⟩), .int .u64 h] w fun e w' => e = .returned (.int .i64 (-1)) ∧ w = w' := by
  obtain ⟨ao, c, rfl⟩ := own4_slice hb.a.1
  have HB := Lib.hid hb
  have HJ := Lib.hid hj
  have hp := hb.p
  unfold cellsB at hp
  (have q0 := block_cell hp 0; have q1 := block_cell hp 1; have q2 := block_cell hp 2; have q3 := block_cell hp 3; have q4 := block_cell hp 4; have q5 := block_cell hp 5; have q6 := block_cell hp 6; have q7 := block_cell hp 7; have q8 := block_cell hp 8; have f0 := block_free hp 0; have f1 := block_free hp 1; have f2 := block_free hp 2; have f3 := block_free hp 3; have f4 := block_free hp 4; have f5 := block_free hp 5; have f6 := block_free hp 6; have f7 := block_free hp 7; have f8 := block_free hp 8; have hz := block_lt hp; simp at q0 q1 q2 q3 q4 q5 q6 q7 q8)
  clear hp hb hj
  go_enter Try.func56, Try.ntmps56
  go_wp2_with fail
  go_loop [5] (fun s => ∃ j : Nat, j ≤ M.length ∧ s = .int .i64 j) (fun s => M.length - (intOf s).toNat)
  case atStart => exact ⟨0, Nat.zero_le _, rfl⟩
  case round =>
    obtain ⟨j, hjn, rfl⟩ := hrel
    by_cases hjl : j < M.length
    · have hj1 : (j : Int) < (M.length : Int) := by omega
      obtain ⟨b, rfl, hbw, e0, -, -, -⟩ := own4_at HB.out.a.1 hjl
      have hne : (M[j].h == h) = false := by rw [beq_eq_false_iff_ne]; exact HJ.out j hjl
      generalize M[j].h = th at *
      go_wp2_with fail
      go_round
      case rel => exact ⟨j + 1, by omega, by go_num⟩
      case measure => simp [intOf]; omega
    · obtain rfl : j = M.length := by omega
      go_wp2_with fail
      go_ret
      exact ⟨rfl, rfl⟩
theorem IsB.small {w : World} {b0 : Nat} {C : CB} {A : AS} {v : Value} {M : List Kn} (h : IsB w b0 C A v M) (hi : AInv A) : M.length ≤ 16384 := by
  have h1 := parts_n hi.f
  have h2 := hi.f.n2
  have h3 := hi.len
  rw [h.len]
  omega

set_option maxRecDepth 100000 in
set_option maxHeartbeats 4000000 in
theorem refLiveA (C : CB) (A : AS) (v : Value) (M : List Kn) (b0 : Nat) (h : Int) (w : World) (hb : IsB w b0 C A v M) (hi : AInv A) :
    Calls Try.prog 34 #[.pointer (some ⟨C.p, 0, none⟩), .int .u64 h] w fun e w' => e = .returned (.bool (decide (liveL A.x h))) ∧ ∃ n, w' = w.drewN n := by
  have hs := hb.small hi
  by_cases hl : liveL A.x h
  · obtain ⟨i, hil, hh, -, hj⟩ := hb.find hi hl
    have HF := Lib.hid (refFind_yes C A v M b0 h w hb i hil hh hj (by omega))
    have HD := Lib.hid (decide_eq_true hl)
    clear hb hh hj hl
    rw [HD.out]
    go_enter Try.func34, Try.ntmps34
    go_wp2_with fail
    refine (HF.out).mono ?_; rintro e w1 ⟨rfl, rfl⟩
    go_wp2_with fail
    go_ret
    exact ⟨rfl, 0, rfl⟩
  · have hj := hb.lost hi hl
    have HF := Lib.hid (refFind_no C A v M b0 h w hb hj (by omega))
    have HD := Lib.hid (decide_eq_false hl)
    clear hb hj hl
    rw [HD.out]
    go_enter Try.func34, Try.ntmps34
    go_wp2_with fail
    refine (HF.out).mono ?_; rintro e w1 ⟨rfl, rfl⟩
    go_wp2_with fail
    go_ret
    exact ⟨rfl, 0, rfl⟩

set_option maxRecDepth 100000 in
set_option maxHeartbeats 4000000 in
theorem refHandlesA (C : CB) (A : AS) (v : Value) (M : List Kn) (b0 : Nat) (w : World) (hb : IsB w b0 C A v M) (hi : AInv A) :
    Calls Try.prog 59 #[.pointer (some ⟨C.p, 0, none⟩)] w fun e w' => NewHs w A.x e w' := by
  have HL := Lib.hid (refHandles_any C.lb A.x w hb.l hi.f)
  have hp := hb.p
  unfold cellsB at hp
  (have q0 := block_cell hp 0; have q1 := block_cell hp 1; have q2 := block_cell hp 2; have q3 := block_cell hp 3; have q4 := block_cell hp 4; have q5 := block_cell hp 5; have q6 := block_cell hp 6; have q7 := block_cell hp 7; have q8 := block_cell hp 8; have f0 := block_free hp 0; have f1 := block_free hp 1; have f2 := block_free hp 2; have f3 := block_free hp 3; have f4 := block_free hp 4; have f5 := block_free hp 5; have f6 := block_free hp 6; have f7 := block_free hp 7; have f8 := block_free hp 8; have hz := block_lt hp; simp at q0 q1 q2 q3 q4 q5 q6 q7 q8)
  clear hp hb
  go_enter Try.func59, Try.ntmps59
  go_wp2_with fail
  refine HL.out.mono ?_; rintro e w1 hh
  obtain ⟨v, rfl, ho, hb⟩ := hh
  have HO := Lib.hid ho
  have HB := Lib.hid hb
  clear ho hb
  go_wp2_with fail
  go_ret
  exact ⟨_, rfl, HO.out, HB.out⟩

set_option maxRecDepth 100000 in
set_option maxHeartbeats 4000000 in
theorem refSlotsA (C : CB) (A : AS) (v : Value) (M : List Kn) (b0 : Nat) (w : World) (hb : IsB w b0 C A v M) (hi : AInv A) :
    Calls Try.prog 58 #[.pointer (some ⟨C.p, 0, none⟩)] w fun e w' => ∃ v1 v2, e = .returned (.tuple #[v1, v2]) ∧ FrR w.heap.size A.x v1 w' ∧ WdR w.heap.size A.x v2 w' ∧ Below w.heap.size w w' := by
  have HP := Lib.hid (show w.heap[C.p]? = some (.cells #[.pointer (some ⟨C.lb.p, 0, none⟩), v, .int .i64 0, .int .i64 0, .int .i64 0, .int .i64 0, .int .i64 A.al, .int .i64 A.fr, .int .i64 A.st] 94 (0, 0)) from hb.p)
  have HL := Lib.hid hb.l
  have HI := Lib.hid hi.f
  have hmn : A.x.m ≤ 16384 := Nat.le_trans hi.f.mn hi.f.n2
  clear hb hi
  go_enter Try.func58, Try.ntmps58
  go_wp2_with fail
  refine wp_region_specs (by kernel_rfl) (by decide) (by kernel_rfl) ?_
  simp only [fill, Act.put, List.setIfInBounds_toArray, List.set_cons_zero, List.set_cons_succ, Nat.zero_add, Nat.reduceAdd]
  apply OpsOK.eq
  · intro vs u hb hd
    clear hd
    go_wp2_with fail
    exact ⟨rfl, _, rfl, Below.refl _ _, rfl⟩
  apply OpsOK.eq
  · intro vs u hb hd
    simp [Region.binds] at hd
    have e0 := hd
    clear hd
    simp only [e0]
    go_wp2_with fail
    exact ⟨rfl, _, rfl, Below.refl _ _, rfl⟩
  apply OpsOK.eq
  · intro vs u hb hd
    simp [Region.binds] at hd
    have e1 := hd
    clear hd
    simp only [e1]
    go_wp2_with fail
    exact ⟨rfl, _, rfl, Below.refl _ _, rfl⟩
  apply OpsOK.eq
  · intro vs u hb hd
    simp [Region.binds] at hd
    have e2 := hd
    clear hd
    simp only [e2]
    have q := block_below hb HP.out (block_lt HP.out)
    have p0 := block_cell q 0
    have p1 := block_cell q 1
    have p2 := block_cell q 2
    have p3 := block_cell q 3
    have p4 := block_cell q 4
    have p5 := block_cell q 5
    have p6 := block_cell q 6
    have p7 := block_cell q 7
    have p8 := block_cell q 8
    simp at p0 p1 p2 p3 p4 p5 p6 p7 p8
    clear q
    go_wp2_with fail
    exact ⟨rfl, _, rfl, Below.refl _ _, rfl⟩
  refine OpsOK.step (FrR w.heap.size A.x) (Stab_fr _ _) ?_ ?_
  · intro vs u hb hd
    simp [Region.binds] at hd
    have e3 := hd
    clear hd
    simp only [e3]
    go_wp2_with fail
    refine (refFree_any C.lb A.x u (HL.out.below hb (Nat.le_refl _)) hmn).mono ?_; rintro e w1 ⟨v, rfl, hr, hbel⟩; go_wp2_with fail; exact ⟨rfl, _, rfl, hbel, hr.low (hb.size)⟩
  apply OpsOK.eq
  · intro vs u hb hd
    clear hd
    go_wp2_with fail
    exact ⟨rfl, _, rfl, Below.refl _ _, rfl⟩
  apply OpsOK.eq
  · intro vs u hb hd
    simp [Region.binds] at hd
    have e5 := hd
    clear hd
    simp only [e5]
    go_wp2_with fail
    exact ⟨rfl, _, rfl, Below.refl _ _, rfl⟩
  apply OpsOK.eq
  · intro vs u hb hd
    simp [Region.binds] at hd
    have e6 := hd
    clear hd
    simp only [e6]
    go_wp2_with fail
    exact ⟨rfl, _, rfl, Below.refl _ _, rfl⟩
  apply OpsOK.eq
  · intro vs u hb hd
    simp [Region.binds] at hd
    have e7 := hd
    clear hd
    simp only [e7]
    have q := block_below hb HP.out (block_lt HP.out)
    have p0 := block_cell q 0
    have p1 := block_cell q 1
    have p2 := block_cell q 2
    have p3 := block_cell q 3
    have p4 := block_cell q 4
    have p5 := block_cell q 5
    have p6 := block_cell q 6
    have p7 := block_cell q 7
    have p8 := block_cell q 8
    simp at p0 p1 p2 p3 p4 p5 p6 p7 p8
    clear q
    go_wp2_with fail
    exact ⟨rfl, _, rfl, Below.refl _ _, rfl⟩
  refine OpsOK.step (WdR w.heap.size A.x) (Stab_wd _ _) ?_ ?_
  · intro vs u hb hd
    simp [Region.binds] at hd
    obtain ⟨e8, h4⟩ := hd
    simp only [e8]
    go_wp2_with fail
    refine (refWithdrawn_any C.lb A.x u (HL.out.below hb (Nat.le_refl _)) HI.out.n2).mono ?_; rintro e w1 hh; obtain ⟨v, rfl, hr, hbel⟩ := hh.rs; clear hh; go_wp2_with fail; exact ⟨rfl, _, rfl, hbel, hr.low (hb.size)⟩
  refine OpsOK.step (FrR w.heap.size A.x) (Stab_fr _ _) ?_ ?_
  · intro vs u hb hd
    simp [Region.binds] at hd
    obtain ⟨h4, h9, e0, e1, e2, e3, h4⟩ := hd
    simp only [e0, e1, e2, e3]
    go_wp2_with fail
    exact ⟨rfl, _, rfl, Below.refl _ _, h4⟩
  refine OpsOK.step (WdR w.heap.size A.x) (Stab_wd _ _) ?_ ?_
  · intro vs u hb hd
    simp [Region.binds] at hd
    obtain ⟨h9, h10, e0, e1, e2, e3, h4, e5, e6, e7, e8, h9, h10⟩ := hd
    simp only [e0, e1, e2, e3, e5, e6, e7, e8]
    go_wp2_with fail
    exact ⟨rfl, _, rfl, Below.refl _ _, h9⟩
  refine OpsOK.done ?_
  intro vs u hbu hS
  have h10 := hS 10 (by decide)
  simp at h10
  obtain h10 := h10
  have h11 := hS 11 (by decide)
  simp at h11
  obtain h11 := h11
  clear hS
  have H10 := Lib.hid h10
  have H11 := Lib.hid h11
  have HBU := Lib.hid hbu
  clear h10 h11 hbu
  generalize vs 10 = v10 at *
  generalize vs 11 = v11 at *
  go_wp2_with fail
  go_ret2
  exact ⟨_, _, rfl, H10.out, H11.out, HBU.out⟩

set_option maxRecDepth 100000 in
set_option maxHeartbeats 4000000 in
theorem refStatsA (C : CB) (A : AS) (v : Value) (M : List Kn) (b0 : Nat) (w : World) (hb : IsB w b0 C A v M) (hi : AInv A) :
    Calls Try.prog 60 #[.pointer (some ⟨C.p, 0, none⟩)] w fun e w' => e = .returned (stats A) ∧ Below w.heap.size w w' := by
  obtain ⟨ao, c, rfl⟩ := own4_slice hb.a.1
  have hs := hb.small hi
  have hl := hb.len
  have h1 := parts_n hi.f
  have h2 := hi.len
  have h3 := hi.f.n2
  have HE := Lib.hid (show (A.x.n : Int) - A.x.m - M.length = (slotsTo A.x 2 A.x.n).length by omega)
  have HLN := Lib.hid hl
  have hn16 : A.x.n ≤ 16384 := h3
  have hm16 : A.x.m ≤ 16384 := by omega
  have hle : (M.length : Int) + A.x.m ≤ A.x.n := by omega
  have hp := hb.p
  unfold cellsB at hp
  have hlp := hb.l.1
  (have q0 := block_cell hp 0; have q1 := block_cell hp 1; have q2 := block_cell hp 2; have q3 := block_cell hp 3; have q4 := block_cell hp 4; have q5 := block_cell hp 5; have q6 := block_cell hp 6; have q7 := block_cell hp 7; have q8 := block_cell hp 8; have f0 := block_free hp 0; have f1 := block_free hp 1; have f2 := block_free hp 2; have f3 := block_free hp 3; have f4 := block_free hp 4; have f5 := block_free hp 5; have f6 := block_free hp 6; have f7 := block_free hp 7; have f8 := block_free hp 8; have hz := block_lt hp; simp at q0 q1 q2 q3 q4 q5 q6 q7 q8)
  (have p0 := block_cell hlp 0; have p1 := block_cell hlp 1; have p3 := block_cell hlp 3; have hlz := block_lt hlp; simp at p0 p1 p3)
  clear hp hb hi hl h1 h2 h3 hlp
  go_enter Try.func60, Try.ntmps60
  go_wp2_with fail
  have hb0 := block_alloc (block_new w (.cells #[.int .i64 A.x.n, .int .i64 A.x.m, .int .i64 M.length, .int .i64 ((A.x.n : Int) - A.x.m - M.length), .int .i64 A.al, .int .i64 A.fr, .int .i64 A.st] 38)) (.cells #[.int .i64 A.x.n, .int .i64 A.x.m, .int .i64 M.length, .int .i64 ((A.x.n : Int) - A.x.m - M.length), .int .i64 A.al, .int .i64 A.fr, .int .i64 A.st] 38)
  exact bodyPost_ret (res7 Try.results60 (Try.isAgg38 _) (Try.sizeOf38 _) rfl hb0) rfl ⟨by rw [HE.out, HLN.out]; rfl, ((Below.refl _ _).alloc (Nat.le_refl _) _).alloc (by simp) _⟩

/-- New of the reference, in whole -/
def NewB (w : World) (n g : Nat) (e : Ending) (w' : World) : Prop :=
  ∃ C : CB, e = .returned (.tuple #[.pointer (some ⟨C.p, 0, none⟩), .int .i64 0]) ∧ IsB w' w.heap.size C (newA n g) (.slice none 0 0) [] ∧ Below w.heap.size w w' ∧ (∀ q, C.fix q → w.heap.size ≤ q) ∧ C.lb.cs ≤ maxLen
set_option maxRecDepth 100000 in
set_option maxHeartbeats 4000000 in
theorem refNewB (n g : Nat) (w : World) (h1 : 1 ≤ n) (h2 : n ≤ 16384) (h3 : 1 ≤ g) (h4 : g ≤ 4294967295) :
    Calls Try.prog 11 #[.int .i64 n, .int .u64 g] w fun e w' => NewB w n g e w' := by
  go_enter Try.func11, Try.ntmps11
  go_wp2_with fail
  refine (refNew_ok n g w h1 h2 h3 h4).mono ?_; rintro e w1 hh
  obtain ⟨b, rfl, hl, hb, k1, k2, k3, k4, k5⟩ := hh
  have HL := Lib.hid hl
  have HB := Lib.hid hb
  have HK := Lib.hid (show w.heap.size ≤ b.p ∧ w.heap.size ≤ b.s ∧ w.heap.size ≤ b.t ∧ w.heap.size ≤ b.g ∧ b.cs ≤ maxLen from ⟨k1, k2, k3, k4, k5⟩)
  clear hl hb k1 k2 k3 k4 k5
  go_wp2_with fail
  go_ret2
  have hbe := (Below.refl w1.heap.size w1).alloc (Nat.le_refl _) (.cells (cellsB ⟨b, w1.heap.size⟩ (.slice none 0 0) (newA n g)) 94)
  refine ⟨⟨b, w1.heap.size⟩, rfl, ⟨block_new w1 (.cells (cellsB ⟨b, w1.heap.size⟩ (.slice none 0 0) (newA n g)) 94), HL.out.below hbe (Nat.le_refl _), ⟨World.ownsRow_nil _ _ _ _, fun k hk => nomatch hk⟩, rfl⟩, below_two HB.out hbe, ?_, HK.out.2.2.2.2⟩
  have := HB.out.size
  rintro q (rfl | rfl | rfl | rfl | rfl)
  · exact this
  · exact HK.out.1
  · exact HK.out.2.1
  · exact HK.out.2.2.1
  · exact HK.out.2.2.2.1
end Go.Proofs.Ytfgkbnnojogjpaa
