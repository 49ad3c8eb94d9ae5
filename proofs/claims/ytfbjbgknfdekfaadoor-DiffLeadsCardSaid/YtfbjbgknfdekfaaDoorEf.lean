/- Diff: put; Cost of the program and of the reference. -/
import Derived.Test.YtfbjbgknfdekfaaDoorEe
namespace Go.Proofs.YtfbjbgknfdekfaaDoor
open Go.RowKit
set_option linter.unusedVariables false

/-- a piece is put behind others unless it is empty -/
def putL (ds : List Pc) (p : Pc) : List Pc := if p.n = 0 ∧ p.t.size = 0 then ds else ds ++ [p]
theorem putL_len (ds : List Pc) (p : Pc) : (putL ds p).length ≤ ds.length + 1 := by
  unfold putL
  by_cases h : p.n = 0 ∧ p.t.size = 0
  · rw [if_pos h]; omega
  · rw [if_neg h, List.length_append]; exact Nat.le_refl _
def PutRow (B : Nat) (ds : List Pc) (w : World) (e : Ending) (w' : World) : Prop :=
  ∃ v, e = .returned v ∧ w'.ownsRow B 45 3 v ds.length (flatR fP ds) ∧ Below B w w'

set_option maxRecDepth 100000 in
set_option maxHeartbeats 4000000 in
theorem putPc_any (B : Nat) (v : Value) (ds : List Pc) (k n : Int) (t : ByteArray) (w : World) (hown : w.ownsRow B 45 3 v ds.length (flatR fP ds)) (hB : B ≤ w.heap.size) (hlen : ds.length ≤ 1000000) :
    Calls Tryd.prog 32 #[v, .int .u8 k, .int .i64 n, .string t] w (PutRow B (putL ds ⟨k, n, t⟩) w) := by
  obtain ⟨i0, hi0, hz0, hz1, hz2⟩ := info_parts infoPc
  have HO := Lib.hid hown
  have HB := Lib.hid (Below.refl B w)
  clear hown
  by_cases hn : n = 0
  · subst hn
    by_cases ht : t.size = 0
    · have HE := Lib.hid (show putL ds ⟨k, 0, t⟩ = ds from if_pos ⟨rfl, ht⟩)
      obtain rfl := str_empty ht
      clear ht
      go_enter Tryd.func32, Tryd.ntmps32
      go_wp2_with fail
      go_ret
      rw [HE.out]
      exact ⟨_, rfl, HO.out, HB.out⟩
    · have HE := Lib.hid (show putL ds ⟨k, 0, t⟩ = ds ++ [⟨k, 0, t⟩] from if_neg (fun h => ht h.2))
      have hne := str_some ht
      clear ht
      go_enter Tryd.func32, Tryd.ntmps32
      go_wp2_with (at_builtin; refine wpList_append_lies _ rfl _ _ 26 rfl B 45 i0 _ 3 32 Tryd.underlying26 hi0 hz0 hz1 hz2 rfl (by decide) v ds.length _ rfl (HO.out.alloc _) ⟨w.heap.size, 0, none⟩ 1 1 [.int .u8 k, .int .i64 0, .string t] rfl rfl (World.news_of_block (cs := #[_, _, _]) (t := 45) (fr := (0, 0)) (heap_alloc_new w _)) (by simp [Value.oneCell']) (by omega) (by unfold maxLen; omega) (by omega) (by simp; omega) (w.heap.size + 1) (by simp) ?c1)
      case c1 =>
        intro gg cap w4 hown4 hgrow4 hat4 hlt4
        have HO4 := Lib.hid (show w4.ownsRow B 45 3 (.slice (some ⟨gg, 0, none⟩) (ds.length + 1) cap) (ds ++ [(⟨k, 0, t⟩ : Pc)]).length (flatR fP (ds ++ [(⟨k, 0, t⟩ : Pc)])) by
          rw [flatR_app, flatR_one, List.length_append]
          exact hown4)
        have HB4 := Lib.hid ((HB.out.alloc hB _).grown hgrow4 (by simp; omega) fun q hq => (own_typ1 HO.out hq).1)
        clear hown4 hgrow4 hat4 hlt4
        go_wp2_with fail
        go_ret
        rw [HE.out]
        exact ⟨_, rfl, HO4.out, HB4.out⟩
  · have HE := Lib.hid (show putL ds ⟨k, n, t⟩ = ds ++ [⟨k, n, t⟩] from if_neg (fun h => hn h.1))
    have hne : (n == 0) = false := by rw [beq_eq_false_iff_ne]; exact hn
    clear hn
    go_enter Tryd.func32, Tryd.ntmps32
    go_wp2_with (at_builtin; refine wpList_append_lies _ rfl _ _ 26 rfl B 45 i0 _ 3 32 Tryd.underlying26 hi0 hz0 hz1 hz2 rfl (by decide) v ds.length _ rfl (HO.out.alloc _) ⟨w.heap.size, 0, none⟩ 1 1 [.int .u8 k, .int .i64 n, .string t] rfl rfl (World.news_of_block (cs := #[_, _, _]) (t := 45) (fr := (0, 0)) (heap_alloc_new w _)) (by simp [Value.oneCell']) (by omega) (by unfold maxLen; omega) (by omega) (by simp; omega) (w.heap.size + 1) (by simp) ?c2)
    case c2 =>
      intro gg cap w4 hown4 hgrow4 hat4 hlt4
      have HO4 := Lib.hid (show w4.ownsRow B 45 3 (.slice (some ⟨gg, 0, none⟩) (ds.length + 1) cap) (ds ++ [(⟨k, n, t⟩ : Pc)]).length (flatR fP (ds ++ [(⟨k, n, t⟩ : Pc)])) by
        rw [flatR_app, flatR_one, List.length_append]
        exact hown4)
      have HB4 := Lib.hid ((HB.out.alloc hB _).grown hgrow4 (by simp; omega) fun q hq => (own_typ1 HO.out hq).1)
      clear hown4 hgrow4 hat4 hlt4
      go_wp2_with fail
      go_ret
      rw [HE.out]
      exact ⟨_, rfl, HO4.out, HB4.out⟩

/-- what a valid piece costs -/
def cstP (p : Pc) : Nat := if p.k = 1 then 0 else p.n.toNat + p.t.size
def costL (l : List Pc) : Nat := (l.map cstP).sum
def costP (l : List Pc) : Nat := if checkP l = 0 then costL l else 0
theorem cost_take {l : List Pc} {j : Nat} (h : j < l.length) : costL (l.take (j + 1)) = costL (l.take j) + cstP l[j] := by
  unfold costL
  rw [List.take_succ_eq_append_getElem h, List.map_append, List.sum_append]
  simp
theorem cst_io {p : Pc} (h : okP p = true) : (cstP p : Int) ≤ inP p + outP p ∧ 0 ≤ inP p ∧ 0 ≤ outP p := by
  obtain ⟨k, n, t⟩ := p
  rcases okP_cases h with ⟨rfl, h2, h3⟩ | ⟨rfl, h2, h3⟩ | ⟨rfl, h2, h3⟩
  · simp only at h2 h3
    show ((0 : Nat) : Int) ≤ n + n ∧ 0 ≤ n ∧ 0 ≤ n
    omega
  · simp only at h2 h3
    show ((n.toNat + t.size : Nat) : Int) ≤ n + 0 ∧ 0 ≤ n ∧ (0 : Int) ≤ 0
    omega
  · simp only at h2 h3
    show ((n.toNat + t.size : Nat) : Int) ≤ 0 + t.size ∧ (0 : Int) ≤ 0 ∧ (0 : Int) ≤ t.size
    omega
theorem cost_le : ∀ {l : List Pc}, AllOk l → costL l ≤ sIP l + sOP l
  | [], _ => Nat.le_refl _
  | p :: l, h => by
    have h1 := cst_io (h p (List.mem_cons_self ..))
    have h2 := cost_le (l := l) fun q hq => h q (List.mem_cons_of_mem _ hq)
    have e : costL (p :: l) = cstP p + costL l := by unfold costL; simp
    have e2 : sIP (p :: l) = (ofP p).inn + sIP l := rfl
    have e3 : sOP (p :: l) = (ofP p).out + sOP l := rfl
    obtain ⟨e4, e5⟩ := inP_of (h p (List.mem_cons_self ..))
    omega
theorem cost_most {l : List Pc} (hc : checkP l = 0) (j : Nat) : costL (l.take j) ≤ 2097152 := by
  obtain ⟨h1, h2, h3, h4⟩ := check_inv hc
  have h := cost_le h2
  have e : costL l = costL (l.take j) + costL (l.drop j) := by
    unfold costL
    rw [← List.sum_append, ← List.map_append, List.take_append_drop]
  omega
end Go.Proofs.YtfbjbgknfdekfaaDoor
