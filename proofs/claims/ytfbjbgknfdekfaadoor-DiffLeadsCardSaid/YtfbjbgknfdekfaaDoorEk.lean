/- Diff: SplitAfter, the program's lines: their walks. -/
import Derived.Test.YtfbjbgknfdekfaaDoorEj
import Derived.Lib.SplitLaws
namespace Go.Proofs.YtfbjbgknfdekfaaDoor
open Go.RowKit
set_option linter.unusedVariables false

def fS (x : List UInt8) : List Value := [.string ⟨x.toArray⟩]
theorem fS_len (x : List UInt8) : (fS x).length = 1 := rfl
theorem flatS_map : ∀ ws : List (List UInt8), flatR fS ws = ws.map fun x => Value.string ⟨x.toArray⟩
  | [] => rfl
  | x :: l => by
    rw [show x :: l = [x] ++ l from rfl, flatR_app, flatS_map l, flatR_one]; rfl
theorem infoStr : (Tryd.prog.info? 9).map (fun i => (i.zero, i.size, i.bytes)) = some (some (.string ByteArray.empty), 1, 16) := by kernel_rfl
theorem split10 (s : ByteArray) : (Lib.splitB ⟨#[10]⟩ 1 (s.data.toList.count 10) s).map (·.data.toList) = saL s.data.toList := by
  rw [Lib.splitB_data]
  exact splitK_sa _
theorem ba_list (l : List ByteArray) : l.map Value.string = (l.map (·.data.toList)).map fun x => Value.string ⟨x.toArray⟩ := by
  rw [List.map_map]
  congr 1
theorem gen_split (s : ByteArray) (w : World) (hs : s.size < 4294967281) :
    Calls Tryd.prog 64 #[.string s, .string ⟨#[10]⟩, .int .i64 1, .int .i64 (-1)] w fun e w' =>
      e = .returned (.slice (some ⟨w.heap.size, 0, none⟩) (saL s.data.toList).length (s.data.toList.count 10 + 1)) ∧ w' = w.alloc (.cells (((saL s.data.toList).map fun x => Value.string ⟨x.toArray⟩) ++ List.replicate (s.data.toList.count 10 + 1 - (saL s.data.toList).length) (Value.string ByteArray.empty)).toArray 9) := by
  have hc : Lib.countB s ⟨#[10]⟩ = s.data.toList.count 10 := Lib.count_one 10 _
  have hl : s.data.toList.length = s.size := Array.length_toList ..
  have hcl : s.data.toList.count 10 ≤ s.data.toList.length := List.count_le_length
  have h := Any.strings_genSplit_core (P := Tryd.prog) lays221 infoStr s ⟨#[10]⟩ 1 (-1) (s.data.toList.count 10 + 1) w hs (by decide) (by decide)
    (fun x c hx => (Any.strings_Index_one { lays221 with } x 10 _).mono fun e w' ⟨he, hw⟩ => ⟨by rw [he]; show _ = Ending.returned (.int .i64 (Lib.index x.data.toList [10])); rw [Lib.index_one], hw⟩)
    ((Any.strings_Count_one { lays221 with } s 10 w).mono fun e w' ⟨he, hw⟩ => ⟨by rw [he, hc]; rfl, hw⟩) (by decide) (by decide) (by rw [if_pos (by decide), hc]; omega)
  rw [Nat.add_sub_cancel] at h
  have hm := split10 s
  have hlen : (Lib.splitB ⟨#[10]⟩ 1 (s.data.toList.count 10) s).length = (saL s.data.toList).length := by rw [← hm, List.length_map]
  refine h.mono fun e w' ⟨he, hw⟩ => ⟨by rw [he, hlen], ?_⟩
  rw [hw]
  unfold Lib.cellsOf
  rw [ba_list, hm, hlen]
  rfl
/-- the array that SplitAfter makes -/
def saC (s : ByteArray) : Array Value := (((saL s.data.toList).map fun x => Value.string ⟨x.toArray⟩) ++ List.replicate (s.data.toList.count 10 + 1 - (saL s.data.toList).length) (Value.string ByteArray.empty)).toArray
theorem saC_at (s : ByteArray) {j : Nat} (h : j < (saL s.data.toList).length) : (saC s)[j]? = some (.string ⟨((saL s.data.toList)[j]).toArray⟩) := by
  unfold saC
  rw [List.getElem?_toArray, List.getElem?_append_left (by rw [List.length_map]; exact h), List.getElem?_map, List.getElem?_eq_getElem h]
  rfl
set_option maxRecDepth 100000 in
set_option maxHeartbeats 2000000 in
theorem splitAfter_any (s : ByteArray) (w : World) (hs : s.size < 4294967281) :
    Calls Tryd.prog 48 #[.string s, .string ⟨#[10]⟩] w fun e w' =>
      e = .returned (.slice (some ⟨w.heap.size, 0, none⟩) (saL s.data.toList).length (s.data.toList.count 10 + 1)) ∧ w' = w.alloc (.cells (saC s) 9) := by
  have HG := Lib.hid (show Calls Tryd.prog 64 #[.string s, .string ⟨#[10]⟩, .int .i64 1, .int .i64 (-1)] w fun e w' =>
      e = .returned (.slice (some ⟨w.heap.size, 0, none⟩) (saL s.data.toList).length (s.data.toList.count 10 + 1)) ∧ w' = w.alloc (.cells (saC s) 9) from gen_split s w hs)
  generalize s.data.toList.count 10 + 1 = k at *
  generalize (saL s.data.toList).length = n at *
  go_enter Tryd.func48, Tryd.ntmps48
  go_wp2_with fail
  refine (HG.out).mono ?_; rintro e w1 ⟨rfl, hw1⟩
  have HW := Lib.hid hw1
  clear hw1
  go_wp2_with fail
  go_ret
  exact ⟨rfl, HW.out⟩
theorem rows_in (s : ByteArray) {w : World} {b : Nat} {t : TypeId} (h : w.heap[b]? = some (.cells (saC s) t (0, 0))) (hp : ∀ j (h : j < (rowsL s.data.toList).length), ∃ h' : j < (saL s.data.toList).length, (saL s.data.toList)[j] = (rowsL s.data.toList)[j]) : IsR fS w (some ⟨b, 0, none⟩) (rowsL s.data.toList).length (rowsL s.data.toList) :=
  ⟨rfl, fun _ => ⟨b, 0, rfl, block_lt h, fun j u hj => by
    rw [flatS_map] at hj
    rw [Nat.zero_add, block_cell h]
    rw [List.getElem?_map] at hj
    have hjl : j < (rowsL s.data.toList).length := by
      rcases Nat.lt_or_ge j (rowsL s.data.toList).length with h | h
      · exact h
      · rw [List.getElem?_eq_none h] at hj; cases hj
    rw [List.getElem?_eq_getElem hjl] at hj
    obtain ⟨h', e⟩ := hp j hjl
    rw [saC_at s h', e]
    exact hj⟩⟩

set_option maxRecDepth 100000 in
set_option maxHeartbeats 4000000 in
theorem lines_any (s : ByteArray) (w : World) (hs : s.size ≤ 1048576) :
    Calls Tryd.prog 35 #[.string s] w fun e w' => (∃ c, e = .returned (.slice (some ⟨w.heap.size, 0, none⟩) (rowsL s.data.toList).length c)) ∧ IsR fS w' (some ⟨w.heap.size, 0, none⟩) (rowsL s.data.toList).length (rowsL s.data.toList) ∧ Below w.heap.size w w' := by
  have HS := Lib.hid (splitAfter_any s w (by omega))
  have HB := Lib.hid ((Below.refl w.heap.size w).alloc (Nat.le_refl _) (.cells (saC s) 9))
  have hz := block_new w (.cells (saC s) 9)
  have hcl : s.data.toList.count 10 ≤ s.data.toList.length := List.count_le_length
  have hl : s.data.toList.length = s.size := Array.length_toList ..
  have hsl : (saL s.data.toList).length ≤ s.data.toList.count 10 + 1 := by
    rw [← splitK_sa, ← Lib.splitB_data ⟨#[10]⟩ 1, List.length_map]
    exact Lib.splitB_length_le _ _ _ _
  obtain ⟨k, hk⟩ : ∃ k, k = s.data.toList.count 10 + 1 := ⟨_, rfl⟩
  rw [← hk] at HS hsl
  have hk2 : k ≤ 1048577 := by omega
  rcases sa_rows s.data.toList with e | ⟨e, e2⟩
  · have hlen : (saL s.data.toList).length = (rowsL s.data.toList).length + 1 := by rw [e, List.length_append]; rfl
    have hlast : (saC s)[(rowsL s.data.toList).length]? = some (.string ⟨#[]⟩) := by
      rw [saC_at s (by omega)]
      congr 2
      have : (saL s.data.toList)[(rowsL s.data.toList).length]'(by omega) = [] := by
        simp only [e]
        rw [List.getElem_append_right (Nat.le_refl _)]
        simp
      rw [this]
    have HIN := Lib.hid (fun (u : World) (h : u.heap[w.heap.size]? = some (.cells (saC s) 9 (0, 0))) => rows_in s h (fun j hj => ⟨by omega, by
      simp only [e]
      rw [List.getElem_append_left hj]⟩))
    have q0 : (w.alloc (.cells (saC s) 9)).cell? ⟨w.heap.size, (rowsL s.data.toList).length, none⟩ = some (.string ⟨#[]⟩) := (block_cell hz _).trans hlast
    have HZ := Lib.hid hz
    rw [hlen] at HS hsl
    generalize (rowsL s.data.toList).length = n at *
    have hw1 : IntKind.i64.wrap ((n : Int) + 1 - 1) = (n : Int) := by rw [IntKind.wrap_i64]; omega
    have hnn : (n : Int) + 1 - 1 = (n : Int) := by omega
    have hn0 : (0 : Int) ≤ (n : Int) := by omega
    have hnk : (n : Int) + 1 ≤ (k : Int) := by omega
    have hnk2 : (n : Int) ≤ (k : Int) := by omega
    clear hlast hlen hz e hk hcl hl
    go_enter Tryd.func35, Tryd.ntmps35
    go_wp2_with fail
    refine (HS.out).mono ?_; rintro e w1 ⟨rfl, hw1'⟩
    subst hw1'
    generalize w.alloc (.cells (saC s) 9) = w1 at *
    go_wp2_with fail
    go_ret
    exact ⟨⟨_, rfl⟩, HIN.out _ HZ.out, HB.out⟩
  · have hlen : (saL s.data.toList).length = (rowsL s.data.toList).length := by rw [e]
    have hpos := List.length_pos_iff.2 e2
    have hi : (rowsL s.data.toList).length - 1 < (saL s.data.toList).length := by omega
    obtain ⟨tx, htx⟩ : ∃ tx : ByteArray, tx = ⟨((saL s.data.toList)[(rowsL s.data.toList).length - 1]).toArray⟩ := ⟨_, rfl⟩
    have hlast : (saC s)[(rowsL s.data.toList).length - 1]? = some (.string tx) := by rw [saC_at s hi, htx]
    have hne : tx.toList.isEmpty = false := str_some (by
      rw [htx]
      show ((saL s.data.toList)[(rowsL s.data.toList).length - 1]).toArray.size ≠ 0
      rw [List.size_toArray]
      intro e3
      have h1 := List.eq_nil_of_length_eq_zero e3
      have h2 : (rowsL s.data.toList)[(rowsL s.data.toList).length - 1]'(by omega) = [] := by rw [← h1]; simp only [e]
      exact rowsL_ne _ _ (List.getElem_mem _) h2)
    have HIN := Lib.hid (fun (u : World) (h : u.heap[w.heap.size]? = some (.cells (saC s) 9 (0, 0))) => rows_in s h (fun j hj => ⟨by omega, by simp only [e]⟩))
    have q0 : (w.alloc (.cells (saC s) 9)).cell? ⟨w.heap.size, (rowsL s.data.toList).length - 1, none⟩ = some (.string tx) := (block_cell hz _).trans hlast
    have HZ := Lib.hid hz
    rw [hlen] at HS hsl
    generalize (rowsL s.data.toList).length = n at *
    obtain ⟨m, rfl⟩ : ∃ m, n = m + 1 := ⟨n - 1, by omega⟩
    rw [Nat.add_sub_cancel] at q0
    have hw1 : IntKind.i64.wrap ((m : Int) + 1 - 1) = (m : Int) := by rw [IntKind.wrap_i64]; omega
    have hnn : (m : Int) + 1 - 1 = (m : Int) := by omega
    have hn0 : (0 : Int) ≤ (m : Int) := by omega
    have hm1 : (m : Int) < (m : Int) + 1 := by omega
    clear hlast hlen hz e e2 hk hcl hl htx hpos hi
    go_enter Tryd.func35, Tryd.ntmps35
    go_wp2_with fail
    refine (HS.out).mono ?_; rintro e w1 ⟨rfl, hw1'⟩
    subst hw1'
    generalize w.alloc (.cells (saC s) 9) = w1 at *
    go_wp2_with fail
    go_ret
    exact ⟨⟨_, rfl⟩, HIN.out _ HZ.out, HB.out⟩
end Go.Proofs.YtfbjbgknfdekfaaDoor
