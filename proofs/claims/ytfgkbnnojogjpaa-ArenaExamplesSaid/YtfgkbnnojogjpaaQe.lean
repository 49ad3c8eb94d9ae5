/- The arena: Get of the program. -/
import Derived.Test.YtfgkbnnojogjpaaQd
namespace Go.Proofs.Ytfgkbnnojogjpaa
open Go.RowKit

theorem get_mem {A : AS} (hi : AInv A) {h : Int} (hd : liveL A.x h) : h ∈ A.it.map (·.1) := (hi.liv h).1 hd
/-- the node of a handle -/
def nodeOf (A : AS) (h : Int) : Nd := (lookI A.it h).getD noN

set_option maxRecDepth 100000 in
set_option maxHeartbeats 2000000 in
theorem getA_none (h : Int) (w : World) :
    Calls Try.prog 21 #[.pointer none, .int .u64 h] w fun e w' => e = .returned (.tuple #[zN, .int .i64 1]) ∧ Below w.heap.size w w' := by
  have HB := Lib.hid (Below.refl w.heap.size w)
  go_enter Try.func21, Try.ntmps21
  go_wp2_with fail
  have hb0 := block_new w (.cells #[.int .i64 0, .string ⟨#[]⟩, .slice none 0 0] 36)
  exact bodyPost_ret (res3_tmp Try.results21 (Try.isAgg36 _) (Try.sizeOf36 _) rfl hb0) rfl ⟨rfl, HB.out.alloc (Nat.le_refl _) _⟩

set_option maxRecDepth 100000 in
set_option maxHeartbeats 2000000 in
theorem getA_dead (B : PB) (A : AS) (h : Int) (w : World) (ha : IsA w B A) (hi : AInv A) (hd : ¬ liveL A.x h) (hb : A.st + 1 ≤ 9223372036854775807) :
    Calls Try.prog 21 #[.pointer (some ⟨B.p, 0, none⟩), .int .u64 h] w fun e w' => e = .returned (.tuple #[zN, .int .i64 10]) ∧ IsA w' B { A with st := A.st + 1 } ∧ KeepA B w w' := by
  have HA := Lib.hid ha
  have hno : h ∉ A.it.map (·.1) := fun hh => hd ((hi.liv h).2 hh)
  obtain ⟨es, clock, hm, hents⟩ := ha.2.2
  have HM := Lib.hid hm
  have hrun1 := fun (o : Obj) => look_no (r := B.r) (clock := clock) hents hno (w.alloc o) (block_alloc hm o)
  have hrun2 := fun (o o' : Obj) => look_no (r := B.r) (clock := clock) hents hno ((w.alloc o).alloc o') (block_alloc (block_alloc hm o) o')
  have hp := ha.1
  (have q0 := block_cell hp 0; have q1 := block_cell hp 1; have q2 := block_cell hp 2; have q3 := block_cell hp 3; have q4 := block_cell hp 4; have q5 := block_cell hp 5; have f0 := block_free hp 0; have f1 := block_free hp 1; have f2 := block_free hp 2; have f3 := block_free hp 3; have f4 := block_free hp 4; have f5 := block_free hp 5; have hz := block_lt hp; simp at q0 q1 q2 q3 q4 q5)
  clear hp ha hd hm hents hno hi
  unfold zN at hrun1 hrun2
  go_enter Try.func21, Try.ntmps21
  go_wp2_with fail
  have hb0 := block_alloc (block_new' (w.setCell ⟨B.p, 5, none⟩ (.int .i64 ((A.st : Int) + 1))) (.cells #[.int .i64 0, .string ⟨#[]⟩, .slice none 0 0] 36) w.heap.size (by simp [World.setCell])) (.cells #[.int .i64 0, .string ⟨#[]⟩, .slice none 0 0] 36)
  have hA1 : IsA (w.setCell ⟨B.p, 5, none⟩ (.int .i64 ((A.st : Int) + 1))) B { A with st := A.st + 1 } := HA.out.count 5 _ rfl rfl rfl
  exact bodyPost_ret (res3_tmp Try.results21 (Try.isAgg36 _) (Try.sizeOf36 _) rfl hb0) rfl
    ⟨rfl, hA1.below (((Below.refl _ _).alloc (Nat.le_refl _) _).alloc (by simp) _), (((KeepA.refl B w).set (own_p B) _ _).alloc _).alloc _⟩

theorem lookI_mem : ∀ {it : List (Int × Nd)} {h : Int} {nd : Nd}, (it.map (·.1)).Nodup → (h, nd) ∈ it → lookI it h = some nd
  | p :: it, h, nd, hn, hm => by
    have hn' := List.nodup_cons.1 (show (p.1 :: it.map (·.1)).Nodup from hn)
    unfold lookI
    by_cases e : p.1 = h
    · rw [List.find?_cons_of_pos (by simpa using e)]
      rcases List.mem_cons.1 hm with hm | hm
      · rw [← hm]; rfl
      · exact absurd (List.mem_map.2 ⟨_, hm, rfl⟩) (by rw [← e] at *; exact hn'.1)
    · rw [List.find?_cons_of_neg (by simpa using e)]
      rcases List.mem_cons.1 hm with hm | hm
      · exact absurd (by rw [← hm]) e
      · exact lookI_mem hn'.2 hm
theorem kids4 {x : Nd} (h : checkN x = 0) : x.kids.length ≤ 4 := by
  rcases (checkN_zero h).1 with ⟨_, _, _, h⟩ | ⟨_, _, _, _, h, _⟩
  · omega
  · exact h

set_option maxRecDepth 100000 in
set_option maxHeartbeats 4000000 in
theorem getA_live (B : PB) (A : AS) (h : Int) (w : World) (ha : IsA w B A) (hi : AInv A) (hd : liveL A.x h) :
    Calls Try.prog 21 #[.pointer (some ⟨B.p, 0, none⟩), .int .u64 h] w fun e w' => ∃ v, e = .returned (.tuple #[v, .int .i64 0]) ∧ OwnN w.heap.size w' v (nodeOf A h) ∧ Below w.heap.size w w' := by
  have hmem := get_mem hi hd
  obtain ⟨es, clock, hm, hents⟩ := ha.2.2
  obtain ⟨v, nd, hnd, hown, hrun⟩ := look_yes (r := B.r) (clock := clock) hents hmem
  have HN := Lib.hid (show nodeOf A h = nd by unfold nodeOf; rw [lookI_mem hi.nd hnd]; rfl)
  have hk4 := kids4 (hi.ok _ hnd)
  obtain ⟨s, rfl, hks⟩ := hown
  obtain ⟨ao, cap, rfl, hik, hno, hg⟩ := hks.ks
  have hrun1 := fun (o : Obj) => hrun (w.alloc o) (block_alloc hm o)
  have HIK := Lib.hid hik
  have hp := ha.1
  (have q0 := block_cell hp 0; have q1 := block_cell hp 1; have q2 := block_cell hp 2; have q3 := block_cell hp 3; have q4 := block_cell hp 4; have q5 := block_cell hp 5; have f0 := block_free hp 0; have f1 := block_free hp 1; have f2 := block_free hp 2; have f3 := block_free hp 3; have f4 := block_free hp 4; have f5 := block_free hp 5; have hz := block_lt hp; simp at q0 q1 q2 q3 q4 q5)
  have HNO := Lib.hid hno
  have HB := Lib.hid (Below.refl w.heap.size w)
  clear hp ha hd hm hents hi hmem hnd hrun hks hik hno hg
  rw [HN.out]
  go_enter Try.func21, Try.ntmps21
  go_wp2_with fail
  have hbl := ((Below.refl w.heap.size w).alloc (Nat.le_refl _) (.cells #[.int .i64 0, .string ⟨#[]⟩, .slice none 0 0] 36)).alloc (by simp) (.cells #[.int .i64 nd.h, .string nd.text, .slice ao nd.kids.length cap] 36)
  refine (clone_any nd.kids ao nd.kids.length cap _ (HIK.out.later hbl) (fun e => (HNO.out e).2) (by omega)).mono ?_; rintro e w3 ⟨v', rfl, ho, hb⟩
  obtain ⟨ao', cap', rfl, -, -, -⟩ := ho.ks
  have HBL := Lib.hid hbl
  have hc0 := block_below hb (block_alloc (block_new w (.cells #[.int .i64 0, .string ⟨#[]⟩, .slice none 0 0] 36)) (.cells #[.int .i64 nd.h, .string nd.text, .slice ao nd.kids.length cap] 36)) (by simp; omega)
  have hc1 := block_below hb (block_new' (w.alloc (.cells #[.int .i64 0, .string ⟨#[]⟩, .slice none 0 0] 36)) (.cells #[.int .i64 nd.h, .string nd.text, .slice ao nd.kids.length cap] 36) (w.heap.size + 1) (by simp)) (by simp)
  have HC0 := Lib.hid hc0
  have HC1 := Lib.hid hc1
  have HO := Lib.hid ho
  have HB3 := Lib.hid hb
  clear q0 q1 q2 q3 q4 q5 f0 f1 f2 f3 f4 f5 hz hbl
  (have q0 := block_cell hc0 0; have q1 := block_cell hc0 1; have q2 := block_cell hc0 2; have f0 := block_free hc0 0; have f1 := block_free hc0 1; have f2 := block_free hc0 2; have hz := block_lt hc0; simp at q0 q1 q2)
  (have q0 := block_cell hc1 0; have q1 := block_cell hc1 1; have q2 := block_cell hc1 2; have f0 := block_free hc1 0; have f1 := block_free hc1 1; have f2 := block_free hc1 2; have hz := block_lt hc1; simp at q0 q1 q2)
  clear hc0 hc1 ho hb
  go_wp2_with fail
  have hb0 := block_setCell (block_setCell (block_setCell (block_setCell_other HC0.out (p := ⟨w.heap.size + 1, 2, none⟩) (by simp) (.slice (ao') nd.kids.length cap')) 0 (.int .i64 nd.h)) 1 (.string nd.text)) 2 (.slice ao' nd.kids.length cap')
  have hfin := (((((below_two HBL.out HB3.out).setCell (p := ⟨w.heap.size + 1, 2, none⟩) (by simp) (.slice ao' nd.kids.length cap')).setCell (p := ⟨w.heap.size, 0, none⟩) (by simp) (.int .i64 nd.h)).setCell (p := ⟨w.heap.size, 1, none⟩) (by simp) (.string nd.text)).setCell (p := ⟨w.heap.size, 2, none⟩) (by simp) (.slice ao' nd.kids.length cap'))
  have hown := ((((HO.out.setCell (a := ⟨w.heap.size + 1, 2, none⟩) (by simp) (.slice ao' nd.kids.length cap')).setCell (a := ⟨w.heap.size, 0, none⟩) (by simp; omega) (.int .i64 nd.h)).setCell (a := ⟨w.heap.size, 1, none⟩) (by simp; omega) (.string nd.text)).setCell (a := ⟨w.heap.size, 2, none⟩) (by simp; omega) (.slice ao' nd.kids.length cap'))
  exact bodyPost_ret (res3_tmp Try.results21 (Try.isAgg36 _) (Try.sizeOf36 _) rfl hb0) rfl ⟨_, rfl, ⟨_, rfl, hown.le (by simp; omega)⟩, hfin⟩
end Go.Proofs.Ytfgkbnnojogjpaa
