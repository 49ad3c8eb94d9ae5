/- The walk of the law MeasureSums. -/
import Derived.Test.YtalkafjccpijiaaMeasK
namespace Go.Proofs.Ytalkafjccpijiaa
open Go.RowKit

theorem infoM : (Try.prog.info? 23).map (fun i => (i.zero, i.size, i.bytes)) = some (some (.agg #[.int .i64 0, .int .i64 0, .int .i64 0]), 3, 24) := by kernel_rfl

theorem own_empty {w : World} {base b : Nat} {e : TypeId} {size : Nat} (hb : base ≤ b) (h : w.heap[b]? = some (.cells #[] e (0, 0))) : w.ownsRow base e size (.slice (some ⟨b, 0, none⟩) 0 0) 0 [] :=
  ⟨by simp, .inr ⟨b, 0, #[], rfl, hb, h, Nat.le_refl _, Nat.zero_le _, by simp, by simp⟩⟩

set_option maxRecDepth 100000 in
set_option maxHeartbeats 2000000 in
theorem walk_sums_some (ad : Addr) (n c : Nat) (l : List Trip) (x y : Trip) (w : World) (h : IsMs w (some ad) n l) (hreach : n * 24 ≤ 140737488351232) :
    Calls Try.prog 9 #[.slice (some ad) n c, aggM x, aggM y] w fun e w' => e = .returned (.bool true) ∧ Below w.heap.size w w' := by
  obtain ⟨i0, hi, hz0, hz1, hz2⟩ := info_parts infoM
  have hn63 : n ≤ 9223372036854775807 := by omega
  have hlen : (flatM l).length = n * 3 := by rw [flatM_len, h.1]
  have HO : ∀ A B, (((w.alloc A).alloc B).alloc (.cells #[] 23)).ownsRow w.heap.size 23 3 (.slice (some ⟨w.heap.size + 1 + 1, 0, none⟩) 0 0) 0 [] :=
    fun A B => own_empty (by omega) (block_new' _ _ _ (by simp))
  have HN : ∀ A B C, IsMs (((w.alloc A).alloc B).alloc C) (some ad) n l := fun A B C => h.later ((((Below.refl _ _).alloc (Nat.le_refl _) _).alloc (by simp) _).alloc (by simp; omega) _)
  have HHO := Lib.hid HO
  have HHN := Lib.hid HN
  have HL := Lib.hid hlen
  have H := Lib.hid h
  clear h HO HN hlen
  unfold aggM
  go_enter Try.func9, Try.ntmps9
  go_wp2_with (at_builtin; refine wpList_append_own _ rfl _ _ 32 rfl w.heap.size 23 i0 (.agg #[.int .i64 0, .int .i64 0, .int .i64 0]) 3 24 Try.underlying32 hi hz0 hz1 hz2 rfl (by decide) _ 0 [] rfl (HHO.out _ _) ad n c (flatM l) rfl HL.out (HHN.out _ _ _).news (flatM_one l) ?c3 ?c4 ?c5 ?_)
  case c3 => unfold maxLen; omega
  case c4 => omega
  case c5 => simp; omega
  intro v' w1 hown hgrow _
  try rw [Nat.zero_add, List.nil_append] at hown
  obtain ⟨ao', cap', hv, hms, hpos⟩ := owns_ms H.out.1 hown
  have hbel : Below w.heap.size w w1 := ((((Below.refl _ _).alloc (Nat.le_refl _) _).alloc (by simp) _).alloc (by simp; omega) _).grown hgrow (by simp; omega) (by intro k hk; simp [Value.ownBlock] at hk; omega)
  have hbx : w1.heap[w.heap.size]? = some (.cells #[.int .i64 x.1, .int .i64 x.2.1, .int .i64 x.2.2] 23 (0, 0)) :=
    (hgrow.block _ (by simp; omega) (by simp [Value.ownBlock]; omega)).trans (block_alloc (block_alloc (block_new _ _) _) _)
  have hby : w1.heap[w.heap.size + 1]? = some (.cells #[.int .i64 y.1, .int .i64 y.2.1, .int .i64 y.2.2] 23 (0, 0)) :=
    (hgrow.block _ (by simp) (by simp [Value.ownBlock])).trans (block_alloc (block_new' _ _ _ (by simp)) _)
  rw [hv]
  have HMS := Lib.hid hms
  have HBX := Lib.hid hbx
  have HBY := Lib.hid hby
  clear hown hgrow hv hms hbx hby hpos
  go_wp2_with fail
  refine (add_any _ _ _ l _ hn63 HMS.out).mono ?_; rintro e w2 ⟨rfl, hb2⟩
  go_wp2_with fail
  refine (refAdd_any _ _ _ l _ hn63 (H.out.later (below_step hbel hb2))).mono ?_; rintro e w3 ⟨rfl, hb3⟩
  unfold aggM
  go_wp2_with fail
  have hb13 : Below w1.heap.size w1 w3 := below_step hb2 hb3
  have hbw3 : Below w.heap.size w w3 := below_step hbel hb13
  have HMS3 := Lib.hid (HMS.out.later hb13)
  have H3 := Lib.hid (H.out.later hbw3)
  have HBX3 := Lib.hid (block_below hb13 HBX.out (block_lt HBX.out))
  have HBY3 := Lib.hid (block_below hb13 HBY.out (block_lt HBY.out))
  clear HMS H HBX HBY hb2 hb3 hb13
  go_loopw [8] (fun i wr => ∃ k : Nat, k ≤ n ∧ i = .int .i64 k ∧ Below w3.heap.size w3 wr) (fun i _ => n - (intOf i).toNat)
  case atStart => exact ⟨0, Nat.zero_le _, rfl, Below.refl _ _⟩
  case round =>
    obtain ⟨k, hk, rfl, hbr⟩ := hrel
    by_cases hlt : k < n
    · obtain ⟨b1, o1, rfl, hc1⟩ := (HMS3.out.later hbr).2 (by omega)
      obtain ⟨b2, o2, e2, hc2⟩ := (H3.out.later hbr).2 (by omega)
      cases e2
      have hkl : k < l.length := by rw [HMS3.out.1]; exact hlt
      obtain ⟨p0, p1, p2⟩ := hc1 k hkl
      obtain ⟨q0, q1, q2⟩ := hc2 k hkl
      clear hc1 hc2
      have hk0 : (0 : Int) ≤ (k : Int) := by omega
      have hk1 : (k : Int) < (n : Int) := by omega
      go_wp2_with fail
      go_quiet (fail)
      go_wp2_with fail
      go_roundw
      case rel => exact ⟨k + 1, by omega, by go_num, below_drewN hbr _⟩
      case measure => simp [intOf]; omega
    · have hbx := block_below hbr HBX3.out (block_lt HBX3.out)
      have hby := block_below hbr HBY3.out (block_lt HBY3.out)
      have p0 := block_cell hbx 0
      have p1 := block_cell hbx 1
      have p2 := block_cell hbx 2
      have q0 := block_cell hby 0
      have q1 := block_cell hby 1
      have q2 := block_cell hby 2
      simp at p0 p1 p2 q0 q1 q2
      have HX := Lib.hid hbx
      have HY := Lib.hid hby
      clear hbx hby
      have hwr := below_step hbw3 hbr
      go_wp2_with fail
      refine (sub_any x y _).mono ?_; rintro e w4 ⟨rfl, hb4⟩
      unfold aggM
      have hbx := block_below hb4 HX.out (block_lt HX.out)
      have hby := block_below hb4 HY.out (block_lt HY.out)
      have p0 := block_cell hbx 0
      have p1 := block_cell hbx 1
      have p2 := block_cell hbx 2
      have q0 := block_cell hby 0
      have q1 := block_cell hby 1
      have q2 := block_cell hby 2
      simp at p0 p1 p2 q0 q1 q2
      have s1 := block_lt hbx
      have s2 := block_lt hby
      clear hbx hby
      go_wp2_with fail
      refine (refSub_any x y _).mono ?_; rintro e w5 ⟨rfl, hb5⟩
      unfold aggM
      have hz4 := block_below hb5 (block_new w4 _) (by simp)
      have p0 := block_cell hz4 0
      have p1 := block_cell hz4 1
      have p2 := block_cell hz4 2
      simp at p0 p1 p2
      have s1 := block_lt hz4
      clear hz4
      go_wp2_with fail
      refine (known_any _).mono ?_; rintro e w6 ⟨rfl, hb6⟩
      go_wp2_with fail
      go_ret
      exact ⟨rfl, below_step ((below_step ((below_step hwr hb4).alloc (below_step hwr hb4).size _) hb5).alloc (below_step ((below_step hwr hb4).alloc (below_step hwr hb4).size _) hb5).size _) hb6⟩

set_option maxRecDepth 100000 in
set_option maxHeartbeats 2000000 in
theorem walk_sums_nil (x y : Trip) (w : World) :
    Calls Try.prog 9 #[.slice none 0 0, aggM x, aggM y] w fun e w' => e = .returned (.bool true) ∧ Below w.heap.size w w' := by
  unfold aggM
  go_enter Try.func9, Try.ntmps9
  go_wp2_with fail
  refine (add_any _ 0 _ [] _ (by omega) ⟨rfl, fun h => absurd h (by omega)⟩).mono ?_; rintro e w2 ⟨rfl, hb2⟩
  go_wp2_with fail
  refine (refAdd_any _ 0 _ [] _ (by omega) ⟨rfl, fun h => absurd h (by omega)⟩).mono ?_; rintro e w3 ⟨rfl, hb3⟩
  unfold aggM
  have hb13 := below_step hb2 hb3
  have hbx := block_below hb13 (block_alloc (block_alloc (block_new w _) _) _) (by simp; omega)
  have hby := block_below hb13 (block_alloc (block_new' _ _ (w.heap.size + 1) (by simp)) _) (by simp)
  have hbw3 : Below w.heap.size w w3 := ((((Below.refl _ _).alloc (Nat.le_refl _) _).alloc (by simp) _).alloc (by simp; omega) _).trans (hb13.mono (by simp; omega))
  clear hb2 hb3 hb13
  have p0 := block_cell hbx 0
  have p1 := block_cell hbx 1
  have p2 := block_cell hbx 2
  have q0 := block_cell hby 0
  have q1 := block_cell hby 1
  have q2 := block_cell hby 2
  simp at p0 p1 p2 q0 q1 q2
  have HX := Lib.hid hbx
  have HY := Lib.hid hby
  clear hbx hby
  go_wp2_with fail
  refine wp_loop_rounds 1 ?_
  rw [rounds_succ]
  go_wp2_with fail
  refine (sub_any x y _).mono ?_; rintro e w4 ⟨rfl, hb4⟩
  unfold aggM
  have hbx := block_below hb4 HX.out (block_lt HX.out)
  have hby := block_below hb4 HY.out (block_lt HY.out)
  have p0 := block_cell hbx 0
  have p1 := block_cell hbx 1
  have p2 := block_cell hbx 2
  have q0 := block_cell hby 0
  have q1 := block_cell hby 1
  have q2 := block_cell hby 2
  simp at p0 p1 p2 q0 q1 q2
  have s1 := block_lt hbx
  have s2 := block_lt hby
  clear hbx hby
  go_wp2_with fail
  refine (refSub_any x y _).mono ?_; rintro e w5 ⟨rfl, hb5⟩
  unfold aggM
  have hz4 := block_below hb5 (block_new w4 _) (by simp)
  have p0 := block_cell hz4 0
  have p1 := block_cell hz4 1
  have p2 := block_cell hz4 2
  simp at p0 p1 p2
  have s1 := block_lt hz4
  clear hz4
  go_wp2_with fail
  refine (known_any _).mono ?_; rintro e w6 ⟨rfl, hb6⟩
  go_wp2_with fail
  go_ret
  exact ⟨rfl, below_step ((below_step ((below_step hbw3 hb4).alloc (below_step hbw3 hb4).size _) hb5).alloc (below_step ((below_step hbw3 hb4).alloc (below_step hbw3 hb4).size _) hb5).size _) hb6⟩

theorem walk_sums (ao : Option Addr) (n c : Nat) (l : List Trip) (x y : Trip) (w : World) (h : IsMs w ao n l) (hno : ao = none → n = 0 ∧ c = 0) (hreach : n * 24 ≤ 140737488351232) :
    Calls Try.prog 9 #[.slice ao n c, aggM x, aggM y] w fun e w' => e = .returned (.bool true) ∧ Below w.heap.size w w' := by
  cases ao with
  | none =>
    obtain ⟨rfl, rfl⟩ := hno rfl
    exact walk_sums_nil x y w
  | some ad => exact walk_sums_some ad n c l x y w h hreach

end Go.Proofs.Ytalkafjccpijiaa
