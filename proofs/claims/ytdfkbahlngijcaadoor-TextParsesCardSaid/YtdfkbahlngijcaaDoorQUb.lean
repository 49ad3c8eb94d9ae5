/- Text: Plain of quartoref39: its walk. (printed by slim.py.) -/
import Derived.Test.YtdfkbahlngijcaaDoorQKi
import Derived.Test.YtdfkbahlngijcaaDoorQKa
namespace Go.Proofs.YtdfkbahlngijcaaDoor
open Go.RowKit
set_option linter.unusedVariables false

theorem hasB_rng (l : List Nat) (f : Nat) (v hi : Int) (h : 0 ≤ hi) : hasB l f (v == 0) (decide (0 ≤ v) && decide (v ≤ hi)) = (!((!decide (f ∈ l)) && (v != 0)) && (decide (0 ≤ v) && decide (v ≤ hi))) := by
  unfold hasB
  by_cases hm : f ∈ l
  · simp [hm]
  · by_cases hv : v = 0
    · subst hv; simp [hm, h]
    · have e1 : (v == 0) = false := by simpa using hv
      have e2 : (v != 0) = true := by simpa using hv
      simp [hm, e1, e2]
theorem hasB_one (l : List Nat) (f : Nat) (v : Int) : hasB l f (v == 0) true = !((!decide (f ∈ l)) && (v != 0)) := by
  unfold hasB
  by_cases hm : f ∈ l
  · simp [hm]
  · by_cases hv : v = 0
    · subst hv; simp [hm]
    · have e1 : (v == 0) = false := by simpa using hv
      have e2 : (v != 0) = true := by simpa using hv
      simp [hm, e1, e2]
theorem hasB_str (l : List Nat) (f n : Nat) : hasB l f (decide (n = 0)) (decide (n ≤ 256)) = (!((!decide (f ∈ l)) && !(decide (n = 0))) && decide ((n : Int) ≤ 256)) := by
  unfold hasB
  have e : decide ((n : Int) ≤ 256) = decide (n ≤ 256) := by
    by_cases h : n ≤ 256
    · rw [decide_eq_true h, decide_eq_true (by omega)]
    · rw [decide_eq_false h, decide_eq_false (by omega)]
  rw [e]
  by_cases hm : f ∈ l
  · simp [hm]
  · by_cases hn : n = 0
    · subst hn; simp [hm]
    · simp [hm, hn]
set_option maxRecDepth 100000 in
set_option maxHeartbeats 16000000 in
theorem refPlain_in (x : Ov) (kn : Nat) (hk : x.k = kn) (hk1 : 1 ≤ kn) (hk2 : kn ≤ 16) (w : World) (ht : x.t.size ≤ 140737488355328) :
    Calls Tryd.prog 55 #[.agg #[.int .u8 x.k, .int .i64 x.slot, .int .i64 x.at_, .int .i64 x.n, .int .u32 x.id, .int .u8 x.g, .string x.t]] w fun e w' => e = .returned (.bool (plainO x)) ∧ Below w.heap.size w w' := by
  have HU := Lib.hid (fun u => uses_any kn hk1 hk2 u)
  have HPO : plainO x = (hasB (fldK kn) 0 (x.slot == 0) (decide (0 ≤ x.slot) && decide (x.slot ≤ 255)) && (hasB (fldK kn) 1 (x.at_ == 0) (decide (0 ≤ x.at_) && decide (x.at_ ≤ 65535)) && (hasB (fldK kn) 2 (x.n == 0) (decide (0 ≤ x.n) && decide (x.n ≤ 65535)) && (hasB (fldK kn) 3 (x.id == 0) true && (hasB (fldK kn) 4 (x.g == 0) true && hasB (fldK kn) 5 (decide (x.t.size = 0)) (decide (x.t.size ≤ 256))))))) := by
    have e : lsO x = fldK kn := by unfold lsO; rw [hk, Int.toNat_natCast]
    unfold plainO p0 p1 p2 p3 p4 p5
    rw [if_neg (by omega), e]
  obtain ⟨k, s, a, m, id, g, t⟩ := x
  replace hk : k = kn := hk
  subst hk
  simp only at HPO ht ⊢
  rw [hasB_rng _ _ _ _ (by decide), hasB_rng _ _ _ _ (by decide), hasB_rng _ _ _ _ (by decide), hasB_one, hasB_one, hasB_str] at HPO
  unfold usesA at HU
  obtain ⟨n0, hn0⟩ : ∃ b : Bool, b = !decide (0 ∈ fldK kn) := ⟨_, rfl⟩
  obtain ⟨n1, hn1⟩ : ∃ b : Bool, b = !decide (1 ∈ fldK kn) := ⟨_, rfl⟩
  obtain ⟨n2, hn2⟩ : ∃ b : Bool, b = !decide (2 ∈ fldK kn) := ⟨_, rfl⟩
  obtain ⟨n3, hn3⟩ : ∃ b : Bool, b = !decide (3 ∈ fldK kn) := ⟨_, rfl⟩
  obtain ⟨n4, hn4⟩ : ∃ b : Bool, b = !decide (4 ∈ fldK kn) := ⟨_, rfl⟩
  obtain ⟨n5, hn5⟩ : ∃ b : Bool, b = !decide (5 ∈ fldK kn) := ⟨_, rfl⟩
  rw [← hn0, ← hn1, ← hn2, ← hn3, ← hn4, ← hn5] at HPO
  have hm0 : decide (0 ∈ fldK kn) = !n0 := by rw [hn0, Bool.not_not]
  have hm1 : decide (1 ∈ fldK kn) = !n1 := by rw [hn1, Bool.not_not]
  have hm2 : decide (2 ∈ fldK kn) = !n2 := by rw [hn2, Bool.not_not]
  have hm3 : decide (3 ∈ fldK kn) = !n3 := by rw [hn3, Bool.not_not]
  have hm4 : decide (4 ∈ fldK kn) = !n4 := by rw [hn4, Bool.not_not]
  have hm5 : decide (5 ∈ fldK kn) = !n5 := by rw [hn5, Bool.not_not]
  rw [hm0, hm1, hm2, hm3, hm4, hm5] at HU
  clear hn0 hn1 hn2 hn3 hn4 hn5 hm0 hm1 hm2 hm3 hm4 hm5
  have hz : decide (t.size = 0) = t.toList.isEmpty := by
    by_cases h : t.size = 0
    · rw [decide_eq_true h, str_empty h, show (⟨#[]⟩ : ByteArray).toList = [] by simp [ByteArray.toList, ByteArray.toList.loop, ByteArray.size]]; rfl
    · rw [decide_eq_false h, str_some h]
  rw [hz] at HPO
  clear hz
  obtain ⟨c0, hc0⟩ : ∃ b : Bool, b = (n0 && (s != 0)) := ⟨_, rfl⟩
  obtain ⟨c1, hc1⟩ : ∃ b : Bool, b = (c0 || (n1 && (a != 0))) := ⟨_, rfl⟩
  obtain ⟨c2, hc2⟩ : ∃ b : Bool, b = (c1 || (n2 && (m != 0))) := ⟨_, rfl⟩
  obtain ⟨c3, hc3⟩ : ∃ b : Bool, b = (c2 || (n3 && (id != 0))) := ⟨_, rfl⟩
  obtain ⟨c4, hc4⟩ : ∃ b : Bool, b = (c3 || (n4 && (g != 0))) := ⟨_, rfl⟩
  obtain ⟨c5, hc5⟩ : ∃ b : Bool, b = (c4 || (n5 && !t.toList.isEmpty)) := ⟨_, rfl⟩
  obtain ⟨d0, hd0⟩ : ∃ b : Bool, b = decide (0 ≤ s) := ⟨_, rfl⟩
  obtain ⟨d1, hd1⟩ : ∃ b : Bool, b = (d0 && decide (s ≤ 255)) := ⟨_, rfl⟩
  obtain ⟨d2, hd2⟩ : ∃ b : Bool, b = (d1 && decide (0 ≤ a)) := ⟨_, rfl⟩
  obtain ⟨d3, hd3⟩ : ∃ b : Bool, b = (d2 && decide (a ≤ 65535)) := ⟨_, rfl⟩
  obtain ⟨d4, hd4⟩ : ∃ b : Bool, b = (d3 && decide (0 ≤ m)) := ⟨_, rfl⟩
  obtain ⟨d5, hd5⟩ : ∃ b : Bool, b = (d4 && decide (m ≤ 65535)) := ⟨_, rfl⟩
  obtain ⟨d6, hd6⟩ : ∃ b : Bool, b = (d5 && decide ((t.size : Int) ≤ 256)) := ⟨_, rfl⟩
  have HE := Lib.hid (show plainO ⟨(kn : Int), s, a, m, id, g, t⟩ = (!c5 && d6) by
    rw [HPO, hd6, hd5, hd4, hd3, hd2, hd1, hd0, hc5, hc4, hc3, hc2, hc1, hc0]
    simp only [Bool.not_or, Bool.and_assoc, Bool.and_comm, Bool.and_left_comm])
  clear HPO
  have HC0 := Lib.hid hc0
  have HC1 := Lib.hid hc1
  have HC2 := Lib.hid hc2
  have HC3 := Lib.hid hc3
  have HC4 := Lib.hid hc4
  have HC5 := Lib.hid hc5
  have HD0 := Lib.hid hd0
  have HD1 := Lib.hid hd1
  have HD2 := Lib.hid hd2
  have HD3 := Lib.hid hd3
  have HD4 := Lib.hid hd4
  have HD5 := Lib.hid hd5
  have HD6 := Lib.hid hd6
  clear hc0 hc1 hc2 hc3 hc4 hc5 hd0 hd1 hd2 hd3 hd4 hd5 hd6
  have hkl : ¬ ((kn : Int) < 1) := by omega
  have hkg : ¬ (16 < (kn : Int)) := by omega
  have hkld := decide_eq_false hkl
  have hkgd := decide_eq_false hkg
  have HB0 := Lib.hid ((Below.refl w.heap.size w).alloc (Nat.le_refl _) (.cells #[.int .u8 kn, .int .i64 s, .int .i64 a, .int .i64 m, .int .u32 id, .int .u8 g, .string t] 51))
  have HBX := Lib.hid (block_new w (.cells #[.int .u8 kn, .int .i64 s, .int .i64 a, .int .i64 m, .int .u32 id, .int .u8 g, .string t] 51))
  go_enter Tryd.func55, Tryd.ntmps55
  go_wp2_with fail
  refine (HU.out _).mono ?_; rintro e w2 ⟨rfl, hb2⟩
  have HBY := Lib.hid (block_below hb2 HBX.out (by simp))
  have HB2 := Lib.hid (HB0.out.trans (hb2.mono HB0.out.size))
  have hsz2 := hb2.size
  simp at hsz2
  clear hb2
  go_upto_region 4 with (fail)
  have HB3 := Lib.hid (HB2.out.alloc (by omega) (.cells #[.bool (!n0), .bool (!n1), .bool (!n2), .bool (!n3), .bool (!n4), .bool (!n5)] 104))
  have HBY3 := Lib.hid (block_alloc HBY.out (.cells #[.bool (!n0), .bool (!n1), .bool (!n2), .bool (!n3), .bool (!n4), .bool (!n5)] 104))
  have HBU := Lib.hid (block_new w2 (.cells #[.bool (!n0), .bool (!n1), .bool (!n2), .bool (!n3), .bool (!n4), .bool (!n5)] 104))
  (try simp only [List.append_eq, List.cons_append, List.nil_append])
  generalize hw3 : World.alloc w2 _ = w3 at *
  clear hw3
  have hlt3 := block_lt HBY3.out
  have hlu3 := block_lt HBU.out
  refine wp_region_seq (by decide) (by kernel_rfl) ?_
  simp only [fill, Act.put, List.setIfInBounds_toArray, List.set_cons_zero, List.set_cons_succ, Nat.zero_add, Nat.reduceAdd]
  apply OpsOK.eq
  · intro vs u hb hd
    clear hd
    go_wp2_with fail
    exact ⟨rfl, _, rfl, Below.refl _ _, rfl⟩
  apply OpsOK.eq
  · intro vs u hb hd
    have qc := block_cell (block_below hb HBU.out hlu3) 0
    simp at qc
    have e0 := hd ⟨0, .data⟩ (by simp) (by decide)
    clear hd
    (try simp at e0)
    (try simp only [e0])
    go_wp2_with fail
    exact ⟨rfl, _, rfl, Below.refl _ _, rfl⟩
  apply OpsOK.ceq (.bool n0)
  · intro vs u hb hd
    have e1 := hd ⟨1, .data⟩ (by simp) (by decide)
    clear hd
    rcases n0 with _ | _
    all_goals
      (try simp at e1)
      (try simp only [e1])
      go_wp2_with fail
      exact ⟨rfl, _, rfl, Below.refl _ _, rfl⟩
  apply OpsOK.eq
  · intro vs u hb hd
    have e2 := hd ⟨2, .data⟩ (by simp) (by decide)
    clear hd
    (try simp at e2)
    (try simp only [e2])
    go_wp2_with fail
    exact ⟨rfl, _, rfl, Below.refl _ _, rfl⟩
  apply OpsOK.geq (n0 = true)
  · intro vs u hb hd
    have e3 := hd ⟨3, .guard⟩ (by simp) (by decide)
    clear hd
    rcases n0 with _ | _
    all_goals
      (try simp at e3)
      (try simp only [e3])
      go_wp2_with fail
      first | exact ⟨rfl, undef, rfl, Below.refl _ _, fun h => (by simp at h)⟩ | exact ⟨rfl, _, rfl, Below.refl _ _, fun _ => rfl⟩
  apply OpsOK.geq (n0 = true)
  · intro vs u hb hd
    have qc := block_cell (block_below hb HBY3.out hlt3) 1
    simp at qc
    have e4 := hd ⟨4, .data⟩ (by simp) (by decide)
    have e3 := hd ⟨3, .guard⟩ (by simp) (by decide)
    clear hd
    rcases n0 with _ | _
    all_goals
      (try simp at e4)
      (try simp only [e4])
      (try simp at e3)
      (try simp only [e3])
      go_wp2_with fail
      first | exact ⟨rfl, undef, rfl, Below.refl _ _, fun h => (by simp at h)⟩ | exact ⟨rfl, _, rfl, Below.refl _ _, fun _ => rfl⟩
  apply OpsOK.geq (n0 = true)
  · intro vs u hb hd
    have e5 := hd ⟨5, .data⟩ (by simp) (by decide)
    have e3 := hd ⟨3, .guard⟩ (by simp) (by decide)
    clear hd
    rcases n0 with _ | _
    all_goals
      (try simp at e5)
      (try simp only [e5])
      (try simp at e3)
      (try simp only [e3])
      go_wp2_with fail
      first | exact ⟨rfl, undef, rfl, Below.refl _ _, fun h => (by simp at h)⟩ | exact ⟨rfl, _, rfl, Below.refl _ _, fun _ => rfl⟩
  apply OpsOK.ceq (.bool c0)
  · intro vs u hb hd
    have e3 := hd ⟨3, .data⟩ (by simp) (by decide)
    have e6 := hd ⟨6, .data⟩ (by simp) (by decide)
    clear hd
    rcases n0 with _ | _
    all_goals
      (try simp at e3)
      (try simp only [e3])
      (try simp at e6)
      (try simp only [e6])
      go_wp2_with fail
      exact ⟨rfl, _, rfl, Below.refl _ _, by rw [HC0.out] <;> first | rfl | simp⟩
  apply OpsOK.eq
  · intro vs u hb hd
    have e7 := hd ⟨7, .data⟩ (by simp) (by decide)
    have e3 := hd ⟨3, .chain⟩ (by simp) (by decide)
    clear hd
    (try simp at e7)
    (try simp only [e7])
    (try simp at e3)
    (try simp only [e3])
    go_wp2_with fail
    exact ⟨rfl, _, rfl, Below.refl _ _, rfl⟩
  apply OpsOK.geq (c0 = false)
  · intro vs u hb hd
    have e8 := hd ⟨8, .guard⟩ (by simp) (by decide)
    clear hd
    rcases c0 with _ | _
    all_goals
      (try simp at e8)
      (try simp only [e8])
      go_wp2_with fail
      first | exact ⟨rfl, undef, rfl, Below.refl _ _, fun h => (by simp at h)⟩ | exact ⟨rfl, _, rfl, Below.refl _ _, fun _ => rfl⟩
  apply OpsOK.geq (c0 = false)
  · intro vs u hb hd
    have qc := block_cell (block_below hb HBU.out hlu3) 1
    simp at qc
    have e9 := hd ⟨9, .data⟩ (by simp) (by decide)
    have e8 := hd ⟨8, .guard⟩ (by simp) (by decide)
    clear hd
    rcases c0 with _ | _
    all_goals
      (try simp at e9)
      (try simp only [e9])
      (try simp at e8)
      (try simp only [e8])
      go_wp2_with fail
      first | exact ⟨rfl, undef, rfl, Below.refl _ _, fun h => (by simp at h)⟩ | exact ⟨rfl, _, rfl, Below.refl _ _, fun _ => rfl⟩
  refine OpsOK.step (fun v _ => c0 = false → v = .bool n1) (fun _ _ _ h _ => h) ?_ ?_
  · intro vs u hb hd
    have e10 := hd ⟨10, .data⟩ (by simp) (by decide)
    have e8 := hd ⟨8, .guard⟩ (by simp) (by decide)
    clear hd
    rcases c0 with _ | _ <;> rcases n1 with _ | _
    all_goals
      (try simp at e10)
      (try simp only [e10])
      (try simp at e8)
      (try simp only [e8])
      go_wp2_with fail
      first | exact ⟨rfl, undef, rfl, Below.refl _ _, by simp⟩ | exact ⟨rfl, _, rfl, Below.refl _ _, by simp⟩
  refine OpsOK.step (fun v _ => (c0 = false → v = .bool n1) ∧ (c0 = true → v = undef)) (fun _ _ _ h _ => h) ?_ ?_
  · intro vs u hb hd
    have e11 := hd ⟨11, .data⟩ (by simp) (by decide)
    have e8 := hd ⟨8, .chain⟩ (by simp) (by decide)
    clear hd
    rcases c0 with _ | _
    all_goals
      (try simp at e11)
      (try simp only [e11])
      (try simp at e8)
      (try simp only [e8])
      go_wp2_with fail
      first | exact ⟨rfl, undef, rfl, Below.refl _ _, by simp⟩ | exact ⟨rfl, _, rfl, Below.refl _ _, by simp⟩
  apply OpsOK.geq (c0 = false ∧ n1 = true)
  · intro vs u hb hd
    have e12 := hd ⟨12, .guard⟩ (by simp) (by decide)
    clear hd
    rcases c0 with _ | _ <;> rcases n1 with _ | _
    all_goals
      (try simp at e12)
      (try simp only [e12])
      go_wp2_with fail
      first | exact ⟨rfl, undef, rfl, Below.refl _ _, fun h => (by simp at h)⟩ | exact ⟨rfl, _, rfl, Below.refl _ _, fun _ => rfl⟩
  apply OpsOK.geq (c0 = false ∧ n1 = true)
  · intro vs u hb hd
    have qc := block_cell (block_below hb HBY3.out hlt3) 2
    simp at qc
    have e13 := hd ⟨13, .data⟩ (by simp) (by decide)
    have e12 := hd ⟨12, .guard⟩ (by simp) (by decide)
    clear hd
    rcases c0 with _ | _ <;> rcases n1 with _ | _
    all_goals
      (try simp at e13)
      (try simp only [e13])
      (try simp at e12)
      (try simp only [e12])
      go_wp2_with fail
      first | exact ⟨rfl, undef, rfl, Below.refl _ _, fun h => (by simp at h)⟩ | exact ⟨rfl, _, rfl, Below.refl _ _, fun _ => rfl⟩
  apply OpsOK.geq (c0 = false ∧ n1 = true)
  · intro vs u hb hd
    have e14 := hd ⟨14, .data⟩ (by simp) (by decide)
    have e12 := hd ⟨12, .guard⟩ (by simp) (by decide)
    clear hd
    rcases c0 with _ | _ <;> rcases n1 with _ | _
    all_goals
      (try simp at e14)
      (try simp only [e14])
      (try simp at e12)
      (try simp only [e12])
      go_wp2_with fail
      first | exact ⟨rfl, undef, rfl, Below.refl _ _, fun h => (by simp at h)⟩ | exact ⟨rfl, _, rfl, Below.refl _ _, fun _ => rfl⟩
  refine OpsOK.step (fun v _ => c0 = false → v = .bool (n1 && (a != 0))) (fun _ _ _ h _ => h) ?_ ?_
  · intro vs u hb hd
    have e12 := hd ⟨12, .data⟩ (by simp) (by decide)
    have e15 := hd ⟨15, .data⟩ (by simp) (by decide)
    have e8 := hd ⟨8, .guard⟩ (by simp) (by decide)
    clear hd
    rcases c0 with _ | _ <;> rcases n1 with _ | _
    all_goals
      (try simp at e12)
      (try simp only [e12])
      (try simp at e15)
      (try simp only [e15])
      (try simp at e8)
      (try simp only [e8])
      go_wp2_with fail
      first | exact ⟨rfl, undef, rfl, Below.refl _ _, by simp⟩ | exact ⟨rfl, _, rfl, Below.refl _ _, by simp⟩
  apply OpsOK.ceq (.bool c1)
  · intro vs u hb hd
    have e8 := hd ⟨8, .data⟩ (by simp) (by decide)
    have e16 := hd ⟨16, .data⟩ (by simp) (by decide)
    clear hd
    rcases c0 with _ | _
    all_goals
      (try simp at e8)
      (try simp only [e8])
      (try simp at e16)
      (try simp only [e16])
      go_wp2_with fail
      exact ⟨rfl, _, rfl, Below.refl _ _, by rw [HC1.out] <;> first | rfl | simp⟩
  apply OpsOK.eq
  · intro vs u hb hd
    have e17 := hd ⟨17, .data⟩ (by simp) (by decide)
    have e12 := hd ⟨12, .chain⟩ (by simp) (by decide)
    clear hd
    (try simp at e17)
    (try simp only [e17])
    (try simp at e12)
    (try simp only [e12])
    go_wp2_with fail
    exact ⟨rfl, _, rfl, Below.refl _ _, rfl⟩
  apply OpsOK.geq (c1 = false)
  · intro vs u hb hd
    have e18 := hd ⟨18, .guard⟩ (by simp) (by decide)
    clear hd
    rcases c1 with _ | _
    all_goals
      (try simp at e18)
      (try simp only [e18])
      go_wp2_with fail
      first | exact ⟨rfl, undef, rfl, Below.refl _ _, fun h => (by simp at h)⟩ | exact ⟨rfl, _, rfl, Below.refl _ _, fun _ => rfl⟩
  apply OpsOK.geq (c1 = false)
  · intro vs u hb hd
    have qc := block_cell (block_below hb HBU.out hlu3) 2
    simp at qc
    have e19 := hd ⟨19, .data⟩ (by simp) (by decide)
    have e18 := hd ⟨18, .guard⟩ (by simp) (by decide)
    clear hd
    rcases c1 with _ | _
    all_goals
      (try simp at e19)
      (try simp only [e19])
      (try simp at e18)
      (try simp only [e18])
      go_wp2_with fail
      first | exact ⟨rfl, undef, rfl, Below.refl _ _, fun h => (by simp at h)⟩ | exact ⟨rfl, _, rfl, Below.refl _ _, fun _ => rfl⟩
  refine OpsOK.step (fun v _ => c1 = false → v = .bool n2) (fun _ _ _ h _ => h) ?_ ?_
  · intro vs u hb hd
    have e20 := hd ⟨20, .data⟩ (by simp) (by decide)
    have e18 := hd ⟨18, .guard⟩ (by simp) (by decide)
    clear hd
    rcases c1 with _ | _ <;> rcases n2 with _ | _
    all_goals
      (try simp at e20)
      (try simp only [e20])
      (try simp at e18)
      (try simp only [e18])
      go_wp2_with fail
      first | exact ⟨rfl, undef, rfl, Below.refl _ _, by simp⟩ | exact ⟨rfl, _, rfl, Below.refl _ _, by simp⟩
  refine OpsOK.step (fun v _ => (c1 = false → v = .bool n2) ∧ (c1 = true → v = undef)) (fun _ _ _ h _ => h) ?_ ?_
  · intro vs u hb hd
    have e21 := hd ⟨21, .data⟩ (by simp) (by decide)
    have e18 := hd ⟨18, .chain⟩ (by simp) (by decide)
    clear hd
    rcases c1 with _ | _
    all_goals
      (try simp at e21)
      (try simp only [e21])
      (try simp at e18)
      (try simp only [e18])
      go_wp2_with fail
      first | exact ⟨rfl, undef, rfl, Below.refl _ _, by simp⟩ | exact ⟨rfl, _, rfl, Below.refl _ _, by simp⟩
  apply OpsOK.geq (c1 = false ∧ n2 = true)
  · intro vs u hb hd
    have e22 := hd ⟨22, .guard⟩ (by simp) (by decide)
    clear hd
    rcases c1 with _ | _ <;> rcases n2 with _ | _
    all_goals
      (try simp at e22)
      (try simp only [e22])
      go_wp2_with fail
      first | exact ⟨rfl, undef, rfl, Below.refl _ _, fun h => (by simp at h)⟩ | exact ⟨rfl, _, rfl, Below.refl _ _, fun _ => rfl⟩
  apply OpsOK.geq (c1 = false ∧ n2 = true)
  · intro vs u hb hd
    have qc := block_cell (block_below hb HBY3.out hlt3) 3
    simp at qc
    have e23 := hd ⟨23, .data⟩ (by simp) (by decide)
    have e22 := hd ⟨22, .guard⟩ (by simp) (by decide)
    clear hd
    rcases c1 with _ | _ <;> rcases n2 with _ | _
    all_goals
      (try simp at e23)
      (try simp only [e23])
      (try simp at e22)
      (try simp only [e22])
      go_wp2_with fail
      first | exact ⟨rfl, undef, rfl, Below.refl _ _, fun h => (by simp at h)⟩ | exact ⟨rfl, _, rfl, Below.refl _ _, fun _ => rfl⟩
  apply OpsOK.geq (c1 = false ∧ n2 = true)
  · intro vs u hb hd
    have e24 := hd ⟨24, .data⟩ (by simp) (by decide)
    have e22 := hd ⟨22, .guard⟩ (by simp) (by decide)
    clear hd
    rcases c1 with _ | _ <;> rcases n2 with _ | _
    all_goals
      (try simp at e24)
      (try simp only [e24])
      (try simp at e22)
      (try simp only [e22])
      go_wp2_with fail
      first | exact ⟨rfl, undef, rfl, Below.refl _ _, fun h => (by simp at h)⟩ | exact ⟨rfl, _, rfl, Below.refl _ _, fun _ => rfl⟩
  refine OpsOK.step (fun v _ => c1 = false → v = .bool (n2 && (m != 0))) (fun _ _ _ h _ => h) ?_ ?_
  · intro vs u hb hd
    have e22 := hd ⟨22, .data⟩ (by simp) (by decide)
    have e25 := hd ⟨25, .data⟩ (by simp) (by decide)
    have e18 := hd ⟨18, .guard⟩ (by simp) (by decide)
    clear hd
    rcases c1 with _ | _ <;> rcases n2 with _ | _
    all_goals
      (try simp at e22)
      (try simp only [e22])
      (try simp at e25)
      (try simp only [e25])
      (try simp at e18)
      (try simp only [e18])
      go_wp2_with fail
      first | exact ⟨rfl, undef, rfl, Below.refl _ _, by simp⟩ | exact ⟨rfl, _, rfl, Below.refl _ _, by simp⟩
  apply OpsOK.ceq (.bool c2)
  · intro vs u hb hd
    have e18 := hd ⟨18, .data⟩ (by simp) (by decide)
    have e26 := hd ⟨26, .data⟩ (by simp) (by decide)
    clear hd
    rcases c1 with _ | _
    all_goals
      (try simp at e18)
      (try simp only [e18])
      (try simp at e26)
      (try simp only [e26])
      go_wp2_with fail
      exact ⟨rfl, _, rfl, Below.refl _ _, by rw [HC2.out] <;> first | rfl | simp⟩
  apply OpsOK.eq
  · intro vs u hb hd
    have e27 := hd ⟨27, .data⟩ (by simp) (by decide)
    have e22 := hd ⟨22, .chain⟩ (by simp) (by decide)
    clear hd
    (try simp at e27)
    (try simp only [e27])
    (try simp at e22)
    (try simp only [e22])
    go_wp2_with fail
    exact ⟨rfl, _, rfl, Below.refl _ _, rfl⟩
  apply OpsOK.geq (c2 = false)
  · intro vs u hb hd
    have e28 := hd ⟨28, .guard⟩ (by simp) (by decide)
    clear hd
    rcases c2 with _ | _
    all_goals
      (try simp at e28)
      (try simp only [e28])
      go_wp2_with fail
      first | exact ⟨rfl, undef, rfl, Below.refl _ _, fun h => (by simp at h)⟩ | exact ⟨rfl, _, rfl, Below.refl _ _, fun _ => rfl⟩
  apply OpsOK.geq (c2 = false)
  · intro vs u hb hd
    have qc := block_cell (block_below hb HBU.out hlu3) 3
    simp at qc
    have e29 := hd ⟨29, .data⟩ (by simp) (by decide)
    have e28 := hd ⟨28, .guard⟩ (by simp) (by decide)
    clear hd
    rcases c2 with _ | _
    all_goals
      (try simp at e29)
      (try simp only [e29])
      (try simp at e28)
      (try simp only [e28])
      go_wp2_with fail
      first | exact ⟨rfl, undef, rfl, Below.refl _ _, fun h => (by simp at h)⟩ | exact ⟨rfl, _, rfl, Below.refl _ _, fun _ => rfl⟩
  refine OpsOK.step (fun v _ => c2 = false → v = .bool n3) (fun _ _ _ h _ => h) ?_ ?_
  · intro vs u hb hd
    have e30 := hd ⟨30, .data⟩ (by simp) (by decide)
    have e28 := hd ⟨28, .guard⟩ (by simp) (by decide)
    clear hd
    rcases c2 with _ | _ <;> rcases n3 with _ | _
    all_goals
      (try simp at e30)
      (try simp only [e30])
      (try simp at e28)
      (try simp only [e28])
      go_wp2_with fail
      first | exact ⟨rfl, undef, rfl, Below.refl _ _, by simp⟩ | exact ⟨rfl, _, rfl, Below.refl _ _, by simp⟩
  refine OpsOK.step (fun v _ => (c2 = false → v = .bool n3) ∧ (c2 = true → v = undef)) (fun _ _ _ h _ => h) ?_ ?_
  · intro vs u hb hd
    have e31 := hd ⟨31, .data⟩ (by simp) (by decide)
    have e28 := hd ⟨28, .chain⟩ (by simp) (by decide)
    clear hd
    rcases c2 with _ | _
    all_goals
      (try simp at e31)
      (try simp only [e31])
      (try simp at e28)
      (try simp only [e28])
      go_wp2_with fail
      first | exact ⟨rfl, undef, rfl, Below.refl _ _, by simp⟩ | exact ⟨rfl, _, rfl, Below.refl _ _, by simp⟩
  apply OpsOK.geq (c2 = false ∧ n3 = true)
  · intro vs u hb hd
    have e32 := hd ⟨32, .guard⟩ (by simp) (by decide)
    clear hd
    rcases c2 with _ | _ <;> rcases n3 with _ | _
    all_goals
      (try simp at e32)
      (try simp only [e32])
      go_wp2_with fail
      first | exact ⟨rfl, undef, rfl, Below.refl _ _, fun h => (by simp at h)⟩ | exact ⟨rfl, _, rfl, Below.refl _ _, fun _ => rfl⟩
  apply OpsOK.geq (c2 = false ∧ n3 = true)
  · intro vs u hb hd
    have qc := block_cell (block_below hb HBY3.out hlt3) 4
    simp at qc
    have e33 := hd ⟨33, .data⟩ (by simp) (by decide)
    have e32 := hd ⟨32, .guard⟩ (by simp) (by decide)
    clear hd
    rcases c2 with _ | _ <;> rcases n3 with _ | _
    all_goals
      (try simp at e33)
      (try simp only [e33])
      (try simp at e32)
      (try simp only [e32])
      go_wp2_with fail
      first | exact ⟨rfl, undef, rfl, Below.refl _ _, fun h => (by simp at h)⟩ | exact ⟨rfl, _, rfl, Below.refl _ _, fun _ => rfl⟩
  apply OpsOK.geq (c2 = false ∧ n3 = true)
  · intro vs u hb hd
    have e34 := hd ⟨34, .data⟩ (by simp) (by decide)
    have e32 := hd ⟨32, .guard⟩ (by simp) (by decide)
    clear hd
    rcases c2 with _ | _ <;> rcases n3 with _ | _
    all_goals
      (try simp at e34)
      (try simp only [e34])
      (try simp at e32)
      (try simp only [e32])
      go_wp2_with fail
      first | exact ⟨rfl, undef, rfl, Below.refl _ _, fun h => (by simp at h)⟩ | exact ⟨rfl, _, rfl, Below.refl _ _, fun _ => rfl⟩
  refine OpsOK.step (fun v _ => c2 = false → v = .bool (n3 && (id != 0))) (fun _ _ _ h _ => h) ?_ ?_
  · intro vs u hb hd
    have e32 := hd ⟨32, .data⟩ (by simp) (by decide)
    have e35 := hd ⟨35, .data⟩ (by simp) (by decide)
    have e28 := hd ⟨28, .guard⟩ (by simp) (by decide)
    clear hd
    rcases c2 with _ | _ <;> rcases n3 with _ | _
    all_goals
      (try simp at e32)
      (try simp only [e32])
      (try simp at e35)
      (try simp only [e35])
      (try simp at e28)
      (try simp only [e28])
      go_wp2_with fail
      first | exact ⟨rfl, undef, rfl, Below.refl _ _, by simp⟩ | exact ⟨rfl, _, rfl, Below.refl _ _, by simp⟩
  apply OpsOK.ceq (.bool c3)
  · intro vs u hb hd
    have e28 := hd ⟨28, .data⟩ (by simp) (by decide)
    have e36 := hd ⟨36, .data⟩ (by simp) (by decide)
    clear hd
    rcases c2 with _ | _
    all_goals
      (try simp at e28)
      (try simp only [e28])
      (try simp at e36)
      (try simp only [e36])
      go_wp2_with fail
      exact ⟨rfl, _, rfl, Below.refl _ _, by rw [HC3.out] <;> first | rfl | simp⟩
  apply OpsOK.eq
  · intro vs u hb hd
    have e37 := hd ⟨37, .data⟩ (by simp) (by decide)
    have e32 := hd ⟨32, .chain⟩ (by simp) (by decide)
    clear hd
    (try simp at e37)
    (try simp only [e37])
    (try simp at e32)
    (try simp only [e32])
    go_wp2_with fail
    exact ⟨rfl, _, rfl, Below.refl _ _, rfl⟩
  apply OpsOK.geq (c3 = false)
  · intro vs u hb hd
    have e38 := hd ⟨38, .guard⟩ (by simp) (by decide)
    clear hd
    rcases c3 with _ | _
    all_goals
      (try simp at e38)
      (try simp only [e38])
      go_wp2_with fail
      first | exact ⟨rfl, undef, rfl, Below.refl _ _, fun h => (by simp at h)⟩ | exact ⟨rfl, _, rfl, Below.refl _ _, fun _ => rfl⟩
  apply OpsOK.geq (c3 = false)
  · intro vs u hb hd
    have qc := block_cell (block_below hb HBU.out hlu3) 4
    simp at qc
    have e39 := hd ⟨39, .data⟩ (by simp) (by decide)
    have e38 := hd ⟨38, .guard⟩ (by simp) (by decide)
    clear hd
    rcases c3 with _ | _
    all_goals
      (try simp at e39)
      (try simp only [e39])
      (try simp at e38)
      (try simp only [e38])
      go_wp2_with fail
      first | exact ⟨rfl, undef, rfl, Below.refl _ _, fun h => (by simp at h)⟩ | exact ⟨rfl, _, rfl, Below.refl _ _, fun _ => rfl⟩
  refine OpsOK.step (fun v _ => c3 = false → v = .bool n4) (fun _ _ _ h _ => h) ?_ ?_
  · intro vs u hb hd
    have e40 := hd ⟨40, .data⟩ (by simp) (by decide)
    have e38 := hd ⟨38, .guard⟩ (by simp) (by decide)
    clear hd
    rcases c3 with _ | _ <;> rcases n4 with _ | _
    all_goals
      (try simp at e40)
      (try simp only [e40])
      (try simp at e38)
      (try simp only [e38])
      go_wp2_with fail
      first | exact ⟨rfl, undef, rfl, Below.refl _ _, by simp⟩ | exact ⟨rfl, _, rfl, Below.refl _ _, by simp⟩
  refine OpsOK.step (fun v _ => (c3 = false → v = .bool n4) ∧ (c3 = true → v = undef)) (fun _ _ _ h _ => h) ?_ ?_
  · intro vs u hb hd
    have e41 := hd ⟨41, .data⟩ (by simp) (by decide)
    have e38 := hd ⟨38, .chain⟩ (by simp) (by decide)
    clear hd
    rcases c3 with _ | _
    all_goals
      (try simp at e41)
      (try simp only [e41])
      (try simp at e38)
      (try simp only [e38])
      go_wp2_with fail
      first | exact ⟨rfl, undef, rfl, Below.refl _ _, by simp⟩ | exact ⟨rfl, _, rfl, Below.refl _ _, by simp⟩
  apply OpsOK.geq (c3 = false ∧ n4 = true)
  · intro vs u hb hd
    have e42 := hd ⟨42, .guard⟩ (by simp) (by decide)
    clear hd
    rcases c3 with _ | _ <;> rcases n4 with _ | _
    all_goals
      (try simp at e42)
      (try simp only [e42])
      go_wp2_with fail
      first | exact ⟨rfl, undef, rfl, Below.refl _ _, fun h => (by simp at h)⟩ | exact ⟨rfl, _, rfl, Below.refl _ _, fun _ => rfl⟩
  apply OpsOK.geq (c3 = false ∧ n4 = true)
  · intro vs u hb hd
    have qc := block_cell (block_below hb HBY3.out hlt3) 5
    simp at qc
    have e43 := hd ⟨43, .data⟩ (by simp) (by decide)
    have e42 := hd ⟨42, .guard⟩ (by simp) (by decide)
    clear hd
    rcases c3 with _ | _ <;> rcases n4 with _ | _
    all_goals
      (try simp at e43)
      (try simp only [e43])
      (try simp at e42)
      (try simp only [e42])
      go_wp2_with fail
      first | exact ⟨rfl, undef, rfl, Below.refl _ _, fun h => (by simp at h)⟩ | exact ⟨rfl, _, rfl, Below.refl _ _, fun _ => rfl⟩
  apply OpsOK.geq (c3 = false ∧ n4 = true)
  · intro vs u hb hd
    have e44 := hd ⟨44, .data⟩ (by simp) (by decide)
    have e42 := hd ⟨42, .guard⟩ (by simp) (by decide)
    clear hd
    rcases c3 with _ | _ <;> rcases n4 with _ | _
    all_goals
      (try simp at e44)
      (try simp only [e44])
      (try simp at e42)
      (try simp only [e42])
      go_wp2_with fail
      first | exact ⟨rfl, undef, rfl, Below.refl _ _, fun h => (by simp at h)⟩ | exact ⟨rfl, _, rfl, Below.refl _ _, fun _ => rfl⟩
  refine OpsOK.step (fun v _ => c3 = false → v = .bool (n4 && (g != 0))) (fun _ _ _ h _ => h) ?_ ?_
  · intro vs u hb hd
    have e42 := hd ⟨42, .data⟩ (by simp) (by decide)
    have e45 := hd ⟨45, .data⟩ (by simp) (by decide)
    have e38 := hd ⟨38, .guard⟩ (by simp) (by decide)
    clear hd
    rcases c3 with _ | _ <;> rcases n4 with _ | _
    all_goals
      (try simp at e42)
      (try simp only [e42])
      (try simp at e45)
      (try simp only [e45])
      (try simp at e38)
      (try simp only [e38])
      go_wp2_with fail
      first | exact ⟨rfl, undef, rfl, Below.refl _ _, by simp⟩ | exact ⟨rfl, _, rfl, Below.refl _ _, by simp⟩
  apply OpsOK.ceq (.bool c4)
  · intro vs u hb hd
    have e38 := hd ⟨38, .data⟩ (by simp) (by decide)
    have e46 := hd ⟨46, .data⟩ (by simp) (by decide)
    clear hd
    rcases c3 with _ | _
    all_goals
      (try simp at e38)
      (try simp only [e38])
      (try simp at e46)
      (try simp only [e46])
      go_wp2_with fail
      exact ⟨rfl, _, rfl, Below.refl _ _, by rw [HC4.out] <;> first | rfl | simp⟩
  apply OpsOK.eq
  · intro vs u hb hd
    have e47 := hd ⟨47, .data⟩ (by simp) (by decide)
    have e42 := hd ⟨42, .chain⟩ (by simp) (by decide)
    clear hd
    (try simp at e47)
    (try simp only [e47])
    (try simp at e42)
    (try simp only [e42])
    go_wp2_with fail
    exact ⟨rfl, _, rfl, Below.refl _ _, rfl⟩
  apply OpsOK.geq (c4 = false)
  · intro vs u hb hd
    have e48 := hd ⟨48, .guard⟩ (by simp) (by decide)
    clear hd
    rcases c4 with _ | _
    all_goals
      (try simp at e48)
      (try simp only [e48])
      go_wp2_with fail
      first | exact ⟨rfl, undef, rfl, Below.refl _ _, fun h => (by simp at h)⟩ | exact ⟨rfl, _, rfl, Below.refl _ _, fun _ => rfl⟩
  apply OpsOK.geq (c4 = false)
  · intro vs u hb hd
    have qc := block_cell (block_below hb HBU.out hlu3) 5
    simp at qc
    have e49 := hd ⟨49, .data⟩ (by simp) (by decide)
    have e48 := hd ⟨48, .guard⟩ (by simp) (by decide)
    clear hd
    rcases c4 with _ | _
    all_goals
      (try simp at e49)
      (try simp only [e49])
      (try simp at e48)
      (try simp only [e48])
      go_wp2_with fail
      first | exact ⟨rfl, undef, rfl, Below.refl _ _, fun h => (by simp at h)⟩ | exact ⟨rfl, _, rfl, Below.refl _ _, fun _ => rfl⟩
  refine OpsOK.step (fun v _ => c4 = false → v = .bool n5) (fun _ _ _ h _ => h) ?_ ?_
  · intro vs u hb hd
    have e50 := hd ⟨50, .data⟩ (by simp) (by decide)
    have e48 := hd ⟨48, .guard⟩ (by simp) (by decide)
    clear hd
    rcases c4 with _ | _ <;> rcases n5 with _ | _
    all_goals
      (try simp at e50)
      (try simp only [e50])
      (try simp at e48)
      (try simp only [e48])
      go_wp2_with fail
      first | exact ⟨rfl, undef, rfl, Below.refl _ _, by simp⟩ | exact ⟨rfl, _, rfl, Below.refl _ _, by simp⟩
  refine OpsOK.step (fun v _ => (c4 = false → v = .bool n5) ∧ (c4 = true → v = undef)) (fun _ _ _ h _ => h) ?_ ?_
  · intro vs u hb hd
    have e51 := hd ⟨51, .data⟩ (by simp) (by decide)
    have e48 := hd ⟨48, .chain⟩ (by simp) (by decide)
    clear hd
    rcases c4 with _ | _
    all_goals
      (try simp at e51)
      (try simp only [e51])
      (try simp at e48)
      (try simp only [e48])
      go_wp2_with fail
      first | exact ⟨rfl, undef, rfl, Below.refl _ _, by simp⟩ | exact ⟨rfl, _, rfl, Below.refl _ _, by simp⟩
  apply OpsOK.geq (c4 = false ∧ n5 = true)
  · intro vs u hb hd
    have e52 := hd ⟨52, .guard⟩ (by simp) (by decide)
    clear hd
    rcases c4 with _ | _ <;> rcases n5 with _ | _
    all_goals
      (try simp at e52)
      (try simp only [e52])
      go_wp2_with fail
      first | exact ⟨rfl, undef, rfl, Below.refl _ _, fun h => (by simp at h)⟩ | exact ⟨rfl, _, rfl, Below.refl _ _, fun _ => rfl⟩
  apply OpsOK.geq (c4 = false ∧ n5 = true)
  · intro vs u hb hd
    have qc := block_cell (block_below hb HBY3.out hlt3) 6
    simp at qc
    have e53 := hd ⟨53, .data⟩ (by simp) (by decide)
    have e52 := hd ⟨52, .guard⟩ (by simp) (by decide)
    clear hd
    rcases c4 with _ | _ <;> rcases n5 with _ | _
    all_goals
      (try simp at e53)
      (try simp only [e53])
      (try simp at e52)
      (try simp only [e52])
      go_wp2_with fail
      first | exact ⟨rfl, undef, rfl, Below.refl _ _, fun h => (by simp at h)⟩ | exact ⟨rfl, _, rfl, Below.refl _ _, fun _ => rfl⟩
  apply OpsOK.geq (c4 = false ∧ n5 = true)
  · intro vs u hb hd
    have e54 := hd ⟨54, .data⟩ (by simp) (by decide)
    have e52 := hd ⟨52, .guard⟩ (by simp) (by decide)
    clear hd
    rcases c4 with _ | _ <;> rcases n5 with _ | _
    all_goals
      (try simp at e54)
      (try simp only [e54])
      (try simp at e52)
      (try simp only [e52])
      go_wp2_with fail
      first | exact ⟨rfl, undef, rfl, Below.refl _ _, fun h => (by simp at h)⟩ | exact ⟨rfl, _, rfl, Below.refl _ _, fun _ => rfl⟩
  refine OpsOK.step (fun v _ => c4 = false → v = .bool (n5 && !t.toList.isEmpty)) (fun _ _ _ h _ => h) ?_ ?_
  · intro vs u hb hd
    have e52 := hd ⟨52, .data⟩ (by simp) (by decide)
    have e55 := hd ⟨55, .data⟩ (by simp) (by decide)
    have e48 := hd ⟨48, .guard⟩ (by simp) (by decide)
    clear hd
    rcases c4 with _ | _ <;> rcases n5 with _ | _
    all_goals
      (try simp at e52)
      (try simp only [e52])
      (try simp at e55)
      (try simp only [e55])
      (try simp at e48)
      (try simp only [e48])
      go_wp2_with fail
      first | exact ⟨rfl, undef, rfl, Below.refl _ _, by simp⟩ | exact ⟨rfl, _, rfl, Below.refl _ _, by simp⟩
  apply OpsOK.ceq (.bool c5)
  · intro vs u hb hd
    have e48 := hd ⟨48, .data⟩ (by simp) (by decide)
    have e56 := hd ⟨56, .data⟩ (by simp) (by decide)
    clear hd
    rcases c4 with _ | _
    all_goals
      (try simp at e48)
      (try simp only [e48])
      (try simp at e56)
      (try simp only [e56])
      go_wp2_with fail
      exact ⟨rfl, _, rfl, Below.refl _ _, by rw [HC5.out] <;> first | rfl | simp⟩
  refine OpsOK.done ?_
  intro vs u hbu hS
  have h57 := hS 57 (by decide)
  simp at h57
  simp only [h57]
  clear hS h57
  have HBY4 := Lib.hid (block_below hbu HBY3.out hlt3)
  have HB4 := Lib.hid (HB3.out.trans (hbu.mono HB3.out.size))
  clear hbu
  rcases c5 with _ | _
  · have HBZ := HBY4
    go_upto_region 6 with (fail)
    have hlt3 := block_lt HBY4.out
    refine wp_region_seq (by decide) (by kernel_rfl) ?_
    simp only [fill, Act.put, List.setIfInBounds_toArray, List.set_cons_zero, List.set_cons_succ, Nat.zero_add, Nat.reduceAdd]
    apply OpsOK.eq
    · intro vs u hb hd
      clear hd
      go_wp2_with fail
      exact ⟨rfl, _, rfl, Below.refl _ _, rfl⟩
    apply OpsOK.eq
    · intro vs u hb hd
      have qc := block_cell (block_below hb HBY4.out hlt3) 1
      simp at qc
      have e0 := hd ⟨0, .data⟩ (by simp) (by decide)
      clear hd
      (try simp at e0)
      (try simp only [e0])
      go_wp2_with fail
      exact ⟨rfl, _, rfl, Below.refl _ _, rfl⟩
    apply OpsOK.ceq (.bool d0)
    · intro vs u hb hd
      have e1 := hd ⟨1, .data⟩ (by simp) (by decide)
      clear hd
      (try simp at e1)
      (try simp only [e1])
      go_wp2_with fail
      exact ⟨rfl, _, rfl, Below.refl _ _, by rw [HD0.out] <;> first | rfl | simp⟩
    apply OpsOK.eq
    · intro vs u hb hd
      have e2 := hd ⟨2, .data⟩ (by simp) (by decide)
      clear hd
      (try simp at e2)
      (try simp only [e2])
      go_wp2_with fail
      exact ⟨rfl, _, rfl, Below.refl _ _, rfl⟩
    apply OpsOK.geq (d0 = true)
    · intro vs u hb hd
      have e3 := hd ⟨3, .guard⟩ (by simp) (by decide)
      clear hd
      rcases d0 with _ | _
      all_goals
        (try simp at e3)
        (try simp only [e3])
        go_wp2_with fail
        first | exact ⟨rfl, undef, rfl, Below.refl _ _, fun h => (by simp at h)⟩ | exact ⟨rfl, _, rfl, Below.refl _ _, fun _ => rfl⟩
    apply OpsOK.geq (d0 = true)
    · intro vs u hb hd
      have qc := block_cell (block_below hb HBY4.out hlt3) 1
      simp at qc
      have e4 := hd ⟨4, .data⟩ (by simp) (by decide)
      have e3 := hd ⟨3, .guard⟩ (by simp) (by decide)
      clear hd
      rcases d0 with _ | _
      all_goals
        (try simp at e4)
        (try simp only [e4])
        (try simp at e3)
        (try simp only [e3])
        go_wp2_with fail
        first | exact ⟨rfl, undef, rfl, Below.refl _ _, fun h => (by simp at h)⟩ | exact ⟨rfl, _, rfl, Below.refl _ _, fun _ => rfl⟩
    apply OpsOK.geq (d0 = true)
    · intro vs u hb hd
      have e5 := hd ⟨5, .data⟩ (by simp) (by decide)
      have e3 := hd ⟨3, .guard⟩ (by simp) (by decide)
      clear hd
      rcases d0 with _ | _
      all_goals
        (try simp at e5)
        (try simp only [e5])
        (try simp at e3)
        (try simp only [e3])
        go_wp2_with fail
        first | exact ⟨rfl, undef, rfl, Below.refl _ _, fun h => (by simp at h)⟩ | exact ⟨rfl, _, rfl, Below.refl _ _, fun _ => rfl⟩
    apply OpsOK.ceq (.bool d1)
    · intro vs u hb hd
      have e3 := hd ⟨3, .data⟩ (by simp) (by decide)
      have e6 := hd ⟨6, .data⟩ (by simp) (by decide)
      clear hd
      rcases d0 with _ | _
      all_goals
        (try simp at e3)
        (try simp only [e3])
        (try simp at e6)
        (try simp only [e6])
        go_wp2_with fail
        exact ⟨rfl, _, rfl, Below.refl _ _, by rw [HD1.out] <;> first | rfl | simp⟩
    apply OpsOK.eq
    · intro vs u hb hd
      have e7 := hd ⟨7, .data⟩ (by simp) (by decide)
      have e3 := hd ⟨3, .chain⟩ (by simp) (by decide)
      clear hd
      (try simp at e7)
      (try simp only [e7])
      (try simp at e3)
      (try simp only [e3])
      go_wp2_with fail
      exact ⟨rfl, _, rfl, Below.refl _ _, rfl⟩
    apply OpsOK.geq (d1 = true)
    · intro vs u hb hd
      have e8 := hd ⟨8, .guard⟩ (by simp) (by decide)
      clear hd
      rcases d1 with _ | _
      all_goals
        (try simp at e8)
        (try simp only [e8])
        go_wp2_with fail
        first | exact ⟨rfl, undef, rfl, Below.refl _ _, fun h => (by simp at h)⟩ | exact ⟨rfl, _, rfl, Below.refl _ _, fun _ => rfl⟩
    apply OpsOK.geq (d1 = true)
    · intro vs u hb hd
      have qc := block_cell (block_below hb HBY4.out hlt3) 2
      simp at qc
      have e9 := hd ⟨9, .data⟩ (by simp) (by decide)
      have e8 := hd ⟨8, .guard⟩ (by simp) (by decide)
      clear hd
      rcases d1 with _ | _
      all_goals
        (try simp at e9)
        (try simp only [e9])
        (try simp at e8)
        (try simp only [e8])
        go_wp2_with fail
        first | exact ⟨rfl, undef, rfl, Below.refl _ _, fun h => (by simp at h)⟩ | exact ⟨rfl, _, rfl, Below.refl _ _, fun _ => rfl⟩
    apply OpsOK.geq (d1 = true)
    · intro vs u hb hd
      have e10 := hd ⟨10, .data⟩ (by simp) (by decide)
      have e8 := hd ⟨8, .guard⟩ (by simp) (by decide)
      clear hd
      rcases d1 with _ | _
      all_goals
        (try simp at e10)
        (try simp only [e10])
        (try simp at e8)
        (try simp only [e8])
        go_wp2_with fail
        first | exact ⟨rfl, undef, rfl, Below.refl _ _, fun h => (by simp at h)⟩ | exact ⟨rfl, _, rfl, Below.refl _ _, fun _ => rfl⟩
    apply OpsOK.ceq (.bool d2)
    · intro vs u hb hd
      have e8 := hd ⟨8, .data⟩ (by simp) (by decide)
      have e11 := hd ⟨11, .data⟩ (by simp) (by decide)
      clear hd
      rcases d1 with _ | _
      all_goals
        (try simp at e8)
        (try simp only [e8])
        (try simp at e11)
        (try simp only [e11])
        go_wp2_with fail
        exact ⟨rfl, _, rfl, Below.refl _ _, by rw [HD2.out] <;> first | rfl | simp⟩
    apply OpsOK.eq
    · intro vs u hb hd
      have e12 := hd ⟨12, .data⟩ (by simp) (by decide)
      have e8 := hd ⟨8, .chain⟩ (by simp) (by decide)
      clear hd
      (try simp at e12)
      (try simp only [e12])
      (try simp at e8)
      (try simp only [e8])
      go_wp2_with fail
      exact ⟨rfl, _, rfl, Below.refl _ _, rfl⟩
    apply OpsOK.geq (d2 = true)
    · intro vs u hb hd
      have e13 := hd ⟨13, .guard⟩ (by simp) (by decide)
      clear hd
      rcases d2 with _ | _
      all_goals
        (try simp at e13)
        (try simp only [e13])
        go_wp2_with fail
        first | exact ⟨rfl, undef, rfl, Below.refl _ _, fun h => (by simp at h)⟩ | exact ⟨rfl, _, rfl, Below.refl _ _, fun _ => rfl⟩
    apply OpsOK.geq (d2 = true)
    · intro vs u hb hd
      have qc := block_cell (block_below hb HBY4.out hlt3) 2
      simp at qc
      have e14 := hd ⟨14, .data⟩ (by simp) (by decide)
      have e13 := hd ⟨13, .guard⟩ (by simp) (by decide)
      clear hd
      rcases d2 with _ | _
      all_goals
        (try simp at e14)
        (try simp only [e14])
        (try simp at e13)
        (try simp only [e13])
        go_wp2_with fail
        first | exact ⟨rfl, undef, rfl, Below.refl _ _, fun h => (by simp at h)⟩ | exact ⟨rfl, _, rfl, Below.refl _ _, fun _ => rfl⟩
    apply OpsOK.geq (d2 = true)
    · intro vs u hb hd
      have e15 := hd ⟨15, .data⟩ (by simp) (by decide)
      have e13 := hd ⟨13, .guard⟩ (by simp) (by decide)
      clear hd
      rcases d2 with _ | _
      all_goals
        (try simp at e15)
        (try simp only [e15])
        (try simp at e13)
        (try simp only [e13])
        go_wp2_with fail
        first | exact ⟨rfl, undef, rfl, Below.refl _ _, fun h => (by simp at h)⟩ | exact ⟨rfl, _, rfl, Below.refl _ _, fun _ => rfl⟩
    apply OpsOK.ceq (.bool d3)
    · intro vs u hb hd
      have e13 := hd ⟨13, .data⟩ (by simp) (by decide)
      have e16 := hd ⟨16, .data⟩ (by simp) (by decide)
      clear hd
      rcases d2 with _ | _
      all_goals
        (try simp at e13)
        (try simp only [e13])
        (try simp at e16)
        (try simp only [e16])
        go_wp2_with fail
        exact ⟨rfl, _, rfl, Below.refl _ _, by rw [HD3.out] <;> first | rfl | simp⟩
    apply OpsOK.eq
    · intro vs u hb hd
      have e17 := hd ⟨17, .data⟩ (by simp) (by decide)
      have e13 := hd ⟨13, .chain⟩ (by simp) (by decide)
      clear hd
      (try simp at e17)
      (try simp only [e17])
      (try simp at e13)
      (try simp only [e13])
      go_wp2_with fail
      exact ⟨rfl, _, rfl, Below.refl _ _, rfl⟩
    apply OpsOK.geq (d3 = true)
    · intro vs u hb hd
      have e18 := hd ⟨18, .guard⟩ (by simp) (by decide)
      clear hd
      rcases d3 with _ | _
      all_goals
        (try simp at e18)
        (try simp only [e18])
        go_wp2_with fail
        first | exact ⟨rfl, undef, rfl, Below.refl _ _, fun h => (by simp at h)⟩ | exact ⟨rfl, _, rfl, Below.refl _ _, fun _ => rfl⟩
    apply OpsOK.geq (d3 = true)
    · intro vs u hb hd
      have qc := block_cell (block_below hb HBY4.out hlt3) 3
      simp at qc
      have e19 := hd ⟨19, .data⟩ (by simp) (by decide)
      have e18 := hd ⟨18, .guard⟩ (by simp) (by decide)
      clear hd
      rcases d3 with _ | _
      all_goals
        (try simp at e19)
        (try simp only [e19])
        (try simp at e18)
        (try simp only [e18])
        go_wp2_with fail
        first | exact ⟨rfl, undef, rfl, Below.refl _ _, fun h => (by simp at h)⟩ | exact ⟨rfl, _, rfl, Below.refl _ _, fun _ => rfl⟩
    apply OpsOK.geq (d3 = true)
    · intro vs u hb hd
      have e20 := hd ⟨20, .data⟩ (by simp) (by decide)
      have e18 := hd ⟨18, .guard⟩ (by simp) (by decide)
      clear hd
      rcases d3 with _ | _
      all_goals
        (try simp at e20)
        (try simp only [e20])
        (try simp at e18)
        (try simp only [e18])
        go_wp2_with fail
        first | exact ⟨rfl, undef, rfl, Below.refl _ _, fun h => (by simp at h)⟩ | exact ⟨rfl, _, rfl, Below.refl _ _, fun _ => rfl⟩
    apply OpsOK.ceq (.bool d4)
    · intro vs u hb hd
      have e18 := hd ⟨18, .data⟩ (by simp) (by decide)
      have e21 := hd ⟨21, .data⟩ (by simp) (by decide)
      clear hd
      rcases d3 with _ | _
      all_goals
        (try simp at e18)
        (try simp only [e18])
        (try simp at e21)
        (try simp only [e21])
        go_wp2_with fail
        exact ⟨rfl, _, rfl, Below.refl _ _, by rw [HD4.out] <;> first | rfl | simp⟩
    apply OpsOK.eq
    · intro vs u hb hd
      have e22 := hd ⟨22, .data⟩ (by simp) (by decide)
      have e18 := hd ⟨18, .chain⟩ (by simp) (by decide)
      clear hd
      (try simp at e22)
      (try simp only [e22])
      (try simp at e18)
      (try simp only [e18])
      go_wp2_with fail
      exact ⟨rfl, _, rfl, Below.refl _ _, rfl⟩
    apply OpsOK.geq (d4 = true)
    · intro vs u hb hd
      have e23 := hd ⟨23, .guard⟩ (by simp) (by decide)
      clear hd
      rcases d4 with _ | _
      all_goals
        (try simp at e23)
        (try simp only [e23])
        go_wp2_with fail
        first | exact ⟨rfl, undef, rfl, Below.refl _ _, fun h => (by simp at h)⟩ | exact ⟨rfl, _, rfl, Below.refl _ _, fun _ => rfl⟩
    apply OpsOK.geq (d4 = true)
    · intro vs u hb hd
      have qc := block_cell (block_below hb HBY4.out hlt3) 3
      simp at qc
      have e24 := hd ⟨24, .data⟩ (by simp) (by decide)
      have e23 := hd ⟨23, .guard⟩ (by simp) (by decide)
      clear hd
      rcases d4 with _ | _
      all_goals
        (try simp at e24)
        (try simp only [e24])
        (try simp at e23)
        (try simp only [e23])
        go_wp2_with fail
        first | exact ⟨rfl, undef, rfl, Below.refl _ _, fun h => (by simp at h)⟩ | exact ⟨rfl, _, rfl, Below.refl _ _, fun _ => rfl⟩
    apply OpsOK.geq (d4 = true)
    · intro vs u hb hd
      have e25 := hd ⟨25, .data⟩ (by simp) (by decide)
      have e23 := hd ⟨23, .guard⟩ (by simp) (by decide)
      clear hd
      rcases d4 with _ | _
      all_goals
        (try simp at e25)
        (try simp only [e25])
        (try simp at e23)
        (try simp only [e23])
        go_wp2_with fail
        first | exact ⟨rfl, undef, rfl, Below.refl _ _, fun h => (by simp at h)⟩ | exact ⟨rfl, _, rfl, Below.refl _ _, fun _ => rfl⟩
    apply OpsOK.ceq (.bool d5)
    · intro vs u hb hd
      have e23 := hd ⟨23, .data⟩ (by simp) (by decide)
      have e26 := hd ⟨26, .data⟩ (by simp) (by decide)
      clear hd
      rcases d4 with _ | _
      all_goals
        (try simp at e23)
        (try simp only [e23])
        (try simp at e26)
        (try simp only [e26])
        go_wp2_with fail
        exact ⟨rfl, _, rfl, Below.refl _ _, by rw [HD5.out] <;> first | rfl | simp⟩
    apply OpsOK.eq
    · intro vs u hb hd
      have e27 := hd ⟨27, .data⟩ (by simp) (by decide)
      have e23 := hd ⟨23, .chain⟩ (by simp) (by decide)
      clear hd
      (try simp at e27)
      (try simp only [e27])
      (try simp at e23)
      (try simp only [e23])
      go_wp2_with fail
      exact ⟨rfl, _, rfl, Below.refl _ _, rfl⟩
    apply OpsOK.geq (d5 = true)
    · intro vs u hb hd
      have e28 := hd ⟨28, .guard⟩ (by simp) (by decide)
      clear hd
      rcases d5 with _ | _
      all_goals
        (try simp at e28)
        (try simp only [e28])
        go_wp2_with fail
        first | exact ⟨rfl, undef, rfl, Below.refl _ _, fun h => (by simp at h)⟩ | exact ⟨rfl, _, rfl, Below.refl _ _, fun _ => rfl⟩
    apply OpsOK.geq (d5 = true)
    · intro vs u hb hd
      have qc := block_cell (block_below hb HBY4.out hlt3) 6
      simp at qc
      have e29 := hd ⟨29, .data⟩ (by simp) (by decide)
      have e28 := hd ⟨28, .guard⟩ (by simp) (by decide)
      clear hd
      rcases d5 with _ | _
      all_goals
        (try simp at e29)
        (try simp only [e29])
        (try simp at e28)
        (try simp only [e28])
        go_wp2_with fail
        first | exact ⟨rfl, undef, rfl, Below.refl _ _, fun h => (by simp at h)⟩ | exact ⟨rfl, _, rfl, Below.refl _ _, fun _ => rfl⟩
    apply OpsOK.geq (d5 = true)
    · intro vs u hb hd
      have e30 := hd ⟨30, .data⟩ (by simp) (by decide)
      have e28 := hd ⟨28, .guard⟩ (by simp) (by decide)
      clear hd
      rcases d5 with _ | _
      all_goals
        (try simp at e30)
        (try simp only [e30])
        (try simp at e28)
        (try simp only [e28])
        go_wp2_with fail
        first | exact ⟨rfl, undef, rfl, Below.refl _ _, fun h => (by simp at h)⟩ | exact ⟨rfl, _, rfl, Below.refl _ _, fun _ => rfl⟩
    apply OpsOK.geq (d5 = true)
    · intro vs u hb hd
      have e31 := hd ⟨31, .data⟩ (by simp) (by decide)
      have e28 := hd ⟨28, .guard⟩ (by simp) (by decide)
      clear hd
      rcases d5 with _ | _
      all_goals
        (try simp at e31)
        (try simp only [e31])
        (try simp at e28)
        (try simp only [e28])
        go_wp2_with fail
        first | exact ⟨rfl, undef, rfl, Below.refl _ _, fun h => (by simp at h)⟩ | exact ⟨rfl, _, rfl, Below.refl _ _, fun _ => rfl⟩
    apply OpsOK.ceq (.bool d6)
    · intro vs u hb hd
      have e28 := hd ⟨28, .data⟩ (by simp) (by decide)
      have e32 := hd ⟨32, .data⟩ (by simp) (by decide)
      clear hd
      rcases d5 with _ | _
      all_goals
        (try simp at e28)
        (try simp only [e28])
        (try simp at e32)
        (try simp only [e32])
        go_wp2_with fail
        exact ⟨rfl, _, rfl, Below.refl _ _, by rw [HD6.out] <;> first | rfl | simp⟩
    apply OpsOK.eq
    · intro vs u hb hd
      have e33 := hd ⟨33, .data⟩ (by simp) (by decide)
      have e28 := hd ⟨28, .chain⟩ (by simp) (by decide)
      have e0 := hd ⟨0, .phase⟩ (by simp) (by decide)
      have e1 := hd ⟨1, .phase⟩ (by simp) (by decide)
      have e2 := hd ⟨2, .phase⟩ (by simp) (by decide)
      have e3 := hd ⟨3, .phase⟩ (by simp) (by decide)
      have e4 := hd ⟨4, .phase⟩ (by simp) (by decide)
      have e5 := hd ⟨5, .phase⟩ (by simp) (by decide)
      have e6 := hd ⟨6, .phase⟩ (by simp) (by decide)
      have e7 := hd ⟨7, .phase⟩ (by simp) (by decide)
      have e8 := hd ⟨8, .phase⟩ (by simp) (by decide)
      have e9 := hd ⟨9, .phase⟩ (by simp) (by decide)
      have e10 := hd ⟨10, .phase⟩ (by simp) (by decide)
      have e11 := hd ⟨11, .phase⟩ (by simp) (by decide)
      have e12 := hd ⟨12, .phase⟩ (by simp) (by decide)
      have e13 := hd ⟨13, .phase⟩ (by simp) (by decide)
      have e14 := hd ⟨14, .phase⟩ (by simp) (by decide)
      have e15 := hd ⟨15, .phase⟩ (by simp) (by decide)
      have e16 := hd ⟨16, .phase⟩ (by simp) (by decide)
      have e17 := hd ⟨17, .phase⟩ (by simp) (by decide)
      have e18 := hd ⟨18, .phase⟩ (by simp) (by decide)
      have e19 := hd ⟨19, .phase⟩ (by simp) (by decide)
      have e20 := hd ⟨20, .phase⟩ (by simp) (by decide)
      have e21 := hd ⟨21, .phase⟩ (by simp) (by decide)
      have e22 := hd ⟨22, .phase⟩ (by simp) (by decide)
      have e23 := hd ⟨23, .phase⟩ (by simp) (by decide)
      have e24 := hd ⟨24, .phase⟩ (by simp) (by decide)
      have e25 := hd ⟨25, .phase⟩ (by simp) (by decide)
      have e26 := hd ⟨26, .phase⟩ (by simp) (by decide)
      have e27 := hd ⟨27, .phase⟩ (by simp) (by decide)
      have e29 := hd ⟨29, .phase⟩ (by simp) (by decide)
      have e30 := hd ⟨30, .phase⟩ (by simp) (by decide)
      have e31 := hd ⟨31, .phase⟩ (by simp) (by decide)
      have e32 := hd ⟨32, .phase⟩ (by simp) (by decide)
      clear hd
      (try simp at e33)
      (try simp only [e33])
      (try simp at e28)
      (try simp only [e28])
      (try simp at e0)
      (try simp only [e0])
      (try simp at e1)
      (try simp only [e1])
      (try simp at e2)
      (try simp only [e2])
      (try simp at e3)
      (try simp only [e3])
      (try simp at e4)
      (try simp only [e4])
      (try simp at e5)
      (try simp only [e5])
      (try simp at e6)
      (try simp only [e6])
      (try simp at e7)
      (try simp only [e7])
      (try simp at e8)
      (try simp only [e8])
      (try simp at e9)
      (try simp only [e9])
      (try simp at e10)
      (try simp only [e10])
      (try simp at e11)
      (try simp only [e11])
      (try simp at e12)
      (try simp only [e12])
      (try simp at e13)
      (try simp only [e13])
      (try simp at e14)
      (try simp only [e14])
      (try simp at e15)
      (try simp only [e15])
      (try simp at e16)
      (try simp only [e16])
      (try simp at e17)
      (try simp only [e17])
      (try simp at e18)
      (try simp only [e18])
      (try simp at e19)
      (try simp only [e19])
      (try simp at e20)
      (try simp only [e20])
      (try simp at e21)
      (try simp only [e21])
      (try simp at e22)
      (try simp only [e22])
      (try simp at e23)
      (try simp only [e23])
      (try simp at e24)
      (try simp only [e24])
      (try simp at e25)
      (try simp only [e25])
      (try simp at e26)
      (try simp only [e26])
      (try simp at e27)
      (try simp only [e27])
      (try simp at e29)
      (try simp only [e29])
      (try simp at e30)
      (try simp only [e30])
      (try simp at e31)
      (try simp only [e31])
      (try simp at e32)
      (try simp only [e32])
      go_wp2_with fail
      exact ⟨rfl, _, rfl, Below.refl _ _, rfl⟩
    refine OpsOK.done ?_
    intro vs u hbu hS
    have h34 := hS 34 (by decide)
    simp at h34
    simp only [h34]
    clear hS h34
    have HB5 := Lib.hid (HB4.out.trans (hbu.mono HB4.out.size))
    clear hbu
    go_wp2_with fail
    go_ret
    exact ⟨by rw [HE.out] <;> rfl, HB5.out⟩
  · go_wp2_with fail
    go_ret
    exact ⟨by rw [HE.out] <;> rfl, HB4.out⟩
set_option maxRecDepth 100000 in
set_option maxHeartbeats 8000000 in
theorem refPlain_out (x : Ov) (hk : x.k < 1 ∨ 16 < x.k) (w : World) :
    Calls Tryd.prog 55 #[.agg #[.int .u8 x.k, .int .i64 x.slot, .int .i64 x.at_, .int .i64 x.n, .int .u32 x.id, .int .u8 x.g, .string x.t]] w fun e w' => e = .returned (.bool (plainO x)) ∧ Below w.heap.size w w' := by
  have HB0 := Lib.hid ((Below.refl w.heap.size w).alloc (Nat.le_refl _) (.cells (oC x) 51))
  have HE := Lib.hid (show plainO x = false from if_pos hk)
  obtain ⟨k, s, a, n, id, g, t⟩ := x
  replace hk : k < 1 ∨ 16 < k := hk
  by_cases hk1 : k < 1
  · as_aux_lemma =>
    clear hk
    go_enter Tryd.func55, Tryd.ntmps55
    go_wp2_with fail
    go_ret
    exact ⟨by rw [HE.out] <;> rfl, HB0.out⟩
  · as_aux_lemma =>
    have hk2 : 16 < k := by omega
    clear hk
    go_enter Tryd.func55, Tryd.ntmps55
    go_wp2_with fail
    go_ret
    exact ⟨by rw [HE.out] <;> rfl, HB0.out⟩
theorem refPlain_any (x : Ov) (w : World) (ht : x.t.size ≤ 140737488355328) :
    Calls Tryd.prog 55 #[.agg #[.int .u8 x.k, .int .i64 x.slot, .int .i64 x.at_, .int .i64 x.n, .int .u32 x.id, .int .u8 x.g, .string x.t]] w fun e w' => e = .returned (.bool (plainO x)) ∧ Below w.heap.size w w' := by
  by_cases hk : x.k < 1 ∨ 16 < x.k
  · exact refPlain_out x hk w
  · exact refPlain_in x x.k.toNat (by omega) (by omega) (by omega) w ht
end Go.Proofs.YtdfkbahlngijcaaDoor

