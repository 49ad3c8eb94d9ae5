/- The law NodeOrder: its plain law and its walk. -/
import Derived.Test.YtbodacjhhkjdfaaNy
namespace Go.Proofs.Ytbodacjhhkjdfaa
open Go.RowKit

theorem chooseL_ge (p : Trip → Int) : ∀ (l : List Kid) (i : Nat) (n : Int), (chooseL p l i n).2.2 = 0 → (i : Int) ≤ (chooseL p l i n).1
  | [], _, _, h => by simp [chooseL] at h
  | k :: l, i, n, h => by
    unfold chooseL at h ⊢
    by_cases c : n < p k.2
    · rw [if_pos c]; exact Int.le_refl _
    · rw [if_neg c] at h ⊢
      have := chooseL_ge p l (i + 1) _ h
      push_cast at this
      omega
theorem chooseL_mono (p : Trip → Int) : ∀ (l : List Kid) (i : Nat) (n m : Int), n ≤ m → (chooseL p l i n).2.2 = 0 → (chooseL p l i m).2.2 = 0 → (chooseL p l i n).1 ≤ (chooseL p l i m).1
  | [], _, _, _, _, h, _ => by simp [chooseL] at h
  | k :: l, i, n, m, hnm, h, h' => by
    by_cases c : n < p k.2
    · have e : chooseL p (k :: l) i n = ((i : Int), n, 0) := if_pos c
      rw [e]
      exact chooseL_ge p (k :: l) i m h'
    · have c' : ¬ m < p k.2 := by omega
      have e : chooseL p (k :: l) i n = chooseL p l (i + 1) (n - p k.2) := if_neg c
      have e' : chooseL p (k :: l) i m = chooseL p l (i + 1) (m - p k.2) := if_neg c'
      rw [e] at h ⊢
      rw [e'] at h' ⊢
      exact chooseL_mono p l (i + 1) _ _ (by omega) h h'
theorem chooseN_mono (p : Trip → Int) (x : Nd) (n m : Int) (hnm : n ≤ m) (h : (chooseN p x n).2.2 = 0) (h' : (chooseN p x m).2.2 = 0) : (chooseN p x n).1 ≤ (chooseN p x m).1 := by
  unfold chooseN at h h' ⊢
  by_cases c : checkN x = 0
  · rw [if_pos c] at h h' ⊢
    rw [if_pos c]
    by_cases d : x.h = 0
    · rw [if_pos d] at h; simp at h
    · rw [if_neg d] at h h' ⊢
      rw [if_neg d]
      by_cases e : n < 0
      · rw [if_pos e] at h; simp at h
      · rw [if_neg e] at h ⊢
        rw [if_neg (by omega)] at h' ⊢
        exact chooseL_mono p x.kids 0 n m hnm h h'
  · rw [if_neg c] at h; exact absurd h c
theorem lineN_mono (x : Nd) (n m : Int) (hnm : n ≤ m) (h : (lineN x n).2.2 = 0) (h' : (lineN x m).2.2 = 0) : (lineN x n).1 ≤ (lineN x m).1 := by
  unfold lineN at h h' ⊢
  by_cases c : (innerN x).2 = 0
  · rw [if_pos c] at h h' ⊢
    rw [if_pos c]
    by_cases d : n < 1
    · rw [if_pos d] at h; simp at h
    · have d' : ¬ m < 1 := by omega
      rw [if_neg d] at h ⊢
      rw [if_neg d'] at h' ⊢
      by_cases e : (chooseN pL x (n - 1)).2.2 = 0
      · by_cases e' : (chooseN pL x (m - 1)).2.2 = 0
        · rw [if_pos e, if_pos e']
          exact chooseN_mono pL x _ _ (by omega) e e'
        · rw [if_neg e'] at h'; exact absurd h' e'
      · rw [if_neg e] at h; exact absurd h e
  · rw [if_neg c] at h; exact absurd h c
theorem findN_mono (x : Nd) (k : Nat) (n m : Int) (hnm : n ≤ m) (h : (findN x k n).2.2 = 0) (h' : (findN x k m).2.2 = 0) : (findN x k n).1 ≤ (findN x k m).1 := by
  unfold findN at h h' ⊢
  by_cases c : k = 0
  · rw [if_pos c] at h h' ⊢; rw [if_pos c]; exact chooseN_mono _ _ _ _ hnm h h'
  · rw [if_neg c] at h h' ⊢; rw [if_neg c]
    by_cases d : k = 1
    · rw [if_pos d] at h h' ⊢; rw [if_pos d]; exact chooseN_mono _ _ _ _ hnm h h'
    · rw [if_neg d] at h h' ⊢; rw [if_neg d]; exact lineN_mono _ _ _ hnm h h'

set_option maxRecDepth 100000 in
set_option maxHeartbeats 4000000 in
theorem order_core (x : Nd) (n0 n1 lo hi : Int) (ao : Option Addr) (n c : Nat) (w : World) (hk : IsKs w ao n x.kids) (hcase : (n0 < n1 ∧ lo = n0 ∧ hi = n1) ∨ (n1 < n0 ∧ lo = n1 ∧ hi = n0) ∨ (n0 = n1 ∧ lo = n0 ∧ hi = n0)) (h00 : -9223372036854775808 ≤ lo) (h11 : hi ≤ 9223372036854775807) (hlh : lo ≤ hi) :
    Calls Try.prog 9 #[aggN x.h x.text ao n c, .int .i64 n0, .int .i64 n1] w fun e w' => e = .returned (.bool true) ∧ Below w.heap.size w w' := by
  have HK := Lib.hid hk
  clear hk
  unfold aggN
  have h01 : lo ≤ 9223372036854775807 := by omega
  have h10 : -9223372036854775808 ≤ hi := by omega
  rcases hcase with ⟨hc, e1, e2⟩ | ⟨hc, e1, e2⟩ | ⟨e0, e1, e2⟩
  · subst e1 e2
    go_enter Try.func9, Try.ntmps9
    go_wp2_with fail
    have HK1 := Lib.hid (HK.out.box (.cells #[.int .i64 x.h, .string x.text, .slice ao n c] 24))
    have HBL := Lib.hid (((Below.refl w.heap.size w).alloc (Nat.le_refl _) (.cells #[.int .i64 x.h, .string x.text, .slice ao n c] 24)))
    have HBX := Lib.hid (block_new w (.cells #[.int .i64 x.h, .string x.text, .slice ao n c] 24))
    go_loopw [7] (fun i wr => ∃ k : Nat, k ≤ 3 ∧ i = .int .i64 k ∧ Below w.heap.size w wr ∧ IsKs wr ao n x.kids ∧ wr.heap[w.heap.size]? = some (.cells #[.int .i64 x.h, .string x.text, .slice ao n c] 24 (0, 0))) (fun i _ => 3 - (intOf i).toNat)
    case atStart => exact ⟨0, by omega, rfl, HBL.out, HK1.out, HBX.out⟩
    case round =>
      obtain ⟨k, hk3, rfl, hbr, hks, hbx⟩ := hrel
      (have q0 := block_cell hbx 0; have q1 := block_cell hbx 1; have q2 := block_cell hbx 2; have f0 := block_free hbx 0; have f1 := block_free hbx 1; have f2 := block_free hbx 2; have hz := block_lt hbx; simp at q0 q1 q2)
      have HBR := Lib.hid hbr
      have HKS := Lib.hid hks
      have HBX := Lib.hid hbx
      clear hbx hks hbr
      by_cases hlt : k < 3
      · go_wp2_with fail
        refine (find_any x lo k (by omega) ao n c _ HKS.out h00 h01).mono ?_; rintro e w1 ⟨rfl, hb⟩
        have HK2 := Lib.hid (HKS.out.later hb)
        have hbx := block_below hb HBX.out (block_lt HBX.out)
        have HBR1 := Lib.hid (below_step HBR.out hb)
        (have q0 := block_cell hbx 0; have q1 := block_cell hbx 1; have q2 := block_cell hbx 2; have f0 := block_free hbx 0; have f1 := block_free hbx 1; have f2 := block_free hbx 2; have hz := block_lt hbx; simp at q0 q1 q2)
        have HBX1 := Lib.hid hbx
        clear hbx hb
        unfold tup3
        go_wp2_with fail
        refine (find_any x hi k (by omega) ao n c _ HK2.out h10 h11).mono ?_; rintro e w2 ⟨rfl, hb⟩
        have HK3 := Lib.hid (HK2.out.later hb)
        have hbx := block_below hb HBX1.out (block_lt HBX1.out)
        have HBR2 := Lib.hid (below_step HBR1.out hb)
        (have q0 := block_cell hbx 0; have q1 := block_cell hbx 1; have q2 := block_cell hbx 2; have f0 := block_free hbx 0; have f1 := block_free hbx 1; have f2 := block_free hbx 2; have hz := block_lt hbx; simp at q0 q1 q2)
        have HBX2 := Lib.hid hbx
        clear hbx hb
        unfold tup3
        have HMONO := Lib.hid (findN_mono x k lo hi hlh)
        obtain ⟨i1, r1, e1, he1⟩ : ∃ i r e, findN x k lo = (i, r, e) := ⟨_, _, _, rfl⟩
        obtain ⟨i2, r2, e2, he2⟩ : ∃ i r e, findN x k hi = (i, r, e) := ⟨_, _, _, rfl⟩
        rw [he1, he2]
        rw [he1, he2] at HMONO
        clear he1 he2
        by_cases c1 : e1 = 0
        · by_cases c2 : e2 = 0
          · have c3 : i1 ≤ i2 := HMONO.out c1 c2
            subst c1 c2
            clear HMONO
            go_wp2_with fail
            go_roundw
            case rel => exact ⟨k + 1, by omega, by go_num, HBR2.out, HK3.out, HBX2.out⟩
            case measure => simp [intOf]; omega
          · have c2' : (e2 == 0) = false := by simpa using c2
            subst c1
            clear HMONO c2
            go_wp2_with fail
            go_roundw
            case rel => exact ⟨k + 1, by omega, by go_num, HBR2.out, HK3.out, HBX2.out⟩
            case measure => simp [intOf]; omega
        · have c1' : (e1 == 0) = false := by simpa using c1
          clear HMONO c1
          go_wp2_with fail
          go_roundw
          case rel => exact ⟨k + 1, by omega, by go_num, HBR2.out, HK3.out, HBX2.out⟩
          case measure => simp [intOf]; omega
      · go_wp2_with fail
        refine (awake_any _).mono ?_; rintro e w1 ⟨rfl, hb⟩
        have HB2 := Lib.hid (below_step HBR.out hb)
        clear hb
        go_wp2_with fail
        go_ret
        exact ⟨rfl, HB2.out⟩
  · subst e1 e2
    go_enter Try.func9, Try.ntmps9
    go_wp2_with fail
    have HK1 := Lib.hid (HK.out.box (.cells #[.int .i64 x.h, .string x.text, .slice ao n c] 24))
    have HBL := Lib.hid (((Below.refl w.heap.size w).alloc (Nat.le_refl _) (.cells #[.int .i64 x.h, .string x.text, .slice ao n c] 24)))
    have HBX := Lib.hid (block_new w (.cells #[.int .i64 x.h, .string x.text, .slice ao n c] 24))
    go_loopw [7] (fun i wr => ∃ k : Nat, k ≤ 3 ∧ i = .int .i64 k ∧ Below w.heap.size w wr ∧ IsKs wr ao n x.kids ∧ wr.heap[w.heap.size]? = some (.cells #[.int .i64 x.h, .string x.text, .slice ao n c] 24 (0, 0))) (fun i _ => 3 - (intOf i).toNat)
    case atStart => exact ⟨0, by omega, rfl, HBL.out, HK1.out, HBX.out⟩
    case round =>
      obtain ⟨k, hk3, rfl, hbr, hks, hbx⟩ := hrel
      (have q0 := block_cell hbx 0; have q1 := block_cell hbx 1; have q2 := block_cell hbx 2; have f0 := block_free hbx 0; have f1 := block_free hbx 1; have f2 := block_free hbx 2; have hz := block_lt hbx; simp at q0 q1 q2)
      have HBR := Lib.hid hbr
      have HKS := Lib.hid hks
      have HBX := Lib.hid hbx
      clear hbx hks hbr
      by_cases hlt : k < 3
      · go_wp2_with fail
        refine (find_any x lo k (by omega) ao n c _ HKS.out h00 h01).mono ?_; rintro e w1 ⟨rfl, hb⟩
        have HK2 := Lib.hid (HKS.out.later hb)
        have hbx := block_below hb HBX.out (block_lt HBX.out)
        have HBR1 := Lib.hid (below_step HBR.out hb)
        (have q0 := block_cell hbx 0; have q1 := block_cell hbx 1; have q2 := block_cell hbx 2; have f0 := block_free hbx 0; have f1 := block_free hbx 1; have f2 := block_free hbx 2; have hz := block_lt hbx; simp at q0 q1 q2)
        have HBX1 := Lib.hid hbx
        clear hbx hb
        unfold tup3
        go_wp2_with fail
        refine (find_any x hi k (by omega) ao n c _ HK2.out h10 h11).mono ?_; rintro e w2 ⟨rfl, hb⟩
        have HK3 := Lib.hid (HK2.out.later hb)
        have hbx := block_below hb HBX1.out (block_lt HBX1.out)
        have HBR2 := Lib.hid (below_step HBR1.out hb)
        (have q0 := block_cell hbx 0; have q1 := block_cell hbx 1; have q2 := block_cell hbx 2; have f0 := block_free hbx 0; have f1 := block_free hbx 1; have f2 := block_free hbx 2; have hz := block_lt hbx; simp at q0 q1 q2)
        have HBX2 := Lib.hid hbx
        clear hbx hb
        unfold tup3
        have HMONO := Lib.hid (findN_mono x k lo hi hlh)
        obtain ⟨i1, r1, e1, he1⟩ : ∃ i r e, findN x k lo = (i, r, e) := ⟨_, _, _, rfl⟩
        obtain ⟨i2, r2, e2, he2⟩ : ∃ i r e, findN x k hi = (i, r, e) := ⟨_, _, _, rfl⟩
        rw [he1, he2]
        rw [he1, he2] at HMONO
        clear he1 he2
        by_cases c1 : e1 = 0
        · by_cases c2 : e2 = 0
          · have c3 : i1 ≤ i2 := HMONO.out c1 c2
            subst c1 c2
            clear HMONO
            go_wp2_with fail
            go_roundw
            case rel => exact ⟨k + 1, by omega, by go_num, HBR2.out, HK3.out, HBX2.out⟩
            case measure => simp [intOf]; omega
          · have c2' : (e2 == 0) = false := by simpa using c2
            subst c1
            clear HMONO c2
            go_wp2_with fail
            go_roundw
            case rel => exact ⟨k + 1, by omega, by go_num, HBR2.out, HK3.out, HBX2.out⟩
            case measure => simp [intOf]; omega
        · have c1' : (e1 == 0) = false := by simpa using c1
          clear HMONO c1
          go_wp2_with fail
          go_roundw
          case rel => exact ⟨k + 1, by omega, by go_num, HBR2.out, HK3.out, HBX2.out⟩
          case measure => simp [intOf]; omega
      · go_wp2_with fail
        refine (awake_any _).mono ?_; rintro e w1 ⟨rfl, hb⟩
        have HB2 := Lib.hid (below_step HBR.out hb)
        clear hb
        go_wp2_with fail
        go_ret
        exact ⟨rfl, HB2.out⟩
  · subst e0 e1
    obtain rfl := e2.symm
    go_enter Try.func9, Try.ntmps9
    go_wp2_with fail
    have HK1 := Lib.hid (HK.out.box (.cells #[.int .i64 x.h, .string x.text, .slice ao n c] 24))
    have HBL := Lib.hid (((Below.refl w.heap.size w).alloc (Nat.le_refl _) (.cells #[.int .i64 x.h, .string x.text, .slice ao n c] 24)))
    have HBX := Lib.hid (block_new w (.cells #[.int .i64 x.h, .string x.text, .slice ao n c] 24))
    go_loopw [7] (fun i wr => ∃ k : Nat, k ≤ 3 ∧ i = .int .i64 k ∧ Below w.heap.size w wr ∧ IsKs wr ao n x.kids ∧ wr.heap[w.heap.size]? = some (.cells #[.int .i64 x.h, .string x.text, .slice ao n c] 24 (0, 0))) (fun i _ => 3 - (intOf i).toNat)
    case atStart => exact ⟨0, by omega, rfl, HBL.out, HK1.out, HBX.out⟩
    case round =>
      obtain ⟨k, hk3, rfl, hbr, hks, hbx⟩ := hrel
      (have q0 := block_cell hbx 0; have q1 := block_cell hbx 1; have q2 := block_cell hbx 2; have f0 := block_free hbx 0; have f1 := block_free hbx 1; have f2 := block_free hbx 2; have hz := block_lt hbx; simp at q0 q1 q2)
      have HBR := Lib.hid hbr
      have HKS := Lib.hid hks
      have HBX := Lib.hid hbx
      clear hbx hks hbr
      by_cases hlt : k < 3
      · go_wp2_with fail
        refine (find_any x lo k (by omega) ao n c _ HKS.out h00 h01).mono ?_; rintro e w1 ⟨rfl, hb⟩
        have HK2 := Lib.hid (HKS.out.later hb)
        have hbx := block_below hb HBX.out (block_lt HBX.out)
        have HBR1 := Lib.hid (below_step HBR.out hb)
        (have q0 := block_cell hbx 0; have q1 := block_cell hbx 1; have q2 := block_cell hbx 2; have f0 := block_free hbx 0; have f1 := block_free hbx 1; have f2 := block_free hbx 2; have hz := block_lt hbx; simp at q0 q1 q2)
        have HBX1 := Lib.hid hbx
        clear hbx hb
        unfold tup3
        go_wp2_with fail
        refine (find_any x lo k (by omega) ao n c _ HK2.out h10 h11).mono ?_; rintro e w2 ⟨rfl, hb⟩
        have HK3 := Lib.hid (HK2.out.later hb)
        have hbx := block_below hb HBX1.out (block_lt HBX1.out)
        have HBR2 := Lib.hid (below_step HBR1.out hb)
        (have q0 := block_cell hbx 0; have q1 := block_cell hbx 1; have q2 := block_cell hbx 2; have f0 := block_free hbx 0; have f1 := block_free hbx 1; have f2 := block_free hbx 2; have hz := block_lt hbx; simp at q0 q1 q2)
        have HBX2 := Lib.hid hbx
        clear hbx hb
        unfold tup3
        have HMONO := Lib.hid (findN_mono x k lo lo hlh)
        obtain ⟨i1, r1, e1, he1⟩ : ∃ i r e, findN x k lo = (i, r, e) := ⟨_, _, _, rfl⟩
        rw [he1]
        rw [he1] at HMONO
        clear he1
        by_cases c1 : e1 = 0
        · have c3 : i1 ≤ i1 := Int.le_refl _
          subst c1
          clear HMONO
          go_wp2_with fail
          go_roundw
          case rel => exact ⟨k + 1, by omega, by go_num, HBR2.out, HK3.out, HBX2.out⟩
          case measure => simp [intOf]; omega
        · have c1' : (e1 == 0) = false := by simpa using c1
          clear HMONO c1
          go_wp2_with fail
          go_roundw
          case rel => exact ⟨k + 1, by omega, by go_num, HBR2.out, HK3.out, HBX2.out⟩
          case measure => simp [intOf]; omega
      · go_wp2_with fail
        refine (awake_any _).mono ?_; rintro e w1 ⟨rfl, hb⟩
        have HB2 := Lib.hid (below_step HBR.out hb)
        clear hb
        go_wp2_with fail
        go_ret
        exact ⟨rfl, HB2.out⟩

theorem walk_order (x : Nd) (n0 n1 : Int) (ao : Option Addr) (n c : Nat) (w : World) (hk : IsKs w ao n x.kids) (h00 : -9223372036854775808 ≤ n0) (h01 : n0 ≤ 9223372036854775807) (h10 : -9223372036854775808 ≤ n1) (h11 : n1 ≤ 9223372036854775807) :
    Calls Try.prog 9 #[aggN x.h x.text ao n c, .int .i64 n0, .int .i64 n1] w fun e w' => e = .returned (.bool true) ∧ Below w.heap.size w w' := by
  by_cases h : n0 < n1
  · exact order_core x n0 n1 n0 n1 ao n c w hk (.inl ⟨h, rfl, rfl⟩) h00 h11 (by omega)
  · by_cases h' : n0 = n1
    · exact order_core x n0 n1 n0 n0 ao n c w hk (.inr (.inr ⟨h', rfl, rfl⟩)) h00 h01 (by omega)
    · exact order_core x n0 n1 n1 n0 ao n c w hk (.inr (.inl ⟨by omega, rfl, rfl⟩)) h10 h01 (by omega)
end Go.Proofs.Ytbodacjhhkjdfaa
