/- The contract of put. -/
import Derived.Test.YtbodacjhhkjdfaaNp
import Derived.Maps.AppendAt
namespace Go.Proofs.Ytbodacjhhkjdfaa
open Go.RowKit

/-- the m low bytes of v, the most significant one first -/
def be : Nat → Nat → List UInt8
  | 0, _ => []
  | m + 1, v => UInt8.ofNat (v / 256 ^ m % 256) :: be m v
def encB (b : UInt8) : Value := .int .u8 b.toNat
theorem encB_one (l : List UInt8) : ∀ u ∈ l.map encB, u.oneCell' = true := by
  intro u hu
  rw [List.mem_map] at hu
  obtain ⟨b, _, rfl⟩ := hu
  rfl
theorem byte_be (v j : Nat) : encB (UInt8.ofNat (v / 256 ^ j % 256)) = .int .u8 ((v : Int) / 2 ^ (8 * j) % 256) := by
  unfold encB
  have e : (UInt8.ofNat (v / 256 ^ j % 256)).toNat = v / 256 ^ j % 256 := by
    rw [UInt8.toNat_ofNat']
    exact Nat.mod_eq_of_lt (Nat.mod_lt _ (by decide))
  rw [e]
  congr 1
  have e2 : (2 : Int) ^ (8 * j) = ((256 ^ j : Nat) : Int) := by
    have : (2 : Nat) ^ (8 * j) = 256 ^ j := by rw [Nat.pow_mul]
    rw [← this]
    exact (Int.natCast_pow 2 (8 * j)).symm
  rw [e2, ← Int.natCast_ediv]
  exact Int.natCast_emod _ 256
theorem infoB : (Try.prog.info? 5).map (fun i => (i.zero, i.size, i.bytes)) = some (some (.int .u8 0), 1, 1) := by kernel_rfl

set_option maxRecDepth 100000 in
set_option maxHeartbeats 2000000 in
theorem put_any (m v : Nat) (s : Value) (n base : Nat) (xs : List UInt8) (w : World) (hown : w.ownsRow base 5 1 s n (xs.map encB)) (hm : m ≤ 8) (hn : n ≤ 1000) (hbase : base ≤ w.heap.size) :
    Calls Try.prog 55 #[s, .int .i64 m, .int .u64 v] w fun e w' => ∃ s', e = .returned s' ∧ w'.ownsRow base 5 1 s' (n + m) ((xs ++ be m v).map encB) ∧ w.grownBy w' s.ownBlock ∧ (s'.ownBlock = s.ownBlock ∨ ∃ k, s'.ownBlock = some k ∧ w.heap.size ≤ k) := by
  obtain ⟨i0, hi, hz0, hz1, hz2⟩ := info_parts infoB
  have HOWN := Lib.hid hown
  have hw0 : wrap64 ((m : Int) - 1) = (m : Int) - 1 := IntWalk.wrap64_in _ (by omega)
  clear hown
  go_enter Try.func55, Try.ntmps55
  go_wp2_with fail
  go_loopw [0, 7] (fun a i wr => ∃ (j : Nat) (ys : List UInt8), j ≤ m ∧ i = .int .i64 ((j : Int) - 1) ∧ ys ++ be j v = xs ++ be m v ∧ wr.ownsRow base 5 1 a (n + (m - j)) (ys.map encB) ∧ w.grownBy wr s.ownBlock ∧ (a.ownBlock = s.ownBlock ∨ ∃ k, a.ownBlock = some k ∧ w.heap.size ≤ k)) (fun _ i _ => ((intOf i) + 1).toNat)
  case atStart => exact ⟨m, xs, Nat.le_refl _, rfl, rfl, by simpa using HOWN.out, World.grownBy.refl _ _, .inl rfl⟩
  case round =>
    obtain ⟨j, ys, hj, rfl, hys, hown, hgr, hbl⟩ := hrel
    have hsz := hgr.size
    rcases j with _ | j
    · simp only [be, List.append_nil, Nat.sub_zero] at hys hown
      rw [hys] at hown
      have HO := Lib.hid hown
      have HG := Lib.hid hgr
      have HB := Lib.hid hbl
      clear hys hown hgr hbl
      go_wp2_with fail
      go_ret
      exact ⟨_, rfl, HO.out, HG.out, HB.out⟩
    · have ej : (((j + 1 : Nat) : Int) - 1) = (j : Int) := by omega
      rw [ej]
      have hw1 : wrap64 ((j : Int) - 1) = (j : Int) - 1 := IntWalk.wrap64_in _ (by omega)
      have hw2 : wrap64 (8 * (j : Int)) = 8 * (j : Int) := IntWalk.wrap64_in _ (by omega)
      have HO := Lib.hid hown
      have HG := Lib.hid hgr
      have HB := Lib.hid hbl
      have HYS := Lib.hid hys
      clear hys hown hgr hbl ej
      have HC := Lib.hid (byte_be v j)
      have HLEN := Lib.hid (show (List.map encB [UInt8.ofNat (v / 256 ^ j % 256)]).length = 1 * 1 from rfl)
      have HOA : ∀ A, (wr.alloc A).ownsRow base 5 1 u0 (n + (m - (j + 1))) (ys.map encB) := fun A => HO.out.alloc A
      have HHO := Lib.hid HOA
      have HN : ∀ j' u, (List.map encB [UInt8.ofNat (v / 256 ^ j % 256)])[j']? = some u → (wr.alloc (.cells #[.int .u8 ((v : Int) / 2 ^ (8 * j) % 256)] 5)).cell? ((⟨wr.heap.size, 0, none⟩ : Addr).add j') = some u := by
        rw [List.map_cons, byte_be, List.map_nil]
        exact cell_one_new _ _ _
      have HHN := Lib.hid HN
      clear HOA HN
      go_wp2_with (at_builtin; refine wpList_append_own_at _ rfl _ _ 66 rfl base 5 i0 (.int .u8 0) 1 1 Try.underlying66 hi hz0 hz1 hz2 rfl (by decide) _ (n + (m - (j + 1))) (ys.map encB) rfl (HHO.out _) ⟨wr.heap.size, 0, none⟩ 1 _ (List.map encB [UInt8.ofNat (v / 256 ^ j % 256)]) rfl HLEN.out HHN.out (encB_one _) ?c3 ?c4 ?c5 ?_)
      case c3 => unfold maxLen; omega
      case c4 => omega
      case c5 => simp; omega
      intro v' w1 hown1 hgrow _ hblk
      have hbnew := HB.out
      have hg2 : w.grownBy w1 s.ownBlock := (HG.out.trans (World.grownBy_alloc _ _ _)).andThen hgrow (fun k hk => by
        rcases hbnew with h | ⟨k', h, h2⟩
        · exact .inr (by rw [← h]; exact hk)
        · rw [h] at hk; injection hk with hk; subst hk; exact .inl h2)
      have hb2 : v'.ownBlock = s.ownBlock ∨ ∃ k, v'.ownBlock = some k ∧ w.heap.size ≤ k := by
        rcases hblk with h | h
        · rw [h]; exact hbnew
        · exact .inr ⟨_, h, Nat.le_trans hsz (Nat.le_succ _)⟩
      have hown2 : w1.ownsRow base 5 1 v' (n + (m - j)) ((ys ++ [UInt8.ofNat (v / 256 ^ j % 256)]).map encB) := by
        rw [List.map_append]
        rw [show n + (m - j) = n + (m - (j + 1)) + 1 by omega]
        exact hown1
      have HO2 := Lib.hid hown2
      have HG2 := Lib.hid hg2
      have HB2 := Lib.hid hb2
      clear hown1 hgrow hblk hbnew hg2 hb2 hown2
      go_wp2_with fail
      go_roundw
      case rel =>
        refine ⟨j, ys ++ [UInt8.ofNat (v / 256 ^ j % 256)], by omega, rfl, ?_, HO2.out, HG2.out, HB2.out⟩
        rw [List.append_assoc]
        exact HYS.out
      case measure => simp [intOf]

theorem put_at (mi vi : Int) (m v : Nat) (s : Value) (n base : Nat) (xs : List UInt8) (w : World) (hmi : mi = (m : Int)) (hvi : vi = (v : Int)) (hown : w.ownsRow base 5 1 s n (xs.map encB)) (hm : m ≤ 8) (hn : n ≤ 1000) (hbase : base ≤ w.heap.size) :
    Calls Try.prog 55 #[s, .int .i64 mi, .int .u64 vi] w fun e w' => ∃ s', e = .returned s' ∧ w'.ownsRow base 5 1 s' (n + m) ((xs ++ be m v).map encB) ∧ w.grownBy w' s.ownBlock ∧ (s'.ownBlock = s.ownBlock ∨ ∃ k, s'.ownBlock = some k ∧ w.heap.size ≤ k) := by
  rw [hmi, hvi]; exact put_any m v s n base xs w hown hm hn hbase
end Go.Proofs.Ytbodacjhhkjdfaa
