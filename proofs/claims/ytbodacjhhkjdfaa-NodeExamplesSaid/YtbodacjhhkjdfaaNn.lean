/- The contract of CopyKids. -/
import Derived.Test.YtbodacjhhkjdfaaNl
namespace Go.Proofs.Ytbodacjhhkjdfaa
open Go.RowKit

def fK (x : Kid) : List Value := [.int .u64 x.1, .int .i64 x.2.1, .int .i64 x.2.2.1, .int .i64 x.2.2.2]
theorem fK_len (x : Kid) : (fK x).length = 4 := rfl
theorem fK_one (l : List Kid) : ∀ u ∈ flatR fK l, u.oneCell' = true := flatR_all (by
  intro x u hu
  simp only [fK, List.mem_cons, List.not_mem_nil, or_false] at hu
  rcases hu with rfl | rfl | rfl | rfl <;> rfl) l
theorem IsR.ks {w : World} {a : Option Addr} {n : Nat} {l : List Kid} (h : IsR fK w a n l) (hr : ∀ x ∈ l, 0 ≤ x.1 ∧ x.1 ≤ 18446744073709551615) : IsKs w a n l := by
  obtain ⟨h1, h2⟩ := h
  refine ⟨h1, hr, fun hn => ?_⟩
  obtain ⟨b, off, e, _, h3⟩ := h2 hn
  refine ⟨b, off, e, fun k hk => ?_⟩
  have f : ∀ i u, i < 4 → (fK l[k])[i]? = some u → w.cell? ⟨b, off + k * 4 + i, none⟩ = some u := fun i u hi hu => by
    rw [Nat.add_assoc]
    exact h3 _ _ ((flatR_at fK_len l k i hk hi).trans hu)
  exact ⟨f 0 _ (by omega) rfl, f 1 _ (by omega) rfl, f 2 _ (by omega) rfl, f 3 _ (by omega) rfl⟩

theorem infoK : (Try.prog.info? 49).map (fun i => (i.zero, i.size, i.bytes)) = some (some (.agg #[.int .u64 0, .int .i64 0, .int .i64 0, .int .i64 0]), 4, 32) := by kernel_rfl

/-- the value is a slice of its own memory, from block base on, and reads as the children l -/
def OwnKs (base : Nat) (w : World) (v : Value) (n : Nat) (l : List Kid) : Prop :=
  l.length = n ∧ (∀ x ∈ l, 0 ≤ x.1 ∧ x.1 ≤ 18446744073709551615) ∧ w.ownsRow base 49 4 v n (flatR fK l)
theorem OwnKs.ks {base : Nat} {w : World} {v : Value} {n : Nat} {l : List Kid} (h : OwnKs base w v n l) :
    ∃ ao cap, v = .slice ao n cap ∧ IsKs w ao n l ∧ (ao = none → n = 0 ∧ cap = 0) ∧ (0 < n → ∃ g, ao = some ⟨g, 0, none⟩ ∧ base ≤ g ∧ g < w.heap.size) := by
  obtain ⟨h1, h2, h3⟩ := h
  obtain ⟨ao, cap, e, hr, h4, h5⟩ := IsR.owned fK_len h1 h3
  exact ⟨ao, cap, e, hr.ks h2, h4, h5⟩

set_option maxRecDepth 100000 in
set_option maxHeartbeats 2000000 in
theorem copyKids_any (l : List Kid) (ao : Option Addr) (n c : Nat) (w : World) (hk : IsKs w ao n l) (hreach : n * 32 ≤ 140737488351232) :
    Calls Try.prog 39 #[.slice ao n c] w fun e w' => ∃ v, e = .returned v ∧ OwnKs w.heap.size w' v n l ∧ Below w.heap.size w w' := by
  obtain ⟨i0, hi, hz0, hz1, hz2⟩ := info_parts infoK
  have HK := Lib.hid hk
  have hn63 : n ≤ 9223372036854775807 := by omega
  clear hk
  go_enter Try.func39, Try.ntmps39
  go_wp2_with fail
  go_loopw [3, 4] (fun v i wr => ∃ k : Nat, k ≤ n ∧ i = .int .i64 k ∧ Below w.heap.size w wr ∧ wr.ownsRow w.heap.size 49 4 v k (flatR fK (l.take k))) (fun _ i _ => n - (intOf i).toNat)
  case atStart => exact ⟨0, Nat.zero_le _, rfl, by go_grown, World.ownsRow_nil _ _ _ _⟩
  case round =>
    obtain ⟨k, hkn, rfl, hbr, hown⟩ := hrel
    have hsz := hbr.size
    by_cases hlt : k < n
    · obtain ⟨hl, hu, hc⟩ := HK.out
      obtain ⟨b, off, rfl, hcell⟩ := hc (by omega)
      have hkl : k < l.length := by omega
      obtain ⟨m0, m1, m2, m3⟩ := cellK_below (hcell k hkl) hbr (cellK_lt (hcell k hkl))
      have HBR := Lib.hid hbr
      have HO : ∀ A, (wr.alloc A).ownsRow w.heap.size 49 4 _ k (flatR fK (l.take k)) := fun A => hown.alloc A
      have HOW := Lib.hid hown
      have HHO := Lib.hid HO
      have HN : IsR fK (wr.alloc (.cells #[.int .u64 l[k].1, .int .i64 l[k].2.1, .int .i64 l[k].2.2.1, .int .i64 l[k].2.2.2] 49)) (some ⟨wr.heap.size, 0, none⟩) 1 [l[k]] :=
        ⟨rfl, fun _ => ⟨_, _, rfl, by simp, fun j u hj => by
          rw [block_cell (block_new _ _), Nat.zero_add, ← hj, flatR_one]
          exact (Array.getElem?_toList).symm⟩⟩
      have HHN := Lib.hid HN
      have HLEN := Lib.hid (show (flatR fK (l.take k)).length = k * 4 by rw [flatR_len fK_len]; simp; omega)
      have HTAKE := Lib.hid (List.take_succ_eq_append_getElem hkl)
      clear hl hu hc hcell hbr hown HO HN
      go_wp2_with (at_builtin; refine wpList_append_own _ rfl _ _ 22 rfl w.heap.size 49 i0 (.agg #[.int .u64 0, .int .i64 0, .int .i64 0, .int .i64 0]) 4 32 Try.underlying22 hi hz0 hz1 hz2 rfl (by decide) _ k (flatR fK (l.take k)) rfl (HHO.out _) ⟨wr.heap.size, 0, none⟩ 1 _ (flatR fK [l[k]]) rfl rfl (HHN.out.news (by decide)) (fK_one _) ?c3 ?c4 ?c5 ?_)
      case c3 => unfold maxLen; omega
      case c4 => omega
      case c5 => simp; omega
      intro v' w1 hown1 hgrow _
      rw [← flatR_app, ← HTAKE.out] at hown1
      have hlow := HOW.out.lt
      have hbel : Below w.heap.size w w1 := (HBR.out.alloc HBR.out.size _).grown hgrow (by simp; omega) (fun j hj => by have := hlow j hj; omega)
      have HBEL := Lib.hid hbel
      have HOWN1 := Lib.hid hown1
      clear hown1 hgrow hlow hbel
      go_wp2_with fail
      go_roundw
      case rel => exact ⟨k + 1, by omega, by go_num, HBEL.out, HOWN1.out⟩
      case measure => simp [intOf]; omega
    · obtain rfl : n = k := by omega
      obtain ⟨hl, hu, _⟩ := HK.out
      have hv : OwnKs w.heap.size wr u3 n l := ⟨hl, hu, by rw [List.take_of_length_le (by omega)] at hown; exact hown⟩
      have HV := Lib.hid hv
      have HBR := Lib.hid hbr
      clear hl hu hv hbr hown
      go_wp2_with fail
      go_ret
      exact ⟨_, rfl, HV.out, HBR.out⟩
end Go.Proofs.Ytbodacjhhkjdfaa
