/- The arena: the law ArenaMakes. -/
import Derived.Test.YtfgkbnnojogjpaaQi
namespace Go.Proofs.Ytfgkbnnojogjpaa
open Go.RowKit

theorem wfU {n : Int} (h : (Lit.int .u64 n).wf = true) : 0 ≤ n ∧ n ≤ 18446744073709551615 := by
  simpa [Lit.wf, IntKind.min, IntKind.max, IntKind.signed, IntKind.bits] using h

set_option maxRecDepth 100000 in
set_option maxHeartbeats 2000000 in
theorem makesA_bad (n g : Int) (w : World) (h : ¬ newOK n g) :
    Calls Try.prog 3 #[.int .i64 n, .int .u64 g] w fun e w' => e = .returned (.bool true) ∧ Below w.heap.size w w' := by
  have C1 := Lib.hid (fun w => newA_bad n g w h)
  have C2 := Lib.hid (fun w => refNewA_bad n g w h)
  clear h
  go_enter Try.func3, Try.ntmps3
  go_wp2_with fail
  refine (C1.out _).mono ?_; rintro e w1 ⟨rfl, rfl⟩
  go_wp2_with fail
  refine (C2.out _).mono ?_; rintro e w1 ⟨rfl, rfl⟩
  go_wp2_with fail
  refine (awake13_any _).mono ?_; rintro e w1 ⟨rfl, hb⟩
  have HB := Lib.hid hb
  clear hb
  go_wp2_with fail
  go_ret
  exact ⟨rfl, HB.out⟩

def mk1 (n g : Nat) : AS := ⟨takeL (newL n g), [(65536, ⟨0, tA, []⟩)], 1, 0, 0⟩
theorem mk1_S {n g : Nat} (h1 : 1 ≤ n) : allocR (newA n g) ⟨0, tA, []⟩ = (65536, 0) ∧ allocS (newA n g) ⟨0, tA, []⟩ = mk1 n g := by
  refine leaf_S ckA ?_ rfl
  show takeR (newL n g) = _
  unfold takeR
  rw [if_neg (show ¬ (newL n g).m = 0 by show ¬ n = 0; omega)]
  show (hMk (n - 1 - (n - 1)) 1, (0 : Int)) = _
  rw [Nat.sub_self]
  rfl
theorem mk1_stats {n g : Nat} {w0 w : World} {B : PB} (h : SoloA w0 w B (mk1 n g)) (h1 : 1 ≤ n) : stats (mk1 n g) = .agg #[.int .i64 n, .int .i64 ((n : Int) - 1), .int .i64 1, .int .i64 0, .int .i64 1, .int .i64 0, .int .i64 0] := by
  have h2 := parts_n h.inv.f
  have h3 := h.inv.len
  have h4 : (mk1 n g).it.length = 1 := rfl
  have h5 : (mk1 n g).x.m = n - 1 := rfl
  have h6 : (mk1 n g).x.n = n := rfl
  have h7 : (slotsTo (mk1 n g).x 2 (mk1 n g).x.n).length = 0 := by omega
  unfold stats
  rw [h4, h5, h6]
  rw [h6] at h7
  rw [h7, show ((n - 1 : Nat) : Int) = (n : Int) - 1 by omega]
  rfl

set_option maxRecDepth 100000 in
set_option maxHeartbeats 2000000 in
theorem makesA_ok (n g : Nat) (w : World) (h1 : 1 ≤ n) (h2 : n ≤ 16384) (h3 : 1 ≤ g) (h4 : g ≤ 4294967295) :
    Calls Try.prog 3 #[.int .i64 n, .int .u64 g] w fun e w' => e = .returned (.bool true) ∧ Below w.heap.size w w' := by
  go_enter Try.func3, Try.ntmps3
  go_wp2_with fail
  refine (newA_ok n g w h1 h2 h3 h4).mono ?_; rintro e w1 hh
  obtain ⟨B, rfl, hs⟩ := hh.solo h1 h2 h3 h4
  have HS0 := Lib.hid hs
  clear hs hh
  go_wp2_with fail
  refine (refNewA_ok n g w1 h1 h2 h3 h4).mono ?_; rintro e w2 ⟨p, rfl, hb⟩
  have HS1 := Lib.hid (HS0.out.below hb)
  clear hb HS0
  go_wp2_with fail
  refine (leafAlloc w B (newA n g) tA w2 _ _ (mk1_S h1).1 (mk1_S h1).2 HS1.out).mono ?_; rintro e w3 ⟨rfl, hs⟩
  have HS2 := Lib.hid hs
  clear hs HS1
  go_wp2_with fail
  refine (statsA_any B (mk1 n g) w3 HS2.out.is HS2.out.inv.f).mono ?_; rintro e w4 ⟨rfl, hb⟩
  rw [mk1_stats HS2.out h1]
  have HS3 := Lib.hid (HS2.out.below hb)
  clear hb HS2
  go_wp2_with fail
  refine (awake13_any _).mono ?_; rintro e w5 ⟨rfl, hb⟩
  have HS4 := Lib.hid (HS3.out.below hb)
  clear hb HS3
  go_wp2_with fail
  go_ret
  exact ⟨rfl, HS4.out.low⟩

theorem walk_makes13 (n g : Int) (w : World) :
    Calls Try.prog 3 #[.int .i64 n, .int .u64 g] w fun e w' => e = .returned (.bool true) ∧ Below w.heap.size w w' := by
  by_cases h : newOK n g
  · have h' := h
    unfold newOK at h'
    obtain ⟨a, rfl⟩ := Int.eq_ofNat_of_zero_le (show 0 ≤ n by omega)
    obtain ⟨b, rfl⟩ := Int.eq_ofNat_of_zero_le (show 0 ≤ g by omega)
    exact makesA_ok a b w (by omega) (by omega) (by omega) (by omega)
  · exact makesA_bad n g w h
end Go.Proofs.Ytfgkbnnojogjpaa
