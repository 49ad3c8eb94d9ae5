/- Deltas: the law Parses: its walk. -/
import Derived.Test.YtkocknhpnmkicaaDoorDyl
namespace Go.Proofs.YtkocknhpnmkicaaDoor
open Go.RowKit
set_option linter.unusedVariables false

theorem refParse_to {r : List Pc} {x : Int} (s : ByteArray) (w : World) (hs : s.size ≤ 1000000000) (h1 : parseR s = (r, x)) :
    Calls Tryd.prog 30 #[.string s] w (Rowed w r x) := by
  have h := refParse_any s w hs
  rw [h1] at h
  exact h
theorem parseR_len {s : ByteArray} {r : List Pc} {x : Int} (hs : s.size ≤ 1000000000) (h : parseR s = (r, x)) : r.length ≤ 1000000001 := by
  unfold parseR at h
  split at h
  · cases h; exact Nat.zero_le _
  · rename_i q hq
    have := parse_len hq
    split at h
    · cases h; omega
    · cases h; exact Nat.zero_le _

set_option maxRecDepth 100000 in
set_option maxHeartbeats 4000000 in
theorem parses_law (s : ByteArray) (w : World) (ht : Tab w) (hs : s.size ≤ 1000000000) : Calls Tryd.prog 7 #[.string s] w fun e w' => e = .returned (.bool true) ∧ Below w.heap.size w w' := by
  obtain ⟨r, x, hp⟩ : ∃ r x, parseR s = (r, x) := ⟨_, _, rfl⟩
  have HT := Lib.hid ht
  have HS := Lib.hid hs
  have HP := Lib.hid hp
  have hrl := parseR_len hs hp
  have HSS := Lib.hid (show sameL r r = true from decide_eq_true rfl)
  clear ht hs hp
  go_enter Tryd.func7, Tryd.ntmps7
  have HC1 := Lib.hid (parse_to s w HS.out HP.out)
  go_wp2_with fail
  refine (HC1.out).mono ?_; rintro e w1 ⟨v1, rfl, hown1, hb1⟩
  have HB1 := Lib.hid (below_two (Below.refl w.heap.size w) hb1)
  obtain ⟨aop, capp, rfl, hr1, hncp, hg1⟩ := IsR.owned (f := fP) (s := 3) fP_len (l := r) (n := (r).length) rfl hown1
  have Hp1 := Lib.hid hr1
  have HNp := Lib.hid hncp
  clear hb1 HC1 hown1 hr1 hg1 hncp
  have HC2 := Lib.hid (refParse_to s w1 HS.out HP.out)
  go_wp2_with fail
  refine (HC2.out).mono ?_; rintro e w2 ⟨v2, rfl, hown2, hb2⟩
  have HB2 := Lib.hid (below_two HB1.out hb2)
  have Hp2 := Lib.hid (Hp1.out.later hb2)
  obtain ⟨aoq, capq, rfl, hr2, hncq, hg2⟩ := IsR.owned (f := fP) (s := 3) fP_len (l := r) (n := (r).length) rfl hown2
  have Hq2 := Lib.hid hr2
  have HNq := Lib.hid hncq
  clear hb2 HC2 hown2 hr2 hg2 hncq
  have HC3 := Lib.hid (refSame_to aop aoq r.length capp r.length capq r r w2 Hp2.out Hq2.out (by omega) HSS.out)
  go_wp2_with fail
  refine (HC3.out).mono ?_; rintro e w3 ⟨rfl, hb3⟩
  have HB3 := Lib.hid (below_two HB2.out hb3)
  have Hp3 := Lib.hid (Hp2.out.later hb3)
  have Hq3 := Lib.hid (Hq2.out.later hb3)
  clear hb3 HC3
  have HC4 := Lib.hid (known_any w3 (HT.out.below HB3.out))
  go_wp2_with fail
  refine (HC4.out).mono ?_; rintro e w4 ⟨rfl, hb4⟩
  have HB4 := Lib.hid (below_two HB3.out hb4)
  have Hp4 := Lib.hid (Hp3.out.later hb4)
  have Hq4 := Lib.hid (Hq3.out.later hb4)
  clear hb4 HC4
  go_wp2_with fail
  go_ret
  exact ⟨rfl, HB4.out⟩

end Go.Proofs.YtkocknhpnmkicaaDoor
