/- The law MeasureAdds: the sums of the measures of three strings. -/
import Derived.Test.YtalkafjccpijiaaMeasM
namespace Go.Proofs.Ytalkafjccpijiaa
open Go.RowKit

def plusT (x y : Trip) : Trip := (x.1 + y.1, x.2.1 + y.2.1, x.2.2 + y.2.2)
def Bd (k : Int) (x : Trip) : Prop := 0 ≤ x.1 ∧ x.1 ≤ k ∧ 0 ≤ x.2.1 ∧ x.2.1 ≤ k ∧ 0 ≤ x.2.2 ∧ x.2.2 ≤ k
theorem addM_ok {x y : Trip} {j k : Int} (hx : Bd j x) (hy : Bd k y) (h : j + k ≤ 9223372036854775807) : addM x y = plusT x y ∧ Bd (j + k) (plusT x y) := by
  obtain ⟨a1, a2, a3, a4, a5, a6⟩ := hx
  obtain ⟨b1, b2, b3, b4, b5, b6⟩ := hy
  refine ⟨?_, ?_⟩
  · unfold addM plusT
    rw [IntWalk.wrap64_in _ (by omega), IntWalk.wrap64_in _ (by omega), IntWalk.wrap64_in _ (by omega)]
  · unfold Bd plusT; simp only; omega
theorem ofT_bd (s : ByteArray) (h : s.size ≤ 140737488351232) : Bd 140737488351232 (ofT s) := by
  have h1 := cnt_le isB s
  have h2 := cnt_le isF s
  unfold Bd ofT; simp only; omega
theorem ofT_append (a b : ByteArray) : ofT (a ++ b) = plusT (ofT a) (ofT b) := by
  unfold ofT plusT
  rw [cnt_append, cnt_append, ByteArray.size_append]
  simp
theorem zero_bd : Bd 0 (0, 0, 0) := by unfold Bd; simp
theorem plusT_zero (x : Trip) : plusT (0, 0, 0) x = x := by unfold plusT; simp
theorem plusT_assoc (x y z : Trip) : plusT (plusT x y) z = plusT x (plusT y z) := by unfold plusT; simp [Int.add_assoc]

theorem sum2 {x y : Trip} {j k : Int} (hx : Bd j x) (hy : Bd k y) (h : j + k ≤ 9223372036854775807) (hj : 0 ≤ k) : sumM [x, y] = plusT x y ∧ Bd (j + k) (plusT x y) := by
  have h0 := addM_ok zero_bd hx (by omega)
  rw [plusT_zero] at h0
  have h1 := addM_ok hx hy h
  refine ⟨?_, h1.2⟩
  show addM (addM (0, 0, 0) x) y = _
  rw [h0.1, h1.1]
theorem sum3 {x y z : Trip} {i j k : Int} (hx : Bd i x) (hy : Bd j y) (hz : Bd k z) (h : i + j + k ≤ 9223372036854775807) (hj : 0 ≤ j) (hk : 0 ≤ k) : sumM [x, y, z] = plusT (plusT x y) z := by
  have h0 := addM_ok zero_bd hx (by omega)
  rw [plusT_zero] at h0
  have h1 := addM_ok hx hy (by omega)
  have h2 := addM_ok h1.2 hz h
  show addM (addM (addM (0, 0, 0) x) y) z = _
  rw [h0.1, h1.1, h2.1]

theorem walk_adds (a b c : ByteArray) (w : World) (ha : a.size ≤ 140737488351232) (hb : b.size ≤ 140737488351232) (hc : c.size ≤ 140737488351232) :
    Calls Try.prog 10 #[.string a, .string b, .string c] w fun e w' => e = .returned (.bool true) ∧ Below w.heap.size w w' := by
  have ba := ofT_bd a ha
  have bb := ofT_bd b hb
  have bc := ofT_bd c hc
  have s2 := sum2 ba bb (by omega) (by omega)
  have s2' := sum2 bb bc (by omega) (by omega)
  have s3 := sum3 ba bb bc (by omega) (by omega) (by omega)
  have s4 := sum2 s2.2 bc (by omega) (by omega)
  have s5 := sum2 ba s2'.2 (by omega) (by omega)
  have eT : ofT (a ++ b ++ c) = plusT (plusT (ofT a) (ofT b)) (ofT c) := by rw [ofT_append, ofT_append]
  have hm : ∀ s : ByteArray, s.size ≤ 140737488351232 → s.size ≤ maxLen := fun s h => by unfold maxLen; omega
  refine walk_adds_core a b c (ofT a) (ofT b) (ofT c) (plusT (ofT a) (ofT b)) (plusT (ofT b) (ofT c)) (ofT (a ++ b ++ c)) w (by omega) (by rw [ByteArray.size_append]; omega)
    (fun w => of_any a w (hm a ha)) (fun w => of_any b w (hm b hb)) (fun w => of_any c w (hm c hc))
    (fun w => of_any (a ++ b ++ c) w (by rw [ByteArray.size_append, ByteArray.size_append]; unfold maxLen; omega)) ?_ ?_ ?_ ?_ ?_ ?_ ?_ ?_
  · intro w
    have h := of_any ⟨#[]⟩ w (by decide)
    exact h
  · intro w
    exact add_any none 0 0 [] w (by omega) ⟨rfl, fun h => absurd h (by omega)⟩
  · intro ao cp w h
    have := add_any ao 3 cp _ w (by omega) h
    rw [s3, ← eT] at this
    exact this
  · intro ao cp w h
    have := add_any ao 2 cp _ w (by omega) h
    rw [s2.1] at this
    exact this
  · intro ao cp w h
    have := add_any ao 2 cp _ w (by omega) h
    rw [s4.1, ← eT] at this
    exact this
  · intro ao cp w h
    have := add_any ao 2 cp _ w (by omega) h
    rw [s2'.1] at this
    exact this
  · intro ao cp w h
    have := add_any ao 2 cp _ w (by omega) h
    rw [s5.1, ← plusT_assoc, ← eT] at this
    exact this
  · intro w
    have := sub_any (plusT (ofT a) (ofT b)) (ofT b) w
    have e : subR (plusT (ofT a) (ofT b)) (ofT b) = (ofT a, 0) := by
      obtain ⟨a1, a2, a3, a4, a5, a6⟩ := ba
      obtain ⟨b1, b2, b3, b4, b5, b6⟩ := bb
      unfold subR plusT
      rw [if_neg (by simp only; omega)]
      simp only
      rw [IntWalk.wrap64_in _ (by omega), IntWalk.wrap64_in _ (by omega), IntWalk.wrap64_in _ (by omega)]
      simp
    rw [e] at this
    exact this

end Go.Proofs.Ytalkafjccpijiaa
