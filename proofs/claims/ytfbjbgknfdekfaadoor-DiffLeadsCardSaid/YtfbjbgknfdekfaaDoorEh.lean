/- Diff: Between of the program and of the reference: their walks. -/
import Derived.Test.YtfbjbgknfdekfaaDoorEg
namespace Go.Proofs.YtfbjbgknfdekfaaDoor
open Go.RowKit
set_option linter.unusedVariables false

theorem comP_le (a b : ByteArray) : comP a b ≤ a.size ∧ comP a b ≤ b.size := by
  have h := pre_le a.data.toList b.data.toList
  rw [show a.data.toList.length = a.size from Array.length_toList .., show b.data.toList.length = b.size from Array.length_toList ..] at h
  have h2 := down_le (bnd2 a b) (pre a.data.toList b.data.toList)
  have h3 : comP a b ≤ pre a.data.toList b.data.toList := h2
  omega
theorem comS_le (a b : ByteArray) : comP a b + comS a b ≤ a.size ∧ comP a b + comS a b ≤ b.size := by
  have h := comP_le a b
  have h2 : comS a b ≤ comK a b := down_le (bndS a b) (comK a b)
  have h3 : comK a b ≤ min a.size b.size - comP a b := Nat.min_le_right _ _
  omega
/-- the delta that replaces k bytes at a place, as it is put together -/
def repL (n at_ k : Nat) (text : ByteArray) : List Pc := putL (putL (putL (putL [] ⟨1, (at_ : Nat), ⟨#[]⟩⟩) ⟨2, 0, text⟩) ⟨3, (k : Nat), ⟨#[]⟩⟩) ⟨1, (n - at_ - k : Nat), ⟨#[]⟩⟩
def midB (a b : ByteArray) : ByteArray := b.extract (comP a b) (b.size - comS a b)
def betL (a b : ByteArray) : List Pc := repL a.size (comP a b) (a.size - comP a b - comS a b) (midB a b)
def betR (a b : ByteArray) : List Pc × Int := if 1048576 < a.size ∨ 1048576 < b.size then ([], 5) else (formP (betL a b), 0)
theorem put_ok {ds : List Pc} {p : Pc} (h : AllOk ds) (hp : ¬ (p.n = 0 ∧ p.t.size = 0) → okP p = true) : AllOk (putL ds p) := by
  unfold putL
  by_cases h0 : p.n = 0 ∧ p.t.size = 0
  · rw [if_pos h0]; exact h
  · rw [if_neg h0]
    intro q hq
    rcases List.mem_append.1 hq with hq | hq
    · exact h q hq
    · rw [List.mem_singleton] at hq
      rw [hq]; exact hp h0
theorem sIP_app (a b : List Pc) : sIP (a ++ b) = sIP a + sIP b := by
  unfold sIP
  rw [List.map_append, Dp.sI_append]
theorem sOP_app (a b : List Pc) : sOP (a ++ b) = sOP a + sOP b := by
  unfold sOP
  rw [List.map_append, Dp.sO_append]
theorem put_sums {ds : List Pc} {p : Pc} (hp : ¬ (p.n = 0 ∧ p.t.size = 0) → okP p = true) : (sIP (putL ds p) : Int) ≤ sIP ds + p.n + 0 * p.t.size ∧ (sOP (putL ds p) : Int) ≤ sOP ds + (if p.k = 1 then p.n else 0) + p.t.size := by
  unfold putL
  by_cases h0 : p.n = 0 ∧ p.t.size = 0
  · rw [if_pos h0, h0.1, h0.2]
    split <;> omega
  · rw [if_neg h0, sIP_app, sOP_app]
    have hk := hp h0
    obtain ⟨e1, e2⟩ := inP_of hk
    have s1 : sIP [p] = (ofP p).inn + 0 := rfl
    have s2 : sOP [p] = (ofP p).out + 0 := rfl
    rw [s1, s2]
    obtain ⟨k, n, t⟩ := p
    rcases okP_cases hk with ⟨rfl, h2, h3⟩ | ⟨rfl, h2, h3⟩ | ⟨rfl, h2, h3⟩
    · simp only at h2 h3
      have e1' : n = (ofP ⟨1, n, t⟩).inn := e1
      have e2' : n = (ofP ⟨1, n, t⟩).out := e2
      rw [if_pos rfl]
      show _ ≤ _ + n + 0 * _ ∧ _ ≤ _ + n + _
      omega
    · simp only at h2 h3
      have e1' : n = (ofP ⟨3, n, t⟩).inn := e1
      have e2' : (0 : Int) = (ofP ⟨3, n, t⟩).out := e2
      rw [if_neg (show ¬ ((3 : Int) = 1) by decide)]
      show _ ≤ _ + n + 0 * _ ∧ _ ≤ _ + 0 + _
      omega
    · simp only at h2 h3
      have e1' : (0 : Int) = (ofP ⟨2, n, t⟩).inn := e1
      have e2' : (t.size : Int) = (ofP ⟨2, n, t⟩).out := e2
      rw [if_neg (show ¬ ((2 : Int) = 1) by decide)]
      show _ ≤ _ + n + 0 * _ ∧ _ ≤ _ + 0 + (t.size : Int)
      omega
theorem check_fits {l : List Pc} (h1 : l.length ≤ 4096) (h2 : AllOk l) (h3 : sIP l ≤ 1048576) (h4 : sOP l ≤ 1048576) : checkP l = 0 := by
  unfold checkP lengthsP
  rw [if_neg (by omega), lenL_ok l 0 0 h2 (by omega) (by omega)]
theorem rep_props (n at_ k : Nat) (text : ByteArray) (h : at_ + k ≤ n) : (repL n at_ k text).length ≤ 4 ∧ AllOk (repL n at_ k text) ∧ sIP (repL n at_ k text) ≤ n ∧ sOP (repL n at_ k text) ≤ n - k + text.size := by
  have o1 : ¬ (((at_ : Nat) : Int) = 0 ∧ (⟨#[]⟩ : ByteArray).size = 0) → okP ⟨1, (at_ : Nat), ⟨#[]⟩⟩ = true := fun h => by
    have : 1 ≤ at_ := by
      rcases Nat.eq_zero_or_pos at_ with e | e
      · exact absurd ⟨by omega, rfl⟩ h
      · exact e
    have h0 : (⟨#[]⟩ : ByteArray).size = 0 := rfl
    simp [okP, h0]; omega
  have o2 : ¬ ((0 : Int) = 0 ∧ text.size = 0) → okP ⟨2, 0, text⟩ = true := fun h => by
    have : text.size ≠ 0 := fun e => h ⟨rfl, e⟩
    simp [okP, this]
  have o3 : ¬ (((k : Nat) : Int) = 0 ∧ (⟨#[]⟩ : ByteArray).size = 0) → okP ⟨3, (k : Nat), ⟨#[]⟩⟩ = true := fun h => by
    have : 1 ≤ k := by
      rcases Nat.eq_zero_or_pos k with e | e
      · exact absurd ⟨by omega, rfl⟩ h
      · exact e
    have h0 : (⟨#[]⟩ : ByteArray).size = 0 := rfl
    simp [okP, h0]; omega
  have o4 : ¬ (((n - at_ - k : Nat) : Int) = 0 ∧ (⟨#[]⟩ : ByteArray).size = 0) → okP ⟨1, (n - at_ - k : Nat), ⟨#[]⟩⟩ = true := fun h => by
    have : 1 ≤ n - at_ - k := by
      rcases Nat.eq_zero_or_pos (n - at_ - k) with e | e
      · exact absurd ⟨by omega, rfl⟩ h
      · exact e
    have h0 : (⟨#[]⟩ : ByteArray).size = 0 := rfl
    simp [okP, h0]; omega
  have k0 : AllOk [] := fun q hq => absurd hq List.not_mem_nil
  have k1 := put_ok (p := ⟨1, (at_ : Nat), ⟨#[]⟩⟩) k0 o1
  have k2 := put_ok (p := ⟨2, 0, text⟩) k1 o2
  have k3 := put_ok (p := ⟨3, (k : Nat), ⟨#[]⟩⟩) k2 o3
  have k4 := put_ok (p := ⟨1, (n - at_ - k : Nat), ⟨#[]⟩⟩) k3 o4
  have s1 := put_sums (ds := []) (p := ⟨1, (at_ : Nat), ⟨#[]⟩⟩) o1
  have s2 := put_sums (ds := putL [] ⟨1, (at_ : Nat), ⟨#[]⟩⟩) (p := ⟨2, 0, text⟩) o2
  have s3 := put_sums (ds := putL (putL [] ⟨1, (at_ : Nat), ⟨#[]⟩⟩) ⟨2, 0, text⟩) (p := ⟨3, (k : Nat), ⟨#[]⟩⟩) o3
  have s4 := put_sums (ds := putL (putL (putL [] ⟨1, (at_ : Nat), ⟨#[]⟩⟩) ⟨2, 0, text⟩) ⟨3, (k : Nat), ⟨#[]⟩⟩) (p := ⟨1, (n - at_ - k : Nat), ⟨#[]⟩⟩) o4
  have l1 := putL_len [] ⟨1, (at_ : Nat), ⟨#[]⟩⟩
  have l2 := putL_len (putL [] ⟨1, (at_ : Nat), ⟨#[]⟩⟩) ⟨2, 0, text⟩
  have l3 := putL_len (putL (putL [] ⟨1, (at_ : Nat), ⟨#[]⟩⟩) ⟨2, 0, text⟩) ⟨3, (k : Nat), ⟨#[]⟩⟩
  have l4 := putL_len (putL (putL (putL [] ⟨1, (at_ : Nat), ⟨#[]⟩⟩) ⟨2, 0, text⟩) ⟨3, (k : Nat), ⟨#[]⟩⟩) ⟨1, (n - at_ - k : Nat), ⟨#[]⟩⟩
  have e0 : sIP [] = 0 := rfl
  have e1 : sOP [] = 0 := rfl
  have e2 : (⟨#[]⟩ : ByteArray).size = 0 := rfl
  have e3 : ([] : List Pc).length = 0 := rfl
  rw [if_pos rfl] at s1 s4
  rw [if_neg (show ¬ ((2 : Int) = 1) by decide)] at s2
  rw [if_neg (show ¬ ((3 : Int) = 1) by decide)] at s3
  simp only [e0, e1, e2, e3] at s1 s2 s3 s4 l1 l2 l3 l4
  refine ⟨?_, k4, ?_, ?_⟩
  · unfold repL; omega
  · unfold repL; omega
  · unfold repL; omega
theorem mid_size (a b : ByteArray) : (midB a b).size = b.size - comS a b - comP a b := by
  unfold midB
  rw [ByteArray.size_extract]
  omega
theorem bet_props {a b : ByteArray} (ha : a.size ≤ 1048576) (hb : b.size ≤ 1048576) : (betL a b).length ≤ 4 ∧ AllOk (betL a b) ∧ sIP (betL a b) ≤ a.size ∧ sOP (betL a b) ≤ b.size ∧ checkP (betL a b) = 0 := by
  obtain ⟨c1, c2⟩ := comS_le a b
  have hm := mid_size a b
  obtain ⟨h1, h2, h3, h4⟩ := rep_props a.size (comP a b) (a.size - comP a b - comS a b) (midB a b) (by omega)
  have h5 : sOP (betL a b) ≤ b.size := by
    have : sOP (betL a b) ≤ a.size - (a.size - comP a b - comS a b) + (midB a b).size := h4
    omega
  exact ⟨h1, h2, h3, h5, check_fits (by have : (betL a b).length ≤ 4 := h1; omega) h2 (by have : sIP (betL a b) ≤ a.size := h3; omega) (by omega)⟩

set_option maxRecDepth 100000 in
set_option maxHeartbeats 4000000 in
theorem between_any (a b : ByteArray) (w : World) (ha : a.size ≤ 140737488355328) (hb : b.size ≤ 140737488355328) :
    Calls Tryd.prog 14 #[.string a, .string b] w (Rowed w (betR a b).1 (betR a b).2) := by
  have HB := Lib.hid (Below.refl w.heap.size w)
  by_cases h1 : 1048576 < a.size
  · have h1' : (1048576 : Int) < (a.size : Int) := by omega
    have HE := Lib.hid (show betR a b = ([], 5) from if_pos (.inl h1))
    clear h1
    go_enter Tryd.func14, Tryd.ntmps14
    go_wp2_with fail
    go_ret2
    rw [HE.out]
    exact ⟨_, rfl, own_nil _ _, HB.out⟩
  · have h1' : ¬ ((1048576 : Int) < (a.size : Int)) := by omega
    by_cases h2 : 1048576 < b.size
    · have h2' : (1048576 : Int) < (b.size : Int) := by omega
      have HE := Lib.hid (show betR a b = ([], 5) from if_pos (.inr h2))
      clear h1 h2
      go_enter Tryd.func14, Tryd.ntmps14
      go_wp2_with fail
      go_ret2
      rw [HE.out]
      exact ⟨_, rfl, own_nil _ _, HB.out⟩
    · have h2' : ¬ ((1048576 : Int) < (b.size : Int)) := by omega
      have HE := Lib.hid (show betR a b = (formP (betL a b), 0) from if_neg (by rintro (h | h) <;> omega))
      have HPR := Lib.hid (bet_props (a := a) (b := b) (by omega) (by omega))
      have HBL := Lib.hid (show betL a b = putL (putL (putL (putL [] ⟨1, (comP a b : Nat), ⟨#[]⟩⟩) ⟨2, 0, midB a b⟩) ⟨3, (a.size - comP a b - comS a b : Nat), ⟨#[]⟩⟩) ⟨1, (comS a b : Nat), ⟨#[]⟩⟩ by
        unfold betL repL
        have : a.size - comP a b - (a.size - comP a b - comS a b) = comS a b := by have := comS_le a b; omega
        rw [this])
      have HMID := Lib.hid (show midB a b = b.extract (comP a b) (b.size - comS a b) from rfl)
      have HC := Lib.hid (common_any a b w ha hb)
      obtain ⟨c1, c2⟩ := comS_le a b
      generalize midB a b = mid at *
      generalize comP a b = p at *
      generalize comS a b = q at *
      have g1 : (0 : Int) ≤ (p : Int) := by omega
      have g2 : (b.size : Int) - (q : Int) = ((b.size - q : Nat) : Int) := by omega
      have g3 : (p : Int) ≤ ((b.size - q : Nat) : Int) := by omega
      have g4 : ((b.size - q : Nat) : Int) ≤ (b.size : Int) := by omega
      have g5 : (a.size : Int) - (p : Int) - (q : Int) = ((a.size - p - q : Nat) : Int) := by omega
      have g6 : IntKind.i64.wrap ((a.size : Int) - (p : Int)) = (a.size : Int) - (p : Int) := by rw [IntKind.wrap_i64]; omega
      have l1 := putL_len [] ⟨1, (p : Nat), ⟨#[]⟩⟩
      have l2 := putL_len (putL [] ⟨1, (p : Nat), ⟨#[]⟩⟩) ⟨2, 0, mid⟩
      have l3 := putL_len (putL (putL [] ⟨1, (p : Nat), ⟨#[]⟩⟩) ⟨2, 0, mid⟩) ⟨3, (a.size - p - q : Nat), ⟨#[]⟩⟩
      have e3 : ([] : List Pc).length = 0 := rfl
      rw [e3] at l1
      have L1 := Lib.hid l1
      have L2 := Lib.hid l2
      have L3 := Lib.hid l3
      clear h1 h2 ha hb l1 l2 l3 e3
      go_enter Tryd.func14, Tryd.ntmps14
      go_wp2_with fail
      refine (HC.out).mono ?_; rintro e w1 ⟨rfl, hb1⟩
      have HB1 := Lib.hid hb1
      have hs1 := hb1.size
      have HP1 := Lib.hid (putPc_any w.heap.size (.slice none 0 0) [] 1 (p : Nat) ⟨#[]⟩ w1 (own_nil _ _) hs1 (by show 0 ≤ _; omega))
      clear hb1 HC
      go_wp2_with fail
      refine (HP1.out).mono ?_; rintro e w2 ⟨v2, rfl, hown2, hb2⟩
      have HB2 := Lib.hid (HB1.out.trans hb2)
      have hs2 := HB2.out.size
      have HP2 := Lib.hid (putPc_any w.heap.size v2 _ 2 0 mid w2 hown2 hs2 (by have := L1.out; omega))
      rw [HMID.out] at HP2
      clear hown2 hb2 HP1
      go_wp2_with fail
      refine (HP2.out).mono ?_; rintro e w3 ⟨v3, rfl, hown3, hb3⟩
      rw [← HMID.out] at hown3
      have HB3 := Lib.hid (HB2.out.trans hb3)
      have hs3 := HB3.out.size
      have HP3 := Lib.hid (putPc_any w.heap.size v3 _ 3 (a.size - p - q : Nat) ⟨#[]⟩ w3 hown3 hs3 (by have := L1.out; have := L2.out; omega))
      clear hown3 hb3 HP2
      go_wp2_with fail
      refine (HP3.out).mono ?_; rintro e w4 ⟨v4, rfl, hown4, hb4⟩
      have HB4 := Lib.hid (HB3.out.trans hb4)
      have hs4 := HB4.out.size
      have HP4 := Lib.hid (putPc_any w.heap.size v4 _ 1 (q : Nat) ⟨#[]⟩ w4 hown4 hs4 (by have := L1.out; have := L2.out; have := L3.out; omega))
      rw [← HBL.out] at HP4
      clear hown4 hb4 HP3
      go_wp2_with fail
      refine (HP4.out).mono ?_; rintro e w5 ⟨v5, rfl, hown5, hb5⟩
      have HB5 := Lib.hid (HB4.out.trans hb5)
      obtain ⟨ao9, cap9, rfl, hR5, -, -⟩ := IsR.owned (f := fP) (s := 3) fP_len (l := betL a b) (n := (betL a b).length) rfl hown5
      have HN := Lib.hid (normalize_any ao9 (betL a b).length cap9 (betL a b) w5 hR5 (by have := HPR.out.1; omega))
      have HNE := Lib.hid (show normL (betL a b) = formP (betL a b) ∧ checkP (betL a b) = 0 from ⟨if_pos HPR.out.2.2.2.2, HPR.out.2.2.2.2⟩)
      rw [HNE.out.1, HNE.out.2] at HN
      have HS5 := Lib.hid HB5.out.size
      clear hown5 hb5 hR5 HP4
      go_wp2_with fail
      refine (HN.out).mono ?_; rintro e w6 ⟨v6, rfl, hown6, hb6⟩
      have HO6 := Lib.hid (own_mono hown6 HS5.out)
      have HB6 := Lib.hid (below_two HB5.out hb6)
      clear hown6 hb6
      go_wp2_with fail
      go_ret2
      rw [HE.out]
      exact ⟨_, rfl, HO6.out, HB6.out⟩

end Go.Proofs.YtfbjbgknfdekfaaDoor
