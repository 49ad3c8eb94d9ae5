/- Diff: apply.fits and apply.Apply: their walks. Plain laws: Between leads from one text to the other; between equal texts there is the identity. -/
import Derived.Test.YtfbjbgknfdekfaaDoorHp
import Derived.Test.YtfbjbgknfdekfaaDoorEz
import Derived.Test.YtfbjbgknfdekfaaDoorHc
import Derived.Test.YtfbjbgknfdekfaaDoorHj
namespace Go.Proofs.YtfbjbgknfdekfaaDoor
open Go.RowKit
set_option linter.unusedVariables false

set_option maxRecDepth 100000 in
set_option maxHeartbeats 4000000 in
theorem fits_any (s : ByteArray) (ao : Option Addr) (n c : Nat) (l : List Pc) (w : World) (h : IsR fP w ao n l) (hn63 : n ≤ 9223372036854775807) :
    Calls Tryd.prog 42 #[.string s, .slice ao n c] w fun e w' => e = .returned (.int .i64 (fitE s.size l)) ∧ Below w.heap.size w w' := by
  have hl := h.1
  have HR := Lib.hid h
  have HC := Lib.hid (lengths_any ao n c l w h hn63)
  clear h
  by_cases hc : checkP l = 0
  · rw [lengths_of_check hc] at HC
    by_cases hs : sIP l = s.size
    · have HE := Lib.hid (show fitE s.size l = 0 by unfold fitE; rw [if_pos hc, if_pos hs])
      rw [hs] at HC
      clear hc hs
      go_enter Tryd.func42, Tryd.ntmps42
      go_wp2_with fail
      refine (HC.out).mono ?_; rintro e w1 ⟨rfl, hb1⟩
      have HB1 := Lib.hid hb1
      clear hb1
      go_wp2_with fail
      go_ret
      exact ⟨by rw [HE.out] <;> rfl, HB1.out⟩
    · have HE := Lib.hid (show fitE s.size l = 21 by unfold fitE; rw [if_pos hc, if_neg hs])
      generalize sIP l = x at *
      have hne : ((x : Int) != (s.size : Int)) = true := by rw [bne_iff_ne]; omega
      have hne2 : ((x : Int) == (s.size : Int)) = false := by rw [beq_eq_false_iff_ne]; omega
      clear hc hs
      go_enter Tryd.func42, Tryd.ntmps42
      go_wp2_with fail
      refine (HC.out).mono ?_; rintro e w1 ⟨rfl, hb1⟩
      have HB1 := Lib.hid hb1
      clear hb1
      go_wp2_with fail
      go_ret
      exact ⟨by rw [HE.out] <;> rfl, HB1.out⟩
  · have HE := Lib.hid (show fitE s.size l = checkP l by unfold fitE; rw [if_neg hc])
    rw [lengths_bad hc] at HC
    generalize checkP l = x at *
    have hne : (x == 0) = false := by rw [beq_eq_false_iff_ne]; exact hc
    clear hc
    go_enter Tryd.func42, Tryd.ntmps42
    go_wp2_with fail
    refine (HC.out).mono ?_; rintro e w1 ⟨rfl, hb1⟩
    have HB1 := Lib.hid hb1
    clear hb1
    go_wp2_with fail
    go_ret
    exact ⟨by rw [HE.out] <;> rfl, HB1.out⟩
set_option maxRecDepth 100000 in
set_option maxHeartbeats 4000000 in
theorem apply_any (s : ByteArray) (ao : Option Addr) (n c : Nat) (l : List Pc) (w : World) (h : IsR fP w ao n l) (hn63 : n ≤ 9223372036854775807) :
    Calls Tryd.prog 25 #[.string s, .slice ao n c] w fun e w' => e = .returned (.tuple #[.string (appR s l).1, .int .i64 (appR s l).2]) ∧ Below w.heap.size w w' := by
  have hl := h.1
  have HR := Lib.hid h
  have HC := Lib.hid (fits_any s ao n c l w h hn63)
  clear h
  by_cases hf : fitE s.size l = 0
  · obtain ⟨hc, hs⟩ := fitE_zero hf
    obtain ⟨k1, k2, k3, k4⟩ := check_inv hc
    have HP := Lib.hid (fun (u : World) (hu : IsR fP u ao n l) => show Calls Tryd.prog 43 #[.string s, .slice ao n c] u (PartsPost s l u) from parts_any s ao n c l u hu (by omega) k2 hs k4 (by omega))
    have HE := Lib.hid (show appR s l = (⟨(appP s.data.toList l).toArray⟩, 0) from if_pos hf)
    rw [hf] at HC
    clear hf hc hs k1 k2 k3 k4
    go_enter Tryd.func25, Tryd.ntmps25
    go_wp2_with fail
    refine (HC.out).mono ?_; rintro e w1 ⟨rfl, hb1⟩
    have HB1 := Lib.hid hb1
    have HP1 := Lib.hid (HP.out w1 (HR.out.later hb1))
    clear hb1
    go_wp2_with fail
    refine (HP1.out).mono ?_; rintro e w2 ⟨⟨g, p, rfl⟩, hb2⟩
    have HB2 := Lib.hid (below_two HB1.out hb2)
    clear hb2
    go_wp2_with fail
    go_ret2
    exact ⟨by rw [HE.out]; rfl, HB2.out⟩
  · have HE := Lib.hid (show appR s l = (⟨#[]⟩, fitE s.size l) from if_neg hf)
    generalize fitE s.size l = x at *
    have hne : (x == 0) = false := by rw [beq_eq_false_iff_ne]; exact hf
    have hne2 : (x != 0) = true := by rw [bne_iff_ne]; exact hf
    clear hf
    go_enter Tryd.func25, Tryd.ntmps25
    go_wp2_with fail
    refine (HC.out).mono ?_; rintro e w1 ⟨rfl, hb1⟩
    have HB1 := Lib.hid hb1
    clear hb1
    go_wp2_with fail
    go_ret2
    exact ⟨by rw [HE.out]; rfl, HB1.out⟩
/-- what a put adds to the text -/
theorem appP_put (s : List UInt8) (ds : List Pc) (p : Pc) (h : (p.n = 0 ∧ p.t.size = 0) → appP (s.drop (sIP ds)) [p] = []) : appP s (putL ds p) = appP s ds ++ appP (s.drop (sIP ds)) [p] := by
  unfold putL
  by_cases h0 : p.n = 0 ∧ p.t.size = 0
  · rw [if_pos h0, h h0, List.append_nil]
  · rw [if_neg h0, appP_app]
theorem app_ret1 (s : List UInt8) (n : Nat) : appP s [⟨1, (n : Nat), ⟨#[]⟩⟩] = s.take n := by
  show s.take ((n : Int).toNat) ++ [] = _
  rw [List.append_nil, Int.toNat_natCast]
theorem app_ins1 (s : List UInt8) (t : ByteArray) : appP s [⟨2, 0, t⟩] = t.data.toList := by
  show t.data.toList ++ [] = _
  rw [List.append_nil]
theorem app_del1 (s : List UInt8) (n : Nat) : appP s [⟨3, (n : Nat), ⟨#[]⟩⟩] = [] := rfl
theorem suf_eq (a b : List UInt8) : ∀ k, k ≤ pre a.reverse b.reverse → a.drop (a.length - k) = b.drop (b.length - k) := by
  intro k hk
  have h1 := pre_take a.reverse b.reverse
  have h2 : a.reverse.take k = b.reverse.take k := by
    have := congrArg (List.take k) h1
    rw [List.take_take, List.take_take, Nat.min_eq_left hk] at this
    exact this
  rw [List.take_reverse, List.take_reverse] at h2
  exact List.reverse_inj.1 h2
theorem bet_app (a b : ByteArray) : appP a.data.toList (betL a b) = b.data.toList := by
  have hla : a.data.toList.length = a.size := Array.length_toList ..
  have hlb : b.data.toList.length = b.size := Array.length_toList ..
  obtain ⟨c1, c2⟩ := comS_le a b
  have hp : comP a b ≤ pre a.data.toList b.data.toList := down_le (bnd2 a b) _
  have hs : comS a b ≤ pre a.data.toList.reverse b.data.toList.reverse := Nat.le_trans (down_le (bndS a b) (comK a b)) (Nat.min_le_left _ _)
  have e1 : a.data.toList.take (comP a b) = b.data.toList.take (comP a b) := by
    have := congrArg (List.take (comP a b)) (pre_take a.data.toList b.data.toList)
    rw [List.take_take, List.take_take, Nat.min_eq_left hp] at this
    exact this
  have e2 := suf_eq a.data.toList b.data.toList (comS a b) hs
  rw [hla, hlb] at e2
  have hm : (midB a b).data.toList = (b.data.toList.drop (comP a b)).take (b.size - comS a b - comP a b) := by
    unfold midB
    rw [← ext_list]
  unfold betL repL
  rw [appP_put, appP_put, appP_put, appP_put, app_ret1, app_ins1, app_del1, app_ret1, sIP_putd, sIP_puti, sIP_putr]
  · have s0 : sIP [] = 0 := rfl
    have z : appP a.data.toList [] = [] := rfl
    rw [s0, z, Nat.zero_add, List.drop_zero, List.nil_append, List.append_nil, e1, hm]
    have e4 : (a.data.toList.drop (a.size - comS a b)).take (comS a b) = b.data.toList.drop (b.size - comS a b) := by
      rw [List.take_of_length_le (by rw [List.length_drop, hla]; omega), e2]
    rw [show comP a b + (a.size - comP a b - comS a b) = a.size - comS a b by omega, show a.size - comP a b - (a.size - comP a b - comS a b) = comS a b by omega, e4]
    have e3 : b.data.toList.drop (b.size - comS a b) = (b.data.toList.drop (comP a b)).drop (b.size - comS a b - comP a b) := by
      rw [List.drop_drop, show comP a b + (b.size - comS a b - comP a b) = b.size - comS a b by omega]
    rw [e3, List.append_assoc, List.take_append_drop, List.take_append_drop]
  · rintro ⟨h1, _⟩
    rw [show (comP a b : Nat) = 0 by simp only at h1; omega]
    rfl
  · rintro ⟨_, h1⟩
    have h1' : (midB a b).size = 0 := h1
    rw [app_ins1, str_empty h1']
  · intro _
    rfl
  · rintro ⟨h1, _⟩
    simp only at h1
    rw [show (a.size - comP a b - (a.size - comP a b - comS a b) : Nat) = 0 by omega]
    rfl
theorem appR_ok {a b : ByteArray} {l : List Pc} (hc : checkP l = 0) (hi : sIP l = a.size) (ha : appP a.data.toList l = b.data.toList) : appR a l = (b, 0) := by
  have e1 : fitE a.size l = 0 := by unfold fitE; rw [if_pos hc, if_pos hi]
  unfold appR
  rw [if_pos e1, ha]
theorem bet_sum (a b : ByteArray) : sIP (betL a b) = a.size := by
  obtain ⟨c1, c2⟩ := comS_le a b
  unfold betL repL
  rw [sIP_putr, sIP_putd, sIP_puti, sIP_putr]
  have s0 : sIP [] = 0 := rfl
  rw [s0]; omega
theorem pre_self : ∀ l : List UInt8, pre l l = l.length
  | [] => rfl
  | c :: l => by rw [pre_cons, if_pos rfl, pre_self l]; rfl
theorem com_self (a : ByteArray) : comP a a = a.size ∧ comS a a = 0 := by
  have hla : a.data.toList.length = a.size := Array.length_toList ..
  have e : bnd a a.size = true := (bnd_list a a.size).2 (.inl hla.symm)
  have h1 : comP a a = a.size := by
    unfold comP
    rw [pre_self, hla]
    exact down_yes (by unfold bnd2; rw [e]; rfl)
  have h2 := (comS_le a a).1
  exact ⟨h1, by omega⟩
theorem bet_self {a : ByteArray} (ha : a.size ≤ 1048576) : betR a a = (idL a.size, idE a.size) := by
  obtain ⟨h1, h2⟩ := com_self a
  have hm : midB a a = ⟨#[]⟩ := str_empty (by rw [mid_size, h1, h2]; omega)
  have hE : idE (a.size : Int) = 0 := by unfold idE; rw [if_neg (by omega), if_neg (by omega)]
  unfold betR
  rw [if_neg (by omega), hE]
  unfold betL repL
  rw [h1, h2, hm]
  have p2 : ∀ ds : List Pc, putL ds ⟨2, 0, ⟨#[]⟩⟩ = ds := fun ds => if_pos ⟨rfl, rfl⟩
  have p3 : ∀ ds : List Pc, putL ds ⟨3, (a.size - a.size - 0 : Nat), ⟨#[]⟩⟩ = ds := fun ds => if_pos ⟨by simp, rfl⟩
  have p4 : ∀ ds : List Pc, putL ds ⟨1, (a.size - a.size - (a.size - a.size - 0) : Nat), ⟨#[]⟩⟩ = ds := fun ds => if_pos ⟨by simp, rfl⟩
  rw [p2, p3, p4]
  by_cases hz : a.size = 0
  · rw [hz]; rfl
  · have e1 : putL [] ⟨1, (a.size : Nat), ⟨#[]⟩⟩ = [⟨1, (a.size : Nat), ⟨#[]⟩⟩] := if_neg (fun h => by have := h.1; simp only at this; omega)
    have e2 : idL (a.size : Int) = [⟨1, (a.size : Nat), ⟨#[]⟩⟩] := by
      unfold idL
      rw [if_neg (by omega), if_neg (by omega), if_neg (by omega)]
    rw [e1, e2]
    unfold formP
    show ([Dp.ret ((a.size : Int).toNat)].map toP, (0 : Int)) = _
    rw [Int.toNat_natCast]
    rfl
theorem bet_self_long {a : ByteArray} (ha : 1048576 < a.size) : betR a a = (idL a.size, idE a.size) := by
  unfold betR idL idE
  rw [if_pos (.inl ha), if_neg (by omega), if_pos (by omega), if_neg (by omega), if_pos (by omega)]
theorem norm_rets : ∀ {l : List Dp}, Dp.Norm l → Dp.Ok l → costD l = 0 → l = [] ∨ ∃ n, l = [.ret n]
  | [], _, _, _ => .inl rfl
  | .ret n :: l, hn, ho, hc => by
    have hc' : costD l = 0 := by have : 0 + costD l = 0 := hc; omega
    rcases norm_rets hn.2 ho.2 hc' with e | ⟨m, e⟩
    · exact .inr ⟨n, by rw [e]⟩
    · have h := hn.1
      rw [e] at h
      exact absurd h (fun k => k)
  | .ins t :: l, hn, ho, hc => by
    have h1 : t.length + costD l = 0 := hc
    exact absurd (List.eq_nil_of_length_eq_zero (by omega)) ho.1
  | .del n :: l, hn, ho, hc => by
    have h1 : n + costD l = 0 := hc
    have h2 : 0 < n := ho.1
    omega
theorem lin_self {a : ByteArray} (h : ¬ linT a a) : linL a a = idL a.size := by
  have k := lin_ok h
  have hs : a.size ≤ 1048576 := by unfold linT at h; omega
  have hc : costL (linL a a) = 0 := by
    have h1 := k.cost
    unfold costP at h1
    rw [if_pos k.check, (lst_zero (rwS_ne a) (rwS_ne a)).2 rfl] at h1
    exact h1
  rw [cost_of k.ok] at hc
  have hn : Dp.Norm ((linL a a).map ofP) := by
    have e := k.form
    rw [← e, map_formP]
    exact Dp.form_norm _
  have hl := map_to_of k.ok
  have hi := k.inn
  unfold sIP at hi
  rcases norm_rets hn k.ok.ok hc with e | ⟨n, e⟩
  · rw [e] at hl hi
    have hz : a.size = 0 := hi.symm
    rw [← hl, hz]
    rfl
  · rw [e] at hl hi
    have hz : n + 0 = a.size := hi
    have hpos : 0 < n := by
      have := k.ok.ok
      rw [e] at this
      exact this.1
    rw [← hl]
    unfold idL
    rw [if_neg (by omega), if_neg (by omega), if_neg (by omega)]
    show [toP (.ret n)] = _
    unfold toP
    rw [show n = a.size by omega]
end Go.Proofs.YtfbjbgknfdekfaaDoor
