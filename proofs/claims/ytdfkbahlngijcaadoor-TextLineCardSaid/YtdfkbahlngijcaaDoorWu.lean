/- Text: the law Line: its walk (printed by gen/genw_u.py). -/
import Derived.Test.YtdfkbahlngijcaaDoorWs
namespace Go.Proofs.YtdfkbahlngijcaaDoor
open Go.RowKit
set_option linter.unusedVariables false

def Prs9 (kk : Nat) (v : Value) (_ : World) : Prop := ∃ po1 pc1 qo1 qc1, v = .tuple #[.agg #[.int .i64 0, .int .u64 0, .int .i64 0, .int .i64 0, .int .i64 0, .int .i64 0, .int .i64 0, .string ⟨#[]⟩, .slice po1 0 pc1, .slice qo1 0 qc1], .int .i64 kk, .int .i64 4]
theorem Stab_Prs9 (kk : Nat) : Stab (Prs9 kk) := fun _ _ _ h _ => h
def Agg9 (v : Value) (_ : World) : Prop := ∃ po1 pc1 qo1 qc1, v = .agg #[.int .i64 0, .int .u64 0, .int .i64 0, .int .i64 0, .int .i64 0, .int .i64 0, .int .i64 0, .string ⟨#[]⟩, .slice po1 0 pc1, .slice qo1 0 qc1]
theorem Stab_Agg9 : Stab Agg9 := fun _ _ _ h _ => h
def Box9 (B : Nat) (v : Value) (u : World) : Prop := ∃ b, v = .pointer (some ⟨b, 0, none⟩) ∧ B ≤ b ∧ u.heap[b]? = some (.cells zCf 42 (0, 0))
theorem Stab_Box9 (B : Nat) : Stab (Box9 B) := by
  rintro v w w' ⟨b, hv, hB, h⟩ hb
  exact ⟨b, hv, hB, block_below hb h (block_lt h)⟩
theorem rem_two (a : Int) (n : Nat) (hn : 0 < n) : ∃ k : Nat, k < n ∧ (a.tmod n + n) % (n : Int) = (k : Int) ∧ -(n : Int) < a.tmod n ∧ a.tmod n < n := by
  have h1 : a.tmod n < n := Int.tmod_lt_of_pos a (by omega)
  have h2 : -(n : Int) < a.tmod n := Int.lt_tmod_of_pos a (by omega)
  have h3 : 0 ≤ (a.tmod n + n) % (n : Int) := Int.emod_nonneg _ (by omega)
  have h4 : (a.tmod n + n) % (n : Int) < n := Int.emod_lt_of_pos _ (by omega)
  exact ⟨((a.tmod n + n) % (n : Int)).toNat, by omega, by omega, h2, h1⟩
theorem count_next {l : List UInt8} {i : Nat} (h : i < l.length) : (l.take (i + 1)).count 10 = (l.take i).count 10 + if l[i] = 10 then 1 else 0 := by
  rw [List.take_succ_eq_append_getElem h, List.count_append, List.count_singleton]
  simp
theorem list_atq (s : ByteArray) {j : Nat} (h : j < s.size) (h2 : j < s.data.toList.length) : s.data.toList[j]'h2 = s[j]'h := by
  have := byte_at s h
  rw [List.getElem?_eq_getElem h2] at this
  exact Option.some.inj this
theorem bang (l : List UInt8) (k : Nat) : (((⟨l.toArray⟩ : ByteArray).extract 0 k ++ ⟨#[33]⟩) ++ (⟨l.toArray⟩ : ByteArray).extract (k + 1) l.length).data.toList = l.take k ++ 33 :: l.drop (k + 1) := by
  rw [ext_list, ext_list, ByteArray.data_append, ByteArray.data_append]
  simp
set_option maxRecDepth 100000 in
set_option maxHeartbeats 16000000 in
theorem line_F1 (ca cb cl cd ce cf cg : Int) (ct : ByteArray) (po : Option Addr) (pn pc : Nat) (qo : Option Addr) (qn qc : Nat) (ss : List Pg) (ps : List Int) (at_ : Int) (w : World) (hp : IsPg w po pn ss) (hq : IsR fI w qo qn ps) (hqc : qn ≤ qc) (hov : ∀ s ∈ ss, ∀ x ∈ s.l, OvOk x) (htab : Tab w) (hsm : smallS ⟨ca, cb, cl, cd, ce, cf, cg, ct⟩ pn qn ss = false) :
    Calls Tryd.prog 10 #[.agg #[.int .i64 ca, .int .u64 cb, .int .i64 cl, .int .i64 cd, .int .i64 ce, .int .i64 cf, .int .i64 cg, .string ct, .slice po pn pc, .slice qo qn qc], .int .i64 at_] w fun e w' => e = .returned (.bool true) ∧ Below w.heap.size w w' := by
  have HB0 := Lib.hid ((Below.refl w.heap.size w).alloc (Nat.le_refl _) (.cells #[.int .i64 ca, .int .u64 cb, .int .i64 cl, .int .i64 cd, .int .i64 ce, .int .i64 cf, .int .i64 cg, .string ct, .slice po pn pc, .slice qo qn qc] 42))
  have HNB := Lib.hid (block_new w (.cells #[.int .i64 ca, .int .u64 cb, .int .i64 cl, .int .i64 cd, .int .i64 ce, .int .i64 cf, .int .i64 cg, .string ct, .slice po pn pc, .slice qo qn qc] 42))
  have HP1 := Lib.hid (hp.later HB0.out)
  have HS := Lib.hid (small_any ⟨ca, cb, cl, cd, ce, cf, cg, ct⟩ po pn pc qo qn qc ss _ HP1.out)
  rw [hsm] at HS
  clear hp hq htab hov hqc hsm
  have q0 := block_cell HNB.out 0
  have q1 := block_cell HNB.out 1
  have q2 := block_cell HNB.out 2
  have q3 := block_cell HNB.out 3
  have q4 := block_cell HNB.out 4
  have q5 := block_cell HNB.out 5
  have q6 := block_cell HNB.out 6
  have q7 := block_cell HNB.out 7
  have q8 := block_cell HNB.out 8
  have q9 := block_cell HNB.out 9
  simp at q0 q1 q2 q3 q4 q5 q6 q7 q8 q9
  go_enter Tryd.func10, Tryd.ntmps10
  go_wp2_with fail
  refine (HS.out).mono ?_; rintro e w2 ⟨rfl, hb2⟩
  have HB2 := Lib.hid (below_two HB0.out hb2)
  clear q0 q1 q2 q3 q4 q5 q6 q7 q8 q9 hb2 HS HP1 HNB HB0
  go_wp2_with fail
  go_ret
  exact ⟨rfl, HB2.out⟩
set_option maxRecDepth 100000 in
set_option maxHeartbeats 16000000 in
theorem line_F3 (ca cb cl cd ce cf cg : Int) (ct : ByteArray) (po : Option Addr) (pn pc : Nat) (qo : Option Addr) (qn qc : Nat) (ss : List Pg) (ps : List Int) (at_ : Int) (w : World) (hp : IsPg w po pn ss) (hq : IsR fI w qo qn ps) (hqc : qn ≤ qc) (hov : ∀ s ∈ ss, ∀ x ∈ s.l, OvOk x) (htab : Tab w) (hsm : smallS ⟨ca, cb, cl, cd, ce, cf, cg, ct⟩ pn qn ss = true) (l1 : List UInt8) (e1 : Int) (hf1 : fmtR ⟨ca, cb, cl, cd, ce, cf, cg, ct⟩ ss ps = (l1, e1)) (he1 : e1 ≠ 0) :
    Calls Tryd.prog 10 #[.agg #[.int .i64 ca, .int .u64 cb, .int .i64 cl, .int .i64 cd, .int .i64 ce, .int .i64 cf, .int .i64 cg, .string ct, .slice po pn pc, .slice qo qn qc], .int .i64 at_] w fun e w' => e = .returned (.bool true) ∧ Below w.heap.size w w' := by
  have HB0 := Lib.hid ((Below.refl w.heap.size w).alloc (Nat.le_refl _) (.cells #[.int .i64 ca, .int .u64 cb, .int .i64 cl, .int .i64 cd, .int .i64 ce, .int .i64 cf, .int .i64 cg, .string ct, .slice po pn pc, .slice qo qn qc] 42))
  have HNB := Lib.hid (block_new w (.cells #[.int .i64 ca, .int .u64 cb, .int .i64 cl, .int .i64 cd, .int .i64 ce, .int .i64 cf, .int .i64 cg, .string ct, .slice po pn pc, .slice qo qn qc] 42))
  have HP1 := Lib.hid (hp.later HB0.out)
  have HS := Lib.hid (small_any ⟨ca, cb, cl, cd, ce, cf, cg, ct⟩ po pn pc qo qn qc ss _ HP1.out)
  rw [hsm] at HS
  have hsz := small_of hsm
  have HF := Lib.hid (show ∀ u, Below w.heap.size w u → Calls Tryd.prog 16 #[.agg #[.int .i64 ca, .int .u64 cb, .int .i64 cl, .int .i64 cd, .int .i64 ce, .int .i64 cf, .int .i64 cg, .string ct, .slice po pn pc, .slice qo qn qc]] u fun e w' => e = .returned (.tuple #[.string ⟨l1.toArray⟩, .int .i64 e1]) ∧ Below u.heap.size u w' from fun u hu => by
    have h := formatT_any ⟨ca, cb, cl, cd, ce, cf, cg, ct⟩ po pn pc qo qn qc ss ps u (hp.later hu) (hq.later hu) (Nat.le_trans hsz.t (by decide)) (fun s hs x hx => by have := hsz.op s hs x hx; omega) (by have := hsz.pn; omega) (by have := hsz.qn; omega) hov (Tab.below htab hu) hqc
    rw [hf1] at h
    exact h)
  have hb0 : (e1 == 0) = false := by rw [beq_eq_false_iff_ne]; exact he1
  have hb1 : (e1 != 0) = true := by rw [bne_iff_ne]; exact he1
  clear hp hq htab hov hqc hsm hf1 hsz he1
  have q0 := block_cell HNB.out 0
  have q1 := block_cell HNB.out 1
  have q2 := block_cell HNB.out 2
  have q3 := block_cell HNB.out 3
  have q4 := block_cell HNB.out 4
  have q5 := block_cell HNB.out 5
  have q6 := block_cell HNB.out 6
  have q7 := block_cell HNB.out 7
  have q8 := block_cell HNB.out 8
  have q9 := block_cell HNB.out 9
  simp at q0 q1 q2 q3 q4 q5 q6 q7 q8 q9
  go_enter Tryd.func10, Tryd.ntmps10
  go_wp2_with fail
  refine (HS.out).mono ?_; rintro e w2 ⟨rfl, hb2⟩
  have HB2 := Lib.hid (below_two HB0.out hb2)
  have HO2 := Lib.hid (block_below hb2 HNB.out (by simp))
  clear q0 q1 q2 q3 q4 q5 q6 q7 q8 q9 hb2 HS HP1
  have q0 := block_cell HO2.out 0
  have q1 := block_cell HO2.out 1
  have q2 := block_cell HO2.out 2
  have q3 := block_cell HO2.out 3
  have q4 := block_cell HO2.out 4
  have q5 := block_cell HO2.out 5
  have q6 := block_cell HO2.out 6
  have q7 := block_cell HO2.out 7
  have q8 := block_cell HO2.out 8
  have q9 := block_cell HO2.out 9
  simp at q0 q1 q2 q3 q4 q5 q6 q7 q8 q9
  go_wp2_with fail
  refine (HF.out _ HB2.out).mono ?_; rintro e w3 ⟨rfl, hb3⟩
  have HB3 := Lib.hid (below_two HB2.out hb3)
  clear q0 q1 q2 q3 q4 q5 q6 q7 q8 q9 hb3 HO2 HF
  go_wp2_with fail
  go_ret
  exact ⟨rfl, HB3.out⟩
set_option maxRecDepth 100000 in
set_option maxHeartbeats 16000000 in
theorem line_F4 (ca cb cl cd ce cf cg : Int) (ct : ByteArray) (po : Option Addr) (pn pc : Nat) (qo : Option Addr) (qn qc : Nat) (ss : List Pg) (ps : List Int) (at_ : Int) (w : World) (hp : IsPg w po pn ss) (hq : IsR fI w qo qn ps) (hqc : qn ≤ qc) (hov : ∀ s ∈ ss, ∀ x ∈ s.l, OvOk x) (htab : Tab w) (hsm : smallS ⟨ca, cb, cl, cd, ce, cf, cg, ct⟩ pn qn ss = true) (l1 : List UInt8) (hf1 : fmtR ⟨ca, cb, cl, cd, ce, cf, cg, ct⟩ ss ps = (l1, 0)) (hl : ¬ l1.length ≤ 3000) :
    Calls Tryd.prog 10 #[.agg #[.int .i64 ca, .int .u64 cb, .int .i64 cl, .int .i64 cd, .int .i64 ce, .int .i64 cf, .int .i64 cg, .string ct, .slice po pn pc, .slice qo qn qc], .int .i64 at_] w fun e w' => e = .returned (.bool true) ∧ Below w.heap.size w w' := by
  have HB0 := Lib.hid ((Below.refl w.heap.size w).alloc (Nat.le_refl _) (.cells #[.int .i64 ca, .int .u64 cb, .int .i64 cl, .int .i64 cd, .int .i64 ce, .int .i64 cf, .int .i64 cg, .string ct, .slice po pn pc, .slice qo qn qc] 42))
  have HNB := Lib.hid (block_new w (.cells #[.int .i64 ca, .int .u64 cb, .int .i64 cl, .int .i64 cd, .int .i64 ce, .int .i64 cf, .int .i64 cg, .string ct, .slice po pn pc, .slice qo qn qc] 42))
  have HP1 := Lib.hid (hp.later HB0.out)
  have HS := Lib.hid (small_any ⟨ca, cb, cl, cd, ce, cf, cg, ct⟩ po pn pc qo qn qc ss _ HP1.out)
  rw [hsm] at HS
  have hsz := small_of hsm
  have HF := Lib.hid (show ∀ u, Below w.heap.size w u → Calls Tryd.prog 16 #[.agg #[.int .i64 ca, .int .u64 cb, .int .i64 cl, .int .i64 cd, .int .i64 ce, .int .i64 cf, .int .i64 cg, .string ct, .slice po pn pc, .slice qo qn qc]] u fun e w' => e = .returned (.tuple #[.string ⟨l1.toArray⟩, .int .i64 0]) ∧ Below u.heap.size u w' from fun u hu => by
    have h := formatT_any ⟨ca, cb, cl, cd, ce, cf, cg, ct⟩ po pn pc qo qn qc ss ps u (hp.later hu) (hq.later hu) (Nat.le_trans hsz.t (by decide)) (fun s hs x hx => by have := hsz.op s hs x hx; omega) (by have := hsz.pn; omega) (by have := hsz.qn; omega) hov (Tab.below htab hu) hqc
    rw [hf1] at h
    exact h)
  have hsl : (⟨l1.toArray⟩ : ByteArray).size = l1.length := by show l1.toArray.size = _; rw [List.size_toArray]
  rw [← hsl] at hl
  generalize (⟨l1.toArray⟩ : ByteArray) = L1 at *
  have hd3 : decide ((3000 : Int) < (L1.size : Int)) = true := decide_eq_true (by omega)
  clear hp hq htab hov hqc hsm hf1 hsz hsl hl
  have q0 := block_cell HNB.out 0
  have q1 := block_cell HNB.out 1
  have q2 := block_cell HNB.out 2
  have q3 := block_cell HNB.out 3
  have q4 := block_cell HNB.out 4
  have q5 := block_cell HNB.out 5
  have q6 := block_cell HNB.out 6
  have q7 := block_cell HNB.out 7
  have q8 := block_cell HNB.out 8
  have q9 := block_cell HNB.out 9
  simp at q0 q1 q2 q3 q4 q5 q6 q7 q8 q9
  go_enter Tryd.func10, Tryd.ntmps10
  go_wp2_with fail
  refine (HS.out).mono ?_; rintro e w2 ⟨rfl, hb2⟩
  have HB2 := Lib.hid (below_two HB0.out hb2)
  have HO2 := Lib.hid (block_below hb2 HNB.out (by simp))
  clear q0 q1 q2 q3 q4 q5 q6 q7 q8 q9 hb2 HS HP1
  have q0 := block_cell HO2.out 0
  have q1 := block_cell HO2.out 1
  have q2 := block_cell HO2.out 2
  have q3 := block_cell HO2.out 3
  have q4 := block_cell HO2.out 4
  have q5 := block_cell HO2.out 5
  have q6 := block_cell HO2.out 6
  have q7 := block_cell HO2.out 7
  have q8 := block_cell HO2.out 8
  have q9 := block_cell HO2.out 9
  simp at q0 q1 q2 q3 q4 q5 q6 q7 q8 q9
  go_wp2_with fail
  refine (HF.out _ HB2.out).mono ?_; rintro e w3 ⟨rfl, hb3⟩
  have HB3 := Lib.hid (below_two HB2.out hb3)
  clear q0 q1 q2 q3 q4 q5 q6 q7 q8 q9 hb3 HO2 HF
  go_wp2_with fail
  go_ret
  exact ⟨rfl, HB3.out⟩
set_option maxRecDepth 100000 in
set_option maxHeartbeats 16000000 in
theorem line_F2 (ca cb cl cd ce cf cg : Int) (ct : ByteArray) (po : Option Addr) (pn pc : Nat) (qo : Option Addr) (qn qc : Nat) (ss : List Pg) (ps : List Int) (at_ : Int) (w : World) (hp : IsPg w po pn ss) (hq : IsR fI w qo qn ps) (hqc : qn ≤ qc) (hov : ∀ s ∈ ss, ∀ x ∈ s.l, OvOk x) (htab : Tab w) (hsm : smallS ⟨ca, cb, cl, cd, ce, cf, cg, ct⟩ pn qn ss = true) (l1 : List UInt8) (hf1 : fmtR ⟨ca, cb, cl, cd, ce, cf, cg, ct⟩ ss ps = (l1, 0)) (hl : l1.length ≤ 3000) :
    Calls Tryd.prog 10 #[.agg #[.int .i64 ca, .int .u64 cb, .int .i64 cl, .int .i64 cd, .int .i64 ce, .int .i64 cf, .int .i64 cg, .string ct, .slice po pn pc, .slice qo qn qc], .int .i64 at_] w fun e w' => e = .returned (.bool true) ∧ Below w.heap.size w w' := by
  have HB0 := Lib.hid ((Below.refl w.heap.size w).alloc (Nat.le_refl _) (.cells #[.int .i64 ca, .int .u64 cb, .int .i64 cl, .int .i64 cd, .int .i64 ce, .int .i64 cf, .int .i64 cg, .string ct, .slice po pn pc, .slice qo qn qc] 42))
  have HNB := Lib.hid (block_new w (.cells #[.int .i64 ca, .int .u64 cb, .int .i64 cl, .int .i64 cd, .int .i64 ce, .int .i64 cf, .int .i64 cg, .string ct, .slice po pn pc, .slice qo qn qc] 42))
  have HP1 := Lib.hid (hp.later HB0.out)
  have HS := Lib.hid (small_any ⟨ca, cb, cl, cd, ce, cf, cg, ct⟩ po pn pc qo qn qc ss _ HP1.out)
  rw [hsm] at HS
  have hsz := small_of hsm
  have HF := Lib.hid (show ∀ u, Below w.heap.size w u → Calls Tryd.prog 16 #[.agg #[.int .i64 ca, .int .u64 cb, .int .i64 cl, .int .i64 cd, .int .i64 ce, .int .i64 cf, .int .i64 cg, .string ct, .slice po pn pc, .slice qo qn qc]] u fun e w' => e = .returned (.tuple #[.string ⟨l1.toArray⟩, .int .i64 0]) ∧ Below u.heap.size u w' from fun u hu => by
    have h := formatT_any ⟨ca, cb, cl, cd, ce, cf, cg, ct⟩ po pn pc qo qn qc ss ps u (hp.later hu) (hq.later hu) (Nat.le_trans hsz.t (by decide)) (fun s hs x hx => by have := hsz.op s hs x hx; omega) (by have := hsz.pn; omega) (by have := hsz.qn; omega) hov (Tab.below htab hu) hqc
    rw [hf1] at h
    exact h)
  have hlp : ∀ p ∈ ss, p.l.length = p.n := fun p h => (hp.2 p h).1
  obtain ⟨-, -, hl1e, -⟩ := prs_fmt hf1 hlp hov
  have hne : l1 ≠ [] := by rw [hl1e]; exact fmtL_ne _ _ _
  have hpos : 0 < l1.length := List.length_pos_iff.2 hne
  obtain ⟨k, hk, hkm, hm1, hm2⟩ := rem_two at_ l1.length hpos
  have HSP := Lib.hid (prs_spoiled hf1 hlp hov hk)
  have HPA := Lib.hid (show ∀ u : World, Calls Tryd.prog 18 #[.string (((⟨l1.toArray⟩ : ByteArray).extract 0 k ++ ⟨#[33]⟩) ++ (⟨l1.toArray⟩ : ByteArray).extract (k + 1) l1.length)] u fun e w' => Below u.heap.size u w' ∧ ∃ po1 pc1 qo1 qc1, e = .returned (.tuple #[.agg #[.int .i64 0, .int .u64 0, .int .i64 0, .int .i64 0, .int .i64 0, .int .i64 0, .int .i64 0, .string ⟨#[]⟩, .slice po1 0 pc1, .slice qo1 0 qc1], .int .i64 (((l1.take k).count 10 + 1 : Nat)), .int .i64 4]) from fun u => by
    refine (prs_call (S := ((⟨l1.toArray⟩ : ByteArray).extract 0 k ++ ⟨#[33]⟩) ++ (⟨l1.toArray⟩ : ByteArray).extract (k + 1) l1.length) (x := zeroRd) (k := (l1.take k).count 10 + 1) (er := 4) (by rw [bang]; exact HSP.out) rfl rfl u).mono ?_
    rintro e w' ⟨h1, po1, pc1, qo1, qc1, ss1, -, -, -, -, -, h2⟩
    exact ⟨h1, po1, pc1, qo1, qc1, h2⟩)
  have hsl : (⟨l1.toArray⟩ : ByteArray).size = l1.length := by show l1.toArray.size = _; rw [List.size_toArray]
  have hdl : (⟨l1.toArray⟩ : ByteArray).data.toList = l1 := List.toList_toArray ..
  have HNE := Lib.hid hne
  clear hp hq htab hov hqc hsm hf1 hsz hlp hne HSP hl1e
  generalize (⟨l1.toArray⟩ : ByteArray) = L1 at *
  rw [← hsl] at HPA hk hkm hm1 hm2 hpos hl
  have HDL := Lib.hid hdl
  have HKM := Lib.hid hkm
  have HK := Lib.hid hk
  have hd3 : decide ((3000 : Int) < (L1.size : Int)) = false := decide_eq_false (by omega)
  have hz : ((L1.size : Int) == 0) = false := by rw [beq_eq_false_iff_ne]; omega
  have HSL := Lib.hid hsl
  clear hdl hsl
  have q0 := block_cell HNB.out 0
  have q1 := block_cell HNB.out 1
  have q2 := block_cell HNB.out 2
  have q3 := block_cell HNB.out 3
  have q4 := block_cell HNB.out 4
  have q5 := block_cell HNB.out 5
  have q6 := block_cell HNB.out 6
  have q7 := block_cell HNB.out 7
  have q8 := block_cell HNB.out 8
  have q9 := block_cell HNB.out 9
  simp at q0 q1 q2 q3 q4 q5 q6 q7 q8 q9
  go_enter Tryd.func10, Tryd.ntmps10
  go_wp2_with fail
  refine (HS.out).mono ?_; rintro e w2 ⟨rfl, hb2⟩
  have HB2 := Lib.hid (below_two HB0.out hb2)
  have HO2 := Lib.hid (block_below hb2 HNB.out (by simp))
  clear q0 q1 q2 q3 q4 q5 q6 q7 q8 q9 hb2 HS HP1
  have q0 := block_cell HO2.out 0
  have q1 := block_cell HO2.out 1
  have q2 := block_cell HO2.out 2
  have q3 := block_cell HO2.out 3
  have q4 := block_cell HO2.out 4
  have q5 := block_cell HO2.out 5
  have q6 := block_cell HO2.out 6
  have q7 := block_cell HO2.out 7
  have q8 := block_cell HO2.out 8
  have q9 := block_cell HO2.out 9
  simp at q0 q1 q2 q3 q4 q5 q6 q7 q8 q9
  go_wp2_with fail
  refine (HF.out _ HB2.out).mono ?_; rintro e w3 ⟨rfl, hb3⟩
  have HB3 := Lib.hid (below_two HB2.out hb3)
  clear q0 q1 q2 q3 q4 q5 q6 q7 q8 q9 hb3 HO2 HF
  go_wp2_with fail
  go_loopw [8, 9] (fun s8 s9 wr => ∃ i : Nat, i ≤ k ∧ s9 = .int .i64 i ∧ s8 = .int .i64 (((l1.take i).count 10 + 1 : Nat)) ∧ w3 = wr) (fun _ s9 _ => k - (intOf s9).toNat)
  case atStart => exact ⟨0, Nat.zero_le _, rfl, rfl, rfl⟩
  case round =>
    obtain ⟨i, hi, rfl, rfl, rfl⟩ := hrel
    have hcl : (l1.take i).count 10 ≤ 3000 := by
      have h5 : (l1.take i).count 10 ≤ (l1.take i).length := List.count_le_length
      have h6 := HSL.out
      rw [List.length_take] at h5
      omega
    by_cases hlt : i < k
    · have hik : (i : Int) < (k : Int) := by omega
      have hi0 : (0 : Int) ≤ (i : Int) := by omega
      have hil : i < L1.size := by omega
      have hil1 : (i : Int) < (L1.size : Int) := by omega
      have hc8 := u8lt L1[i]
      have hll : i < l1.length := by rw [← HSL.out]; exact hil
      have HAT := Lib.hid (show l1[i] = L1[i] by
        have h5 := list_atq L1 hil (by rw [HDL.out]; exact hll)
        rw [← h5]
        simp only [HDL.out])
      have HCN := Lib.hid (count_next hll)
      have hwi : IntKind.i64.wrap ((i : Int) + 1) = (i : Int) + 1 := by rw [IntKind.wrap_i64]; omega
      by_cases h10 : L1[i] = 10
      · have hb : ((L1[i].toNat : Int) == 10) = true := by rw [h10]; rfl
        have HN := Lib.hid (show (l1.take (i + 1)).count 10 = (l1.take i).count 10 + 1 by rw [HCN.out, HAT.out, if_pos h10])
        obtain ⟨cn, hcn⟩ : ∃ cn, (l1.take i).count 10 = cn := ⟨_, rfl⟩
        rw [hcn] at HN hcl ⊢
        have hwc : IntKind.i64.wrap (((cn + 1 : Nat) : Int) + 1) = ((cn + 1 : Nat) : Int) + 1 := by rw [IntKind.wrap_i64]; omega
        clear h10 hlt hcn HCN HAT hll
        go_wp2_with fail
        go_roundw
        case rel => exact ⟨i + 1, by omega, by go_num, by rw [HN.out]; go_num, trivial⟩
        case measure => (simp [intOf] <;> omega)
      · have hb : ((L1[i].toNat : Int) == 10) = false := by
          rw [beq_eq_false_iff_ne]
          intro e
          exact h10 (UInt8.toNat_inj.1 (by show L1[i].toNat = 10; omega))
        have HN := Lib.hid (show (l1.take (i + 1)).count 10 = (l1.take i).count 10 by rw [HCN.out, HAT.out, if_neg h10]; rfl)
        clear h10 hlt HCN HAT hll
        go_wp2_with fail
        go_roundw
        case rel => exact ⟨i + 1, by omega, by go_num, by rw [HN.out], trivial⟩
        case measure => (simp [intOf] <;> omega)
    · obtain rfl : i = k := by omega
      have hlt1 : ¬ ((i : Int) < (i : Int)) := by omega
      clear hlt
      go_upto_region 15 with (fail)
      have HI := Lib.hid (show i < L1.size by omega)
      have hi1 : (i : Int) + 1 ≤ (L1.size : Int) := by omega
      have hi2 : (i : Int) ≤ (L1.size : Int) := by omega
      have hi3 : (0 : Int) ≤ (i : Int) := by omega
      have hwi : IntKind.i64.wrap ((i : Int) + 1) = (i : Int) + 1 := by rw [IntKind.wrap_i64]; omega
      simp only [HKM.out]
      have hbig : ¬ (9223372036854775807 < i + 1) := by omega
      have hbig0 : ¬ (9223372036854775807 < i) := by omega
      have hbig2 : ¬ (9223372036854775807 < L1.size) := by omega
      clear hkm hm1 hm2 hlt1 hi hcl hk hl hd3 hz HKM HK
      have hiN : i ≤ L1.size := Nat.le_of_lt HI.out
      have hiN1 : i + 1 ≤ L1.size := HI.out
      refine wp_region_plan [.make, .make, .make, .make, .make, .make, .make, .make, .make, .make, .make, .make, .pure, .pure, .make, .write 0, .pure, .pure] [0, 1, 2, 3, 4, 5, 6, 7, 8, 9, 10, 11, 14] 1 (fun _ _ u => Below w3.heap.size w3 u ∧ True) (by kernel_rfl) (by decide) (by kernel_rfl) (by kernel_rfl) (by kernel_rfl) (by kernel_rfl) (fun p vs vs' u h hE => hE) ?_
      simp only [fill, Act.put, List.setIfInBounds_toArray, List.set_cons_zero, List.set_cons_succ, Nat.zero_add, Nat.reduceAdd, List.zip_cons_cons, List.zip_nil_right]
      apply OpsIs.eq
      · intro vs u hb hd
        clear hd
        go_wp2_with fail
        exact ⟨rfl, _, rfl, Below.refl _ _, rfl⟩
      apply OpsIs.eq
      · intro vs u hb hd
        clear hd
        go_wp2_with fail
        exact ⟨rfl, _, rfl, Below.refl _ _, rfl⟩
      apply OpsIs.eq
      · intro vs u hb hd
        have e0 := hd ⟨0, .data⟩ (by simp) (by decide)
        simp at e0
        have e1 := hd ⟨1, .data⟩ (by simp) (by decide)
        simp at e1
        clear hd
        simp only [e0, e1]
        go_wp2_with fail
        exact ⟨rfl, _, rfl, Below.refl _ _, rfl⟩
      apply OpsIs.eq
      · intro vs u hb hd
        have e2 := hd ⟨2, .data⟩ (by simp) (by decide)
        simp at e2
        clear hd
        simp only [e2]
        go_wp2_with fail
        exact ⟨rfl, _, rfl, Below.refl _ _, rfl⟩
      apply OpsIs.eq
      · intro vs u hb hd
        clear hd
        go_wp2_with fail
        exact ⟨rfl, _, rfl, Below.refl _ _, rfl⟩
      apply OpsIs.eq
      · intro vs u hb hd
        clear hd
        go_wp2_with fail
        exact ⟨rfl, _, rfl, Below.refl _ _, rfl⟩
      apply OpsIs.eq
      · intro vs u hb hd
        have e5 := hd ⟨5, .data⟩ (by simp) (by decide)
        simp at e5
        clear hd
        simp only [e5]
        go_wp2_with fail
        exact ⟨rfl, _, rfl, Below.refl _ _, rfl⟩
      apply OpsIs.eq
      · intro vs u hb hd
        have e4 := hd ⟨4, .data⟩ (by simp) (by decide)
        simp at e4
        have e6 := hd ⟨6, .data⟩ (by simp) (by decide)
        simp at e6
        clear hd
        simp only [e4, e6]
        go_wp2_with fail
        exact ⟨rfl, _, rfl, Below.refl _ _, rfl⟩
      apply OpsIs.eq
      · intro vs u hb hd
        have e3 := hd ⟨3, .data⟩ (by simp) (by decide)
        simp at e3
        have e7 := hd ⟨7, .data⟩ (by simp) (by decide)
        simp at e7
        clear hd
        simp only [e3, e7]
        go_wp2_with fail
        exact ⟨rfl, _, rfl, Below.refl _ _, rfl⟩
      refine OpsIs.step (Prs9 ((l1.take i).count 10 + 1)) (Stab_Prs9 _) ?_ ?_
      · intro vs u hb hd
        have e8 := hd ⟨8, .data⟩ (by simp) (by decide)
        simp at e8
        clear hd
        simp only [e8]
        go_wp2_with (go_at_call 18; refine (HPA.out u).mono ?_; rintro e9 w9 ⟨hb9, po1, pc1, qo1, qc1, rfl⟩)
        exact ⟨rfl, _, rfl, hb9, po1, pc1, qo1, qc1, rfl⟩
      refine OpsIs.step (Prs9 ((l1.take i).count 10 + 1)) (Stab_Prs9 _) ?_ ?_
      · intro vs u hb hd
        obtain ⟨po1, pc1, qo1, qc1, e9⟩ := hd ⟨9, .data⟩ (by simp) (by decide)
        clear hd
        simp only [e9]
        go_wp2_with fail
        exact ⟨rfl, _, rfl, Below.refl _ _, po1, pc1, qo1, qc1, rfl⟩
      refine OpsIs.step (Agg9) Stab_Agg9 ?_ ?_
      · intro vs u hb hd
        obtain ⟨po1, pc1, qo1, qc1, e10⟩ := hd ⟨10, .data⟩ (by simp) (by decide)
        clear hd
        simp only [e10]
        go_wp2_with fail
        exact ⟨rfl, _, rfl, Below.refl _ _, po1, pc1, qo1, qc1, rfl⟩
      apply OpsIs.pure
      · intro vs u hd
        obtain ⟨_, po1, pc1, qo1, qc1, e10⟩ := hd ⟨10, .data⟩ (by simp) (by decide)
        simp only [e10]
        clear hd
        go_wp2_with fail
        exact ⟨rfl, _, rfl, rfl, fun _ => rfl⟩
      apply OpsIs.pure
      · intro vs u hd
        obtain ⟨_, po1, pc1, qo1, qc1, e10⟩ := hd ⟨10, .data⟩ (by simp) (by decide)
        simp only [e10]
        clear hd
        go_wp2_with fail
        exact ⟨rfl, _, rfl, rfl, fun _ => rfl⟩
      refine OpsIs.step (Box9 w3.heap.size) (Stab_Box9 _) ?_ ?_
      · intro vs u hb hd
        clear hd
        go_wp2_with fail
        exact ⟨rfl, _, rfl, (Below.refl _ _).alloc (Nat.le_refl _) _, _, rfl, hb.size, block_new _ _⟩
      refine OpsIs.first ?_ ?_
      · intro vs u hb hdis hd
        obtain ⟨po1, pc1, qo1, qc1, e11⟩ := hd 11 (by simp)
        obtain ⟨b14, e14, hB14, h14⟩ := hd 14 (by simp)
        clear hd
        simp only [e11, e14]
        apply goesT_store (hg := rfl) (hop := rfl) (hd := rfl) (b := b14) (cs := #[.int .i64 0, .int .u64 0, .int .i64 0, .int .i64 0, .int .i64 0, .int .i64 0, .int .i64 0, .string ⟨#[]⟩, .slice po1 0 pc1, .slice qo1 0 qc1])
        · rfl
        · rfl
        · exact store10 h14
        · kernel_rfl
        · simp [Value.oneCell']
        · exact ⟨setCells_below hB14 _ _ _ hb, trivial⟩
      apply OpsIs.pure
      · intro vs u hd
        obtain ⟨_, e12⟩ := hd ⟨12, .data⟩ (by simp) (by decide)
        simp at e12
        clear hd
        simp only [e12]
        go_wp2_with fail
        exact ⟨rfl, _, rfl, rfl, fun _ => rfl⟩
      apply OpsIs.pure
      · intro vs u hd
        obtain ⟨_, e13⟩ := hd ⟨13, .data⟩ (by simp) (by decide)
        simp at e13
        clear hd
        simp only [e13]
        go_wp2_with fail
        exact ⟨rfl, _, rfl, rfl, fun _ => rfl⟩
      refine OpsIs.done ?_
      intro vs u hE hS
      obtain ⟨hE1, -⟩ := hE
      have HE := Lib.hid (below_two HB3.out hE1)
      have h16 := hS 16 (by decide)
      have h17 := hS 17 (by decide)
      simp at h16 h17
      simp only [h16, h17]
      clear hE1 hS h16 h17
      go_wp2_with fail
      go_ret
      exact ⟨rfl, HE.out⟩
theorem line_law (c : Cf) (po : Option Addr) (pn pc : Nat) (qo : Option Addr) (qn qc : Nat) (ss : List Pg) (ps : List Int) (at_ : Int) (w : World) (hp : IsPg w po pn ss) (hq : IsR fI w qo qn ps) (hqc : qn ≤ qc) (hov : ∀ s ∈ ss, ∀ x ∈ s.l, OvOk x) (htab : Tab w) :
    Calls Tryd.prog 10 #[.agg #[.int .i64 c.slots, .int .u64 c.gens, .int .i64 c.clients, .int .i64 c.readers, .int .i64 c.queue, .int .i64 c.batch, .int .i64 c.feed, .string c.t, .slice po pn pc, .slice qo qn qc], .int .i64 at_] w fun e w' => e = .returned (.bool true) ∧ Below w.heap.size w w' := by
  obtain ⟨ca, cb, cl, cd, ce, cf, cg, ct⟩ := c
  rcases hsm : smallS ⟨ca, cb, cl, cd, ce, cf, cg, ct⟩ pn qn ss with _ | _
  · exact line_F1 ca cb cl cd ce cf cg ct po pn pc qo qn qc ss ps at_ w hp hq hqc hov htab hsm
  · obtain ⟨l1, e1, hf⟩ : ∃ l1 e1, fmtR ⟨ca, cb, cl, cd, ce, cf, cg, ct⟩ ss ps = (l1, e1) := ⟨_, _, rfl⟩
    by_cases h : e1 = 0
    · subst h
      by_cases hl : l1.length ≤ 3000
      · exact line_F2 ca cb cl cd ce cf cg ct po pn pc qo qn qc ss ps at_ w hp hq hqc hov htab hsm l1 hf hl
      · exact line_F4 ca cb cl cd ce cf cg ct po pn pc qo qn qc ss ps at_ w hp hq hqc hov htab hsm l1 hf hl
    · exact line_F3 ca cb cl cd ce cf cg ct po pn pc qo qn qc ss ps at_ w hp hq hqc hov htab hsm l1 e1 hf h
end Go.Proofs.YtdfkbahlngijcaaDoor

