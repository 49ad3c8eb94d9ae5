/- The arena: Alloc of the program leaves the children's blocks of an older world alone: what lies in the map is never in a block made behind it. -/
import Derived.Test.YtfgkbnnojogjpaaQy
namespace Go.Proofs.Ytfgkbnnojogjpaa
open Go.RowKit
set_option linter.unusedVariables false

/-- the block of a node's children -/
def kidB : Value → Option Nat
  | .agg cs => (cs.getD 2 undef).ownBlock
  | _ => none
/-- no entry of the map has its children in block S -/
def NoS (w : World) (B : PB) (S : Nat) : Prop := ∀ es clock, w.heap[B.r]? = some (.map es clock) → ∀ e ∈ es.toList, kidB e.val ≠ some S
def NoSs (w w' : World) (B : PB) : Prop := ∀ S, S < w.heap.size → NoS w B S → NoS w' B S
theorem NoSs.same {w1 w2 : World} {B : PB} (h : w2.heap[B.r]? = w1.heap[B.r]?) : ∀ S, NoS w1 B S → NoS w2 B S := fun S hs es clock he => hs es clock (h.symm.trans he)
theorem NoSs.trans {w w1 w2 : World} {B : PB} (h : NoSs w w1 B) (k : ∀ S, NoS w1 B S → NoS w2 B S) : NoSs w w2 B := fun S hS hs => k S (h S hS hs)
theorem NoSs.below {w w' : World} {B : PB} {A : AS} (h : IsA w B A) (hb : Below w.heap.size w w') : NoSs w w' B := fun S _ => NoSs.same (w1 := w) (hb.block B.r (h.lt (.inl (own_r B)))) S
theorem NoSs.list {w w1 w2 : World} {B : PB} {A : AS} (h : IsA w1 B A) (k : NoSs w w1 B) (hl : KeepL B.lb w1 w2) : NoSs w w2 B := by
  obtain ⟨n1, n2, n3⟩ := h.ne
  refine k.trans (NoSs.same (w1 := w1) (hl.2 B.r (h.lt (.inl (own_r B))) ?_ ?_ ?_ ?_))
  · exact fun e => (n2 _ (.inl rfl)).2 e.symm
  · exact fun e => (n2 _ (.inr (.inl rfl))).2 e.symm
  · exact fun e => (n2 _ (.inr (.inr (.inl rfl)))).2 e.symm
  · exact fun e => (n2 _ (.inr (.inr (.inr rfl)))).2 e.symm
theorem own_lowS {w0 w2 w3 : World} {ao : Option Addr} {n c : Nat} {l : List Kid} {h : Int} {t : ByteArray} (ho : OwnKs w2.heap.size w3 (.slice ao n c) n l) (hs : w0.heap.size ≤ w2.heap.size) : ∀ S, S < w0.heap.size → kidB (.agg #[.int .i64 h, .string t, .slice ao n c]) ≠ some S := by
  intro S hS e
  obtain ⟨-, -, h3⟩ := ho
  have := (own_typ4 h3 (q := S) e).1
  omega
theorem NoSs.push {w w4 : World} {B : PB} {es : Array MapEntry} {clock : Nat} {v : Value} (h : NoSs w w4 B) (hm : w4.heap[B.r]? = some (.map es clock)) (k : Int) (c' c2 : Nat) (hv : ∀ S, S < w.heap.size → kidB v ≠ some S) :
    NoSs w (setB w4.drew B.r (.map (es.push { key := .int .u64 k, val := v, born := c2 }) c')) B := by
  intro S hS hs es' clock' he e hin
  have h1 := setB_same (w := w4.drew) (r := B.r) (o' := .map (es.push { key := .int .u64 k, val := v, born := c2 }) c') (show w4.drew.heap[B.r]? = _ from hm)
  rw [h1] at he
  injection he with he
  injection he with he he2
  subst he
  rw [Array.toList_push] at hin
  rcases List.mem_append.1 hin with hin | hin
  · exact h S hS hs es clock hm e hin
  · rw [List.mem_singleton.1 hin]
    exact hv S hS
/-- what lies in the map is older than a block made now -/
theorem IsA.noS {w : World} {B : PB} {A : AS} (h : IsA w B A) {S : Nat} (hS : w.heap.size ≤ S) : NoS w B S := by
  intro es clock he e hin ek
  obtain ⟨-, -, es', clock', h2, hents⟩ := h
  rw [h2] at he
  injection he with he
  injection he with he he2
  subst he
  obtain ⟨i, hi, rfl⟩ := List.getElem_of_mem hin
  obtain ⟨-, s, ev, -, -, h3⟩ := hents.2 i (by rw [← hents.1]; exact hi) _ (List.getElem?_eq_getElem hi)
  rw [ev] at ek
  obtain ⟨-, cur, hc⟩ := own_typ4 h3 (q := S) ek
  have := block_lt hc
  omega
/-- a block that no entry has its children in is written -/
theorem IsA.keepS {w w' : World} {B : PB} {A : AS} (h : IsA w B A) {S : Nat} (hn : NoS w B S) (hS : ¬ B.own S) (k : ∀ q, q ≠ S → w'.heap[q]? = w.heap[q]?) : IsA w' B A := by
  have ko : ∀ q, B.own q → w'.heap[q]? = w.heap[q]? := fun q hq => k q (fun e => hS (by rw [← e]; exact hq))
  obtain ⟨h0, ⟨l0, l1, l2, l3⟩, es, clock, h2, h3⟩ := h
  refine ⟨(ko _ (.inl rfl)).trans h0, ⟨(ko _ (.inr (.inr (.inl rfl)))).trans l0, l1.keep (ko _ (.inr (.inr (.inr (.inl rfl))))), l2.keep (ko _ (.inr (.inr (.inr (.inr (.inl rfl)))))), l3.keep (ko _ (.inr (.inr (.inr (.inr (.inr rfl))))))⟩,
    es, clock, (ko _ (.inr (.inl rfl))).trans h2, h3.1, fun i hi e he => ⟨(h3.2 i hi e he).1, ?_⟩⟩
  obtain ⟨s, ev, g1, g2, g3⟩ := (h3.2 i hi e he).2
  refine ⟨s, ev, g1, g2, own_keep4 g3 fun q hq => k q fun e2 => ?_⟩
  refine hn es clock h2 e (List.mem_of_getElem? he) ?_
  rw [ev]
  show s.ownBlock = some S
  rw [hq, e2]

set_option maxRecDepth 100000 in
set_option maxHeartbeats 4000000 in
theorem allocA_sep1 (B : PB) (A : AS) (x : Nd) (ao : Option Addr) (n c : Nat) (w : World) (hk : IsKs w ao n x.kids) (hno : ao = none → c = 0) (hsep : ∀ b o, ao = some ⟨b, o, none⟩ → 0 < n → ¬ B.own b) (hc : checkN x = 0) (ha : IsA w B A) (hi : AInv A) (hal : A.al + 1 ≤ 9223372036854775807) :
    Calls Try.prog 13 #[.pointer (some ⟨B.p, 0, none⟩), aggN x.h x.text ao n c] w fun e w' => e = .returned (.tuple #[.int .u64 (allocR A x).1, .int .i64 (allocR A x).2]) ∧ IsA w' B (allocS A x) ∧ KeepA B w w' ∧ NoSs w w' B := by
  have hn4 := kids4 hc
  have hkl := hk.1
  have HU := Lib.hid hk.2.1
  have HC := Lib.hid hc
  have HK := Lib.hid hk
  have HNO := Lib.hid hno
  have HSEP := Lib.hid hsep
  have HA := Lib.hid ha
  have HI := Lib.hid hi
  have HB0 := Lib.hid (Below.refl w.heap.size w)
  have HPR := Lib.hid (fun e => (HA.out.ne.1 : B.p ≠ B.r) (Eq.symm e) : B.r ≠ B.p)
  have hxh := hk.1
  clear hk hno ha hi hc hsep
  unfold aggN
  go_enter Try.func13, Try.ntmps13
  go_wp2_with fail
  refine (check_any x ao n c _ (HK.out.later ((Below.refl w.heap.size w).alloc (Nat.le_refl _) _))).mono ?_; rintro e w1 ⟨rfl, hb⟩
  have HB1 := Lib.hid (below_two (HB0.out.alloc (Nat.le_refl _) _) hb)
  have hbx := block_below hb (block_new w (.cells #[.int .i64 x.h, .string x.text, .slice ao n c] 36)) (by simp)
  have HBX := Lib.hid hbx
  rw [HC.out]
  (have q0 := block_cell hbx 0; have q1 := block_cell hbx 1; have q2 := block_cell hbx 2; have f0 := block_free hbx 0; have f1 := block_free hbx 1; have f2 := block_free hbx 2; have hz := block_lt hbx; simp at q0 q1 q2)
  clear hb hbx
  go_wp2_with fail
  go_loopw [25] (fun i wr => ∃ k : Nat, k ≤ n ∧ i = .int .i64 k ∧ kidsE A x.h (x.kids.drop k) = kidsE A x.h x.kids ∧ Below w.heap.size w wr ∧ wr.heap[w.heap.size]? = some (.cells #[.int .i64 x.h, .string x.text, .slice ao n c] 36 (0, 0))) (fun i _ => n - (intOf i).toNat)
  case atStart => exact ⟨0, Nat.zero_le _, rfl, rfl, HB1.out, HBX.out⟩
  case round =>
    obtain ⟨k, hkn, rfl, hke, hbr, hbx⟩ := hrel
    have HBR := Lib.hid hbr
    have HXR := Lib.hid hbx
    have HKE := Lib.hid hke
    have har := HA.out.below hbr
    have HAR := Lib.hid har
    have hp := har.1
    by_cases hlt : k < n
    · have hkl2 : k < x.kids.length := by omega
      obtain ⟨bb, off, rfl, hcell⟩ := HK.out.2.2 (by omega)
      have hbb := cellK_lt (hcell k hkl2)
      obtain ⟨e0, e1, e2, e3⟩ := cellK_below (hcell k hkl2) hbr hbb
      have hk1 : (k : Int) < (n : Int) := by omega
      have hst := kidsE_step (A := A) (h := x.h) hkl2
      rw [hke] at hst
      have hur := HU.out _ (List.getElem_mem hkl2)
      obtain ⟨es, clock, hm, hents⟩ := har.2.2
      generalize x.kids[k] = kd at *
      obtain ⟨kat, m0, m1, m2⟩ := kd
      simp only at e0 e1 e2 e3 hst hur
      by_cases hin : kat ∈ A.it.map (·.1)
      · obtain ⟨v, nd, hnd, hown, hrun⟩ := look_yes (r := B.r) (clock := clock) hents hin
        rw [lookI_mem HI.out.nd hnd] at hst
        simp only at hst
        have HOK := Lib.hid (HI.out.ok _ hnd)
        have hxb := height_in HC.out (by omega)
        obtain ⟨s, rfl, hks⟩ := hown
        obtain ⟨ao2, cap2, rfl, hik, hno2, hg2⟩ := hks.ks
        have hrun1 := fun (o : Obj) => hrun (wr.alloc o).drew (block_alloc hm o)
        have hrun2 := fun (o o' : Obj) => hrun ((wr.alloc o).alloc o').drew (block_alloc (block_alloc hm o) o')
        have HIK := Lib.hid hik
        have HST := Lib.hid hst
        (have q0 := block_cell hp 0; have q1 := block_cell hp 1; have q2 := block_cell hp 2; have q3 := block_cell hp 3; have q4 := block_cell hp 4; have q5 := block_cell hp 5; have f0 := block_free hp 0; have f1 := block_free hp 1; have f2 := block_free hp 2; have f3 := block_free hp 3; have f4 := block_free hp 4; have f5 := block_free hp 5; have hz := block_lt hp; simp at q0 q1 q2 q3 q4 q5)
        (have q0 := block_cell hbx 0; have q1 := block_cell hbx 1; have q2 := block_cell hbx 2; have f0 := block_free hbx 0; have f1 := block_free hbx 1; have f2 := block_free hbx 2; have hz := block_lt hbx; simp at q0 q1 q2)
        clear hp hbx hcell hke hbr har hm hents hin hnd hrun hks hik hno2 hg2 hst
        go_wp2_with fail
        go_region
        have hb2 := (((HBR.out.alloc HBR.out.size (.cells #[.int .u64 kat, .int .i64 m0, .int .i64 m1, .int .i64 m2] 64)).alloc (Nat.le_trans HBR.out.size (by simp)) (.cells #[.int .i64 nd.h, .string nd.text, .slice ao2 nd.kids.length cap2] 36)).drew)
        have HB2 := Lib.hid hb2
        have hbx2 := block_alloc (block_alloc HXR.out (.cells #[.int .u64 kat, .int .i64 m0, .int .i64 m1, .int .i64 m2] 64)) (.cells #[.int .i64 nd.h, .string nd.text, .slice ao2 nd.kids.length cap2] 36)
        have hkb2 := block_alloc (block_new wr (.cells #[.int .u64 kat, .int .i64 m0, .int .i64 m1, .int .i64 m2] 64)) (.cells #[.int .i64 nd.h, .string nd.text, .slice ao2 nd.kids.length cap2] 36)
        have hyb2 := block_new' (wr.alloc (.cells #[.int .u64 kat, .int .i64 m0, .int .i64 m1, .int .i64 m2] 64)) (.cells #[.int .i64 nd.h, .string nd.text, .slice ao2 nd.kids.length cap2] 36) (wr.heap.size + 1) (by simp)
        have hbs := HBR.out.size
        go_wp2_with fail
        refine (measure_any nd ao2 nd.kids.length cap2 _ (HIK.out.later ((((Below.refl wr.heap.size wr).alloc (Nat.le_refl _) (.cells #[.int .u64 kat, .int .i64 m0, .int .i64 m1, .int .i64 m2] 64)).alloc (by simp) (.cells #[.int .i64 nd.h, .string nd.text, .slice ao2 nd.kids.length cap2] 36)).drew))).mono ?_; rintro e w3 ⟨rfl, hb⟩
        rw [HOK.out]
        have hbx3 := block_below hb hbx2 (by simp; omega)
        have hkb3 := block_below hb hkb2 (by simp; omega)
        have hyb3 := block_below hb hyb2 (by simp)
        have HX3 := Lib.hid hbx3
        have HB3 := Lib.hid (below_two HB2.out hb)
        clear q0 q1 q2 q3 q4 q5 f0 f1 f2 f3 f4 f5 hz hbx2 hkb2 hyb2 hb hb2
        (have q0 := block_cell hbx3 0; have q1 := block_cell hbx3 1; have q2 := block_cell hbx3 2; have f0 := block_free hbx3 0; have f1 := block_free hbx3 1; have f2 := block_free hbx3 2; have hz := block_lt hbx3; simp at q0 q1 q2)
        (have q0 := block_cell hkb3 0; have q1 := block_cell hkb3 1; have q2 := block_cell hkb3 2; have q3 := block_cell hkb3 3; have f0 := block_free hkb3 0; have f1 := block_free hkb3 1; have f2 := block_free hkb3 2; have f3 := block_free hkb3 3; have hz := block_lt hkb3; simp at q0 q1 q2 q3)
        (have q0 := block_cell hyb3 0; have q1 := block_cell hyb3 1; have q2 := block_cell hyb3 2; have f0 := block_free hyb3 0; have f1 := block_free hyb3 1; have f2 := block_free hyb3 2; have hz := block_lt hyb3; simp at q0 q1 q2)
        clear hbx3 hkb3 hyb3
        have HB4 := Lib.hid (HB3.out.alloc HB3.out.size (.cells #[.int .i64 (measN nd).1, .int .i64 (measN nd).2.1, .int .i64 (measN nd).2.2] 62))
        unfold aggM
        generalize measN nd = mm at *
        obtain ⟨a0, a1, a2⟩ := mm
        simp only at HST HB4
        by_cases ch : nd.h = x.h - 1
        · by_cases d0 : a0 = m0
          · by_cases d1 : a1 = m1
            · by_cases d2 : a2 = m2
              · subst d0 d1 d2
                have HS2 := Lib.hid (HST.out.trans (if_pos ⟨ch, rfl⟩))
                have ch2 : (nd.h != x.h - 1) = false := by simpa using ch
                have ch3 : (nd.h == x.h - 1) = true := by simpa using ch
                have HX4 := Lib.hid (block_alloc HX3.out (.cells #[.int .i64 a0, .int .i64 a1, .int .i64 a2] 62))
                clear ch
                go_wp2_with fail
                go_roundw
                case rel => exact ⟨k + 1, by omega, by go_num, HS2.out.symm, HB4.out, HX4.out⟩
                case measure => simp [intOf]; omega
              · have HE := Lib.hid (HST.out.trans (if_neg (fun h => d2 (by have := h.2; injection this with _ this; injection this))))
                have ch2 : (nd.h != x.h - 1) = false := by simpa using ch
                have ch3 : (nd.h == x.h - 1) = true := by simpa using ch
                have hne : (a2 == m2) = false := by simpa using d2
                clear ch d2
                subst d0 d1
                go_wp2_with fail
                have hR := allocR_kids HC.out (e := 23) HE.out (by decide)
                go_ret2
                exact ⟨by rw [hR.1]; rfl, by rw [hR.2]; exact HA.out.below HB4.out, (KeepA.refl B w).below HB4.out, NoSs.below HA.out HB4.out⟩
            · have HE := Lib.hid (HST.out.trans (if_neg (fun h => d1 (by have := h.2; injection this with _ this; injection this))))
              have ch2 : (nd.h != x.h - 1) = false := by simpa using ch
              have ch3 : (nd.h == x.h - 1) = true := by simpa using ch
              have hne : (a1 == m1) = false := by simpa using d1
              clear ch d1
              subst d0
              go_wp2_with fail
              have hR := allocR_kids HC.out (e := 23) HE.out (by decide)
              go_ret2
              exact ⟨by rw [hR.1]; rfl, by rw [hR.2]; exact HA.out.below HB4.out, (KeepA.refl B w).below HB4.out, NoSs.below HA.out HB4.out⟩
          · have HE := Lib.hid (HST.out.trans (if_neg (fun h => d0 (by have := h.2; injection this))))
            have ch2 : (nd.h != x.h - 1) = false := by simpa using ch
            have ch3 : (nd.h == x.h - 1) = true := by simpa using ch
            have hne : (a0 == m0) = false := by simpa using d0
            clear ch d0
            go_wp2_with fail
            have hR := allocR_kids HC.out (e := 23) HE.out (by decide)
            go_ret2
            exact ⟨by rw [hR.1]; rfl, by rw [hR.2]; exact HA.out.below HB4.out, (KeepA.refl B w).below HB4.out, NoSs.below HA.out HB4.out⟩
        · have HE := Lib.hid (HST.out.trans (if_neg (fun h => ch h.1)))
          have ch2 : (nd.h != x.h - 1) = true := by simpa using ch
          have ch3 : (nd.h == x.h - 1) = false := by simpa using ch
          clear ch
          go_wp2_with fail
          have hR := allocR_kids HC.out (e := 23) HE.out (by decide)
          go_ret2
          exact ⟨by rw [hR.1]; rfl, by rw [hR.2]; exact HA.out.below HB4.out, (KeepA.refl B w).below HB4.out, NoSs.below HA.out HB4.out⟩
      · have hrun1 := fun (o : Obj) => look_no (r := B.r) (clock := clock) hents hin (wr.alloc o).drew (block_alloc hm o)
        have hrun2 := fun (o o' : Obj) => look_no (r := B.r) (clock := clock) hents hin ((wr.alloc o).alloc o').drew (block_alloc (block_alloc hm o) o')
        rw [lookI_none hin] at hst
        simp only at hst
        have HST := Lib.hid hst
        unfold zN at hrun1 hrun2
        (have q0 := block_cell hp 0; have q1 := block_cell hp 1; have q2 := block_cell hp 2; have q3 := block_cell hp 3; have q4 := block_cell hp 4; have q5 := block_cell hp 5; have f0 := block_free hp 0; have f1 := block_free hp 1; have f2 := block_free hp 2; have f3 := block_free hp 3; have f4 := block_free hp 4; have f5 := block_free hp 5; have hz := block_lt hp; simp at q0 q1 q2 q3 q4 q5)
        (have q0 := block_cell hbx 0; have q1 := block_cell hbx 1; have q2 := block_cell hbx 2; have f0 := block_free hbx 0; have f1 := block_free hbx 1; have f2 := block_free hbx 2; have hz := block_lt hbx; simp at q0 q1 q2)
        clear hp hbx hcell hke hbr har hm hents hin hst
        go_wp2_with fail
        go_region
        go_wp2_with fail
        have hR := allocR_kids HC.out (e := 10) HST.out (by decide)
        go_ret2
        exact ⟨by rw [hR.1]; rfl, by rw [hR.2]; exact HA.out.below (((HBR.out.alloc HBR.out.size (.cells #[.int .u64 kat, .int .i64 m0, .int .i64 m1, .int .i64 m2] 64)).alloc (Nat.le_trans HBR.out.size (by simp)) (.cells #[.int .i64 0, .string ⟨#[]⟩, .slice none 0 0] 36)).drew), (KeepA.refl B w).below (((HBR.out.alloc HBR.out.size (.cells #[.int .u64 kat, .int .i64 m0, .int .i64 m1, .int .i64 m2] 64)).alloc (Nat.le_trans HBR.out.size (by simp)) (.cells #[.int .i64 0, .string ⟨#[]⟩, .slice none 0 0] 36)).drew), NoSs.below HA.out (((HBR.out.alloc HBR.out.size (.cells #[.int .u64 kat, .int .i64 m0, .int .i64 m1, .int .i64 m2] 64)).alloc (Nat.le_trans HBR.out.size (by simp)) (.cells #[.int .i64 0, .string ⟨#[]⟩, .slice none 0 0] 36)).drew)⟩
    · obtain rfl : k = n := by omega
      have hz0 : kidsE A x.h x.kids = 0 := by rw [← hke, List.drop_eq_nil_of_le (by omega)]; rfl
      have hRT := allocR_take HC.out hz0
      have hP0 : ∀ q, B.own q → q < w.heap.size := fun q hq => HA.out.lt (.inl hq)
      have hnP : ¬ B.own w.heap.size := fun h => by have := hP0 _ h; omega
      have HNP := Lib.hid hnP
      have HKR := Lib.hid (HK.out.later hbr)
      have hta := take_any B.lb A.x wr har.2.1 HI.out.f
      have HK0 := Lib.hid ((KeepA.refl B w).below hbr)
      (have q0 := block_cell hp 0; have q1 := block_cell hp 1; have q2 := block_cell hp 2; have q3 := block_cell hp 3; have q4 := block_cell hp 4; have q5 := block_cell hp 5; have f0 := block_free hp 0; have f1 := block_free hp 1; have f2 := block_free hp 2; have f3 := block_free hp 3; have f4 := block_free hp 4; have f5 := block_free hp 5; have hz := block_lt hp; simp at q0 q1 q2 q3 q4 q5)
      (have q0 := block_cell hbx 0; have q1 := block_cell hbx 1; have q2 := block_cell hbx 2; have f0 := block_free hbx 0; have f1 := block_free hbx 1; have f2 := block_free hbx 2; have hz := block_lt hbx; simp at q0 q1 q2)
      rcases take_two A.x HI.out.f with ⟨hm0, htr, hts⟩ | ⟨hm0, htr, hts, hth⟩
      · rw [htr] at hRT
        have hSA : allocS A x = A := by unfold allocS; rw [hRT]; exact if_pos (by decide)
        have HRT := Lib.hid hRT
        have HSA := Lib.hid hSA
        rw [htr, hts] at hta
        have HTA := Lib.hid hta
        clear hta htr hts hm0 hRT hSA hz0 hP0 hnP har hp hbx hbr hke
        go_wp2_with fail
        refine HTA.out.mono ?_; rintro e w2 ⟨rfl, t1, k1⟩
        have HA2 := Lib.hid (HAR.out.list k1 t1 rfl)
        have HK2 := Lib.hid (HK0.out.trans (KeepA.of_list k1))
        have HNS := Lib.hid (NoSs.list HAR.out (NoSs.below HA.out HBR.out) k1)
        clear t1 k1
        go_wp2_with fail
        go_ret2
        exact ⟨by rw [HRT.out]; rfl, by rw [HSA.out]; exact HA2.out, HK2.out, HNS.out⟩
      · have HFR := Lib.hid (fresh_key HI.out hm0)
        rw [htr] at hRT
        have hSA : allocS A x = { A with x := takeL A.x, it := A.it ++ [(hMk (A.x.sk (A.x.m - 1)) (A.x.gn (A.x.sk (A.x.m - 1))), x)], al := A.al + 1 } := by unfold allocS; rw [hRT]; exact if_neg (fun h => h rfl)
        have HRT := Lib.hid hRT
        have HSA := Lib.hid hSA
        rw [htr, hts] at hta
        have HTA := Lib.hid hta
        clear hta htr hts hm0 hRT hSA hz0 hP0 hnP har hp hbx hbr hke hth
        generalize hMk (A.x.sk (A.x.m - 1)) (A.x.gn (A.x.sk (A.x.m - 1))) = th at *
        go_wp2_with fail
        refine HTA.out.mono ?_; rintro e w2 ⟨rfl, t1, k1⟩
        have HA2 := Lib.hid (HAR.out.list k1 t1 rfl)
        have HK2 := Lib.hid (HK0.out.trans (KeepA.of_list k1))
        have HNS := Lib.hid (NoSs.list HAR.out (NoSs.below HA.out HBR.out) k1)
        have HS2 := Lib.hid (HK2.out.size)
        have hIK := HKR.out.same (w' := w2) (fun b o e hn => by
          obtain ⟨a1, a2, a3, a4⟩ := list_own (HSEP.out b o e hn)
          subst e
          exact k1.2 b (HKR.out.lt hn) a1 a2 a3 a4)
        have hX2 : w2.heap[w.heap.size]? = some (.cells #[.int .i64 x.h, .string x.text, .slice ao k c] 36 (0, 0)) := by
          obtain ⟨a1, a2, a3, a4⟩ := list_own HNP.out
          exact (k1.2 _ (block_lt HXR.out) a1 a2 a3 a4).trans HXR.out
        have HIK := Lib.hid hIK
        have HX2 := Lib.hid hX2
        have hn32 : k * 32 ≤ 140737488351232 := by omega
        clear q0 q1 q2 q3 q4 q5 f0 f1 f2 f3 f4 f5 hz hIK t1 k1
        (have q0 := block_cell hX2 0; have q1 := block_cell hX2 1; have q2 := block_cell hX2 2; have f0 := block_free hX2 0; have f1 := block_free hX2 1; have f2 := block_free hX2 2; have hz := block_lt hX2; simp at q0 q1 q2)
        clear hX2
        go_wp2_with fail
        refine (clone_any x.kids ao k c w2 HIK.out HNO.out hn32).mono ?_; rintro e w3 ⟨v', rfl, ho, hb⟩
        obtain ⟨ao', cap', rfl, -, -, -⟩ := ho.ks
        have hX3 := block_below hb HX2.out (block_lt HX2.out)
        have HR3 := Lib.hid (hb.block B.r (HA2.out.lt (.inl (own_r B))))
        have HR4 := Lib.hid (show (w3.setCell ⟨w.heap.size, 2, none⟩ (.slice ao' k cap')).heap[B.r]? = w3.heap[B.r]? from Below.heap_setCell _ _ _ _ (fun e => HNP.out (by have e' : B.r = w.heap.size := e; rw [← e']; exact own_r B)))
        have HX3 := Lib.hid hX3
        have HA3 := Lib.hid (HA2.out.below hb)
        have HK3 := Lib.hid (HK2.out.below hb)
        have HP0 := Lib.hid (block_lt HX2.out)
        have HO3 := Lib.hid ho
        have HA4 := Lib.hid (show IsA (w3.setCell ⟨w.heap.size, 2, none⟩ (.slice ao' k cap')) B { A with x := takeL A.x } from HA3.out.keep (fun q hq => Below.heap_setCell _ _ _ _ (fun e => by
          have e' : q = w.heap.size := e
          rcases hq with hq | ⟨cur, hc⟩
          · exact HNP.out (by rw [← e']; exact hq)
          · rw [e', HX3.out] at hc
            injection hc with hc
            injection hc with _ hc
            revert hc
            decide)))
        have HK4 := Lib.hid (show KeepA B w (w3.setCell ⟨w.heap.size, 2, none⟩ (.slice ao' k cap')) from HK3.out.trans0 HNP.out _ _)
        have HN4 := Lib.hid (show OwnN 0 (w3.setCell ⟨w.heap.size, 2, none⟩ (.slice ao' k cap')) (.agg #[.int .i64 x.h, .string x.text, .slice ao' k cap']) x from ⟨_, rfl, by rw [hkl]; exact (HO3.out.setCell HP0.out _).le (Nat.zero_le _)⟩)
        obtain ⟨es, clock, hm, hents⟩ := HA4.out.2.2
        have hupd := upd_new (r := B.r) (clock := clock) hents HFR.out (.agg #[.int .i64 x.h, .string x.text, .slice ao' k cap'])
        have HNS4 := Lib.hid (show NoSs w (w3.setCell ⟨w.heap.size, 2, none⟩ (.slice ao' k cap')) B from HNS.out.trans (NoSs.same ((HR4.out).trans HR3.out)))
        have HFR2 := Lib.hid (NoSs.push (v := .agg #[.int .i64 x.h, .string x.text, .slice ao' k cap']) HNS4.out hm th (clock + 1) clock (own_lowS HO3.out HS2.out))
        have hupd1 := hupd (w3.setCell ⟨w.heap.size, 2, none⟩ (.slice ao' k cap')).drew hm
        have HA5 := Lib.hid (IsA.map (show IsA (w3.setCell ⟨w.heap.size, 2, none⟩ (.slice ao' k cap')).drew B { A with x := takeL A.x } from HA4.out.keep fun _ _ => rfl) (clock' := clock + 1) (ents_push (clock := clock) (Ents.keep hents fun _ _ => rfl) (k := th) (ownN_keep HN4.out fun _ _ => rfl)))
        have hp4 := HA4.out.1
        have hX4 := block_setCell HX3.out 2 (.slice ao' k cap')
        clear q0 q1 q2 f0 f1 f2 hz ho hb hupd
        (have q0 := block_cell hX3 0; have q1 := block_cell hX3 1; have q2 := block_cell hX3 2; have f0 := block_free hX3 0; have f1 := block_free hX3 1; have f2 := block_free hX3 2; have hz := block_lt hX3; simp at q0 q1 q2)
        (have q0 := block_cell hp4 0; have q1 := block_cell hp4 1; have q2 := block_cell hp4 2; have q3 := block_cell hp4 3; have q4 := block_cell hp4 4; have q5 := block_cell hp4 5; have f0 := block_free hp4 0; have f1 := block_free hp4 1; have f2 := block_free hp4 2; have f3 := block_free hp4 3; have f4 := block_free hp4 4; have f5 := block_free hp4 5; have hz := block_lt hp4; simp at q0 q1 q2 q3 q4 q5)
        have HP4 := Lib.hid hp4
        have HX4 := Lib.hid hX4
        have hp5 := HA5.out.1
        (have q0 := block_cell hp5 0; have q1 := block_cell hp5 1; have q2 := block_cell hp5 2; have q3 := block_cell hp5 3; have q4 := block_cell hp5 4; have q5 := block_cell hp5 5; have f0 := block_free hp5 0; have f1 := block_free hp5 1; have f2 := block_free hp5 2; have f3 := block_free hp5 3; have f4 := block_free hp5 4; have f5 := block_free hp5 5; have hz := block_lt hp5; simp at q0 q1 q2 q3 q4 q5)
        clear hX3 hp4 hX4 hents hp5
        go_wp2_with fail
        go_region
        go_wp2_with fail
        go_ret2
        exact ⟨by rw [HRT.out]; rfl, by rw [HSA.out]; exact HA5.out.count 3 _ rfl rfl rfl, ((HK4.out.drewN 1).setB _).set (own_p B) _ _, HFR2.out.trans (NoSs.same (Below.heap_setCell _ _ _ _ HPR.out))⟩

set_option maxRecDepth 100000 in
theorem allocA_sep (B : PB) (A : AS) (x : Nd) (ao : Option Addr) (n c : Nat) (w : World) (hk : IsKs w ao n x.kids) (hno : ao = none → c = 0) (hsep : ∀ b o, ao = some ⟨b, o, none⟩ → 0 < n → ¬ B.own b) (ha : IsA w B A) (hi : AInv A) (hal : A.al + 1 ≤ 9223372036854775807) :
    Calls Try.prog 13 #[.pointer (some ⟨B.p, 0, none⟩), aggN x.h x.text ao n c] w fun e w' => e = .returned (.tuple #[.int .u64 (allocR A x).1, .int .i64 (allocR A x).2]) ∧ IsA w' B (allocS A x) ∧ KeepA B w w' ∧ NoSs w w' B := by
  by_cases hc : checkN x = 0
  · exact allocA_sep1 B A x ao n c w hk hno hsep hc ha hi hal
  · have e : allocR A x = (0, checkN x) := if_pos hc
    rw [allocS_no (by rw [e]; exact hc), e]
    refine (allocA_check B x ao n c w hk hc).mono ?_
    rintro e w1 ⟨rfl, hb⟩
    exact ⟨rfl, ha.below hb, (KeepA.refl B w).below hb, NoSs.below ha hb⟩
end Go.Proofs.Ytfgkbnnojogjpaa
