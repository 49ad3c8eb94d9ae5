/- The arena: the law ArenaPlays. -/
import Derived.Test.YtfgkbnnojogjpaaRd
import Derived.Test.YtfgkbnnojogjpaaRe
import Derived.Deep.QuietTactic
import Derived.BigQuiet
import Derived.BigRegion
namespace Go.Proofs.Ytfgkbnnojogjpaa
open Go.RowKit
set_option linter.unusedVariables false

theorem soloAllocS (w0 : World) (B : PB) (A : AS) (x : Nd) (ao : Option Addr) (n c : Nat) (w : World) (hk : IsKs w ao n x.kids) (hno : ao = none → c = 0) (hsep : ∀ b o, ao = some ⟨b, o, none⟩ → 0 < n → ¬ B.own b) (h : SoloA w0 w B A) :
    Calls Try.prog 13 #[.pointer (some ⟨B.p, 0, none⟩), .agg #[.int .i64 x.h, .string x.text, .slice ao n c]] w fun e w' => e = .returned (.tuple #[.int .u64 (allocR A x).1, .int .i64 (allocR A x).2]) ∧ SoloA w0 w' B (allocS A x) ∧ KeepA B w w' ∧ NoSs w w' B := by
  have := h.al
  refine (allocA_sep B A x ao n c w hk hno hsep h.is h.inv (by omega)).mono ?_
  rintro e w1 ⟨rfl, h1, h2, h3⟩
  exact ⟨rfl, h.turn (allocS_inv h.inv x) (allocS_c h.inv h.cnt x) h1 h2, h2, h3⟩
theorem soloGetS (w0 : World) (B : PB) (A : AS) (h : Int) (w : World) (hs : SoloA w0 w B A) (hb : A.st ≤ 1000000000) :
    Calls Try.prog 21 #[.pointer (some ⟨B.p, 0, none⟩), .int .u64 h] w fun e w' => ∃ s, e = .returned (.tuple #[.agg #[.int .i64 (nodeOf A h).h, .string (nodeOf A h).text, s], .int .i64 (getE A h)]) ∧ OwnKs w.heap.size w' s (nodeOf A h).kids.length (nodeOf A h).kids ∧ SoloA w0 w' B (getS A h) ∧ KeepA B w w' ∧ ∀ S, w.heap.size ≤ S → 0 < (nodeOf A h).kids.length → NoS w' B S := by
  by_cases hl : liveL A.x h
  · refine (getA_live B A h w hs.is hs.inv hl).mono ?_
    rintro e w1 ⟨v, rfl, ⟨s, rfl, h1⟩, h2⟩
    rw [show getE A h = 0 from if_pos hl, show getS A h = A from if_pos hl]
    exact ⟨s, rfl, h1, hs.below h2, (KeepA.refl B w).below h2, fun S hS _ => NoSs.same (w1 := w) (h2.block B.r (hs.is.lt (.inl (own_r B)))) S (hs.is.noS hS)⟩
  · refine (soloGet w0 B A h w hs hb).mono ?_
    rintro e w1 ⟨v, rfl, ⟨s, rfl, h1⟩, h2, h3⟩
    refine ⟨s, rfl, h1, h2, h3, fun S _ hn => ?_⟩
    rw [(nodeOf_dead hs.inv hl).1] at hn
    exact absurd hn (Nat.lt_irrefl _)
theorem PairA.start {w0 w1 w2 : World} {B : PB} {C : CB} {A : AS} {v : Value} (h : SoloA w0 w1 B A) (hb : IsB w2 w1.heap.size C A v []) (k : Below w1.heap.size w1 w2) (hf : ∀ q, C.fix q → w1.heap.size ≤ q) (hc : C.lb.cs ≤ maxLen) (hv : v = .slice none 0 0) : PairA w0 w2 B C A A v [] (.slice none 0 0) [] :=
  ⟨h.below k, ⟨hb.p, hb.l, ⟨by rw [hv]; exact World.ownsRow_nil _ _ _ _, fun _ h => nomatch h⟩, hb.e⟩, AllK.nil _ _, fun q hq => Nat.le_trans h.low.size (hf q hq), fun q hq ho => by
    have h1 := hf q hq
    have h2 := h.is.lt (.inl ho)
    omega, hc⟩
theorem IsB.other {w w' : World} {b0 : Nat} {C : CB} {A : AS} {v : Value} {M : List Kn} (h : IsB w b0 C A v M) (k : KeepB b0 C w w') {q : Nat} {cs : Array Value} {T : TypeId} (hc : w.heap[q]? = some (.cells cs T (0, 0))) (h1 : T ≠ 94) (h2 : T ≠ 111) (h3 : T ≠ 3) (h4 : T ≠ 22) (h5 : T ≠ 101) : w'.heap[q]? = some (.cells cs T (0, 0)) :=
  (k.2 q (block_lt hc) (fun hf => h.fixT hf hc h1 h2 h3 h4) (fun ⟨cur2, hc2⟩ => by rw [hc] at hc2; injection hc2 with hc2; injection hc2 with _ hc2; exact h5 hc2)).trans hc
theorem Deeds.at7 {w : World} {bb off len : Nat} {l : List De} (h : Deeds w (some ⟨bb, off, none⟩) len l) {k : Nat} (hk : k < len) {d : De} (hd : l[k]? = some d) : ∀ w', Below w.heap.size w w' →
    w'.cell? ⟨bb, off + k * 7, none⟩ = some (.int .i64 d.k) ∧ w'.cell? ⟨bb, off + k * 7 + 1, none⟩ = some (.string d.t) ∧ w'.cell? ⟨bb, off + k * 7 + 2, none⟩ = some (.slice d.la d.l.length d.lc) ∧
      w'.cell? ⟨bb, off + k * 7 + 3, none⟩ = some (.int .i64 d.x.h) ∧ w'.cell? ⟨bb, off + k * 7 + 4, none⟩ = some (.string d.x.text) ∧ w'.cell? ⟨bb, off + k * 7 + 5, none⟩ = some (.slice d.xa d.x.kids.length d.xc) ∧ w'.cell? ⟨bb, off + k * 7 + 6, none⟩ = some (.int .u64 d.h) := by
  intro w' hb
  obtain ⟨bb', off', d', e, -, h0, h1, h2, h3, h4, h5, h6, -, hd'⟩ := h.cell hb hk
  cases e
  rw [hd] at hd'
  cases hd'
  exact ⟨h0, h1, h2, h3, h4, h5, h6⟩
theorem nodeOf_kids {A : AS} (hi : AInv A) (h : Int) : (nodeOf A h).kids.length ≤ 4 := by
  by_cases hl : liveL A.x h
  · exact kids4 (hi.ok _ (nodeOf_live hi hl).1)
  · rw [(nodeOf_dead hi hl).1]
    exact Nat.zero_le _
theorem nodeD_reach {L : List Kn} {d : De} {x : Nd} (h : nodeD L d = some x) (hd : d.x.kids.length * 32 ≤ 140737488351232) : x.kids.length * 32 ≤ 140737488351232 := by
  unfold nodeD at h
  split at h
  · cases h; simp
  · split at h
    · cases h
      show (innerKids L d.l (inN L d.l)).length * 32 ≤ _
      have : inN L d.l ≤ 5 ∧ inN L d.l ≤ d.l.length := by unfold inN; split <;> omega
      rw [innerKids_len _ _ _ this.2]
      omega
    · split at h
      · cases h; exact hd
      · cases h
theorem nodeD_kind {L : List Kn} {d : De} {x : Nd} (h : nodeD L d = some x) : d.k % 8 < 5 := by
  have h1 := Int.emod_nonneg d.k (show (8 : Int) ≠ 0 by decide)
  unfold nodeD at h
  split at h
  · omega
  · split at h
    · omega
    · split at h
      · omega
      · cases h
theorem nodeD_none {L : List Kn} {d : De} (h : nodeD L d = none) : d.k % 8 = 5 ∨ d.k % 8 = 6 ∨ d.k % 8 = 7 := by
  have h1 := Int.emod_nonneg d.k (show (8 : Int) ≠ 0 by decide)
  have h2 := Int.emod_lt_of_pos d.k (show (0 : Int) < 8 by decide)
  unfold nodeD at h
  split at h
  · cases h
  · split at h
    · cases h
    · split at h
      · cases h
      · omega
theorem allocS_st (A : AS) (x : Nd) : (allocS A x).st = A.st := by
  unfold allocS
  split <;> rfl
theorem freeS_st (A : AS) (h : Int) : (freeS A h).st ≤ A.st + 1 := by
  unfold freeS
  split
  · exact Nat.le_succ _
  · exact Nat.le_refl _
theorem getS_st (A : AS) (h : Int) : (getS A h).st ≤ A.st + 1 := by
  unfold getS
  split
  · exact Nat.le_succ _
  · exact Nat.le_refl _
theorem allocR_rng {A : AS} (hi : AInv A) {x : Nd} {r1 r2 : Int} (h : allocR A x = (r1, r2)) : r2 = 0 → (0 ≤ r1 ∧ r1 ≤ 18446744073709551615) ∧ checkN x = 0 := fun e => by
  have h2 : (allocR A x).2 = 0 := by rw [h]; exact e
  obtain ⟨c1, c2, hm, e, hA⟩ := takeR_two hi h2
  rw [h] at e
  have e : r1 = _ := e
  refine ⟨?_, c1⟩
  rw [e]
  exact hMk_le (mkOK_of hi.f (hi.f.lo (A.x.m - 1) (by omega)).1)

theorem newB_at (a c : Nat) (ha : a < 12) (hc : c < 3) (w : World) :
    Calls Try.prog 11 #[.int .i64 (1 + (a : Int)), .int .u64 (1 + (c : Int))] w fun e w' => ∃ C : CB, e = .returned (.tuple #[.pointer (some ⟨C.p, 0, none⟩), .int .i64 0]) ∧ IsB w' w.heap.size C (newA (a + 1) (c + 1)) (.slice none 0 0) [] ∧ Below w.heap.size w w' ∧ (∀ q, C.fix q → w.heap.size ≤ q) ∧ C.lb.cs ≤ maxLen := by
  have := refNewB (a + 1) (c + 1) w (by omega) (by omega) (by omega) (by omega)
  rw [show ((a + 1 : Nat) : Int) = 1 + (a : Int) by omega, show ((c + 1 : Nat) : Int) = 1 + (c : Int) by omega] at this
  exact this.mono fun e w' h => h

set_option maxRecDepth 100000 in
set_option maxHeartbeats 40000000 in
theorem plays_any (n g : Int) (ao : Option Addr) (len cap : Nat) (l : List De) (w : World) (hr : Deeds w ao len l) (hlen : len ≤ 9223372036854775807) (hreach : ∀ d ∈ l, d.x.kids.length * 32 ≤ 140737488351232) :
    Calls Try.prog 6 #[.int .i64 n, .int .i64 g, .slice ao len cap] w fun e w' => e = .returned (.bool true) ∧ Below w.heap.size w w' := by
  obtain ⟨i0, hi, hz0, hz1, hz2⟩ := info_parts infoKn
  obtain ⟨a, ha, hna⟩ := mod_nat n 12 (by decide)
  obtain ⟨c, hc, hgc⟩ := mod_nat g 3 (by decide)
  have M1 := Lib.hid (mod13_as n 12 a (by decide) (by decide) hna)
  have M2 := Lib.hid (mod13_as g 3 c (by decide) (by decide) hgc)
  have NA := Lib.hid (newA_at a c ha hc)
  have NB := Lib.hid (newB_at a c ha hc)
  have HR := Lib.hid hr
  have HREACH := Lib.hid hreach
  have ha1 : (a : Int) < 12 := by omega
  have hc1 : (c : Int) < 3 := by omega
  clear hna hgc hr hreach
  go_enter Try.func6, Try.ntmps6
  go_wp2_with fail
  refine (M1.out _).mono ?_; rintro e w1 ⟨rfl, rfl⟩
  go_wp2_with fail
  refine (M2.out _).mono ?_; rintro e w1 ⟨rfl, rfl⟩
  go_wp2_with fail
  refine (NA.out _).mono ?_; rintro e w1 ⟨B, rfl, hs⟩
  have HS1 := Lib.hid hs
  clear hs
  go_wp2_with fail
  refine (M1.out _).mono ?_; rintro e w2 ⟨rfl, rfl⟩
  go_wp2_with fail
  refine (M2.out _).mono ?_; rintro e w2 ⟨rfl, rfl⟩
  go_wp2_with fail
  refine (NB.out _).mono ?_; rintro e w2 ⟨C, rfl, hb, hbel, hf, hcs⟩
  have HP1 := Lib.hid (PairA.start HS1.out hb hbel hf hcs rfl)
  clear hb hbel hf hcs M1 M2 NA NB HS1
  go_wp2_with fail
  go_loopw [11, 12] (fun vA i wr => ∃ (k : Nat) (A : AS) (L : List Kn) (v : Value) (M : List Kn), k ≤ len ∧ k ≤ 50 ∧ i = .int .i64 k ∧ PairA w wr B C A A v M vA L ∧ L.length ≤ k ∧ A.st ≤ 2 * k) (fun _ i _ => len - (intOf i).toNat)
  case atStart => exact ⟨0, _, [], _, [], Nat.zero_le _, Nat.zero_le _, rfl, HP1.out, Nat.le_refl _, Nat.le_refl _⟩
  case round =>
    obtain ⟨k, A, L, v, M, hk, hk50, rfl, hp, hll, hsk⟩ := hrel
    have HP := Lib.hid hp
    clear hp HP1
    by_cases hlt : k < len
    · have hk1 : (k : Int) < (len : Int) := by omega
      by_cases hlt50 : k < 50
      · have hk2 : (k : Int) < 50 := by omega
        obtain ⟨bb, off, d, rfl, hdo, e0, e1, e2, e3, e4, e5, e6, -, hld⟩ := HR.out.cell HP.out.s.low hlt
        have HDO := Lib.hid hdo
        have HC7 := Lib.hid (HR.out.at7 hlt hld)
        have HRE := Lib.hid (HREACH.out d (List.mem_of_getElem? hld))
        clear hdo hld
        cases hx : nodeD L d with
        | some x =>
          as_aux_lemma =>
            have HKD := Lib.hid (nodeD_kind hx)
            obtain ⟨kd, hkd⟩ : ∃ kd, kd = d.k % 8 := ⟨_, rfl⟩
            have HDK := Lib.hid hkd.symm
            have hk5 : kd < 5 := by rw [hkd]; exact HKD.out
            have hd6 : decide ((6 : Int) ≤ kd) = false := decide_eq_false (by omega)
            have hd5 : (kd == 5) = false := by rw [beq_eq_false_iff_ne]; omega
            have hd7 : (kd == 7) = false := by rw [beq_eq_false_iff_ne]; omega
            clear hkd HKD hk5
            have HNX := Lib.hid hx
            have HXR := Lib.hid (nodeD_reach hx HRE.out)
            obtain ⟨r1, r2, hr⟩ : ∃ r1 r2, allocR A x = (r1, r2) := ⟨_, _, rfl⟩
            have HRR := Lib.hid hr
            have HXL := Lib.hid (show x.kids.length ≤ 9223372036854775807 by have := HXR.out; omega)
            clear hx hr
            go_wp2_with fail
            refine (hand_any w.heap.size L _ d wr HDO.out HP.out.k (by omega)).mono ?_; rintro e w1 ⟨rfl, hb1⟩
            have HB1 := Lib.hid hb1
            have HP1 := Lib.hid (HP.out.below hb1)
            obtain ⟨d0, d1, d2, d3, d4, d5, d6⟩ := HC7.out w1 HP1.out.s.low
            clear hb1 e0 e1 e2 e3 e4 e5 e6
            go_wp2_with fail
            refine (node_any w.heap.size L _ d w1 (HDO.out.later HB1.out) HP1.out.k (by omega)).mono ?_; rintro e w2 hn
            rw [HNX.out] at hn
            obtain ⟨ao, c, rfl, hks, hb2⟩ := hn
            simp only [Option.getD_some, Option.isSome_some] at hks ⊢
            unfold aggN
            have HP2 := Lib.hid ((HP1.out.below hb2).alloc (.cells #[.int .i64 x.h, .string x.text, .slice ao x.kids.length c] 36))
            have HK2 := Lib.hid (hks.later ((Below.refl _ _).alloc (Nat.le_refl _) (.cells #[.int .i64 x.h, .string x.text, .slice ao x.kids.length c] 36)))
            have HX2 := Lib.hid (block_new w2 (.cells #[.int .i64 x.h, .string x.text, .slice ao x.kids.length c] 36))
            clear hks hb2 HP1 HB1 d0 d1 d2 d3 d4 d5 d6
            have hx2 := HX2.out
            (have q0 := block_cell hx2 0; have q1 := block_cell hx2 1; have q2 := block_cell hx2 2; have f0 := block_free hx2 0; have f1 := block_free hx2 1; have f2 := block_free hx2 2; have hz := block_lt hx2; simp at q0 q1 q2)
            clear hx2
            go_wp2_with fail
            obtain ⟨SX, hSX⟩ : ∃ SX, SX = w2.heap.size := ⟨_, rfl⟩
            generalize w2.alloc (.cells #[.int .i64 x.h, .string x.text, .slice ao x.kids.length c] 36) = wX at *
            rw [← hSX] at HX2
            rw [← hSX]
            clear hSX hz q0 q1 q2 f0 f1 f2
            refine (copyNode_any x ao x.kids.length c wX HK2.out.1 HXR.out).mono ?_; rintro e w3 ⟨vi, rfl, ⟨si, rfl, hks⟩, hb3⟩
            obtain ⟨ai, ci, rfl, hoki⟩ := hks.ok (b0 := w.heap.size)
            have HIK3 := Lib.hid (hks.inK.below ((Below.refl _ _).alloc (Nat.le_refl _) (.cells #[.int .i64 x.h, .string x.text, .slice ai x.kids.length ci] 36)))
            have HKI3 := Lib.hid (hoki.later ((Below.refl _ _).alloc (Nat.le_refl _) (.cells #[.int .i64 x.h, .string x.text, .slice ai x.kids.length ci] 36)))
            have HW3 := Lib.hid (below_two hb3 ((Below.refl _ _).alloc (Nat.le_refl _) (.cells #[.int .i64 x.h, .string x.text, .slice ai x.kids.length ci] 36)))
            have HP3 := Lib.hid ((HP2.out.below hb3).alloc (.cells #[.int .i64 x.h, .string x.text, .slice ai x.kids.length ci] 36))
            have HK3 := Lib.hid ((HK2.out.later hb3).later ((Below.refl _ _).alloc (Nat.le_refl _) (.cells #[.int .i64 x.h, .string x.text, .slice ai x.kids.length ci] 36)))
            have HX3 := Lib.hid (block_alloc (block_below hb3 HX2.out (block_lt HX2.out)) (.cells #[.int .i64 x.h, .string x.text, .slice ai x.kids.length ci] 36))
            have HI3 := Lib.hid (block_new w3 (.cells #[.int .i64 x.h, .string x.text, .slice ai x.kids.length ci] 36))
            have HXLT := Lib.hid (HK2.out.lt)
            have HOLD := Lib.hid (fun S (hS : wX.heap.size ≤ S) => HP2.out.old hS)
            clear hks hoki hb3
            have hi3 := HI3.out
            (have q0 := block_cell hi3 0; have q1 := block_cell hi3 1; have q2 := block_cell hi3 2; have f0 := block_free hi3 0; have f1 := block_free hi3 1; have f2 := block_free hi3 2; have hz := block_lt hi3; simp at q0 q1 q2)
            clear hi3
            go_wp2_with fail
            obtain ⟨SI, hSI⟩ : ∃ SI, SI = w3.heap.size := ⟨_, rfl⟩
            generalize w3.alloc (.cells #[.int .i64 x.h, .string x.text, .slice ai x.kids.length ci] 36) = wI at *
            rw [← hSI] at HI3
            rw [← hSI]
            clear hSI hz q0 q1 q2 f0 f1 f2
            have hal := soloAllocS w B A x ai x.kids.length ci wI HKI3.out.1 HKI3.out.2.1 (HKI3.out.sep HP3.out.s.is HP3.out.s.ge) HP3.out.s
            rw [HRR.out] at hal
            refine hal.mono ?_; rintro e w4 ⟨rfl, hs4, hk4, hns4⟩
            clear hal
            have HP4 := Lib.hid (HP3.out.turnA hs4 hk4)
            have HIK4 := Lib.hid (HIK3.out.turnA HP3.out.s.is hk4)
            have HKI4 := Lib.hid (HKI3.out.turn HP3.out.s.is HP3.out.s.ge hk4)
            have HK4 := Lib.hid (HK3.out.turn HP3.out.s.is HP3.out.s.ge hk4)
            have hx4 := (hk4.2 _ (block_lt HX3.out) (HP3.out.s.is.nownT HX3.out (by decide) (by decide) (by decide) (by decide) (by decide))).trans HX3.out
            have HX4 := Lib.hid hx4
            have HI4 := Lib.hid ((hk4.2 _ (block_lt HI3.out) (HP3.out.s.is.nownT HI3.out (by decide) (by decide) (by decide) (by decide) (by decide))).trans HI3.out)
            have HNS4 := Lib.hid (fun S (hS : wX.heap.size ≤ S) (hS2 : S < wI.heap.size) => hns4 S hS2 (NoSs.same (w1 := wX) (HW3.out.block B.r (HP2.out.s.is.lt (.inl (own_r B)))) S (HOLD.out S hS).1))
            have HS4 := Lib.hid hk4.size
            have HAI := Lib.hid (HKI3.out.lt)
            clear hs4 hk4 hns4 HP3 HIK3 HKI3 HK3 HX3 HI3
            (have q0 := block_cell hx4 0; have q1 := block_cell hx4 1; have q2 := block_cell hx4 2; have f0 := block_free hx4 0; have f1 := block_free hx4 1; have f2 := block_free hx4 2; have hz := block_lt hx4; simp at q0 q1 q2)
            clear hx4
            go_wp2_with fail
            have hal := refAllocM C A v M w.heap.size x ao c w4 HP4.out.b HP.out.s.inv HP4.out.f HP4.out.s.low.size HK4.out HP.out.s.al.1
            rw [HRR.out] at hal
            refine hal.mono ?_; rintro e w5 ⟨v', M', rfl, hb5, hk5, hnm5⟩
            clear hal q0 q1 q2 f0 f1 f2 hz
            have HP5 := Lib.hid (HP4.out.turnB hb5 hk5)
            have HIK5 := Lib.hid (HIK4.out.turnB HP4.out.b hk5)
            have HKI5 := Lib.hid (HKI4.out.turnB HP4.out.b hk5)
            have HK5 := Lib.hid (HK4.out.turnB HP4.out.b hk5)
            have HX5 := Lib.hid (HP4.out.b.other hk5 HX4.out (by decide) (by decide) (by decide) (by decide) (by decide))
            have HI5 := Lib.hid (HP4.out.b.other hk5 HI4.out (by decide) (by decide) (by decide) (by decide) (by decide))
            have HSS := Lib.hid (show ∀ S, wX.heap.size ≤ S → S < wI.heap.size → NoS w5 B S ∧ NoM S M' ∧ NoM S L from fun S h1 h2 => ⟨NoSs.same (w1 := w4) (hk5.2 B.r (HP4.out.s.is.lt (.inl (own_r B))) (fun hf => HP4.out.ap _ hf (own_r B)) (fun ⟨cur, hc⟩ => HP4.out.s.is.nownT hc (by decide) (by decide) (by decide) (by decide) (by decide) (own_r B))) S (HNS4.out S h1 h2), hnm5 S (Nat.lt_of_lt_of_le h2 HS4.out) (HOLD.out S h1).2.1, (HOLD.out S h1).2.2⟩)
            obtain ⟨A', hA'⟩ : ∃ A', A' = allocS A x := ⟨_, rfl⟩
            rw [← hA'] at HP5
            have HSA := Lib.hid (show A'.st ≤ A.st by rw [hA']; exact Nat.le_of_eq (allocS_st A x))
            have HRG := Lib.hid (show r2 = 0 → (0 ≤ r1 ∧ r1 ≤ 18446744073709551615) ∧ checkN x = 0 from allocR_rng HP.out.s.inv HRR.out)
            clear hb5 hk5 hnm5 hA' HP4 HIK4 HKI4 HK4 HX4 HI4 HNS4 HOLD
            have hx5 := HX5.out
            (have q0 := block_cell hx5 0; have q1 := block_cell hx5 1; have q2 := block_cell hx5 2; have f0 := block_free hx5 0; have f1 := block_free hx5 1; have f2 := block_free hx5 2; have hz := block_lt hx5; simp at q0 q1 q2)
            have hi5 := HI5.out
            (have p0 := block_cell hi5 0; have p1 := block_cell hi5 1; have p2 := block_cell hi5 2; simp at p0 p1 p2)
            clear hx5 hi5
            go_wp2_with fail
            refine (equalN_yes x ai ao 0 ci c w5 HKI5.out.1 HK5.out.1 HXL.out).mono ?_; rintro e w6 ⟨rfl, hb6⟩
            have HPW := Lib.hid (HP5.out.below hb6)
            have HIK := Lib.hid (HIK5.out.below hb6)
            have HKW := Lib.hid (HK5.out.later hb6)
            have HXW := Lib.hid (block_below hb6 HX5.out (block_lt HX5.out))
            have HIN := Lib.hid (block_below hb6 HI5.out (block_lt HI5.out))
            have HSW := Lib.hid (show ∀ S, wX.heap.size ≤ S → S < wI.heap.size → NoS w6 B S ∧ NoM S M' ∧ NoM S L from fun S h1 h2 => ⟨NoSs.same (w1 := w5) (hb6.block B.r (HP5.out.s.is.lt (.inl (own_r B)))) S (HSS.out S h1 h2).1, (HSS.out S h1 h2).2⟩)
            have HIS := Lib.hid (show ∀ S, ai = some ⟨S, 0, none⟩ → 0 < x.kids.length → S < wI.heap.size from fun S e hn => HAI.out S 0 e hn)
            clear hb6 HP5 HIK5 HKI5 HK5 HX5 HI5 HSS q0 q1 q2 f0 f1 f2 hz p0 p1 p2
            go_wp2_with fail
            go_loopw [21] (fun j wr => ∃ m : Nat, m ≤ x.kids.length ∧ j = .int .i64 m ∧ ZO w6 wr ai x.kids.length) (fun j _ => x.kids.length - (intOf j).toNat)
            case atStart => exact ⟨0, Nat.zero_le _, rfl, ZO.start HIK.out⟩
            case round =>
              obtain ⟨m, hm, rfl, hz0⟩ := hrel
              have HZO := Lib.hid hz0
              have hxr := HXR.out
              clear hz0
              by_cases hml : m < x.kids.length
              · have hm1 : (m : Int) < (x.kids.length : Int) := by omega
                have hin := HZO.out.block HIK.out HIN.out (by decide)
                (have q0 := block_cell hin 0; have q1 := block_cell hin 1; have q2 := block_cell hin 2; have f0 := block_free hin 0; have f1 := block_free hin 1; have f2 := block_free hin 2; have hz := block_lt hin; simp at q0 q1 q2)
                obtain ⟨S, eS, hbS, -⟩ := HIK.out (by omega)
                subst eS
                obtain ⟨-, -, cur, hc, hs⟩ := HZO.out.2 S rfl (by omega)
                have HZ2 := Lib.hid ((((HZO.out.set (i := m * 4) (by omega) (.int .u64 0)).set (i := m * 4 + 1) (by omega) (.int .i64 0)).set (i := m * 4 + 2) (by omega) (.int .i64 0)).set (i := m * 4 + 3) (by omega) (.int .i64 0))
                have c0 := block_cell hc (m * 4)
                have c1 := block_cell hc (m * 4 + 1)
                have c2 := block_cell hc (m * 4 + 2)
                have c3 := block_cell hc (m * 4 + 3)
                rw [Array.getElem?_eq_getElem (by omega)] at c0 c1 c2 c3
                have g0 := block_free hc (m * 4)
                have g1 := block_free hc (m * 4 + 1)
                have g2 := block_free hc (m * 4 + 2)
                have g3 := block_free hc (m * 4 + 3)
                clear hin hc
                go_wp2_with fail
                go_roundw
                case rel => exact ⟨m + 1, by omega, by go_num, HZ2.out⟩
                case measure => simp [intOf]; omega
              · obtain rfl : m = x.kids.length := by omega
                have h0X : w.heap.size ≤ wX.heap.size := HP2.out.s.low.size
                have HPQ := Lib.hid (HPW.out.zero HIK.out h0X (fun S e hn => by
                  obtain ⟨S', e', hb', -⟩ := HIK.out hn
                  rw [e] at e'; injection e' with e'; injection e' with e'; subst e'
                  exact HSW.out S hb' (HIS.out S e hn)) HZO.out)
                have HXQ := Lib.hid (HZO.out.block HIK.out HXW.out (by decide))
                have hin := HZO.out.block HIK.out HIN.out (by decide)
                have p2 := block_cell hin 2
                simp at p2
                clear hin
                have HKQ := Lib.hid (HKW.out.zero HXLT.out HZO.out HIK.out)
                clear h0X HPW HIK HKW HXW HIN HSW HIS HZO HXLT HP2 HK2 HX2 HW3 HS4 HAI
                by_cases hr2 : r2 = 0
                · as_aux_lemma =>
                    subst hr2
                    have HRX := Lib.hid (HRG.out rfl)
                    have hx5 := HXQ.out
                    (have q0 := block_cell hx5 0; have q1 := block_cell hx5 1; have q2 := block_cell hx5 2; have f0 := block_free hx5 0; have f1 := block_free hx5 1; have f2 := block_free hx5 2; have hz := block_lt hx5; simp at q0 q1 q2)
                    clear hx5
                    go_wp2_with fail
                    refine (copyNode_any x ao x.kids.length c _ HKQ.out.1 HXR.out).mono ?_; rintro e w8 ⟨vi, rfl, ⟨si, rfl, hks⟩, hb8⟩
                    obtain ⟨aC, cC, rfl, hokC⟩ := hks.ok (b0 := w.heap.size)
                    have HPA := Lib.hid ((HPQ.out.below hb8).alloc (.cells #[.int .u64 r1, .int .i64 x.h, .string x.text, .slice aC x.kids.length cC] 50))
                    clear p2
                    have HKC := Lib.hid (hokC.later ((Below.refl _ _).alloc (Nat.le_refl _) (.cells #[.int .u64 r1, .int .i64 x.h, .string x.text, .slice aC x.kids.length cC] 50)))
                    have HNW := Lib.hid (block_new w8 (.cells #[.int .u64 r1, .int .i64 x.h, .string x.text, .slice aC x.kids.length cC] 50))
                    have HZW := Lib.hid (HPA.out.s.low.size)
                    obtain ⟨aA0, cA0, e11, -⟩ := HPA.out.k.form
                    subst e11
                    clear hks hokC hb8 q0 q1 q2 f0 f1 f2 hz
                    go_wp2_with (at_builtin; refine wpList_append_own _ rfl _ _ 43 rfl w.heap.size 50 i0 (.agg #[.int .u64 0, .int .i64 0, .string ⟨#[]⟩, .slice none 0 0]) 4 56 Try.underlying43 hi hz0 hz1 hz2 rfl (by decide) _ L.length (flatR fKn L) rfl HPA.out.k.1 ⟨w8.heap.size, 0, none⟩ 1 _ (flatR fKn [⟨r1, x, aC, cC⟩]) rfl rfl (newsKn (k := ⟨r1, x, aC, cC⟩) HNW.out) (fKn_one _) ?c3 ?c4 ?c5 ?_)
                    case c3 => unfold maxLen; omega
                    case c4 => omega
                    case c5 => have := HZW.out; simpa using this
                    intro vA' wz hown hgrow _
                    have HPZ := Lib.hid (HPA.out.grow (k := ⟨r1, x, aC, cC⟩) hgrow hown (KnOK.mk HKC.out HRX.out.2 HRX.out.1))
                    obtain ⟨L', hL'⟩ : ∃ L', L' = L ++ [(⟨r1, x, aC, cC⟩ : Kn)] := ⟨_, rfl⟩
                    rw [← hL'] at HPZ
                    have HLZ := Lib.hid (show L'.length ≤ k + 1 by rw [hL', List.length_append]; show L.length + 1 ≤ k + 1; omega)
                    have HSZ := Lib.hid (show A'.st ≤ 2 * (k + 1) by have := HSA.out; omega)
                    obtain ⟨hh, hhh⟩ : ∃ hh, hh = r1 := ⟨_, rfl⟩
                    rw [← hhh] at HRX
                    have HHH := Lib.hid HRX.out.1
                    rw [← hhh]
                    clear hown hgrow HPA HKC HNW HZW hL' HRX hhh HPQ HXQ HKQ HSA HRG HXR HXL HNX HRR HP
                    have HMD := Lib.hid (mod8 HDK.out)
                    have HEK := Lib.hid (fun (u : World) (hb : Below w.heap.size w u) => (HC7.out u hb).1)
                    have k0 := HEK.out _ HPZ.out.s.low
                    go_wp2_with fail
                    refine (HMD.out _).mono ?_; rintro e w7 ⟨rfl, rfl⟩
                    go_wp2_with fail
                    refine (HMD.out _).mono ?_; rintro e w7 ⟨rfl, rfl⟩
                    go_wp2_with fail
                    refine (HMD.out _).mono ?_; rintro e w7 ⟨rfl, rfl⟩
                    clear k0
                    go_wp2_with fail
                    refine (spoil13_any B A' wz HPZ.out.s.is HPZ.out.s.inv.f).mono ?_; rintro e wS ⟨rfl, hbS⟩
                    have HPS := Lib.hid (HPZ.out.below hbS)
                    clear hbS HPZ
                    have HLV := Lib.hid (fun (u : World) (hb : Below wS.heap.size wS u) => liveA_any B A' hh u HHH.out.1 HHH.out.2 (HPS.out.s.is.below hb))
                    have HLR := Lib.hid (fun (u : World) (hb : Below wS.heap.size wS u) => refLiveA C A' v' M' w.heap.size hh u (HPS.out.b.below hb) HPS.out.s.inv)
                    have HDV := Lib.hid (fun (u : World) (hb : Below wS.heap.size wS u) => liveA_any B A' d.h u HDO.out.2.2.1 HDO.out.2.2.2 (HPS.out.s.is.below hb))
                    have HDR := Lib.hid (fun (u : World) (hb : Below wS.heap.size wS u) => refLiveA C A' v' M' w.heap.size d.h u (HPS.out.b.below hb) HPS.out.s.inv)
                    have HSM := Lib.hid (fun (u : World) (hb : Below wS.heap.size wS u) => same13_any B C A' v' M' w.heap.size u (HPS.out.s.is.below hb) HPS.out.s.inv (HPS.out.b.below hb))
                    generalize decide (liveL A'.x hh) = p1 at *
                    generalize decide (liveL A'.x d.h) = p2 at *
                    have HEH := Lib.hid (fun (u : World) (hb : Below wS.heap.size wS u) => (HC7.out u (below_two HPS.out.s.low hb)).2.2.2.2.2.2)
                    go_wp2_with fail
                    refine wp_region_specs (by kernel_rfl) (by decide) (by kernel_rfl) ?_
                    simp only [fill, Act.put, List.setIfInBounds_toArray, List.set_cons_zero, List.set_cons_succ, Nat.zero_add, Nat.reduceAdd]
                    apply OpsOK.eq
                    · intro vs u hb hd
                      clear hd
                      go_wp2_with fail
                      exact ⟨rfl, _, rfl, Below.refl _ _, rfl⟩
                    apply OpsOK.eq
                    · intro vs u hb hd
                      clear hd
                      go_wp2_with fail
                      exact ⟨rfl, _, rfl, Below.refl _ _, rfl⟩
                    apply OpsOK.eq
                    · intro vs u hb hd
                      simp [Region.binds] at hd
                      obtain ⟨e0, e1⟩ := hd
                      simp only [e0, e1]
                      go_wp2_with fail
                      refine (HSM.out u hb).mono ?_; rintro e w1 ⟨rfl, hbel⟩; go_wp2_with fail; exact ⟨rfl, _, rfl, hbel, rfl⟩
                    apply OpsOK.eq
                    · intro vs u hb hd
                      simp [Region.binds] at hd
                      have e2 := hd
                      clear hd
                      simp only [e2]
                      go_wp2_with fail
                      exact ⟨rfl, _, rfl, Below.refl _ _, rfl⟩
                    apply OpsOK.eq
                    · intro vs u hb hd
                      simp [Region.binds] at hd
                      obtain ⟨e3, e2⟩ := hd
                      simp only [e3, e2]
                      go_wp2_with fail
                      exact ⟨rfl, _, rfl, Below.refl _ _, rfl⟩
                    apply OpsOK.eq
                    · intro vs u hb hd
                      simp [Region.binds] at hd
                      have e4 := hd
                      clear hd
                      simp only [e4]
                      go_wp2_with fail
                      exact ⟨rfl, _, rfl, Below.refl _ _, rfl⟩
                    apply OpsOK.eq
                    · intro vs u hb hd
                      simp [Region.binds] at hd
                      have e4 := hd
                      clear hd
                      simp only [e4]
                      go_wp2_with fail
                      exact ⟨rfl, _, rfl, Below.refl _ _, rfl⟩
                    apply OpsOK.eq
                    · intro vs u hb hd
                      simp [Region.binds] at hd
                      obtain ⟨e5, e6, e4⟩ := hd
                      simp only [e5, e6, e4]
                      go_wp2_with fail
                      refine (HLV.out u hb).mono ?_; rintro e w1 ⟨rfl, m, rfl⟩; go_wp2_with fail; exact ⟨rfl, _, rfl, below_drewN (Below.refl _ _) m, rfl⟩
                    apply OpsOK.eq
                    · intro vs u hb hd
                      simp [Region.binds] at hd
                      have e4 := hd
                      clear hd
                      simp only [e4]
                      go_wp2_with fail
                      exact ⟨rfl, _, rfl, Below.refl _ _, rfl⟩
                    apply OpsOK.eq
                    · intro vs u hb hd
                      simp [Region.binds] at hd
                      have e4 := hd
                      clear hd
                      simp only [e4]
                      go_wp2_with fail
                      exact ⟨rfl, _, rfl, Below.refl _ _, rfl⟩
                    apply OpsOK.eq
                    · intro vs u hb hd
                      simp [Region.binds] at hd
                      obtain ⟨e8, e9, e7, e4⟩ := hd
                      simp only [e8, e9, e7, e4]
                      go_wp2_with fail
                      refine (HLR.out u hb).mono ?_; rintro e w1 ⟨rfl, m, rfl⟩; go_wp2_with fail; exact ⟨rfl, _, rfl, below_drewN (Below.refl _ _) m, rfl⟩
                    apply OpsOK.eq
                    · intro vs u hb hd
                      simp [Region.binds] at hd
                      obtain ⟨e7, e10, e4⟩ := hd
                      simp only [e7, e10, e4]
                      go_wp2_with fail
                      exact ⟨rfl, _, rfl, Below.refl _ _, rfl⟩
                    apply OpsOK.eq
                    · intro vs u hb hd
                      simp [Region.binds] at hd
                      obtain ⟨e4, e11⟩ := hd
                      simp only [e4, e11]
                      go_wp2_with fail
                      exact ⟨rfl, _, rfl, Below.refl _ _, rfl⟩
                    apply OpsOK.eq
                    · intro vs u hb hd
                      simp [Region.binds] at hd
                      obtain ⟨e12, e10⟩ := hd
                      simp only [e12, e10]
                      go_wp2_with fail
                      exact ⟨rfl, _, rfl, Below.refl _ _, rfl⟩
                    apply OpsOK.eq
                    · intro vs u hb hd
                      simp [Region.binds] at hd
                      have e13 := hd
                      clear hd
                      simp only [e13]
                      go_wp2_with fail
                      exact ⟨rfl, _, rfl, Below.refl _ _, rfl⟩
                    apply OpsOK.eq
                    · intro vs u hb hd
                      simp [Region.binds] at hd
                      have e13 := hd
                      clear hd
                      simp only [e13]
                      go_wp2_with fail
                      exact ⟨rfl, _, rfl, Below.refl _ _, rfl⟩
                    apply OpsOK.eq
                    · intro vs u hb hd
                      simp [Region.binds] at hd
                      have e13 := hd
                      clear hd
                      simp only [e13]
                      go_wp2_with fail
                      exact ⟨rfl, _, rfl, Below.refl _ _, rfl⟩
                    apply OpsOK.eq
                    · intro vs u hb hd
                      simp [Region.binds] at hd
                      obtain ⟨e15, e16, e13⟩ := hd
                      simp only [e15, e16, e13]
                      go_wp2_with fail
                      exact ⟨rfl, _, rfl, Below.refl _ _, rfl⟩
                    apply OpsOK.eq
                    · intro vs u hb hd
                      simp [Region.binds] at hd
                      obtain ⟨e17, e13⟩ := hd
                      simp only [e17, e13]
                      go_wp2_with fail
                      exact ⟨rfl, _, rfl, Below.refl _ _, rfl⟩
                    apply OpsOK.eq
                    · intro vs u hb hd
                      simp [Region.binds] at hd
                      obtain ⟨e18, e13⟩ := hd
                      simp only [e18, e13]
                      have eh := HEH.out u hb
                      go_wp2_with fail
                      exact ⟨rfl, _, rfl, Below.refl _ _, rfl⟩
                    apply OpsOK.eq
                    · intro vs u hb hd
                      simp [Region.binds] at hd
                      obtain ⟨e14, e19, e13⟩ := hd
                      simp only [e14, e19, e13]
                      go_wp2_with fail
                      refine (HDV.out u hb).mono ?_; rintro e w1 ⟨rfl, m, rfl⟩; go_wp2_with fail; exact ⟨rfl, _, rfl, below_drewN (Below.refl _ _) m, rfl⟩
                    apply OpsOK.eq
                    · intro vs u hb hd
                      simp [Region.binds] at hd
                      have e13 := hd
                      clear hd
                      simp only [e13]
                      go_wp2_with fail
                      exact ⟨rfl, _, rfl, Below.refl _ _, rfl⟩
                    apply OpsOK.eq
                    · intro vs u hb hd
                      simp [Region.binds] at hd
                      have e13 := hd
                      clear hd
                      simp only [e13]
                      go_wp2_with fail
                      exact ⟨rfl, _, rfl, Below.refl _ _, rfl⟩
                    apply OpsOK.eq
                    · intro vs u hb hd
                      simp [Region.binds] at hd
                      have e13 := hd
                      clear hd
                      simp only [e13]
                      go_wp2_with fail
                      exact ⟨rfl, _, rfl, Below.refl _ _, rfl⟩
                    apply OpsOK.eq
                    · intro vs u hb hd
                      simp [Region.binds] at hd
                      obtain ⟨e22, e23, e13⟩ := hd
                      simp only [e22, e23, e13]
                      go_wp2_with fail
                      exact ⟨rfl, _, rfl, Below.refl _ _, rfl⟩
                    apply OpsOK.eq
                    · intro vs u hb hd
                      simp [Region.binds] at hd
                      obtain ⟨e24, e13⟩ := hd
                      simp only [e24, e13]
                      go_wp2_with fail
                      exact ⟨rfl, _, rfl, Below.refl _ _, rfl⟩
                    apply OpsOK.eq
                    · intro vs u hb hd
                      simp [Region.binds] at hd
                      obtain ⟨e25, e13⟩ := hd
                      simp only [e25, e13]
                      have eh := HEH.out u hb
                      go_wp2_with fail
                      exact ⟨rfl, _, rfl, Below.refl _ _, rfl⟩
                    apply OpsOK.eq
                    · intro vs u hb hd
                      simp [Region.binds] at hd
                      obtain ⟨e21, e26, e20, e13⟩ := hd
                      simp only [e21, e26, e20, e13]
                      go_wp2_with fail
                      refine (HDR.out u hb).mono ?_; rintro e w1 ⟨rfl, m, rfl⟩; go_wp2_with fail; exact ⟨rfl, _, rfl, below_drewN (Below.refl _ _) m, rfl⟩
                    apply OpsOK.eq
                    · intro vs u hb hd
                      simp [Region.binds] at hd
                      obtain ⟨e20, e27, e13⟩ := hd
                      simp only [e20, e27, e13]
                      go_wp2_with fail
                      exact ⟨rfl, _, rfl, Below.refl _ _, rfl⟩
                    apply OpsOK.eq
                    · intro vs u hb hd
                      simp [Region.binds] at hd
                      obtain ⟨e13, e28⟩ := hd
                      simp only [e13, e28]
                      go_wp2_with fail
                      exact ⟨rfl, _, rfl, Below.refl _ _, rfl⟩
                    refine OpsOK.done ?_
                    intro vs u hbu hS
                    have h29 := hS 29 (by decide)
                    simp at h29
                    simp only [h29]
                    clear h29
                    clear hS
                    have HPT := Lib.hid (HPS.out.below hbu)
                    clear HPS hbu HLV HLR HDV HDR HSM HEH
                    go_wp2_with fail
                    go_roundw
                    case rel => exact ⟨k + 1, A', L', v', M', by omega, by omega, by go_num, HPT.out, HLZ.out, HSZ.out⟩
                    case measure => simp [intOf]; omega
                · as_aux_lemma =>
                    have hr2' : (r2 == 0) = false := by simpa using hr2
                    have HPZ := Lib.hid HPQ.out
                    have HHH := Lib.hid (hD_in HDO.out HP.out.k.2)
                    obtain ⟨L', hL'⟩ : ∃ L', L' = L := ⟨_, rfl⟩
                    rw [← hL'] at HPZ
                    have HLZ := Lib.hid (show L'.length ≤ k + 1 by rw [hL']; omega)
                    have HSZ := Lib.hid (show A'.st ≤ 2 * (k + 1) by have := HSA.out; omega)
                    generalize hD L d = hh at *
                    clear hL' HPQ HXQ HKQ HSA HRG HXR HXL HNX HRR HP hr2
                    have HMD := Lib.hid (mod8 HDK.out)
                    have HEK := Lib.hid (fun (u : World) (hb : Below w.heap.size w u) => (HC7.out u hb).1)
                    have k0 := HEK.out _ HPZ.out.s.low
                    go_wp2_with fail
                    refine (HMD.out _).mono ?_; rintro e w7 ⟨rfl, rfl⟩
                    go_wp2_with fail
                    refine (HMD.out _).mono ?_; rintro e w7 ⟨rfl, rfl⟩
                    go_wp2_with fail
                    refine (HMD.out _).mono ?_; rintro e w7 ⟨rfl, rfl⟩
                    clear k0
                    go_wp2_with fail
                    refine (spoil13_any B A' wr HPZ.out.s.is HPZ.out.s.inv.f).mono ?_; rintro e wS ⟨rfl, hbS⟩
                    have HPS := Lib.hid (HPZ.out.below hbS)
                    clear hbS HPZ
                    have HLV := Lib.hid (fun (u : World) (hb : Below wS.heap.size wS u) => liveA_any B A' hh u HHH.out.1 HHH.out.2 (HPS.out.s.is.below hb))
                    have HLR := Lib.hid (fun (u : World) (hb : Below wS.heap.size wS u) => refLiveA C A' v' M' w.heap.size hh u (HPS.out.b.below hb) HPS.out.s.inv)
                    have HDV := Lib.hid (fun (u : World) (hb : Below wS.heap.size wS u) => liveA_any B A' d.h u HDO.out.2.2.1 HDO.out.2.2.2 (HPS.out.s.is.below hb))
                    have HDR := Lib.hid (fun (u : World) (hb : Below wS.heap.size wS u) => refLiveA C A' v' M' w.heap.size d.h u (HPS.out.b.below hb) HPS.out.s.inv)
                    have HSM := Lib.hid (fun (u : World) (hb : Below wS.heap.size wS u) => same13_any B C A' v' M' w.heap.size u (HPS.out.s.is.below hb) HPS.out.s.inv (HPS.out.b.below hb))
                    generalize decide (liveL A'.x hh) = p1 at *
                    generalize decide (liveL A'.x d.h) = p2 at *
                    have HEH := Lib.hid (fun (u : World) (hb : Below wS.heap.size wS u) => (HC7.out u (below_two HPS.out.s.low hb)).2.2.2.2.2.2)
                    go_wp2_with fail
                    refine wp_region_specs (by kernel_rfl) (by decide) (by kernel_rfl) ?_
                    simp only [fill, Act.put, List.setIfInBounds_toArray, List.set_cons_zero, List.set_cons_succ, Nat.zero_add, Nat.reduceAdd]
                    apply OpsOK.eq
                    · intro vs u hb hd
                      clear hd
                      go_wp2_with fail
                      exact ⟨rfl, _, rfl, Below.refl _ _, rfl⟩
                    apply OpsOK.eq
                    · intro vs u hb hd
                      clear hd
                      go_wp2_with fail
                      exact ⟨rfl, _, rfl, Below.refl _ _, rfl⟩
                    apply OpsOK.eq
                    · intro vs u hb hd
                      simp [Region.binds] at hd
                      obtain ⟨e0, e1⟩ := hd
                      simp only [e0, e1]
                      go_wp2_with fail
                      refine (HSM.out u hb).mono ?_; rintro e w1 ⟨rfl, hbel⟩; go_wp2_with fail; exact ⟨rfl, _, rfl, hbel, rfl⟩
                    apply OpsOK.eq
                    · intro vs u hb hd
                      simp [Region.binds] at hd
                      have e2 := hd
                      clear hd
                      simp only [e2]
                      go_wp2_with fail
                      exact ⟨rfl, _, rfl, Below.refl _ _, rfl⟩
                    apply OpsOK.eq
                    · intro vs u hb hd
                      simp [Region.binds] at hd
                      obtain ⟨e3, e2⟩ := hd
                      simp only [e3, e2]
                      go_wp2_with fail
                      exact ⟨rfl, _, rfl, Below.refl _ _, rfl⟩
                    apply OpsOK.eq
                    · intro vs u hb hd
                      simp [Region.binds] at hd
                      have e4 := hd
                      clear hd
                      simp only [e4]
                      go_wp2_with fail
                      exact ⟨rfl, _, rfl, Below.refl _ _, rfl⟩
                    apply OpsOK.eq
                    · intro vs u hb hd
                      simp [Region.binds] at hd
                      have e4 := hd
                      clear hd
                      simp only [e4]
                      go_wp2_with fail
                      exact ⟨rfl, _, rfl, Below.refl _ _, rfl⟩
                    apply OpsOK.eq
                    · intro vs u hb hd
                      simp [Region.binds] at hd
                      obtain ⟨e5, e6, e4⟩ := hd
                      simp only [e5, e6, e4]
                      go_wp2_with fail
                      refine (HLV.out u hb).mono ?_; rintro e w1 ⟨rfl, m, rfl⟩; go_wp2_with fail; exact ⟨rfl, _, rfl, below_drewN (Below.refl _ _) m, rfl⟩
                    apply OpsOK.eq
                    · intro vs u hb hd
                      simp [Region.binds] at hd
                      have e4 := hd
                      clear hd
                      simp only [e4]
                      go_wp2_with fail
                      exact ⟨rfl, _, rfl, Below.refl _ _, rfl⟩
                    apply OpsOK.eq
                    · intro vs u hb hd
                      simp [Region.binds] at hd
                      have e4 := hd
                      clear hd
                      simp only [e4]
                      go_wp2_with fail
                      exact ⟨rfl, _, rfl, Below.refl _ _, rfl⟩
                    apply OpsOK.eq
                    · intro vs u hb hd
                      simp [Region.binds] at hd
                      obtain ⟨e8, e9, e7, e4⟩ := hd
                      simp only [e8, e9, e7, e4]
                      go_wp2_with fail
                      refine (HLR.out u hb).mono ?_; rintro e w1 ⟨rfl, m, rfl⟩; go_wp2_with fail; exact ⟨rfl, _, rfl, below_drewN (Below.refl _ _) m, rfl⟩
                    apply OpsOK.eq
                    · intro vs u hb hd
                      simp [Region.binds] at hd
                      obtain ⟨e7, e10, e4⟩ := hd
                      simp only [e7, e10, e4]
                      go_wp2_with fail
                      exact ⟨rfl, _, rfl, Below.refl _ _, rfl⟩
                    apply OpsOK.eq
                    · intro vs u hb hd
                      simp [Region.binds] at hd
                      obtain ⟨e4, e11⟩ := hd
                      simp only [e4, e11]
                      go_wp2_with fail
                      exact ⟨rfl, _, rfl, Below.refl _ _, rfl⟩
                    apply OpsOK.eq
                    · intro vs u hb hd
                      simp [Region.binds] at hd
                      obtain ⟨e12, e10⟩ := hd
                      simp only [e12, e10]
                      go_wp2_with fail
                      exact ⟨rfl, _, rfl, Below.refl _ _, rfl⟩
                    apply OpsOK.eq
                    · intro vs u hb hd
                      simp [Region.binds] at hd
                      have e13 := hd
                      clear hd
                      simp only [e13]
                      go_wp2_with fail
                      exact ⟨rfl, _, rfl, Below.refl _ _, rfl⟩
                    apply OpsOK.eq
                    · intro vs u hb hd
                      simp [Region.binds] at hd
                      have e13 := hd
                      clear hd
                      simp only [e13]
                      go_wp2_with fail
                      exact ⟨rfl, _, rfl, Below.refl _ _, rfl⟩
                    apply OpsOK.eq
                    · intro vs u hb hd
                      simp [Region.binds] at hd
                      have e13 := hd
                      clear hd
                      simp only [e13]
                      go_wp2_with fail
                      exact ⟨rfl, _, rfl, Below.refl _ _, rfl⟩
                    apply OpsOK.eq
                    · intro vs u hb hd
                      simp [Region.binds] at hd
                      obtain ⟨e15, e16, e13⟩ := hd
                      simp only [e15, e16, e13]
                      go_wp2_with fail
                      exact ⟨rfl, _, rfl, Below.refl _ _, rfl⟩
                    apply OpsOK.eq
                    · intro vs u hb hd
                      simp [Region.binds] at hd
                      obtain ⟨e17, e13⟩ := hd
                      simp only [e17, e13]
                      go_wp2_with fail
                      exact ⟨rfl, _, rfl, Below.refl _ _, rfl⟩
                    apply OpsOK.eq
                    · intro vs u hb hd
                      simp [Region.binds] at hd
                      obtain ⟨e18, e13⟩ := hd
                      simp only [e18, e13]
                      have eh := HEH.out u hb
                      go_wp2_with fail
                      exact ⟨rfl, _, rfl, Below.refl _ _, rfl⟩
                    apply OpsOK.eq
                    · intro vs u hb hd
                      simp [Region.binds] at hd
                      obtain ⟨e14, e19, e13⟩ := hd
                      simp only [e14, e19, e13]
                      go_wp2_with fail
                      refine (HDV.out u hb).mono ?_; rintro e w1 ⟨rfl, m, rfl⟩; go_wp2_with fail; exact ⟨rfl, _, rfl, below_drewN (Below.refl _ _) m, rfl⟩
                    apply OpsOK.eq
                    · intro vs u hb hd
                      simp [Region.binds] at hd
                      have e13 := hd
                      clear hd
                      simp only [e13]
                      go_wp2_with fail
                      exact ⟨rfl, _, rfl, Below.refl _ _, rfl⟩
                    apply OpsOK.eq
                    · intro vs u hb hd
                      simp [Region.binds] at hd
                      have e13 := hd
                      clear hd
                      simp only [e13]
                      go_wp2_with fail
                      exact ⟨rfl, _, rfl, Below.refl _ _, rfl⟩
                    apply OpsOK.eq
                    · intro vs u hb hd
                      simp [Region.binds] at hd
                      have e13 := hd
                      clear hd
                      simp only [e13]
                      go_wp2_with fail
                      exact ⟨rfl, _, rfl, Below.refl _ _, rfl⟩
                    apply OpsOK.eq
                    · intro vs u hb hd
                      simp [Region.binds] at hd
                      obtain ⟨e22, e23, e13⟩ := hd
                      simp only [e22, e23, e13]
                      go_wp2_with fail
                      exact ⟨rfl, _, rfl, Below.refl _ _, rfl⟩
                    apply OpsOK.eq
                    · intro vs u hb hd
                      simp [Region.binds] at hd
                      obtain ⟨e24, e13⟩ := hd
                      simp only [e24, e13]
                      go_wp2_with fail
                      exact ⟨rfl, _, rfl, Below.refl _ _, rfl⟩
                    apply OpsOK.eq
                    · intro vs u hb hd
                      simp [Region.binds] at hd
                      obtain ⟨e25, e13⟩ := hd
                      simp only [e25, e13]
                      have eh := HEH.out u hb
                      go_wp2_with fail
                      exact ⟨rfl, _, rfl, Below.refl _ _, rfl⟩
                    apply OpsOK.eq
                    · intro vs u hb hd
                      simp [Region.binds] at hd
                      obtain ⟨e21, e26, e20, e13⟩ := hd
                      simp only [e21, e26, e20, e13]
                      go_wp2_with fail
                      refine (HDR.out u hb).mono ?_; rintro e w1 ⟨rfl, m, rfl⟩; go_wp2_with fail; exact ⟨rfl, _, rfl, below_drewN (Below.refl _ _) m, rfl⟩
                    apply OpsOK.eq
                    · intro vs u hb hd
                      simp [Region.binds] at hd
                      obtain ⟨e20, e27, e13⟩ := hd
                      simp only [e20, e27, e13]
                      go_wp2_with fail
                      exact ⟨rfl, _, rfl, Below.refl _ _, rfl⟩
                    apply OpsOK.eq
                    · intro vs u hb hd
                      simp [Region.binds] at hd
                      obtain ⟨e13, e28⟩ := hd
                      simp only [e13, e28]
                      go_wp2_with fail
                      exact ⟨rfl, _, rfl, Below.refl _ _, rfl⟩
                    refine OpsOK.done ?_
                    intro vs u hbu hS
                    have h29 := hS 29 (by decide)
                    simp at h29
                    simp only [h29]
                    clear h29
                    clear hS
                    have HPT := Lib.hid (HPS.out.below hbu)
                    clear HPS hbu HLV HLR HDV HDR HSM HEH
                    go_wp2_with fail
                    go_roundw
                    case rel => exact ⟨k + 1, A', L', v', M', by omega, by omega, by go_num, HPT.out, HLZ.out, HSZ.out⟩
                    case measure => simp [intOf]; omega
        | none =>
          rcases nodeD_none hx with hkk | hkk | hkk
          · as_aux_lemma =>
              have HMD := Lib.hid (mod8 hkk)
              have HNX := Lib.hid hx
              clear hx hkk
              go_wp2_with fail
              refine (hand_any w.heap.size L _ d wr HDO.out HP.out.k (by omega)).mono ?_; rintro e w1 ⟨rfl, hb1⟩
              have HB1 := Lib.hid hb1
              have HP1 := Lib.hid (HP.out.below hb1)
              have HHH := Lib.hid (hD_in HDO.out HP.out.k.2)
              obtain ⟨d0, d1, d2, d3, d4, d5, d6⟩ := HC7.out w1 HP1.out.s.low
              clear hb1 e0 e1 e2 e3 e4 e5 e6
              go_wp2_with fail
              refine (node_any w.heap.size L _ d w1 (HDO.out.later HB1.out) HP1.out.k (by omega)).mono ?_; rintro e w2 hn
              rw [HNX.out] at hn
              obtain ⟨ao, c, rfl, hks, hb2⟩ := hn
              simp only [Option.getD_none, Option.isSome_none] at hks ⊢
              unfold noN aggN
              simp only [List.length_nil]
              have HP2 := Lib.hid ((HP1.out.below hb2).alloc (.cells #[.int .i64 0, .string ⟨#[]⟩, .slice ao 0 c] 36))
              have HX2 := Lib.hid (block_new w2 (.cells #[.int .i64 0, .string ⟨#[]⟩, .slice ao 0 c] 36))
              clear hks hb2 HP1 HB1 HNX HP d0 d1 d2 d3 d4 d5 d6
              have HEK := Lib.hid (fun (u : World) (hb : Below w.heap.size w u) => (HC7.out u hb).1)
              have k0 := HEK.out _ HP2.out.s.low
              generalize hD L d = hh at *
              go_wp2_with fail
              refine (HMD.out _).mono ?_; rintro e w3 ⟨rfl, rfl⟩
              generalize w2.alloc (.cells #[.int .i64 0, .string ⟨#[]⟩, .slice ao 0 c] 36) = w3 at *
              clear HX2
              have HP5 := HP2
              obtain ⟨A1, hA1⟩ : ∃ A1, A1 = A := ⟨_, rfl⟩
              obtain ⟨w5, hw5⟩ : ∃ w5, w5 = w3 := ⟨_, rfl⟩
              obtain ⟨M', hM'⟩ : ∃ M', M' = M := ⟨_, rfl⟩
              obtain ⟨v', hv'⟩ : ∃ v', v' = v := ⟨_, rfl⟩
              have hst : A1.st ≤ A.st + 1 := by rw [hA1]; omega
              rw [← hA1, ← hw5, ← hM', ← hv'] at HP5
              rw [← hw5] at k0
              rw [← hw5]
              clear hA1 hw5 hM' hv' HP2
              go_wp2_with fail
              refine (HMD.out _).mono ?_; rintro e w6 ⟨rfl, rfl⟩
              clear k0
              go_wp2_with fail
              refine (soloGetS w B A1 hh w5 HP5.out.s (by omega)).mono ?_; rintro e w6 ⟨si, rfl, hks, hs6, hk6, hns6⟩
              obtain ⟨ai, ci, rfl, hoki⟩ := hks.ok (b0 := w.heap.size)
              have HIK6 := Lib.hid (hks.inK.below ((Below.refl _ _).alloc (Nat.le_refl _) (.cells #[.int .i64 (nodeOf A1 hh).h, .string (nodeOf A1 hh).text, .slice ai (nodeOf A1 hh).kids.length ci] 36)))
              have HP6 := Lib.hid ((HP5.out.turnA hs6 hk6).alloc (.cells #[.int .i64 (nodeOf A1 hh).h, .string (nodeOf A1 hh).text, .slice ai (nodeOf A1 hh).kids.length ci] 36))
              have HKI6 := Lib.hid (hoki.later ((Below.refl _ _).alloc (Nat.le_refl _) (.cells #[.int .i64 (nodeOf A1 hh).h, .string (nodeOf A1 hh).text, .slice ai (nodeOf A1 hh).kids.length ci] 36)))
              have HI6 := Lib.hid (block_new w6 (.cells #[.int .i64 (nodeOf A1 hh).h, .string (nodeOf A1 hh).text, .slice ai (nodeOf A1 hh).kids.length ci] 36))
              have HNS6 := Lib.hid (fun S (hS : w5.heap.size ≤ S) (hn : 0 < (nodeOf A1 hh).kids.length) => NoSs.same (w1 := w6) ((((Below.refl w6.heap.size w6).alloc (Nat.le_refl _) (.cells #[.int .i64 (nodeOf A1 hh).h, .string (nodeOf A1 hh).text, .slice ai (nodeOf A1 hh).kids.length ci] 36))).block B.r (hs6.is.lt (.inl (own_r B)))) S (hns6 S hS hn))
              have HOLD := Lib.hid (fun S (hS : w5.heap.size ≤ S) => (HP5.out.old hS).2)
              have h05 := HP5.out.s.low.size
              have hxl : (nodeOf A1 hh).kids.length ≤ 4 := nodeOf_kids HP5.out.s.inv hh
              have hst2 := getS_st A1 hh
              have HG := Lib.hid (refGetA C A1 v' M' w.heap.size hh (w6.alloc (.cells #[.int .i64 (nodeOf A1 hh).h, .string (nodeOf A1 hh).text, .slice ai (nodeOf A1 hh).kids.length ci] 36)) HP6.out.b HP5.out.s.inv HP6.out.f HP6.out.s.low.size (by omega))
              clear hks hoki hs6 hk6 hns6 HP5
              generalize nodeOf A1 hh = x at *
              generalize getE A1 hh = er2 at *
              generalize getS A1 hh = A' at *
              go_wp2_with fail
              obtain ⟨SI, hSI⟩ : ∃ SI, SI = w6.heap.size := ⟨_, rfl⟩
              generalize w6.alloc (.cells #[.int .i64 x.h, .string x.text, .slice ai x.kids.length ci] 36) = wI at *
              rw [← hSI] at HI6
              rw [← hSI]
              clear hSI
              refine HG.out.mono ?_; rintro e w7 ⟨ay, cy, rfl, hky, hb7, hk7⟩
              have HP7 := Lib.hid ((HP6.out.turnB hb7 hk7).alloc (.cells #[.int .i64 x.h, .string x.text, .slice ay x.kids.length cy] 36))
              have HIK7 := Lib.hid ((HIK6.out.turnB HP6.out.b hk7).below ((Below.refl _ _).alloc (Nat.le_refl _) (.cells #[.int .i64 x.h, .string x.text, .slice ay x.kids.length cy] 36)))
              have HKI7 := Lib.hid ((HKI6.out.turnB HP6.out.b hk7).later ((Below.refl _ _).alloc (Nat.le_refl _) (.cells #[.int .i64 x.h, .string x.text, .slice ay x.kids.length cy] 36)))
              have HKY7 := Lib.hid (hky.later ((Below.refl _ _).alloc (Nat.le_refl _) (.cells #[.int .i64 x.h, .string x.text, .slice ay x.kids.length cy] 36)))
              have HI7 := Lib.hid (block_alloc (HP6.out.b.other hk7 HI6.out (by decide) (by decide) (by decide) (by decide) (by decide)) (.cells #[.int .i64 x.h, .string x.text, .slice ay x.kids.length cy] 36))
              have HY7 := Lib.hid (block_new w7 (.cells #[.int .i64 x.h, .string x.text, .slice ay x.kids.length cy] 36))
              have HSS := Lib.hid (show ∀ S, w5.heap.size ≤ S → 0 < x.kids.length → NoS (w7.alloc (.cells #[.int .i64 x.h, .string x.text, .slice ay x.kids.length cy] 36)) B S ∧ NoM S M' ∧ NoM S L from fun S h1 hn => ⟨NoSs.same (w1 := wI) ((((Below.refl w7.heap.size w7).alloc (Nat.le_refl _) (.cells #[.int .i64 x.h, .string x.text, .slice ay x.kids.length cy] 36)).block B.r (Nat.lt_of_lt_of_le (HP6.out.s.is.lt (.inl (own_r B))) hk7.1.size)).trans (hk7.2 B.r (HP6.out.s.is.lt (.inl (own_r B))) (fun hf => HP6.out.ap _ hf (own_r B)) (fun ⟨cur, hc⟩ => HP6.out.s.is.nownT hc (by decide) (by decide) (by decide) (by decide) (by decide) (own_r B)))) S (HNS6.out S h1 hn), HOLD.out S h1⟩)
              clear hky hb7 hk7 HG HP6 HIK6 HKI6 HI6 HNS6 HOLD
              have hi7 := HI7.out
              (have q0 := block_cell hi7 0; have q1 := block_cell hi7 1; have q2 := block_cell hi7 2; have f0 := block_free hi7 0; have f1 := block_free hi7 1; have f2 := block_free hi7 2; have hz := block_lt hi7; simp at q0 q1 q2)
              have hy7 := HY7.out
              (have p0 := block_cell hy7 0; have p1 := block_cell hy7 1; have p2 := block_cell hy7 2; simp at p0 p1 p2)
              clear hi7 hy7
              go_wp2_with fail
              refine (equalN_yes x ai ay 0 ci cy _ HKI7.out.1 HKY7.out.1 (by omega)).mono ?_; rintro e w8 ⟨rfl, hb8⟩
              have HPW := Lib.hid (HP7.out.below hb8)
              have HIK := Lib.hid (HIK7.out.below hb8)
              have HIN := Lib.hid (block_below hb8 HI7.out (block_lt HI7.out))
              have HSW := Lib.hid (show ∀ S, w5.heap.size ≤ S → 0 < x.kids.length → NoS w8 B S ∧ NoM S M' ∧ NoM S L from fun S h1 hn => ⟨NoSs.same (w1 := w7.alloc (.cells #[.int .i64 x.h, .string x.text, .slice ay x.kids.length cy] 36)) (hb8.block B.r (HP7.out.s.is.lt (.inl (own_r B)))) S (HSS.out S h1 hn).1, (HSS.out S h1 hn).2⟩)
              have HXR := Lib.hid (show x.kids.length * 32 ≤ 140737488351232 by omega)
              clear hb8 HP7 HIK7 HKI7 HKY7 HI7 HY7 HSS q0 q1 q2 f0 f1 f2 hz p0 p1 p2
              go_wp2_with fail
              go_loopw [26] (fun j wr => ∃ m : Nat, m ≤ x.kids.length ∧ j = .int .i64 m ∧ ZO w8 wr ai x.kids.length) (fun j _ => x.kids.length - (intOf j).toNat)
              case atStart => exact ⟨0, Nat.zero_le _, rfl, ZO.start HIK.out⟩
              case round =>
                obtain ⟨m, hm, rfl, hz0⟩ := hrel
                have HZO := Lib.hid hz0
                have hxr := HXR.out
                clear hz0
                by_cases hml : m < x.kids.length
                · have hm1 : (m : Int) < (x.kids.length : Int) := by omega
                  have hin := HZO.out.block HIK.out HIN.out (by decide)
                  (have q0 := block_cell hin 0; have q1 := block_cell hin 1; have q2 := block_cell hin 2; have f0 := block_free hin 0; have f1 := block_free hin 1; have f2 := block_free hin 2; have hz := block_lt hin; simp at q0 q1 q2)
                  obtain ⟨S, eS, hbS, -⟩ := HIK.out (by omega)
                  subst eS
                  obtain ⟨-, -, cur, hc, hs⟩ := HZO.out.2 S rfl (by omega)
                  have HZ2 := Lib.hid ((((HZO.out.set (i := m * 4) (by omega) (.int .u64 0)).set (i := m * 4 + 1) (by omega) (.int .i64 0)).set (i := m * 4 + 2) (by omega) (.int .i64 0)).set (i := m * 4 + 3) (by omega) (.int .i64 0))
                  have c0 := block_cell hc (m * 4)
                  have c1 := block_cell hc (m * 4 + 1)
                  have c2 := block_cell hc (m * 4 + 2)
                  have c3 := block_cell hc (m * 4 + 3)
                  rw [Array.getElem?_eq_getElem (by omega)] at c0 c1 c2 c3
                  have g0 := block_free hc (m * 4)
                  have g1 := block_free hc (m * 4 + 1)
                  have g2 := block_free hc (m * 4 + 2)
                  have g3 := block_free hc (m * 4 + 3)
                  clear hin hc
                  go_wp2_with fail
                  go_roundw
                  case rel => exact ⟨m + 1, by omega, by go_num, HZ2.out⟩
                  case measure => simp [intOf]; omega
                · obtain rfl : m = x.kids.length := by omega
                  have HPZ := Lib.hid (HPW.out.zero HIK.out h05 (fun S e hn => by
                    obtain ⟨S', e', hb', -⟩ := HIK.out hn
                    rw [e] at e'; injection e' with e'; injection e' with e'; subst e'
                    exact HSW.out S hb' hn) HZO.out)
                  have hin := HZO.out.block HIK.out HIN.out (by decide)
                  have p2 := block_cell hin 2
                  simp at p2
                  clear hin HPW HIK HIN HSW HZO HXR h05
                  have HLZ := Lib.hid (show L.length ≤ k + 1 by omega)
                  have HSZ := Lib.hid (show A'.st ≤ 2 * (k + 1) by omega)
                  go_wp2_with fail
                  clear p2
                  refine (spoil13_any B A' wr HPZ.out.s.is HPZ.out.s.inv.f).mono ?_; rintro e wS ⟨rfl, hbS⟩
                  have HPS := Lib.hid (HPZ.out.below hbS)
                  clear hbS HPZ
                  have HLV := Lib.hid (fun (u : World) (hb : Below wS.heap.size wS u) => liveA_any B A' hh u HHH.out.1 HHH.out.2 (HPS.out.s.is.below hb))
                  have HLR := Lib.hid (fun (u : World) (hb : Below wS.heap.size wS u) => refLiveA C A' v' M' w.heap.size hh u (HPS.out.b.below hb) HPS.out.s.inv)
                  have HDV := Lib.hid (fun (u : World) (hb : Below wS.heap.size wS u) => liveA_any B A' d.h u HDO.out.2.2.1 HDO.out.2.2.2 (HPS.out.s.is.below hb))
                  have HDR := Lib.hid (fun (u : World) (hb : Below wS.heap.size wS u) => refLiveA C A' v' M' w.heap.size d.h u (HPS.out.b.below hb) HPS.out.s.inv)
                  have HSM := Lib.hid (fun (u : World) (hb : Below wS.heap.size wS u) => same13_any B C A' v' M' w.heap.size u (HPS.out.s.is.below hb) HPS.out.s.inv (HPS.out.b.below hb))
                  generalize decide (liveL A'.x hh) = p1 at *
                  generalize decide (liveL A'.x d.h) = p2 at *
                  have HEH := Lib.hid (fun (u : World) (hb : Below wS.heap.size wS u) => (HC7.out u (below_two HPS.out.s.low hb)).2.2.2.2.2.2)
                  go_wp2_with fail
                  refine wp_region_specs (by kernel_rfl) (by decide) (by kernel_rfl) ?_
                  simp only [fill, Act.put, List.setIfInBounds_toArray, List.set_cons_zero, List.set_cons_succ, Nat.zero_add, Nat.reduceAdd]
                  apply OpsOK.eq
                  · intro vs u hb hd
                    clear hd
                    go_wp2_with fail
                    exact ⟨rfl, _, rfl, Below.refl _ _, rfl⟩
                  apply OpsOK.eq
                  · intro vs u hb hd
                    clear hd
                    go_wp2_with fail
                    exact ⟨rfl, _, rfl, Below.refl _ _, rfl⟩
                  apply OpsOK.eq
                  · intro vs u hb hd
                    simp [Region.binds] at hd
                    obtain ⟨e0, e1⟩ := hd
                    simp only [e0, e1]
                    go_wp2_with fail
                    refine (HSM.out u hb).mono ?_; rintro e w1 ⟨rfl, hbel⟩; go_wp2_with fail; exact ⟨rfl, _, rfl, hbel, rfl⟩
                  apply OpsOK.eq
                  · intro vs u hb hd
                    simp [Region.binds] at hd
                    have e2 := hd
                    clear hd
                    simp only [e2]
                    go_wp2_with fail
                    exact ⟨rfl, _, rfl, Below.refl _ _, rfl⟩
                  apply OpsOK.eq
                  · intro vs u hb hd
                    simp [Region.binds] at hd
                    obtain ⟨e3, e2⟩ := hd
                    simp only [e3, e2]
                    go_wp2_with fail
                    exact ⟨rfl, _, rfl, Below.refl _ _, rfl⟩
                  apply OpsOK.eq
                  · intro vs u hb hd
                    simp [Region.binds] at hd
                    have e4 := hd
                    clear hd
                    simp only [e4]
                    go_wp2_with fail
                    exact ⟨rfl, _, rfl, Below.refl _ _, rfl⟩
                  apply OpsOK.eq
                  · intro vs u hb hd
                    simp [Region.binds] at hd
                    have e4 := hd
                    clear hd
                    simp only [e4]
                    go_wp2_with fail
                    exact ⟨rfl, _, rfl, Below.refl _ _, rfl⟩
                  apply OpsOK.eq
                  · intro vs u hb hd
                    simp [Region.binds] at hd
                    obtain ⟨e5, e6, e4⟩ := hd
                    simp only [e5, e6, e4]
                    go_wp2_with fail
                    refine (HLV.out u hb).mono ?_; rintro e w1 ⟨rfl, m, rfl⟩; go_wp2_with fail; exact ⟨rfl, _, rfl, below_drewN (Below.refl _ _) m, rfl⟩
                  apply OpsOK.eq
                  · intro vs u hb hd
                    simp [Region.binds] at hd
                    have e4 := hd
                    clear hd
                    simp only [e4]
                    go_wp2_with fail
                    exact ⟨rfl, _, rfl, Below.refl _ _, rfl⟩
                  apply OpsOK.eq
                  · intro vs u hb hd
                    simp [Region.binds] at hd
                    have e4 := hd
                    clear hd
                    simp only [e4]
                    go_wp2_with fail
                    exact ⟨rfl, _, rfl, Below.refl _ _, rfl⟩
                  apply OpsOK.eq
                  · intro vs u hb hd
                    simp [Region.binds] at hd
                    obtain ⟨e8, e9, e7, e4⟩ := hd
                    simp only [e8, e9, e7, e4]
                    go_wp2_with fail
                    refine (HLR.out u hb).mono ?_; rintro e w1 ⟨rfl, m, rfl⟩; go_wp2_with fail; exact ⟨rfl, _, rfl, below_drewN (Below.refl _ _) m, rfl⟩
                  apply OpsOK.eq
                  · intro vs u hb hd
                    simp [Region.binds] at hd
                    obtain ⟨e7, e10, e4⟩ := hd
                    simp only [e7, e10, e4]
                    go_wp2_with fail
                    exact ⟨rfl, _, rfl, Below.refl _ _, rfl⟩
                  apply OpsOK.eq
                  · intro vs u hb hd
                    simp [Region.binds] at hd
                    obtain ⟨e4, e11⟩ := hd
                    simp only [e4, e11]
                    go_wp2_with fail
                    exact ⟨rfl, _, rfl, Below.refl _ _, rfl⟩
                  apply OpsOK.eq
                  · intro vs u hb hd
                    simp [Region.binds] at hd
                    obtain ⟨e12, e10⟩ := hd
                    simp only [e12, e10]
                    go_wp2_with fail
                    exact ⟨rfl, _, rfl, Below.refl _ _, rfl⟩
                  apply OpsOK.eq
                  · intro vs u hb hd
                    simp [Region.binds] at hd
                    have e13 := hd
                    clear hd
                    simp only [e13]
                    go_wp2_with fail
                    exact ⟨rfl, _, rfl, Below.refl _ _, rfl⟩
                  apply OpsOK.eq
                  · intro vs u hb hd
                    simp [Region.binds] at hd
                    have e13 := hd
                    clear hd
                    simp only [e13]
                    go_wp2_with fail
                    exact ⟨rfl, _, rfl, Below.refl _ _, rfl⟩
                  apply OpsOK.eq
                  · intro vs u hb hd
                    simp [Region.binds] at hd
                    have e13 := hd
                    clear hd
                    simp only [e13]
                    go_wp2_with fail
                    exact ⟨rfl, _, rfl, Below.refl _ _, rfl⟩
                  apply OpsOK.eq
                  · intro vs u hb hd
                    simp [Region.binds] at hd
                    obtain ⟨e15, e16, e13⟩ := hd
                    simp only [e15, e16, e13]
                    go_wp2_with fail
                    exact ⟨rfl, _, rfl, Below.refl _ _, rfl⟩
                  apply OpsOK.eq
                  · intro vs u hb hd
                    simp [Region.binds] at hd
                    obtain ⟨e17, e13⟩ := hd
                    simp only [e17, e13]
                    go_wp2_with fail
                    exact ⟨rfl, _, rfl, Below.refl _ _, rfl⟩
                  apply OpsOK.eq
                  · intro vs u hb hd
                    simp [Region.binds] at hd
                    obtain ⟨e18, e13⟩ := hd
                    simp only [e18, e13]
                    have eh := HEH.out u hb
                    go_wp2_with fail
                    exact ⟨rfl, _, rfl, Below.refl _ _, rfl⟩
                  apply OpsOK.eq
                  · intro vs u hb hd
                    simp [Region.binds] at hd
                    obtain ⟨e14, e19, e13⟩ := hd
                    simp only [e14, e19, e13]
                    go_wp2_with fail
                    refine (HDV.out u hb).mono ?_; rintro e w1 ⟨rfl, m, rfl⟩; go_wp2_with fail; exact ⟨rfl, _, rfl, below_drewN (Below.refl _ _) m, rfl⟩
                  apply OpsOK.eq
                  · intro vs u hb hd
                    simp [Region.binds] at hd
                    have e13 := hd
                    clear hd
                    simp only [e13]
                    go_wp2_with fail
                    exact ⟨rfl, _, rfl, Below.refl _ _, rfl⟩
                  apply OpsOK.eq
                  · intro vs u hb hd
                    simp [Region.binds] at hd
                    have e13 := hd
                    clear hd
                    simp only [e13]
                    go_wp2_with fail
                    exact ⟨rfl, _, rfl, Below.refl _ _, rfl⟩
                  apply OpsOK.eq
                  · intro vs u hb hd
                    simp [Region.binds] at hd
                    have e13 := hd
                    clear hd
                    simp only [e13]
                    go_wp2_with fail
                    exact ⟨rfl, _, rfl, Below.refl _ _, rfl⟩
                  apply OpsOK.eq
                  · intro vs u hb hd
                    simp [Region.binds] at hd
                    obtain ⟨e22, e23, e13⟩ := hd
                    simp only [e22, e23, e13]
                    go_wp2_with fail
                    exact ⟨rfl, _, rfl, Below.refl _ _, rfl⟩
                  apply OpsOK.eq
                  · intro vs u hb hd
                    simp [Region.binds] at hd
                    obtain ⟨e24, e13⟩ := hd
                    simp only [e24, e13]
                    go_wp2_with fail
                    exact ⟨rfl, _, rfl, Below.refl _ _, rfl⟩
                  apply OpsOK.eq
                  · intro vs u hb hd
                    simp [Region.binds] at hd
                    obtain ⟨e25, e13⟩ := hd
                    simp only [e25, e13]
                    have eh := HEH.out u hb
                    go_wp2_with fail
                    exact ⟨rfl, _, rfl, Below.refl _ _, rfl⟩
                  apply OpsOK.eq
                  · intro vs u hb hd
                    simp [Region.binds] at hd
                    obtain ⟨e21, e26, e20, e13⟩ := hd
                    simp only [e21, e26, e20, e13]
                    go_wp2_with fail
                    refine (HDR.out u hb).mono ?_; rintro e w1 ⟨rfl, m, rfl⟩; go_wp2_with fail; exact ⟨rfl, _, rfl, below_drewN (Below.refl _ _) m, rfl⟩
                  apply OpsOK.eq
                  · intro vs u hb hd
                    simp [Region.binds] at hd
                    obtain ⟨e20, e27, e13⟩ := hd
                    simp only [e20, e27, e13]
                    go_wp2_with fail
                    exact ⟨rfl, _, rfl, Below.refl _ _, rfl⟩
                  apply OpsOK.eq
                  · intro vs u hb hd
                    simp [Region.binds] at hd
                    obtain ⟨e13, e28⟩ := hd
                    simp only [e13, e28]
                    go_wp2_with fail
                    exact ⟨rfl, _, rfl, Below.refl _ _, rfl⟩
                  refine OpsOK.done ?_
                  intro vs u hbu hS
                  have h29 := hS 29 (by decide)
                  simp at h29
                  simp only [h29]
                  clear h29
                  clear hS
                  have HPT := Lib.hid (HPS.out.below hbu)
                  clear HPS hbu HLV HLR HDV HDR HSM HEH
                  go_wp2_with fail
                  go_roundw
                  case rel => exact ⟨k + 1, A', L, v', M', by omega, by omega, by go_num, HPT.out, HLZ.out, HSZ.out⟩
                  case measure => simp [intOf]; omega
          · as_aux_lemma =>
              have HMD := Lib.hid (mod8 hkk)
              have HNX := Lib.hid hx
              clear hx hkk
              go_wp2_with fail
              refine (hand_any w.heap.size L _ d wr HDO.out HP.out.k (by omega)).mono ?_; rintro e w1 ⟨rfl, hb1⟩
              have HB1 := Lib.hid hb1
              have HP1 := Lib.hid (HP.out.below hb1)
              have HHH := Lib.hid (hD_in HDO.out HP.out.k.2)
              obtain ⟨d0, d1, d2, d3, d4, d5, d6⟩ := HC7.out w1 HP1.out.s.low
              clear hb1 e0 e1 e2 e3 e4 e5 e6
              go_wp2_with fail
              refine (node_any w.heap.size L _ d w1 (HDO.out.later HB1.out) HP1.out.k (by omega)).mono ?_; rintro e w2 hn
              rw [HNX.out] at hn
              obtain ⟨ao, c, rfl, hks, hb2⟩ := hn
              simp only [Option.getD_none, Option.isSome_none] at hks ⊢
              unfold noN aggN
              simp only [List.length_nil]
              have HP2 := Lib.hid ((HP1.out.below hb2).alloc (.cells #[.int .i64 0, .string ⟨#[]⟩, .slice ao 0 c] 36))
              have HX2 := Lib.hid (block_new w2 (.cells #[.int .i64 0, .string ⟨#[]⟩, .slice ao 0 c] 36))
              clear hks hb2 HP1 HB1 HNX HP d0 d1 d2 d3 d4 d5 d6
              have HEK := Lib.hid (fun (u : World) (hb : Below w.heap.size w u) => (HC7.out u hb).1)
              have k0 := HEK.out _ HP2.out.s.low
              generalize hD L d = hh at *
              go_wp2_with fail
              refine (HMD.out _).mono ?_; rintro e w3 ⟨rfl, rfl⟩
              generalize w2.alloc (.cells #[.int .i64 0, .string ⟨#[]⟩, .slice ao 0 c] 36) = w3 at *
              clear HX2
              go_wp2_with fail
              refine (soloFree w B A hh w3 HHH.out.1 HHH.out.2 HP2.out.s (by omega)).mono ?_; rintro e w4 ⟨rfl, hs4, hk4⟩
              have HP4 := Lib.hid (HP2.out.turnA hs4 hk4)
              clear hs4 hk4
              go_wp2_with fail
              refine (refFreeA C A v M w.heap.size hh w4 HP4.out.b HP2.out.s.inv HP4.out.f HP4.out.s.low.size (by omega) HP2.out.s.al.2 HP4.out.cs HHH.out.1 HHH.out.2).mono ?_; rintro e w5 ⟨v', M', rfl, hb5, hk5⟩
              have HP5 := Lib.hid (HP4.out.turnB hb5 hk5)
              have hst := freeS_st A hh
              have k0 := HEK.out _ HP5.out.s.low
              generalize getE A hh = er at *
              generalize freeS A hh = A1 at *
              clear hb5 hk5 HP4 HP2
              go_wp2_with fail
              refine (HMD.out _).mono ?_; rintro e w6 ⟨rfl, rfl⟩
              go_wp2_with fail
              refine (HMD.out _).mono ?_; rintro e w6 ⟨rfl, rfl⟩
              clear k0
              have HPZ := HP5
              clear HP5
              have HLZ := Lib.hid (show L.length ≤ k + 1 by omega)
              have HSZ := Lib.hid (show A1.st ≤ 2 * (k + 1) by omega)
              go_wp2_with fail
              refine (spoil13_any B A1 w5 HPZ.out.s.is HPZ.out.s.inv.f).mono ?_; rintro e wS ⟨rfl, hbS⟩
              have HPS := Lib.hid (HPZ.out.below hbS)
              clear hbS HPZ
              have HLV := Lib.hid (fun (u : World) (hb : Below wS.heap.size wS u) => liveA_any B A1 hh u HHH.out.1 HHH.out.2 (HPS.out.s.is.below hb))
              have HLR := Lib.hid (fun (u : World) (hb : Below wS.heap.size wS u) => refLiveA C A1 v' M' w.heap.size hh u (HPS.out.b.below hb) HPS.out.s.inv)
              have HDV := Lib.hid (fun (u : World) (hb : Below wS.heap.size wS u) => liveA_any B A1 d.h u HDO.out.2.2.1 HDO.out.2.2.2 (HPS.out.s.is.below hb))
              have HDR := Lib.hid (fun (u : World) (hb : Below wS.heap.size wS u) => refLiveA C A1 v' M' w.heap.size d.h u (HPS.out.b.below hb) HPS.out.s.inv)
              have HSM := Lib.hid (fun (u : World) (hb : Below wS.heap.size wS u) => same13_any B C A1 v' M' w.heap.size u (HPS.out.s.is.below hb) HPS.out.s.inv (HPS.out.b.below hb))
              generalize decide (liveL A1.x hh) = p1 at *
              generalize decide (liveL A1.x d.h) = p2 at *
              have HEH := Lib.hid (fun (u : World) (hb : Below wS.heap.size wS u) => (HC7.out u (below_two HPS.out.s.low hb)).2.2.2.2.2.2)
              go_wp2_with fail
              refine wp_region_specs (by kernel_rfl) (by decide) (by kernel_rfl) ?_
              simp only [fill, Act.put, List.setIfInBounds_toArray, List.set_cons_zero, List.set_cons_succ, Nat.zero_add, Nat.reduceAdd]
              apply OpsOK.eq
              · intro vs u hb hd
                clear hd
                go_wp2_with fail
                exact ⟨rfl, _, rfl, Below.refl _ _, rfl⟩
              apply OpsOK.eq
              · intro vs u hb hd
                clear hd
                go_wp2_with fail
                exact ⟨rfl, _, rfl, Below.refl _ _, rfl⟩
              apply OpsOK.eq
              · intro vs u hb hd
                simp [Region.binds] at hd
                obtain ⟨e0, e1⟩ := hd
                simp only [e0, e1]
                go_wp2_with fail
                refine (HSM.out u hb).mono ?_; rintro e w1 ⟨rfl, hbel⟩; go_wp2_with fail; exact ⟨rfl, _, rfl, hbel, rfl⟩
              apply OpsOK.eq
              · intro vs u hb hd
                simp [Region.binds] at hd
                have e2 := hd
                clear hd
                simp only [e2]
                go_wp2_with fail
                exact ⟨rfl, _, rfl, Below.refl _ _, rfl⟩
              apply OpsOK.eq
              · intro vs u hb hd
                simp [Region.binds] at hd
                obtain ⟨e3, e2⟩ := hd
                simp only [e3, e2]
                go_wp2_with fail
                exact ⟨rfl, _, rfl, Below.refl _ _, rfl⟩
              apply OpsOK.eq
              · intro vs u hb hd
                simp [Region.binds] at hd
                have e4 := hd
                clear hd
                simp only [e4]
                go_wp2_with fail
                exact ⟨rfl, _, rfl, Below.refl _ _, rfl⟩
              apply OpsOK.eq
              · intro vs u hb hd
                simp [Region.binds] at hd
                have e4 := hd
                clear hd
                simp only [e4]
                go_wp2_with fail
                exact ⟨rfl, _, rfl, Below.refl _ _, rfl⟩
              apply OpsOK.eq
              · intro vs u hb hd
                simp [Region.binds] at hd
                obtain ⟨e5, e6, e4⟩ := hd
                simp only [e5, e6, e4]
                go_wp2_with fail
                refine (HLV.out u hb).mono ?_; rintro e w1 ⟨rfl, m, rfl⟩; go_wp2_with fail; exact ⟨rfl, _, rfl, below_drewN (Below.refl _ _) m, rfl⟩
              apply OpsOK.eq
              · intro vs u hb hd
                simp [Region.binds] at hd
                have e4 := hd
                clear hd
                simp only [e4]
                go_wp2_with fail
                exact ⟨rfl, _, rfl, Below.refl _ _, rfl⟩
              apply OpsOK.eq
              · intro vs u hb hd
                simp [Region.binds] at hd
                have e4 := hd
                clear hd
                simp only [e4]
                go_wp2_with fail
                exact ⟨rfl, _, rfl, Below.refl _ _, rfl⟩
              apply OpsOK.eq
              · intro vs u hb hd
                simp [Region.binds] at hd
                obtain ⟨e8, e9, e7, e4⟩ := hd
                simp only [e8, e9, e7, e4]
                go_wp2_with fail
                refine (HLR.out u hb).mono ?_; rintro e w1 ⟨rfl, m, rfl⟩; go_wp2_with fail; exact ⟨rfl, _, rfl, below_drewN (Below.refl _ _) m, rfl⟩
              apply OpsOK.eq
              · intro vs u hb hd
                simp [Region.binds] at hd
                obtain ⟨e7, e10, e4⟩ := hd
                simp only [e7, e10, e4]
                go_wp2_with fail
                exact ⟨rfl, _, rfl, Below.refl _ _, rfl⟩
              apply OpsOK.eq
              · intro vs u hb hd
                simp [Region.binds] at hd
                obtain ⟨e4, e11⟩ := hd
                simp only [e4, e11]
                go_wp2_with fail
                exact ⟨rfl, _, rfl, Below.refl _ _, rfl⟩
              apply OpsOK.eq
              · intro vs u hb hd
                simp [Region.binds] at hd
                obtain ⟨e12, e10⟩ := hd
                simp only [e12, e10]
                go_wp2_with fail
                exact ⟨rfl, _, rfl, Below.refl _ _, rfl⟩
              apply OpsOK.eq
              · intro vs u hb hd
                simp [Region.binds] at hd
                have e13 := hd
                clear hd
                simp only [e13]
                go_wp2_with fail
                exact ⟨rfl, _, rfl, Below.refl _ _, rfl⟩
              apply OpsOK.eq
              · intro vs u hb hd
                simp [Region.binds] at hd
                have e13 := hd
                clear hd
                simp only [e13]
                go_wp2_with fail
                exact ⟨rfl, _, rfl, Below.refl _ _, rfl⟩
              apply OpsOK.eq
              · intro vs u hb hd
                simp [Region.binds] at hd
                have e13 := hd
                clear hd
                simp only [e13]
                go_wp2_with fail
                exact ⟨rfl, _, rfl, Below.refl _ _, rfl⟩
              apply OpsOK.eq
              · intro vs u hb hd
                simp [Region.binds] at hd
                obtain ⟨e15, e16, e13⟩ := hd
                simp only [e15, e16, e13]
                go_wp2_with fail
                exact ⟨rfl, _, rfl, Below.refl _ _, rfl⟩
              apply OpsOK.eq
              · intro vs u hb hd
                simp [Region.binds] at hd
                obtain ⟨e17, e13⟩ := hd
                simp only [e17, e13]
                go_wp2_with fail
                exact ⟨rfl, _, rfl, Below.refl _ _, rfl⟩
              apply OpsOK.eq
              · intro vs u hb hd
                simp [Region.binds] at hd
                obtain ⟨e18, e13⟩ := hd
                simp only [e18, e13]
                have eh := HEH.out u hb
                go_wp2_with fail
                exact ⟨rfl, _, rfl, Below.refl _ _, rfl⟩
              apply OpsOK.eq
              · intro vs u hb hd
                simp [Region.binds] at hd
                obtain ⟨e14, e19, e13⟩ := hd
                simp only [e14, e19, e13]
                go_wp2_with fail
                refine (HDV.out u hb).mono ?_; rintro e w1 ⟨rfl, m, rfl⟩; go_wp2_with fail; exact ⟨rfl, _, rfl, below_drewN (Below.refl _ _) m, rfl⟩
              apply OpsOK.eq
              · intro vs u hb hd
                simp [Region.binds] at hd
                have e13 := hd
                clear hd
                simp only [e13]
                go_wp2_with fail
                exact ⟨rfl, _, rfl, Below.refl _ _, rfl⟩
              apply OpsOK.eq
              · intro vs u hb hd
                simp [Region.binds] at hd
                have e13 := hd
                clear hd
                simp only [e13]
                go_wp2_with fail
                exact ⟨rfl, _, rfl, Below.refl _ _, rfl⟩
              apply OpsOK.eq
              · intro vs u hb hd
                simp [Region.binds] at hd
                have e13 := hd
                clear hd
                simp only [e13]
                go_wp2_with fail
                exact ⟨rfl, _, rfl, Below.refl _ _, rfl⟩
              apply OpsOK.eq
              · intro vs u hb hd
                simp [Region.binds] at hd
                obtain ⟨e22, e23, e13⟩ := hd
                simp only [e22, e23, e13]
                go_wp2_with fail
                exact ⟨rfl, _, rfl, Below.refl _ _, rfl⟩
              apply OpsOK.eq
              · intro vs u hb hd
                simp [Region.binds] at hd
                obtain ⟨e24, e13⟩ := hd
                simp only [e24, e13]
                go_wp2_with fail
                exact ⟨rfl, _, rfl, Below.refl _ _, rfl⟩
              apply OpsOK.eq
              · intro vs u hb hd
                simp [Region.binds] at hd
                obtain ⟨e25, e13⟩ := hd
                simp only [e25, e13]
                have eh := HEH.out u hb
                go_wp2_with fail
                exact ⟨rfl, _, rfl, Below.refl _ _, rfl⟩
              apply OpsOK.eq
              · intro vs u hb hd
                simp [Region.binds] at hd
                obtain ⟨e21, e26, e20, e13⟩ := hd
                simp only [e21, e26, e20, e13]
                go_wp2_with fail
                refine (HDR.out u hb).mono ?_; rintro e w1 ⟨rfl, m, rfl⟩; go_wp2_with fail; exact ⟨rfl, _, rfl, below_drewN (Below.refl _ _) m, rfl⟩
              apply OpsOK.eq
              · intro vs u hb hd
                simp [Region.binds] at hd
                obtain ⟨e20, e27, e13⟩ := hd
                simp only [e20, e27, e13]
                go_wp2_with fail
                exact ⟨rfl, _, rfl, Below.refl _ _, rfl⟩
              apply OpsOK.eq
              · intro vs u hb hd
                simp [Region.binds] at hd
                obtain ⟨e13, e28⟩ := hd
                simp only [e13, e28]
                go_wp2_with fail
                exact ⟨rfl, _, rfl, Below.refl _ _, rfl⟩
              refine OpsOK.done ?_
              intro vs u hbu hS
              have h29 := hS 29 (by decide)
              simp at h29
              simp only [h29]
              clear h29
              clear hS
              have HPT := Lib.hid (HPS.out.below hbu)
              clear HPS hbu HLV HLR HDV HDR HSM HEH
              go_wp2_with fail
              go_roundw
              case rel => exact ⟨k + 1, A1, L, v', M', by omega, by omega, by go_num, HPT.out, HLZ.out, HSZ.out⟩
              case measure => simp [intOf]; omega
          · as_aux_lemma =>
              have HMD := Lib.hid (mod8 hkk)
              have HNX := Lib.hid hx
              clear hx hkk
              go_wp2_with fail
              refine (hand_any w.heap.size L _ d wr HDO.out HP.out.k (by omega)).mono ?_; rintro e w1 ⟨rfl, hb1⟩
              have HB1 := Lib.hid hb1
              have HP1 := Lib.hid (HP.out.below hb1)
              have HHH := Lib.hid (hD_in HDO.out HP.out.k.2)
              obtain ⟨d0, d1, d2, d3, d4, d5, d6⟩ := HC7.out w1 HP1.out.s.low
              clear hb1 e0 e1 e2 e3 e4 e5 e6
              go_wp2_with fail
              refine (node_any w.heap.size L _ d w1 (HDO.out.later HB1.out) HP1.out.k (by omega)).mono ?_; rintro e w2 hn
              rw [HNX.out] at hn
              obtain ⟨ao, c, rfl, hks, hb2⟩ := hn
              simp only [Option.getD_none, Option.isSome_none] at hks ⊢
              unfold noN aggN
              simp only [List.length_nil]
              have HP2 := Lib.hid ((HP1.out.below hb2).alloc (.cells #[.int .i64 0, .string ⟨#[]⟩, .slice ao 0 c] 36))
              have HX2 := Lib.hid (block_new w2 (.cells #[.int .i64 0, .string ⟨#[]⟩, .slice ao 0 c] 36))
              clear hks hb2 HP1 HB1 HNX HP d0 d1 d2 d3 d4 d5 d6
              have HEK := Lib.hid (fun (u : World) (hb : Below w.heap.size w u) => (HC7.out u hb).1)
              have k0 := HEK.out _ HP2.out.s.low
              generalize hD L d = hh at *
              go_wp2_with fail
              refine (HMD.out _).mono ?_; rintro e w3 ⟨rfl, rfl⟩
              generalize w2.alloc (.cells #[.int .i64 0, .string ⟨#[]⟩, .slice ao 0 c] 36) = w3 at *
              clear HX2
              go_wp2_with fail
              refine (soloFree w B A hh w3 HHH.out.1 HHH.out.2 HP2.out.s (by omega)).mono ?_; rintro e w4 ⟨rfl, hs4, hk4⟩
              have HP4 := Lib.hid (HP2.out.turnA hs4 hk4)
              clear hs4 hk4
              go_wp2_with fail
              refine (refFreeA C A v M w.heap.size hh w4 HP4.out.b HP2.out.s.inv HP4.out.f HP4.out.s.low.size (by omega) HP2.out.s.al.2 HP4.out.cs HHH.out.1 HHH.out.2).mono ?_; rintro e w5 ⟨v', M', rfl, hb5, hk5⟩
              have HP5 := Lib.hid (HP4.out.turnB hb5 hk5)
              have hst := freeS_st A hh
              have k0 := HEK.out _ HP5.out.s.low
              generalize getE A hh = er at *
              generalize freeS A hh = A1 at *
              clear hb5 hk5 HP4 HP2
              go_wp2_with fail
              refine (HMD.out _).mono ?_; rintro e w6 ⟨rfl, rfl⟩
              go_wp2_with fail
              refine (HMD.out _).mono ?_; rintro e w6 ⟨rfl, rfl⟩
              clear k0
              go_wp2_with fail
              refine (soloGetS w B A1 hh w5 HP5.out.s (by omega)).mono ?_; rintro e w6 ⟨si, rfl, hks, hs6, hk6, hns6⟩
              obtain ⟨ai, ci, rfl, hoki⟩ := hks.ok (b0 := w.heap.size)
              have HIK6 := Lib.hid (hks.inK.below ((Below.refl _ _).alloc (Nat.le_refl _) (.cells #[.int .i64 (nodeOf A1 hh).h, .string (nodeOf A1 hh).text, .slice ai (nodeOf A1 hh).kids.length ci] 36)))
              have HP6 := Lib.hid ((HP5.out.turnA hs6 hk6).alloc (.cells #[.int .i64 (nodeOf A1 hh).h, .string (nodeOf A1 hh).text, .slice ai (nodeOf A1 hh).kids.length ci] 36))
              have HKI6 := Lib.hid (hoki.later ((Below.refl _ _).alloc (Nat.le_refl _) (.cells #[.int .i64 (nodeOf A1 hh).h, .string (nodeOf A1 hh).text, .slice ai (nodeOf A1 hh).kids.length ci] 36)))
              have HI6 := Lib.hid (block_new w6 (.cells #[.int .i64 (nodeOf A1 hh).h, .string (nodeOf A1 hh).text, .slice ai (nodeOf A1 hh).kids.length ci] 36))
              have HNS6 := Lib.hid (fun S (hS : w5.heap.size ≤ S) (hn : 0 < (nodeOf A1 hh).kids.length) => NoSs.same (w1 := w6) ((((Below.refl w6.heap.size w6).alloc (Nat.le_refl _) (.cells #[.int .i64 (nodeOf A1 hh).h, .string (nodeOf A1 hh).text, .slice ai (nodeOf A1 hh).kids.length ci] 36))).block B.r (hs6.is.lt (.inl (own_r B)))) S (hns6 S hS hn))
              have HOLD := Lib.hid (fun S (hS : w5.heap.size ≤ S) => (HP5.out.old hS).2)
              have h05 := HP5.out.s.low.size
              have hxl : (nodeOf A1 hh).kids.length ≤ 4 := nodeOf_kids HP5.out.s.inv hh
              have hst2 := getS_st A1 hh
              have HG := Lib.hid (refGetA C A1 v' M' w.heap.size hh (w6.alloc (.cells #[.int .i64 (nodeOf A1 hh).h, .string (nodeOf A1 hh).text, .slice ai (nodeOf A1 hh).kids.length ci] 36)) HP6.out.b HP5.out.s.inv HP6.out.f HP6.out.s.low.size (by omega))
              clear hks hoki hs6 hk6 hns6 HP5
              generalize nodeOf A1 hh = x at *
              generalize getE A1 hh = er2 at *
              generalize getS A1 hh = A' at *
              go_wp2_with fail
              obtain ⟨SI, hSI⟩ : ∃ SI, SI = w6.heap.size := ⟨_, rfl⟩
              generalize w6.alloc (.cells #[.int .i64 x.h, .string x.text, .slice ai x.kids.length ci] 36) = wI at *
              rw [← hSI] at HI6
              rw [← hSI]
              clear hSI
              refine HG.out.mono ?_; rintro e w7 ⟨ay, cy, rfl, hky, hb7, hk7⟩
              have HP7 := Lib.hid ((HP6.out.turnB hb7 hk7).alloc (.cells #[.int .i64 x.h, .string x.text, .slice ay x.kids.length cy] 36))
              have HIK7 := Lib.hid ((HIK6.out.turnB HP6.out.b hk7).below ((Below.refl _ _).alloc (Nat.le_refl _) (.cells #[.int .i64 x.h, .string x.text, .slice ay x.kids.length cy] 36)))
              have HKI7 := Lib.hid ((HKI6.out.turnB HP6.out.b hk7).later ((Below.refl _ _).alloc (Nat.le_refl _) (.cells #[.int .i64 x.h, .string x.text, .slice ay x.kids.length cy] 36)))
              have HKY7 := Lib.hid (hky.later ((Below.refl _ _).alloc (Nat.le_refl _) (.cells #[.int .i64 x.h, .string x.text, .slice ay x.kids.length cy] 36)))
              have HI7 := Lib.hid (block_alloc (HP6.out.b.other hk7 HI6.out (by decide) (by decide) (by decide) (by decide) (by decide)) (.cells #[.int .i64 x.h, .string x.text, .slice ay x.kids.length cy] 36))
              have HY7 := Lib.hid (block_new w7 (.cells #[.int .i64 x.h, .string x.text, .slice ay x.kids.length cy] 36))
              have HSS := Lib.hid (show ∀ S, w5.heap.size ≤ S → 0 < x.kids.length → NoS (w7.alloc (.cells #[.int .i64 x.h, .string x.text, .slice ay x.kids.length cy] 36)) B S ∧ NoM S M' ∧ NoM S L from fun S h1 hn => ⟨NoSs.same (w1 := wI) ((((Below.refl w7.heap.size w7).alloc (Nat.le_refl _) (.cells #[.int .i64 x.h, .string x.text, .slice ay x.kids.length cy] 36)).block B.r (Nat.lt_of_lt_of_le (HP6.out.s.is.lt (.inl (own_r B))) hk7.1.size)).trans (hk7.2 B.r (HP6.out.s.is.lt (.inl (own_r B))) (fun hf => HP6.out.ap _ hf (own_r B)) (fun ⟨cur, hc⟩ => HP6.out.s.is.nownT hc (by decide) (by decide) (by decide) (by decide) (by decide) (own_r B)))) S (HNS6.out S h1 hn), HOLD.out S h1⟩)
              clear hky hb7 hk7 HG HP6 HIK6 HKI6 HI6 HNS6 HOLD
              have hi7 := HI7.out
              (have q0 := block_cell hi7 0; have q1 := block_cell hi7 1; have q2 := block_cell hi7 2; have f0 := block_free hi7 0; have f1 := block_free hi7 1; have f2 := block_free hi7 2; have hz := block_lt hi7; simp at q0 q1 q2)
              have hy7 := HY7.out
              (have p0 := block_cell hy7 0; have p1 := block_cell hy7 1; have p2 := block_cell hy7 2; simp at p0 p1 p2)
              clear hi7 hy7
              go_wp2_with fail
              refine (equalN_yes x ai ay 0 ci cy _ HKI7.out.1 HKY7.out.1 (by omega)).mono ?_; rintro e w8 ⟨rfl, hb8⟩
              have HPW := Lib.hid (HP7.out.below hb8)
              have HIK := Lib.hid (HIK7.out.below hb8)
              have HIN := Lib.hid (block_below hb8 HI7.out (block_lt HI7.out))
              have HSW := Lib.hid (show ∀ S, w5.heap.size ≤ S → 0 < x.kids.length → NoS w8 B S ∧ NoM S M' ∧ NoM S L from fun S h1 hn => ⟨NoSs.same (w1 := w7.alloc (.cells #[.int .i64 x.h, .string x.text, .slice ay x.kids.length cy] 36)) (hb8.block B.r (HP7.out.s.is.lt (.inl (own_r B)))) S (HSS.out S h1 hn).1, (HSS.out S h1 hn).2⟩)
              have HXR := Lib.hid (show x.kids.length * 32 ≤ 140737488351232 by omega)
              clear hb8 HP7 HIK7 HKI7 HKY7 HI7 HY7 HSS q0 q1 q2 f0 f1 f2 hz p0 p1 p2
              go_wp2_with fail
              go_loopw [26] (fun j wr => ∃ m : Nat, m ≤ x.kids.length ∧ j = .int .i64 m ∧ ZO w8 wr ai x.kids.length) (fun j _ => x.kids.length - (intOf j).toNat)
              case atStart => exact ⟨0, Nat.zero_le _, rfl, ZO.start HIK.out⟩
              case round =>
                obtain ⟨m, hm, rfl, hz0⟩ := hrel
                have HZO := Lib.hid hz0
                have hxr := HXR.out
                clear hz0
                by_cases hml : m < x.kids.length
                · have hm1 : (m : Int) < (x.kids.length : Int) := by omega
                  have hin := HZO.out.block HIK.out HIN.out (by decide)
                  (have q0 := block_cell hin 0; have q1 := block_cell hin 1; have q2 := block_cell hin 2; have f0 := block_free hin 0; have f1 := block_free hin 1; have f2 := block_free hin 2; have hz := block_lt hin; simp at q0 q1 q2)
                  obtain ⟨S, eS, hbS, -⟩ := HIK.out (by omega)
                  subst eS
                  obtain ⟨-, -, cur, hc, hs⟩ := HZO.out.2 S rfl (by omega)
                  have HZ2 := Lib.hid ((((HZO.out.set (i := m * 4) (by omega) (.int .u64 0)).set (i := m * 4 + 1) (by omega) (.int .i64 0)).set (i := m * 4 + 2) (by omega) (.int .i64 0)).set (i := m * 4 + 3) (by omega) (.int .i64 0))
                  have c0 := block_cell hc (m * 4)
                  have c1 := block_cell hc (m * 4 + 1)
                  have c2 := block_cell hc (m * 4 + 2)
                  have c3 := block_cell hc (m * 4 + 3)
                  rw [Array.getElem?_eq_getElem (by omega)] at c0 c1 c2 c3
                  have g0 := block_free hc (m * 4)
                  have g1 := block_free hc (m * 4 + 1)
                  have g2 := block_free hc (m * 4 + 2)
                  have g3 := block_free hc (m * 4 + 3)
                  clear hin hc
                  go_wp2_with fail
                  go_roundw
                  case rel => exact ⟨m + 1, by omega, by go_num, HZ2.out⟩
                  case measure => simp [intOf]; omega
                · obtain rfl : m = x.kids.length := by omega
                  have HPZ := Lib.hid (HPW.out.zero HIK.out h05 (fun S e hn => by
                    obtain ⟨S', e', hb', -⟩ := HIK.out hn
                    rw [e] at e'; injection e' with e'; injection e' with e'; subst e'
                    exact HSW.out S hb' hn) HZO.out)
                  have hin := HZO.out.block HIK.out HIN.out (by decide)
                  have p2 := block_cell hin 2
                  simp at p2
                  clear hin HPW HIK HIN HSW HZO HXR h05
                  have HLZ := Lib.hid (show L.length ≤ k + 1 by omega)
                  have HSZ := Lib.hid (show A'.st ≤ 2 * (k + 1) by omega)
                  go_wp2_with fail
                  clear p2
                  refine (spoil13_any B A' wr HPZ.out.s.is HPZ.out.s.inv.f).mono ?_; rintro e wS ⟨rfl, hbS⟩
                  have HPS := Lib.hid (HPZ.out.below hbS)
                  clear hbS HPZ
                  have HLV := Lib.hid (fun (u : World) (hb : Below wS.heap.size wS u) => liveA_any B A' hh u HHH.out.1 HHH.out.2 (HPS.out.s.is.below hb))
                  have HLR := Lib.hid (fun (u : World) (hb : Below wS.heap.size wS u) => refLiveA C A' v' M' w.heap.size hh u (HPS.out.b.below hb) HPS.out.s.inv)
                  have HDV := Lib.hid (fun (u : World) (hb : Below wS.heap.size wS u) => liveA_any B A' d.h u HDO.out.2.2.1 HDO.out.2.2.2 (HPS.out.s.is.below hb))
                  have HDR := Lib.hid (fun (u : World) (hb : Below wS.heap.size wS u) => refLiveA C A' v' M' w.heap.size d.h u (HPS.out.b.below hb) HPS.out.s.inv)
                  have HSM := Lib.hid (fun (u : World) (hb : Below wS.heap.size wS u) => same13_any B C A' v' M' w.heap.size u (HPS.out.s.is.below hb) HPS.out.s.inv (HPS.out.b.below hb))
                  generalize decide (liveL A'.x hh) = p1 at *
                  generalize decide (liveL A'.x d.h) = p2 at *
                  have HEH := Lib.hid (fun (u : World) (hb : Below wS.heap.size wS u) => (HC7.out u (below_two HPS.out.s.low hb)).2.2.2.2.2.2)
                  go_wp2_with fail
                  refine wp_region_specs (by kernel_rfl) (by decide) (by kernel_rfl) ?_
                  simp only [fill, Act.put, List.setIfInBounds_toArray, List.set_cons_zero, List.set_cons_succ, Nat.zero_add, Nat.reduceAdd]
                  apply OpsOK.eq
                  · intro vs u hb hd
                    clear hd
                    go_wp2_with fail
                    exact ⟨rfl, _, rfl, Below.refl _ _, rfl⟩
                  apply OpsOK.eq
                  · intro vs u hb hd
                    clear hd
                    go_wp2_with fail
                    exact ⟨rfl, _, rfl, Below.refl _ _, rfl⟩
                  apply OpsOK.eq
                  · intro vs u hb hd
                    simp [Region.binds] at hd
                    obtain ⟨e0, e1⟩ := hd
                    simp only [e0, e1]
                    go_wp2_with fail
                    refine (HSM.out u hb).mono ?_; rintro e w1 ⟨rfl, hbel⟩; go_wp2_with fail; exact ⟨rfl, _, rfl, hbel, rfl⟩
                  apply OpsOK.eq
                  · intro vs u hb hd
                    simp [Region.binds] at hd
                    have e2 := hd
                    clear hd
                    simp only [e2]
                    go_wp2_with fail
                    exact ⟨rfl, _, rfl, Below.refl _ _, rfl⟩
                  apply OpsOK.eq
                  · intro vs u hb hd
                    simp [Region.binds] at hd
                    obtain ⟨e3, e2⟩ := hd
                    simp only [e3, e2]
                    go_wp2_with fail
                    exact ⟨rfl, _, rfl, Below.refl _ _, rfl⟩
                  apply OpsOK.eq
                  · intro vs u hb hd
                    simp [Region.binds] at hd
                    have e4 := hd
                    clear hd
                    simp only [e4]
                    go_wp2_with fail
                    exact ⟨rfl, _, rfl, Below.refl _ _, rfl⟩
                  apply OpsOK.eq
                  · intro vs u hb hd
                    simp [Region.binds] at hd
                    have e4 := hd
                    clear hd
                    simp only [e4]
                    go_wp2_with fail
                    exact ⟨rfl, _, rfl, Below.refl _ _, rfl⟩
                  apply OpsOK.eq
                  · intro vs u hb hd
                    simp [Region.binds] at hd
                    obtain ⟨e5, e6, e4⟩ := hd
                    simp only [e5, e6, e4]
                    go_wp2_with fail
                    refine (HLV.out u hb).mono ?_; rintro e w1 ⟨rfl, m, rfl⟩; go_wp2_with fail; exact ⟨rfl, _, rfl, below_drewN (Below.refl _ _) m, rfl⟩
                  apply OpsOK.eq
                  · intro vs u hb hd
                    simp [Region.binds] at hd
                    have e4 := hd
                    clear hd
                    simp only [e4]
                    go_wp2_with fail
                    exact ⟨rfl, _, rfl, Below.refl _ _, rfl⟩
                  apply OpsOK.eq
                  · intro vs u hb hd
                    simp [Region.binds] at hd
                    have e4 := hd
                    clear hd
                    simp only [e4]
                    go_wp2_with fail
                    exact ⟨rfl, _, rfl, Below.refl _ _, rfl⟩
                  apply OpsOK.eq
                  · intro vs u hb hd
                    simp [Region.binds] at hd
                    obtain ⟨e8, e9, e7, e4⟩ := hd
                    simp only [e8, e9, e7, e4]
                    go_wp2_with fail
                    refine (HLR.out u hb).mono ?_; rintro e w1 ⟨rfl, m, rfl⟩; go_wp2_with fail; exact ⟨rfl, _, rfl, below_drewN (Below.refl _ _) m, rfl⟩
                  apply OpsOK.eq
                  · intro vs u hb hd
                    simp [Region.binds] at hd
                    obtain ⟨e7, e10, e4⟩ := hd
                    simp only [e7, e10, e4]
                    go_wp2_with fail
                    exact ⟨rfl, _, rfl, Below.refl _ _, rfl⟩
                  apply OpsOK.eq
                  · intro vs u hb hd
                    simp [Region.binds] at hd
                    obtain ⟨e4, e11⟩ := hd
                    simp only [e4, e11]
                    go_wp2_with fail
                    exact ⟨rfl, _, rfl, Below.refl _ _, rfl⟩
                  apply OpsOK.eq
                  · intro vs u hb hd
                    simp [Region.binds] at hd
                    obtain ⟨e12, e10⟩ := hd
                    simp only [e12, e10]
                    go_wp2_with fail
                    exact ⟨rfl, _, rfl, Below.refl _ _, rfl⟩
                  apply OpsOK.eq
                  · intro vs u hb hd
                    simp [Region.binds] at hd
                    have e13 := hd
                    clear hd
                    simp only [e13]
                    go_wp2_with fail
                    exact ⟨rfl, _, rfl, Below.refl _ _, rfl⟩
                  apply OpsOK.eq
                  · intro vs u hb hd
                    simp [Region.binds] at hd
                    have e13 := hd
                    clear hd
                    simp only [e13]
                    go_wp2_with fail
                    exact ⟨rfl, _, rfl, Below.refl _ _, rfl⟩
                  apply OpsOK.eq
                  · intro vs u hb hd
                    simp [Region.binds] at hd
                    have e13 := hd
                    clear hd
                    simp only [e13]
                    go_wp2_with fail
                    exact ⟨rfl, _, rfl, Below.refl _ _, rfl⟩
                  apply OpsOK.eq
                  · intro vs u hb hd
                    simp [Region.binds] at hd
                    obtain ⟨e15, e16, e13⟩ := hd
                    simp only [e15, e16, e13]
                    go_wp2_with fail
                    exact ⟨rfl, _, rfl, Below.refl _ _, rfl⟩
                  apply OpsOK.eq
                  · intro vs u hb hd
                    simp [Region.binds] at hd
                    obtain ⟨e17, e13⟩ := hd
                    simp only [e17, e13]
                    go_wp2_with fail
                    exact ⟨rfl, _, rfl, Below.refl _ _, rfl⟩
                  apply OpsOK.eq
                  · intro vs u hb hd
                    simp [Region.binds] at hd
                    obtain ⟨e18, e13⟩ := hd
                    simp only [e18, e13]
                    have eh := HEH.out u hb
                    go_wp2_with fail
                    exact ⟨rfl, _, rfl, Below.refl _ _, rfl⟩
                  apply OpsOK.eq
                  · intro vs u hb hd
                    simp [Region.binds] at hd
                    obtain ⟨e14, e19, e13⟩ := hd
                    simp only [e14, e19, e13]
                    go_wp2_with fail
                    refine (HDV.out u hb).mono ?_; rintro e w1 ⟨rfl, m, rfl⟩; go_wp2_with fail; exact ⟨rfl, _, rfl, below_drewN (Below.refl _ _) m, rfl⟩
                  apply OpsOK.eq
                  · intro vs u hb hd
                    simp [Region.binds] at hd
                    have e13 := hd
                    clear hd
                    simp only [e13]
                    go_wp2_with fail
                    exact ⟨rfl, _, rfl, Below.refl _ _, rfl⟩
                  apply OpsOK.eq
                  · intro vs u hb hd
                    simp [Region.binds] at hd
                    have e13 := hd
                    clear hd
                    simp only [e13]
                    go_wp2_with fail
                    exact ⟨rfl, _, rfl, Below.refl _ _, rfl⟩
                  apply OpsOK.eq
                  · intro vs u hb hd
                    simp [Region.binds] at hd
                    have e13 := hd
                    clear hd
                    simp only [e13]
                    go_wp2_with fail
                    exact ⟨rfl, _, rfl, Below.refl _ _, rfl⟩
                  apply OpsOK.eq
                  · intro vs u hb hd
                    simp [Region.binds] at hd
                    obtain ⟨e22, e23, e13⟩ := hd
                    simp only [e22, e23, e13]
                    go_wp2_with fail
                    exact ⟨rfl, _, rfl, Below.refl _ _, rfl⟩
                  apply OpsOK.eq
                  · intro vs u hb hd
                    simp [Region.binds] at hd
                    obtain ⟨e24, e13⟩ := hd
                    simp only [e24, e13]
                    go_wp2_with fail
                    exact ⟨rfl, _, rfl, Below.refl _ _, rfl⟩
                  apply OpsOK.eq
                  · intro vs u hb hd
                    simp [Region.binds] at hd
                    obtain ⟨e25, e13⟩ := hd
                    simp only [e25, e13]
                    have eh := HEH.out u hb
                    go_wp2_with fail
                    exact ⟨rfl, _, rfl, Below.refl _ _, rfl⟩
                  apply OpsOK.eq
                  · intro vs u hb hd
                    simp [Region.binds] at hd
                    obtain ⟨e21, e26, e20, e13⟩ := hd
                    simp only [e21, e26, e20, e13]
                    go_wp2_with fail
                    refine (HDR.out u hb).mono ?_; rintro e w1 ⟨rfl, m, rfl⟩; go_wp2_with fail; exact ⟨rfl, _, rfl, below_drewN (Below.refl _ _) m, rfl⟩
                  apply OpsOK.eq
                  · intro vs u hb hd
                    simp [Region.binds] at hd
                    obtain ⟨e20, e27, e13⟩ := hd
                    simp only [e20, e27, e13]
                    go_wp2_with fail
                    exact ⟨rfl, _, rfl, Below.refl _ _, rfl⟩
                  apply OpsOK.eq
                  · intro vs u hb hd
                    simp [Region.binds] at hd
                    obtain ⟨e13, e28⟩ := hd
                    simp only [e13, e28]
                    go_wp2_with fail
                    exact ⟨rfl, _, rfl, Below.refl _ _, rfl⟩
                  refine OpsOK.done ?_
                  intro vs u hbu hS
                  have h29 := hS 29 (by decide)
                  simp at h29
                  simp only [h29]
                  clear h29
                  clear hS
                  have HPT := Lib.hid (HPS.out.below hbu)
                  clear HPS hbu HLV HLR HDV HDR HSM HEH
                  go_wp2_with fail
                  go_roundw
                  case rel => exact ⟨k + 1, A', L, v', M', by omega, by omega, by go_num, HPT.out, HLZ.out, HSZ.out⟩
                  case measure => simp [intOf]; omega
      · obtain rfl : k = 50 := by omega
        have HP2 := Lib.hid HP.out.s.low
        clear HP
        go_wp2_with fail
        refine (awake13_any _).mono ?_; rintro e w7 ⟨rfl, hb⟩
        have HB7 := Lib.hid (below_two HP2.out hb)
        clear hb
        go_wp2_with fail
        go_ret
        exact ⟨rfl, HB7.out⟩
    · obtain rfl : k = len := by omega
      have HP2 := Lib.hid HP.out.s.low
      clear HP
      go_wp2_with fail
      refine (awake13_any _).mono ?_; rintro e w7 ⟨rfl, hb⟩
      have HB7 := Lib.hid (below_two HP2.out hb)
      clear hb
      go_wp2_with fail
      go_ret
      exact ⟨rfl, HB7.out⟩
end Go.Proofs.Ytfgkbnnojogjpaa
