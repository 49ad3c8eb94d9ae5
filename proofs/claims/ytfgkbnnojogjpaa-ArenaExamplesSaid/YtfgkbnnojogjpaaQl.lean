/- The arena: node of a deed, inner nodes. -/
import Derived.Test.YtfgkbnnojogjpaaQk
namespace Go.Proofs.Ytfgkbnnojogjpaa
open Go.RowKit
set_option linter.unusedVariables false

theorem slkA {k : Kid} {w : World} {b : Nat} (h : w.heap[b]? = some (.cells #[.int .u64 k.1, .int .i64 k.2.1, .int .i64 k.2.2.1, .int .i64 k.2.2.2] 64 (0, 0))) : ∀ j u, (flatR fK [k])[j]? = some u → w.cell? ((⟨b, 0, none⟩ : Addr).add j) = some u := by
  intro j u hj
  rw [add_to, block_cell h, Nat.zero_add, ← hj, flatR_one]
  exact (Array.getElem?_toList).symm
theorem ck_h {x : Nd} (h : checkN x = 0) : 0 ≤ x.h ∧ x.h ≤ 16 := by
  rcases (checkN_zero h).1 with ⟨h, _⟩ | ⟨h1, h2, _⟩ <;> omega
theorem innerKids_rng {b0 : Nat} {w : World} {L : List Kn} (h : ∀ k ∈ L, KnOK b0 w k) (hL : 0 < L.length) (l : List Int) (m : Nat) : ∀ x ∈ innerKids L l m, 0 ≤ x.1 ∧ x.1 ≤ 18446744073709551615 := by
  intro x hx
  unfold innerKids at hx
  obtain ⟨i, -, rfl⟩ := List.mem_map.1 hx
  obtain ⟨j, hj, -, e⟩ := pick_in hL i
  rw [e hj]
  exact (h _ (List.getElem_mem hj)).2.2
theorem OwnKs.grow {base : Nat} {w : World} {v : Value} {n : Nat} {l : List Kid} (h : OwnKs base w v n l) (o : Obj) : OwnKs base (w.alloc o) v n l := h.later ((Below.refl _ _).alloc (Nat.le_refl _) o)
/-- the height of the node so far -/
def hSo (L : List Kn) (l : List Int) (k : Nat) : Int := if k = 0 then 0 else (pickK L (l.getD 0 0)).x.h + 1

set_option maxRecDepth 100000 in
set_option maxHeartbeats 1500000 in
theorem node_inner2 (b0 : Nat) (L : List Kn) (vA : Value) (d : De) (w : World) (hd : DeOK b0 w d) (hA : AllK b0 w vA L) (ha : d.k % 8 = 2) (hLL : L.length ≤ 1000) :
    Calls Try.prog 24 #[deV d, vA] w fun e w' => NodeR b0 w (nodeD L d) e w' := by
  have HR := Lib.hid (show nodeD L d = some ⟨hSo L d.l (inN L d.l), ⟨#[]⟩, innerKids L d.l (inN L d.l)⟩ by unfold nodeD; rw [if_neg (by omega), if_pos (by omega)]; rfl)
  obtain ⟨M, hM⟩ : ∃ M, M = inN L d.l := ⟨_, rfl⟩
  have HMM := Lib.hid hM
  rw [← hM] at HR
  have hM5 : M ≤ 5 ∧ M ≤ d.l.length ∧ (0 < M → 0 < L.length) ∧ (0 < L.length → d.l.length ≤ M ∨ 5 ≤ M) := by
    rw [hM]; unfold inN; split <;> omega
  obtain ⟨i0, hi, hz0, hz1, hz2⟩ := info_parts infoK
  have HM := Lib.hid (mod8 ha)
  have HD := Lib.hid hd
  have HA := Lib.hid hA
  obtain ⟨aA, cA, rfl, hat⟩ := hA.form
  have HAT := Lib.hid hat
  have HD1 := Lib.hid hd.1
  clear hd hA ha hM hat
  unfold deV
  generalize d.la = la at *
  go_enter Try.func24, Try.ntmps24
  go_wp2_with fail
  refine (HM.out _).mono ?_; rintro e w1 ⟨rfl, rfl⟩
  go_wp2_with fail
  obtain ⟨bx, hbx⟩ : ∃ b, b = w.heap.size + 2 := ⟨_, rfl⟩
  have HBW := Lib.hid (((((Below.refl w.heap.size w).alloc (Nat.le_refl _) (.cells #[.int .i64 d.k, .string d.t, .slice la d.l.length d.lc, .int .i64 d.x.h, .string d.x.text, .slice d.xa d.x.kids.length d.xc, .int .u64 d.h] 48)).alloc (by simp) (.cells #[.int .i64 0, .string ⟨#[]⟩, .slice none 0 0] 36)).alloc (by simp; omega) (.cells #[.int .i64 0, .string ⟨#[]⟩, .slice none 0 0] 36)))
  have HD0 := Lib.hid (block_alloc (block_alloc (block_new w (.cells #[.int .i64 d.k, .string d.t, .slice la d.l.length d.lc, .int .i64 d.x.h, .string d.x.text, .slice d.xa d.x.kids.length d.xc, .int .u64 d.h] 48)) (.cells #[.int .i64 0, .string ⟨#[]⟩, .slice none 0 0] 36)) (.cells #[.int .i64 0, .string ⟨#[]⟩, .slice none 0 0] 36))
  have HZ0 := Lib.hid (block_alloc (block_new' (w.alloc (.cells #[.int .i64 d.k, .string d.t, .slice la d.l.length d.lc, .int .i64 d.x.h, .string d.x.text, .slice d.xa d.x.kids.length d.xc, .int .u64 d.h] 48)) (.cells #[.int .i64 0, .string ⟨#[]⟩, .slice none 0 0] 36) (w.heap.size + 1) (by simp)) (.cells #[.int .i64 0, .string ⟨#[]⟩, .slice none 0 0] 36))
  have HX0 := Lib.hid (block_new' ((w.alloc (.cells #[.int .i64 d.k, .string d.t, .slice la d.l.length d.lc, .int .i64 d.x.h, .string d.x.text, .slice d.xa d.x.kids.length d.xc, .int .u64 d.h] 48)).alloc (.cells #[.int .i64 0, .string ⟨#[]⟩, .slice none 0 0] 36)) (.cells #[.int .i64 0, .string ⟨#[]⟩, .slice none 0 0] 36) bx (by rw [hbx]; simp))
  obtain ⟨base, hbase⟩ : ∃ b, b = (((w.alloc (.cells #[.int .i64 d.k, .string d.t, .slice la d.l.length d.lc, .int .i64 d.x.h, .string d.x.text, .slice d.xa d.x.kids.length d.xc, .int .u64 d.h] 48)).alloc (.cells #[.int .i64 0, .string ⟨#[]⟩, .slice none 0 0] 36)).alloc (.cells #[.int .i64 0, .string ⟨#[]⟩, .slice none 0 0] 36)).heap.size := ⟨_, rfl⟩
  have HSZU := Lib.hid (Nat.le_of_eq hbase)
  have hbvb : bx < base := by rw [hbase, hbx]; simp
  have hwb : w.heap.size + 1 < base := by rw [hbase]; simp
  have hwx : w.heap.size < bx := by omega
  have hwx2 : w.heap.size + 1 ≠ bx := by omega
  have HRB := Lib.hid hwb
  have hbs : w.heap.size ≤ base := by omega
  clear hbase
  simp only [show w.heap.size + 1 + 1 = w.heap.size + 2 from rfl]
  try rw [← hbx]
  clear hbx
  go_loopw [7] (fun iv wr => ∃ (k : Nat) (ao : Option Addr) (cap : Nat), k ≤ M ∧ iv = .int .i64 k ∧ Below w.heap.size w wr ∧ wr.heap[w.heap.size]? = some (.cells #[.int .i64 d.k, .string d.t, .slice la d.l.length d.lc, .int .i64 d.x.h, .string d.x.text, .slice d.xa d.x.kids.length d.xc, .int .u64 d.h] 48 (0, 0)) ∧ wr.heap[w.heap.size + 1]? = some (.cells #[.int .i64 0, .string ⟨#[]⟩, .slice none 0 0] 36 (0, 0)) ∧ wr.heap[bx]? = some (.cells #[.int .i64 (hSo L d.l k), .string ⟨#[]⟩, .slice ao k cap] 36 (0, 0)) ∧ OwnKs base wr (.slice ao k cap) k (innerKids L d.l k) ∧ base ≤ wr.heap.size) (fun iv _ => M - (intOf iv).toNat)
  case atStart => exact ⟨0, none, 0, Nat.zero_le _, rfl, HBW.out, HD0.out, HZ0.out, HX0.out, ⟨rfl, by simp [innerKids], World.ownsRow_nil _ _ _ _⟩, HSZU.out⟩
  case round =>
    obtain ⟨k, ao, cap, hkn, rfl, hbr, hdb, hzb, hx, hown, hszr⟩ := hrel
    by_cases b1 : k < d.l.length
    · have hk1 : (k : Int) < (d.l.length : Int) := by omega
      by_cases b2 : k < 5
      · have hk2 : (k : Int) < 5 := by omega
        by_cases b3 : 0 < L.length
        · have hk3 : (0 : Int) < (L.length : Int) := by omega
          obtain ⟨j, hj, hjm, hpk⟩ := pick_in b3 d.l[k]
          have hE := hpk hj
          obtain ⟨b, rfl, hbw, ⟨e0, e1, e2, e3⟩, hfz⟩ := HAT.out j hj
          have HKN := Lib.hid (HA.out.2 _ (List.getElem_mem hj))
          rw [← hE] at e0 e1 e2 e3 HKN
          obtain ⟨E, hEE⟩ : ∃ E, E = pickK L d.l[k] := ⟨_, rfl⟩
          rw [← hEE] at e0 e1 e2 e3 HKN
          have HEE := Lib.hid hEE
          obtain ⟨lb, lo, rfl, hlb, hlc⟩ := HD1.out.2 (by omega)
          have hlk := hlc k (.int .i64 d.l[k]) (by have := flatR_at fI_len d.l k 0 b1 (by decide); rw [Nat.mul_one, Nat.add_zero] at this; rw [this]; rfl)
          have hlk2 := (hbr.cell (p := ⟨lb, lo + k, none⟩) hlb).trans hlk
          have e0' := (hbr.cell (p := ⟨b, j * 4, none⟩) hbw).trans e0
          have e1' := (hbr.cell (p := ⟨b, j * 4 + 1, none⟩) hbw).trans e1
          have e2' := (hbr.cell (p := ⟨b, j * 4 + 2, none⟩) hbw).trans e2
          have e3' := (hbr.cell (p := ⟨b, j * 4 + 3, none⟩) hbw).trans e3
          have HMJ := Lib.hid (mod13_as d.l[k] L.length j b3 (by omega) hjm)
          have HNX := Lib.hid (innerKids_succ L d.l k b1)
          have HLN := Lib.hid (innerKids_len L d.l (k + 1) b1)
          have HRG := Lib.hid (innerKids_rng HA.out.2 b3 d.l (k + 1))
          rw [← hEE] at HNX
          have HX := Lib.hid hx
          have HZ := Lib.hid hzb
          have HDB := Lib.hid hdb
          have HOWN := Lib.hid hown
          have HBR := Lib.hid hbr
          have hj2 : (j : Int) < (L.length : Int) := by omega
          (have q0 := block_cell hdb 0; have q1 := block_cell hdb 1; have q2 := block_cell hdb 2; have q3 := block_cell hdb 3; have q4 := block_cell hdb 4; have q5 := block_cell hdb 5; have q6 := block_cell hdb 6; have f0 := block_free hdb 0; have f1 := block_free hdb 1; have f2 := block_free hdb 2; have f3 := block_free hdb 3; have f4 := block_free hdb 4; have f5 := block_free hdb 5; have f6 := block_free hdb 6; have hz := block_lt hdb; simp at q0 q1 q2 q3 q4 q5 q6)
          clear hx hzb hown hbr hdb hE hEE hpk hjm e0 e1 e2 e3 hlc hlk hfz
          have HSO := Lib.hid (show (k = 0 → hSo L d.l (k + 1) = E.x.h + 1) ∧ (k ≠ 0 → hSo L d.l (k + 1) = hSo L d.l k) from ⟨fun hk => by
            subst hk
            have e : d.l.getD 0 0 = d.l[0] := by rw [List.getD_eq_getElem?_getD, List.getElem?_eq_getElem b1]; rfl
            unfold hSo
            rw [if_neg (by decide), e, HEE.out], fun hk => by
            unfold hSo
            rw [if_neg (by omega), if_neg hk]⟩)
          have hEh := ck_h HKN.out.2.1
          generalize d.l[k] = dk at *
          go_wp2_with fail
          refine (HMJ.out _).mono ?_; rintro e w1 ⟨rfl, rfl⟩
          clear HMJ q0 q1 q2 q3 q4 q5 q6 f0 f1 f2 f3 f4 f5 f6 hz
          go_wp2_with fail
          have hb3 := (Below.refl wr.heap.size wr).alloc (Nat.le_refl _) (.cells #[.int .u64 E.h, .int .i64 E.x.h, .string E.x.text, .slice E.a E.x.kids.length E.c] 50)
          have HB3 := Lib.hid hb3
          refine (refMeasure_any E.x E.a E.x.kids.length E.c _ ((HKN.out.1.1.later HBR.out).later hb3)).mono ?_; rintro e w2 ⟨rfl, hb⟩
          have hkn2 := block_below hb (block_new wr (.cells #[.int .u64 E.h, .int .i64 E.x.h, .string E.x.text, .slice E.a E.x.kids.length E.c] 50)) (by simp)
          have hx2 := block_below hb (block_alloc HX.out (.cells #[.int .u64 E.h, .int .i64 E.x.h, .string E.x.text, .slice E.a E.x.kids.length E.c] 50)) (by have := block_lt HX.out; simp; omega)
          have HX2 := Lib.hid hx2
          have HZ2 := Lib.hid (block_below hb (block_alloc HZ.out (.cells #[.int .u64 E.h, .int .i64 E.x.h, .string E.x.text, .slice E.a E.x.kids.length E.c] 50)) (by have := block_lt HZ.out; simp; omega))
          have HD2 := Lib.hid (block_below hb (block_alloc HDB.out (.cells #[.int .u64 E.h, .int .i64 E.x.h, .string E.x.text, .slice E.a E.x.kids.length E.c] 50)) (by have := block_lt HDB.out; simp; omega))
          have HO2 := Lib.hid ((HOWN.out.later hb3).later hb)
          have HB2 := Lib.hid (((HBR.out).trans (hb3.mono HBR.out.size)).trans (hb.mono (by have := HBR.out.size; simp; omega)))
          have hsz2 := hb.size
          have hszw := HBR.out.size
          simp only [World.size_alloc] at hsz2
          clear hb hb3 HX HZ HDB HOWN HBR
          unfold aggM
          unfold kidOf at HNX
          generalize measN E.x = mm at *
          obtain ⟨m0, m1, m2⟩ := mm
          simp only
          (have q0 := block_cell hkn2 0; have q1 := block_cell hkn2 1; have q2 := block_cell hkn2 2; have q3 := block_cell hkn2 3; have f0 := block_free hkn2 0; have f1 := block_free hkn2 1; have f2 := block_free hkn2 2; have f3 := block_free hkn2 3; have hz := block_lt hkn2; simp at q0 q1 q2 q3)
          (have z0 := block_cell hx2 0; have z1 := block_cell hx2 1; have z2 := block_cell hx2 2; have g0 := block_free hx2 0; have g1 := block_free hx2 1; have g2 := block_free hx2 2; have hzz := block_lt hx2; simp at z0 z1 z2)
          clear hx2 hkn2
          by_cases hk0 : k = 0
          · have hk0i : ((k : Int) == 0) = true := by simp [hk0]
            have HSO1 := Lib.hid (HSO.out.1 hk0)
            clear hk0
            have HXW := Lib.hid (show (((w2.setCell ⟨bx, 0, none⟩ (.int .i64 (E.x.h + 1))).alloc (.cells #[.int .i64 m0, .int .i64 m1, .int .i64 m2] 62)).alloc (.cells #[.int .u64 E.h, .int .i64 m0, .int .i64 m1, .int .i64 m2] 64)).heap[bx]? = some (.cells #[.int .i64 (hSo L d.l (k + 1)), .string ⟨#[]⟩, .slice ao k cap] 36 (0, 0)) from by
              rw [HSO1.out]
              exact block_alloc (block_alloc (block_setCell HX2.out 0 (.int .i64 (E.x.h + 1))) (.cells #[.int .i64 m0, .int .i64 m1, .int .i64 m2] 62)) _)
            have HZW := Lib.hid (show (((w2.setCell ⟨bx, 0, none⟩ (.int .i64 (E.x.h + 1))).alloc (.cells #[.int .i64 m0, .int .i64 m1, .int .i64 m2] 62)).alloc (.cells #[.int .u64 E.h, .int .i64 m0, .int .i64 m1, .int .i64 m2] 64)).heap[w.heap.size + 1]? = some (.cells #[.int .i64 0, .string ⟨#[]⟩, .slice none 0 0] 36 (0, 0)) from block_alloc (block_alloc (block_setCell_other HZ2.out (p := ⟨bx, 0, none⟩) (by simp; omega) (.int .i64 (E.x.h + 1))) (.cells #[.int .i64 m0, .int .i64 m1, .int .i64 m2] 62)) _)
            have HDW := Lib.hid (show (((w2.setCell ⟨bx, 0, none⟩ (.int .i64 (E.x.h + 1))).alloc (.cells #[.int .i64 m0, .int .i64 m1, .int .i64 m2] 62)).alloc (.cells #[.int .u64 E.h, .int .i64 m0, .int .i64 m1, .int .i64 m2] 64)).heap[w.heap.size]? = some (.cells #[.int .i64 d.k, .string d.t, .slice (some ⟨lb, lo, none⟩) d.l.length d.lc, .int .i64 d.x.h, .string d.x.text, .slice d.xa d.x.kids.length d.xc, .int .u64 d.h] 48 (0, 0)) from block_alloc (block_alloc (block_setCell_other HD2.out (p := ⟨bx, 0, none⟩) (by simp; omega) (.int .i64 (E.x.h + 1))) (.cells #[.int .i64 m0, .int .i64 m1, .int .i64 m2] 62)) _)
            have HOW := Lib.hid (show OwnKs base (((w2.setCell ⟨bx, 0, none⟩ (.int .i64 (E.x.h + 1))).alloc (.cells #[.int .i64 m0, .int .i64 m1, .int .i64 m2] 62)).alloc (.cells #[.int .u64 E.h, .int .i64 m0, .int .i64 m1, .int .i64 m2] 64)) (.slice ao k cap) k (innerKids L d.l k) from OwnKs.grow ((HO2.out.setCell (a := ⟨bx, 0, none⟩) hbvb (.int .i64 (E.x.h + 1))).grow (.cells #[.int .i64 m0, .int .i64 m1, .int .i64 m2] 62)) _)
            have HBW2 := Lib.hid (show Below w.heap.size w (((w2.setCell ⟨bx, 0, none⟩ (.int .i64 (E.x.h + 1))).alloc (.cells #[.int .i64 m0, .int .i64 m1, .int .i64 m2] 62)).alloc (.cells #[.int .u64 E.h, .int .i64 m0, .int .i64 m1, .int .i64 m2] 64)) from ((HB2.out.setCell (p := ⟨bx, 0, none⟩) (by simp; omega) (.int .i64 (E.x.h + 1))).alloc (by simp; omega) (.cells #[.int .i64 m0, .int .i64 m1, .int .i64 m2] 62)).alloc (by simp; omega) _)
            have HN7 := Lib.hid (show (((w2.setCell ⟨bx, 0, none⟩ (.int .i64 (E.x.h + 1))).alloc (.cells #[.int .i64 m0, .int .i64 m1, .int .i64 m2] 62)).alloc (.cells #[.int .u64 E.h, .int .i64 m0, .int .i64 m1, .int .i64 m2] 64)).heap[w2.heap.size + 1]? = some (.cells #[.int .u64 E.h, .int .i64 m0, .int .i64 m1, .int .i64 m2] 64 (0, 0)) from block_new' ((w2.setCell ⟨bx, 0, none⟩ (.int .i64 (E.x.h + 1))).alloc (.cells #[.int .i64 m0, .int .i64 m1, .int .i64 m2] 62)) _ _ (by simp))
            have HLEN := Lib.hid (show (((w2.setCell ⟨bx, 0, none⟩ (.int .i64 (E.x.h + 1))).alloc (.cells #[.int .i64 m0, .int .i64 m1, .int .i64 m2] 62)).alloc (.cells #[.int .u64 E.h, .int .i64 m0, .int .i64 m1, .int .i64 m2] 64)).heap.size = w2.heap.size + 2 by simp)
            clear HX2 HZ2 HD2 HO2 HB2 HSO
            go_wp2_with (at_builtin; refine wpList_append_own _ rfl _ _ 34 rfl base 64 i0 (.agg #[.int .u64 0, .int .i64 0, .int .i64 0, .int .i64 0]) 4 32 Try.underlying34 hi hz0 hz1 hz2 rfl (by decide) _ k (flatR fK (innerKids L d.l k)) rfl HOW.out.2.2 ⟨w2.heap.size + 1, 0, none⟩ 1 _ (flatR fK [(E.h, m0, m1, m2)]) rfl rfl (slkA (k := (E.h, m0, m1, m2)) HN7.out) (fK_one _) ?c3 ?c4 ?c5 ?_)
            case c3 => have := HLEN.out; unfold maxLen; omega
            case c4 => have := HLEN.out; omega
            case c5 => have := HLEN.out; omega
            intro v' w3 hown1 hgrow _
            rw [← flatR_app, ← HNX.out] at hown1
            have hlow := HOW.out.2.2.lt
            have hok : OwnKs base w3 v' (k + 1) (innerKids L d.l (k + 1)) := ⟨HLN.out, HRG.out, hown1⟩
            obtain ⟨ao', cap', rfl, -⟩ := hok.ks
            have hl2 := HLEN.out
            have hx3 := (hgrow.block bx (by omega) (fun hj => by have := hlow _ hj.symm; omega)).trans HXW.out
            have HZ3 := Lib.hid ((hgrow.block (w.heap.size + 1) (by omega) (fun hj => by have := hlow _ hj.symm; omega)).trans HZW.out)
            have HD3 := Lib.hid ((hgrow.block w.heap.size (by omega) (fun hj => by have := hlow _ hj.symm; omega)).trans HDW.out)
            have HB3X := Lib.hid (HBW2.out.grown hgrow (by omega) (fun j hj => by have := hlow j hj; omega))
            have HX3 := Lib.hid hx3
            have HOK := Lib.hid hok
            have hs3 := hgrow.size
            rw [hl2] at hs3
            clear q0 q1 q2 q3 f0 f1 f2 f3 hz z0 z1 z2 g0 g1 g2 hzz hown1 hgrow hok HXW HZW HDW HOW HBW2 HN7 hlow HLEN hl2
            (have q0 := block_cell hx3 0; have q1 := block_cell hx3 1; have q2 := block_cell hx3 2; have f0 := block_free hx3 0; have f1 := block_free hx3 1; have f2 := block_free hx3 2; have hz := block_lt hx3; simp at q0 q1 q2)
            clear hx3
            go_wp2_with fail
            go_roundw
            case rel => exact ⟨k + 1, ao', cap', by omega, by go_num, HB3X.out.setCell (by simp; omega) _, block_setCell_other HD3.out (p := ⟨bx, 2, none⟩) (by simp; omega) _, block_setCell_other HZ3.out (p := ⟨bx, 2, none⟩) (by simp; omega) _, block_setCell HX3.out 2 _, HOK.out.setCell hbvb _, by simp; omega⟩
            case measure => simp [intOf]; omega
          · have hk0i : ((k : Int) == 0) = false := by simp; omega
            have HSO1 := Lib.hid (HSO.out.2 hk0)
            clear hk0
            have HXW := Lib.hid (show ((w2.alloc (.cells #[.int .i64 m0, .int .i64 m1, .int .i64 m2] 62)).alloc (.cells #[.int .u64 E.h, .int .i64 m0, .int .i64 m1, .int .i64 m2] 64)).heap[bx]? = some (.cells #[.int .i64 (hSo L d.l (k + 1)), .string ⟨#[]⟩, .slice ao k cap] 36 (0, 0)) from by
              rw [HSO1.out]
              exact block_alloc (block_alloc HX2.out (.cells #[.int .i64 m0, .int .i64 m1, .int .i64 m2] 62)) _)
            have HZW := Lib.hid (show ((w2.alloc (.cells #[.int .i64 m0, .int .i64 m1, .int .i64 m2] 62)).alloc (.cells #[.int .u64 E.h, .int .i64 m0, .int .i64 m1, .int .i64 m2] 64)).heap[w.heap.size + 1]? = some (.cells #[.int .i64 0, .string ⟨#[]⟩, .slice none 0 0] 36 (0, 0)) from block_alloc (block_alloc HZ2.out (.cells #[.int .i64 m0, .int .i64 m1, .int .i64 m2] 62)) _)
            have HDW := Lib.hid (show ((w2.alloc (.cells #[.int .i64 m0, .int .i64 m1, .int .i64 m2] 62)).alloc (.cells #[.int .u64 E.h, .int .i64 m0, .int .i64 m1, .int .i64 m2] 64)).heap[w.heap.size]? = some (.cells #[.int .i64 d.k, .string d.t, .slice (some ⟨lb, lo, none⟩) d.l.length d.lc, .int .i64 d.x.h, .string d.x.text, .slice d.xa d.x.kids.length d.xc, .int .u64 d.h] 48 (0, 0)) from block_alloc (block_alloc HD2.out (.cells #[.int .i64 m0, .int .i64 m1, .int .i64 m2] 62)) _)
            have HOW := Lib.hid (show OwnKs base ((w2.alloc (.cells #[.int .i64 m0, .int .i64 m1, .int .i64 m2] 62)).alloc (.cells #[.int .u64 E.h, .int .i64 m0, .int .i64 m1, .int .i64 m2] 64)) (.slice ao k cap) k (innerKids L d.l k) from OwnKs.grow (HO2.out.grow (.cells #[.int .i64 m0, .int .i64 m1, .int .i64 m2] 62)) _)
            have HBW2 := Lib.hid (show Below w.heap.size w ((w2.alloc (.cells #[.int .i64 m0, .int .i64 m1, .int .i64 m2] 62)).alloc (.cells #[.int .u64 E.h, .int .i64 m0, .int .i64 m1, .int .i64 m2] 64)) from (HB2.out.alloc (by omega) (.cells #[.int .i64 m0, .int .i64 m1, .int .i64 m2] 62)).alloc (by simp; omega) _)
            have HN7 := Lib.hid (show ((w2.alloc (.cells #[.int .i64 m0, .int .i64 m1, .int .i64 m2] 62)).alloc (.cells #[.int .u64 E.h, .int .i64 m0, .int .i64 m1, .int .i64 m2] 64)).heap[w2.heap.size + 1]? = some (.cells #[.int .u64 E.h, .int .i64 m0, .int .i64 m1, .int .i64 m2] 64 (0, 0)) from block_new' (w2.alloc (.cells #[.int .i64 m0, .int .i64 m1, .int .i64 m2] 62)) _ _ (by simp))
            have HLEN := Lib.hid (show ((w2.alloc (.cells #[.int .i64 m0, .int .i64 m1, .int .i64 m2] 62)).alloc (.cells #[.int .u64 E.h, .int .i64 m0, .int .i64 m1, .int .i64 m2] 64)).heap.size = w2.heap.size + 2 by simp)
            clear HX2 HZ2 HD2 HO2 HB2 HSO
            go_wp2_with (at_builtin; refine wpList_append_own _ rfl _ _ 34 rfl base 64 i0 (.agg #[.int .u64 0, .int .i64 0, .int .i64 0, .int .i64 0]) 4 32 Try.underlying34 hi hz0 hz1 hz2 rfl (by decide) _ k (flatR fK (innerKids L d.l k)) rfl HOW.out.2.2 ⟨w2.heap.size + 1, 0, none⟩ 1 _ (flatR fK [(E.h, m0, m1, m2)]) rfl rfl (slkA (k := (E.h, m0, m1, m2)) HN7.out) (fK_one _) ?c3 ?c4 ?c5 ?_)
            case c3 => have := HLEN.out; unfold maxLen; omega
            case c4 => have := HLEN.out; omega
            case c5 => have := HLEN.out; omega
            intro v' w3 hown1 hgrow _
            rw [← flatR_app, ← HNX.out] at hown1
            have hlow := HOW.out.2.2.lt
            have hok : OwnKs base w3 v' (k + 1) (innerKids L d.l (k + 1)) := ⟨HLN.out, HRG.out, hown1⟩
            obtain ⟨ao', cap', rfl, -⟩ := hok.ks
            have hl2 := HLEN.out
            have hx3 := (hgrow.block bx (by omega) (fun hj => by have := hlow _ hj.symm; omega)).trans HXW.out
            have HZ3 := Lib.hid ((hgrow.block (w.heap.size + 1) (by omega) (fun hj => by have := hlow _ hj.symm; omega)).trans HZW.out)
            have HD3 := Lib.hid ((hgrow.block w.heap.size (by omega) (fun hj => by have := hlow _ hj.symm; omega)).trans HDW.out)
            have HB3X := Lib.hid (HBW2.out.grown hgrow (by omega) (fun j hj => by have := hlow j hj; omega))
            have HX3 := Lib.hid hx3
            have HOK := Lib.hid hok
            have hs3 := hgrow.size
            rw [hl2] at hs3
            clear q0 q1 q2 q3 f0 f1 f2 f3 hz z0 z1 z2 g0 g1 g2 hzz hown1 hgrow hok HXW HZW HDW HOW HBW2 HN7 hlow HLEN hl2
            (have q0 := block_cell hx3 0; have q1 := block_cell hx3 1; have q2 := block_cell hx3 2; have f0 := block_free hx3 0; have f1 := block_free hx3 1; have f2 := block_free hx3 2; have hz := block_lt hx3; simp at q0 q1 q2)
            clear hx3
            go_wp2_with fail
            go_roundw
            case rel => exact ⟨k + 1, ao', cap', by omega, by go_num, HB3X.out.setCell (by simp; omega) _, block_setCell_other HD3.out (p := ⟨bx, 2, none⟩) (by simp; omega) _, block_setCell_other HZ3.out (p := ⟨bx, 2, none⟩) (by simp; omega) _, block_setCell HX3.out 2 _, HOK.out.setCell hbvb _, by simp; omega⟩
            case measure => simp [intOf]; omega
        · have hM3 : k = M := by omega
          have hk3 : ¬ (0 : Int) < (L.length : Int) := by omega
          have HTM := Lib.hid hM3
          have HRX := Lib.hid (show nodeD L d = some ⟨hSo L d.l k, ⟨#[]⟩, innerKids L d.l k⟩ by rw [HR.out, ← hM3])
          clear hM3
          (have q0 := block_cell hdb 0; have q1 := block_cell hdb 1; have q2 := block_cell hdb 2; have q3 := block_cell hdb 3; have q4 := block_cell hdb 4; have q5 := block_cell hdb 5; have q6 := block_cell hdb 6; have f0 := block_free hdb 0; have f1 := block_free hdb 1; have f2 := block_free hdb 2; have f3 := block_free hdb 3; have f4 := block_free hdb 4; have f5 := block_free hdb 5; have f6 := block_free hdb 6; have hz := block_lt hdb; simp at q0 q1 q2 q3 q4 q5 q6)
          (have q0 := block_cell hx 0; have q1 := block_cell hx 1; have q2 := block_cell hx 2; have f0 := block_free hx 0; have f1 := block_free hx 1; have f2 := block_free hx 2; have hz := block_lt hx; simp at q0 q1 q2)
          have HZ := Lib.hid hzb
          have HBR := Lib.hid hbr
          have HOWN := Lib.hid hown
          have HZC := Lib.hid hzb
          (have z0 := block_cell hzb 0; have z1 := block_cell hzb 1; have z2 := block_cell hzb 2; have g0 := block_free hzb 0; have g1 := block_free hzb 1; have g2 := block_free hzb 2; have hzz := block_lt hzb; simp at z0 z1 z2)
          clear hx hzb hbr hown hdb
          go_wp2_with fail
          have hb0 := block_setCell (block_setCell (block_setCell HZ.out 0 (.int .i64 (hSo L d.l k))) 1 (.string ⟨#[]⟩)) 2 (.slice ao k cap)
          have hbl := ((HBR.out.setCell (p := ⟨w.heap.size + 1, 0, none⟩) (by simp) (.int .i64 (hSo L d.l k))).setCell (p := ⟨w.heap.size + 1, 1, none⟩) (by simp) (.string ⟨#[]⟩)).setCell (p := ⟨w.heap.size + 1, 2, none⟩) (by simp) (.slice ao k cap)
          have ho := ((HOWN.out.setCell (a := ⟨w.heap.size + 1, 0, none⟩) HRB.out (.int .i64 (hSo L d.l k))).setCell (a := ⟨w.heap.size + 1, 1, none⟩) HRB.out (.string ⟨#[]⟩)).setCell (a := ⟨w.heap.size + 1, 2, none⟩) HRB.out (.slice ao k cap)
          exact bodyPost_ret (res3_tmp Try.results24 (Try.isAgg36 _) (Try.sizeOf36 _) rfl hb0) rfl (by
            rw [HRX.out]
            obtain ⟨ao', c', e, hok⟩ := ho.ok (b0 := b0)
            cases e
            have hkk : (innerKids L d.l k).length = k := HOWN.out.1
            refine ⟨ao, cap, ?_, ?_, hbl⟩
            · show _ = Ending.returned (.tuple #[aggN _ _ _ (innerKids L d.l k).length _, _])
              rw [hkk]
              rfl
            · show KsOK _ _ _ (innerKids L d.l k).length _ _
              rw [hkk]
              exact hok)
      · have hM3 : k = M := by omega
        have hk2 : (5 : Int) ≤ (k : Int) := by omega
        have HTM := Lib.hid hM3
        have HRX := Lib.hid (show nodeD L d = some ⟨hSo L d.l k, ⟨#[]⟩, innerKids L d.l k⟩ by rw [HR.out, ← hM3])
        clear hM3
        (have q0 := block_cell hdb 0; have q1 := block_cell hdb 1; have q2 := block_cell hdb 2; have q3 := block_cell hdb 3; have q4 := block_cell hdb 4; have q5 := block_cell hdb 5; have q6 := block_cell hdb 6; have f0 := block_free hdb 0; have f1 := block_free hdb 1; have f2 := block_free hdb 2; have f3 := block_free hdb 3; have f4 := block_free hdb 4; have f5 := block_free hdb 5; have f6 := block_free hdb 6; have hz := block_lt hdb; simp at q0 q1 q2 q3 q4 q5 q6)
        (have q0 := block_cell hx 0; have q1 := block_cell hx 1; have q2 := block_cell hx 2; have f0 := block_free hx 0; have f1 := block_free hx 1; have f2 := block_free hx 2; have hz := block_lt hx; simp at q0 q1 q2)
        have HZ := Lib.hid hzb
        have HBR := Lib.hid hbr
        have HOWN := Lib.hid hown
        have HZC := Lib.hid hzb
        (have z0 := block_cell hzb 0; have z1 := block_cell hzb 1; have z2 := block_cell hzb 2; have g0 := block_free hzb 0; have g1 := block_free hzb 1; have g2 := block_free hzb 2; have hzz := block_lt hzb; simp at z0 z1 z2)
        clear hx hzb hbr hown hdb
        go_wp2_with fail
        have hb0 := block_setCell (block_setCell (block_setCell HZ.out 0 (.int .i64 (hSo L d.l k))) 1 (.string ⟨#[]⟩)) 2 (.slice ao k cap)
        have hbl := ((HBR.out.setCell (p := ⟨w.heap.size + 1, 0, none⟩) (by simp) (.int .i64 (hSo L d.l k))).setCell (p := ⟨w.heap.size + 1, 1, none⟩) (by simp) (.string ⟨#[]⟩)).setCell (p := ⟨w.heap.size + 1, 2, none⟩) (by simp) (.slice ao k cap)
        have ho := ((HOWN.out.setCell (a := ⟨w.heap.size + 1, 0, none⟩) HRB.out (.int .i64 (hSo L d.l k))).setCell (a := ⟨w.heap.size + 1, 1, none⟩) HRB.out (.string ⟨#[]⟩)).setCell (a := ⟨w.heap.size + 1, 2, none⟩) HRB.out (.slice ao k cap)
        exact bodyPost_ret (res3_tmp Try.results24 (Try.isAgg36 _) (Try.sizeOf36 _) rfl hb0) rfl (by
          rw [HRX.out]
          obtain ⟨ao', c', e, hok⟩ := ho.ok (b0 := b0)
          cases e
          have hkk : (innerKids L d.l k).length = k := HOWN.out.1
          refine ⟨ao, cap, ?_, ?_, hbl⟩
          · show _ = Ending.returned (.tuple #[aggN _ _ _ (innerKids L d.l k).length _, _])
            rw [hkk]
            rfl
          · show KsOK _ _ _ (innerKids L d.l k).length _ _
            rw [hkk]
            exact hok)
    · have hM3 : k = M := by omega
      have hk1 : (d.l.length : Int) ≤ (k : Int) := by omega
      have HTM := Lib.hid hM3
      have HRX := Lib.hid (show nodeD L d = some ⟨hSo L d.l k, ⟨#[]⟩, innerKids L d.l k⟩ by rw [HR.out, ← hM3])
      clear hM3
      (have q0 := block_cell hdb 0; have q1 := block_cell hdb 1; have q2 := block_cell hdb 2; have q3 := block_cell hdb 3; have q4 := block_cell hdb 4; have q5 := block_cell hdb 5; have q6 := block_cell hdb 6; have f0 := block_free hdb 0; have f1 := block_free hdb 1; have f2 := block_free hdb 2; have f3 := block_free hdb 3; have f4 := block_free hdb 4; have f5 := block_free hdb 5; have f6 := block_free hdb 6; have hz := block_lt hdb; simp at q0 q1 q2 q3 q4 q5 q6)
      (have q0 := block_cell hx 0; have q1 := block_cell hx 1; have q2 := block_cell hx 2; have f0 := block_free hx 0; have f1 := block_free hx 1; have f2 := block_free hx 2; have hz := block_lt hx; simp at q0 q1 q2)
      have HZ := Lib.hid hzb
      have HBR := Lib.hid hbr
      have HOWN := Lib.hid hown
      have HZC := Lib.hid hzb
      (have z0 := block_cell hzb 0; have z1 := block_cell hzb 1; have z2 := block_cell hzb 2; have g0 := block_free hzb 0; have g1 := block_free hzb 1; have g2 := block_free hzb 2; have hzz := block_lt hzb; simp at z0 z1 z2)
      clear hx hzb hbr hown hdb
      go_wp2_with fail
      have hb0 := block_setCell (block_setCell (block_setCell HZ.out 0 (.int .i64 (hSo L d.l k))) 1 (.string ⟨#[]⟩)) 2 (.slice ao k cap)
      have hbl := ((HBR.out.setCell (p := ⟨w.heap.size + 1, 0, none⟩) (by simp) (.int .i64 (hSo L d.l k))).setCell (p := ⟨w.heap.size + 1, 1, none⟩) (by simp) (.string ⟨#[]⟩)).setCell (p := ⟨w.heap.size + 1, 2, none⟩) (by simp) (.slice ao k cap)
      have ho := ((HOWN.out.setCell (a := ⟨w.heap.size + 1, 0, none⟩) HRB.out (.int .i64 (hSo L d.l k))).setCell (a := ⟨w.heap.size + 1, 1, none⟩) HRB.out (.string ⟨#[]⟩)).setCell (a := ⟨w.heap.size + 1, 2, none⟩) HRB.out (.slice ao k cap)
      exact bodyPost_ret (res3_tmp Try.results24 (Try.isAgg36 _) (Try.sizeOf36 _) rfl hb0) rfl (by
        rw [HRX.out]
        obtain ⟨ao', c', e, hok⟩ := ho.ok (b0 := b0)
        cases e
        have hkk : (innerKids L d.l k).length = k := HOWN.out.1
        refine ⟨ao, cap, ?_, ?_, hbl⟩
        · show _ = Ending.returned (.tuple #[aggN _ _ _ (innerKids L d.l k).length _, _])
          rw [hkk]
          rfl
        · show KsOK _ _ _ (innerKids L d.l k).length _ _
          rw [hkk]
          exact hok)

set_option maxRecDepth 100000 in
set_option maxHeartbeats 1500000 in
theorem node_inner3 (b0 : Nat) (L : List Kn) (vA : Value) (d : De) (w : World) (hd : DeOK b0 w d) (hA : AllK b0 w vA L) (ha : d.k % 8 = 3) (hLL : L.length ≤ 1000) :
    Calls Try.prog 24 #[deV d, vA] w fun e w' => NodeR b0 w (nodeD L d) e w' := by
  have HR := Lib.hid (show nodeD L d = some ⟨hSo L d.l (inN L d.l), ⟨#[]⟩, innerKids L d.l (inN L d.l)⟩ by unfold nodeD; rw [if_neg (by omega), if_pos (by omega)]; rfl)
  obtain ⟨M, hM⟩ : ∃ M, M = inN L d.l := ⟨_, rfl⟩
  have HMM := Lib.hid hM
  rw [← hM] at HR
  have hM5 : M ≤ 5 ∧ M ≤ d.l.length ∧ (0 < M → 0 < L.length) ∧ (0 < L.length → d.l.length ≤ M ∨ 5 ≤ M) := by
    rw [hM]; unfold inN; split <;> omega
  obtain ⟨i0, hi, hz0, hz1, hz2⟩ := info_parts infoK
  have HM := Lib.hid (mod8 ha)
  have HD := Lib.hid hd
  have HA := Lib.hid hA
  obtain ⟨aA, cA, rfl, hat⟩ := hA.form
  have HAT := Lib.hid hat
  have HD1 := Lib.hid hd.1
  clear hd hA ha hM hat
  unfold deV
  generalize d.la = la at *
  go_enter Try.func24, Try.ntmps24
  go_wp2_with fail
  refine (HM.out _).mono ?_; rintro e w1 ⟨rfl, rfl⟩
  go_wp2_with fail
  obtain ⟨bx, hbx⟩ : ∃ b, b = w.heap.size + 2 := ⟨_, rfl⟩
  have HBW := Lib.hid (((((Below.refl w.heap.size w).alloc (Nat.le_refl _) (.cells #[.int .i64 d.k, .string d.t, .slice la d.l.length d.lc, .int .i64 d.x.h, .string d.x.text, .slice d.xa d.x.kids.length d.xc, .int .u64 d.h] 48)).alloc (by simp) (.cells #[.int .i64 0, .string ⟨#[]⟩, .slice none 0 0] 36)).alloc (by simp; omega) (.cells #[.int .i64 0, .string ⟨#[]⟩, .slice none 0 0] 36)))
  have HD0 := Lib.hid (block_alloc (block_alloc (block_new w (.cells #[.int .i64 d.k, .string d.t, .slice la d.l.length d.lc, .int .i64 d.x.h, .string d.x.text, .slice d.xa d.x.kids.length d.xc, .int .u64 d.h] 48)) (.cells #[.int .i64 0, .string ⟨#[]⟩, .slice none 0 0] 36)) (.cells #[.int .i64 0, .string ⟨#[]⟩, .slice none 0 0] 36))
  have HZ0 := Lib.hid (block_alloc (block_new' (w.alloc (.cells #[.int .i64 d.k, .string d.t, .slice la d.l.length d.lc, .int .i64 d.x.h, .string d.x.text, .slice d.xa d.x.kids.length d.xc, .int .u64 d.h] 48)) (.cells #[.int .i64 0, .string ⟨#[]⟩, .slice none 0 0] 36) (w.heap.size + 1) (by simp)) (.cells #[.int .i64 0, .string ⟨#[]⟩, .slice none 0 0] 36))
  have HX0 := Lib.hid (block_new' ((w.alloc (.cells #[.int .i64 d.k, .string d.t, .slice la d.l.length d.lc, .int .i64 d.x.h, .string d.x.text, .slice d.xa d.x.kids.length d.xc, .int .u64 d.h] 48)).alloc (.cells #[.int .i64 0, .string ⟨#[]⟩, .slice none 0 0] 36)) (.cells #[.int .i64 0, .string ⟨#[]⟩, .slice none 0 0] 36) bx (by rw [hbx]; simp))
  obtain ⟨base, hbase⟩ : ∃ b, b = (((w.alloc (.cells #[.int .i64 d.k, .string d.t, .slice la d.l.length d.lc, .int .i64 d.x.h, .string d.x.text, .slice d.xa d.x.kids.length d.xc, .int .u64 d.h] 48)).alloc (.cells #[.int .i64 0, .string ⟨#[]⟩, .slice none 0 0] 36)).alloc (.cells #[.int .i64 0, .string ⟨#[]⟩, .slice none 0 0] 36)).heap.size := ⟨_, rfl⟩
  have HSZU := Lib.hid (Nat.le_of_eq hbase)
  have hbvb : bx < base := by rw [hbase, hbx]; simp
  have hwb : w.heap.size + 1 < base := by rw [hbase]; simp
  have hwx : w.heap.size < bx := by omega
  have hwx2 : w.heap.size + 1 ≠ bx := by omega
  have HRB := Lib.hid hwb
  have hbs : w.heap.size ≤ base := by omega
  clear hbase
  simp only [show w.heap.size + 1 + 1 = w.heap.size + 2 from rfl]
  try rw [← hbx]
  clear hbx
  go_loopw [7] (fun iv wr => ∃ (k : Nat) (ao : Option Addr) (cap : Nat), k ≤ M ∧ iv = .int .i64 k ∧ Below w.heap.size w wr ∧ wr.heap[w.heap.size]? = some (.cells #[.int .i64 d.k, .string d.t, .slice la d.l.length d.lc, .int .i64 d.x.h, .string d.x.text, .slice d.xa d.x.kids.length d.xc, .int .u64 d.h] 48 (0, 0)) ∧ wr.heap[w.heap.size + 1]? = some (.cells #[.int .i64 0, .string ⟨#[]⟩, .slice none 0 0] 36 (0, 0)) ∧ wr.heap[bx]? = some (.cells #[.int .i64 (hSo L d.l k), .string ⟨#[]⟩, .slice ao k cap] 36 (0, 0)) ∧ OwnKs base wr (.slice ao k cap) k (innerKids L d.l k) ∧ base ≤ wr.heap.size) (fun iv _ => M - (intOf iv).toNat)
  case atStart => exact ⟨0, none, 0, Nat.zero_le _, rfl, HBW.out, HD0.out, HZ0.out, HX0.out, ⟨rfl, by simp [innerKids], World.ownsRow_nil _ _ _ _⟩, HSZU.out⟩
  case round =>
    obtain ⟨k, ao, cap, hkn, rfl, hbr, hdb, hzb, hx, hown, hszr⟩ := hrel
    by_cases b1 : k < d.l.length
    · have hk1 : (k : Int) < (d.l.length : Int) := by omega
      by_cases b2 : k < 5
      · have hk2 : (k : Int) < 5 := by omega
        by_cases b3 : 0 < L.length
        · have hk3 : (0 : Int) < (L.length : Int) := by omega
          obtain ⟨j, hj, hjm, hpk⟩ := pick_in b3 d.l[k]
          have hE := hpk hj
          obtain ⟨b, rfl, hbw, ⟨e0, e1, e2, e3⟩, hfz⟩ := HAT.out j hj
          have HKN := Lib.hid (HA.out.2 _ (List.getElem_mem hj))
          rw [← hE] at e0 e1 e2 e3 HKN
          obtain ⟨E, hEE⟩ : ∃ E, E = pickK L d.l[k] := ⟨_, rfl⟩
          rw [← hEE] at e0 e1 e2 e3 HKN
          have HEE := Lib.hid hEE
          obtain ⟨lb, lo, rfl, hlb, hlc⟩ := HD1.out.2 (by omega)
          have hlk := hlc k (.int .i64 d.l[k]) (by have := flatR_at fI_len d.l k 0 b1 (by decide); rw [Nat.mul_one, Nat.add_zero] at this; rw [this]; rfl)
          have hlk2 := (hbr.cell (p := ⟨lb, lo + k, none⟩) hlb).trans hlk
          have e0' := (hbr.cell (p := ⟨b, j * 4, none⟩) hbw).trans e0
          have e1' := (hbr.cell (p := ⟨b, j * 4 + 1, none⟩) hbw).trans e1
          have e2' := (hbr.cell (p := ⟨b, j * 4 + 2, none⟩) hbw).trans e2
          have e3' := (hbr.cell (p := ⟨b, j * 4 + 3, none⟩) hbw).trans e3
          have HMJ := Lib.hid (mod13_as d.l[k] L.length j b3 (by omega) hjm)
          have HNX := Lib.hid (innerKids_succ L d.l k b1)
          have HLN := Lib.hid (innerKids_len L d.l (k + 1) b1)
          have HRG := Lib.hid (innerKids_rng HA.out.2 b3 d.l (k + 1))
          rw [← hEE] at HNX
          have HX := Lib.hid hx
          have HZ := Lib.hid hzb
          have HDB := Lib.hid hdb
          have HOWN := Lib.hid hown
          have HBR := Lib.hid hbr
          have hj2 : (j : Int) < (L.length : Int) := by omega
          (have q0 := block_cell hdb 0; have q1 := block_cell hdb 1; have q2 := block_cell hdb 2; have q3 := block_cell hdb 3; have q4 := block_cell hdb 4; have q5 := block_cell hdb 5; have q6 := block_cell hdb 6; have f0 := block_free hdb 0; have f1 := block_free hdb 1; have f2 := block_free hdb 2; have f3 := block_free hdb 3; have f4 := block_free hdb 4; have f5 := block_free hdb 5; have f6 := block_free hdb 6; have hz := block_lt hdb; simp at q0 q1 q2 q3 q4 q5 q6)
          clear hx hzb hown hbr hdb hE hEE hpk hjm e0 e1 e2 e3 hlc hlk hfz
          have HSO := Lib.hid (show (k = 0 → hSo L d.l (k + 1) = E.x.h + 1) ∧ (k ≠ 0 → hSo L d.l (k + 1) = hSo L d.l k) from ⟨fun hk => by
            subst hk
            have e : d.l.getD 0 0 = d.l[0] := by rw [List.getD_eq_getElem?_getD, List.getElem?_eq_getElem b1]; rfl
            unfold hSo
            rw [if_neg (by decide), e, HEE.out], fun hk => by
            unfold hSo
            rw [if_neg (by omega), if_neg hk]⟩)
          have hEh := ck_h HKN.out.2.1
          generalize d.l[k] = dk at *
          go_wp2_with fail
          refine (HMJ.out _).mono ?_; rintro e w1 ⟨rfl, rfl⟩
          clear HMJ q0 q1 q2 q3 q4 q5 q6 f0 f1 f2 f3 f4 f5 f6 hz
          go_wp2_with fail
          have hb3 := (Below.refl wr.heap.size wr).alloc (Nat.le_refl _) (.cells #[.int .u64 E.h, .int .i64 E.x.h, .string E.x.text, .slice E.a E.x.kids.length E.c] 50)
          have HB3 := Lib.hid hb3
          refine (refMeasure_any E.x E.a E.x.kids.length E.c _ ((HKN.out.1.1.later HBR.out).later hb3)).mono ?_; rintro e w2 ⟨rfl, hb⟩
          have hkn2 := block_below hb (block_new wr (.cells #[.int .u64 E.h, .int .i64 E.x.h, .string E.x.text, .slice E.a E.x.kids.length E.c] 50)) (by simp)
          have hx2 := block_below hb (block_alloc HX.out (.cells #[.int .u64 E.h, .int .i64 E.x.h, .string E.x.text, .slice E.a E.x.kids.length E.c] 50)) (by have := block_lt HX.out; simp; omega)
          have HX2 := Lib.hid hx2
          have HZ2 := Lib.hid (block_below hb (block_alloc HZ.out (.cells #[.int .u64 E.h, .int .i64 E.x.h, .string E.x.text, .slice E.a E.x.kids.length E.c] 50)) (by have := block_lt HZ.out; simp; omega))
          have HD2 := Lib.hid (block_below hb (block_alloc HDB.out (.cells #[.int .u64 E.h, .int .i64 E.x.h, .string E.x.text, .slice E.a E.x.kids.length E.c] 50)) (by have := block_lt HDB.out; simp; omega))
          have HO2 := Lib.hid ((HOWN.out.later hb3).later hb)
          have HB2 := Lib.hid (((HBR.out).trans (hb3.mono HBR.out.size)).trans (hb.mono (by have := HBR.out.size; simp; omega)))
          have hsz2 := hb.size
          have hszw := HBR.out.size
          simp only [World.size_alloc] at hsz2
          clear hb hb3 HX HZ HDB HOWN HBR
          unfold aggM
          unfold kidOf at HNX
          generalize measN E.x = mm at *
          obtain ⟨m0, m1, m2⟩ := mm
          simp only
          (have q0 := block_cell hkn2 0; have q1 := block_cell hkn2 1; have q2 := block_cell hkn2 2; have q3 := block_cell hkn2 3; have f0 := block_free hkn2 0; have f1 := block_free hkn2 1; have f2 := block_free hkn2 2; have f3 := block_free hkn2 3; have hz := block_lt hkn2; simp at q0 q1 q2 q3)
          (have z0 := block_cell hx2 0; have z1 := block_cell hx2 1; have z2 := block_cell hx2 2; have g0 := block_free hx2 0; have g1 := block_free hx2 1; have g2 := block_free hx2 2; have hzz := block_lt hx2; simp at z0 z1 z2)
          clear hx2 hkn2
          by_cases hk0 : k = 0
          · have hk0i : ((k : Int) == 0) = true := by simp [hk0]
            have HSO1 := Lib.hid (HSO.out.1 hk0)
            clear hk0
            have HXW := Lib.hid (show (((w2.setCell ⟨bx, 0, none⟩ (.int .i64 (E.x.h + 1))).alloc (.cells #[.int .i64 m0, .int .i64 m1, .int .i64 m2] 62)).alloc (.cells #[.int .u64 E.h, .int .i64 m0, .int .i64 m1, .int .i64 m2] 64)).heap[bx]? = some (.cells #[.int .i64 (hSo L d.l (k + 1)), .string ⟨#[]⟩, .slice ao k cap] 36 (0, 0)) from by
              rw [HSO1.out]
              exact block_alloc (block_alloc (block_setCell HX2.out 0 (.int .i64 (E.x.h + 1))) (.cells #[.int .i64 m0, .int .i64 m1, .int .i64 m2] 62)) _)
            have HZW := Lib.hid (show (((w2.setCell ⟨bx, 0, none⟩ (.int .i64 (E.x.h + 1))).alloc (.cells #[.int .i64 m0, .int .i64 m1, .int .i64 m2] 62)).alloc (.cells #[.int .u64 E.h, .int .i64 m0, .int .i64 m1, .int .i64 m2] 64)).heap[w.heap.size + 1]? = some (.cells #[.int .i64 0, .string ⟨#[]⟩, .slice none 0 0] 36 (0, 0)) from block_alloc (block_alloc (block_setCell_other HZ2.out (p := ⟨bx, 0, none⟩) (by simp; omega) (.int .i64 (E.x.h + 1))) (.cells #[.int .i64 m0, .int .i64 m1, .int .i64 m2] 62)) _)
            have HDW := Lib.hid (show (((w2.setCell ⟨bx, 0, none⟩ (.int .i64 (E.x.h + 1))).alloc (.cells #[.int .i64 m0, .int .i64 m1, .int .i64 m2] 62)).alloc (.cells #[.int .u64 E.h, .int .i64 m0, .int .i64 m1, .int .i64 m2] 64)).heap[w.heap.size]? = some (.cells #[.int .i64 d.k, .string d.t, .slice (some ⟨lb, lo, none⟩) d.l.length d.lc, .int .i64 d.x.h, .string d.x.text, .slice d.xa d.x.kids.length d.xc, .int .u64 d.h] 48 (0, 0)) from block_alloc (block_alloc (block_setCell_other HD2.out (p := ⟨bx, 0, none⟩) (by simp; omega) (.int .i64 (E.x.h + 1))) (.cells #[.int .i64 m0, .int .i64 m1, .int .i64 m2] 62)) _)
            have HOW := Lib.hid (show OwnKs base (((w2.setCell ⟨bx, 0, none⟩ (.int .i64 (E.x.h + 1))).alloc (.cells #[.int .i64 m0, .int .i64 m1, .int .i64 m2] 62)).alloc (.cells #[.int .u64 E.h, .int .i64 m0, .int .i64 m1, .int .i64 m2] 64)) (.slice ao k cap) k (innerKids L d.l k) from OwnKs.grow ((HO2.out.setCell (a := ⟨bx, 0, none⟩) hbvb (.int .i64 (E.x.h + 1))).grow (.cells #[.int .i64 m0, .int .i64 m1, .int .i64 m2] 62)) _)
            have HBW2 := Lib.hid (show Below w.heap.size w (((w2.setCell ⟨bx, 0, none⟩ (.int .i64 (E.x.h + 1))).alloc (.cells #[.int .i64 m0, .int .i64 m1, .int .i64 m2] 62)).alloc (.cells #[.int .u64 E.h, .int .i64 m0, .int .i64 m1, .int .i64 m2] 64)) from ((HB2.out.setCell (p := ⟨bx, 0, none⟩) (by simp; omega) (.int .i64 (E.x.h + 1))).alloc (by simp; omega) (.cells #[.int .i64 m0, .int .i64 m1, .int .i64 m2] 62)).alloc (by simp; omega) _)
            have HN7 := Lib.hid (show (((w2.setCell ⟨bx, 0, none⟩ (.int .i64 (E.x.h + 1))).alloc (.cells #[.int .i64 m0, .int .i64 m1, .int .i64 m2] 62)).alloc (.cells #[.int .u64 E.h, .int .i64 m0, .int .i64 m1, .int .i64 m2] 64)).heap[w2.heap.size + 1]? = some (.cells #[.int .u64 E.h, .int .i64 m0, .int .i64 m1, .int .i64 m2] 64 (0, 0)) from block_new' ((w2.setCell ⟨bx, 0, none⟩ (.int .i64 (E.x.h + 1))).alloc (.cells #[.int .i64 m0, .int .i64 m1, .int .i64 m2] 62)) _ _ (by simp))
            have HLEN := Lib.hid (show (((w2.setCell ⟨bx, 0, none⟩ (.int .i64 (E.x.h + 1))).alloc (.cells #[.int .i64 m0, .int .i64 m1, .int .i64 m2] 62)).alloc (.cells #[.int .u64 E.h, .int .i64 m0, .int .i64 m1, .int .i64 m2] 64)).heap.size = w2.heap.size + 2 by simp)
            clear HX2 HZ2 HD2 HO2 HB2 HSO
            go_wp2_with (at_builtin; refine wpList_append_own _ rfl _ _ 34 rfl base 64 i0 (.agg #[.int .u64 0, .int .i64 0, .int .i64 0, .int .i64 0]) 4 32 Try.underlying34 hi hz0 hz1 hz2 rfl (by decide) _ k (flatR fK (innerKids L d.l k)) rfl HOW.out.2.2 ⟨w2.heap.size + 1, 0, none⟩ 1 _ (flatR fK [(E.h, m0, m1, m2)]) rfl rfl (slkA (k := (E.h, m0, m1, m2)) HN7.out) (fK_one _) ?c3 ?c4 ?c5 ?_)
            case c3 => have := HLEN.out; unfold maxLen; omega
            case c4 => have := HLEN.out; omega
            case c5 => have := HLEN.out; omega
            intro v' w3 hown1 hgrow _
            rw [← flatR_app, ← HNX.out] at hown1
            have hlow := HOW.out.2.2.lt
            have hok : OwnKs base w3 v' (k + 1) (innerKids L d.l (k + 1)) := ⟨HLN.out, HRG.out, hown1⟩
            obtain ⟨ao', cap', rfl, -⟩ := hok.ks
            have hl2 := HLEN.out
            have hx3 := (hgrow.block bx (by omega) (fun hj => by have := hlow _ hj.symm; omega)).trans HXW.out
            have HZ3 := Lib.hid ((hgrow.block (w.heap.size + 1) (by omega) (fun hj => by have := hlow _ hj.symm; omega)).trans HZW.out)
            have HD3 := Lib.hid ((hgrow.block w.heap.size (by omega) (fun hj => by have := hlow _ hj.symm; omega)).trans HDW.out)
            have HB3X := Lib.hid (HBW2.out.grown hgrow (by omega) (fun j hj => by have := hlow j hj; omega))
            have HX3 := Lib.hid hx3
            have HOK := Lib.hid hok
            have hs3 := hgrow.size
            rw [hl2] at hs3
            clear q0 q1 q2 q3 f0 f1 f2 f3 hz z0 z1 z2 g0 g1 g2 hzz hown1 hgrow hok HXW HZW HDW HOW HBW2 HN7 hlow HLEN hl2
            (have q0 := block_cell hx3 0; have q1 := block_cell hx3 1; have q2 := block_cell hx3 2; have f0 := block_free hx3 0; have f1 := block_free hx3 1; have f2 := block_free hx3 2; have hz := block_lt hx3; simp at q0 q1 q2)
            clear hx3
            go_wp2_with fail
            go_roundw
            case rel => exact ⟨k + 1, ao', cap', by omega, by go_num, HB3X.out.setCell (by simp; omega) _, block_setCell_other HD3.out (p := ⟨bx, 2, none⟩) (by simp; omega) _, block_setCell_other HZ3.out (p := ⟨bx, 2, none⟩) (by simp; omega) _, block_setCell HX3.out 2 _, HOK.out.setCell hbvb _, by simp; omega⟩
            case measure => simp [intOf]; omega
          · have hk0i : ((k : Int) == 0) = false := by simp; omega
            have HSO1 := Lib.hid (HSO.out.2 hk0)
            clear hk0
            have HXW := Lib.hid (show ((w2.alloc (.cells #[.int .i64 m0, .int .i64 m1, .int .i64 m2] 62)).alloc (.cells #[.int .u64 E.h, .int .i64 m0, .int .i64 m1, .int .i64 m2] 64)).heap[bx]? = some (.cells #[.int .i64 (hSo L d.l (k + 1)), .string ⟨#[]⟩, .slice ao k cap] 36 (0, 0)) from by
              rw [HSO1.out]
              exact block_alloc (block_alloc HX2.out (.cells #[.int .i64 m0, .int .i64 m1, .int .i64 m2] 62)) _)
            have HZW := Lib.hid (show ((w2.alloc (.cells #[.int .i64 m0, .int .i64 m1, .int .i64 m2] 62)).alloc (.cells #[.int .u64 E.h, .int .i64 m0, .int .i64 m1, .int .i64 m2] 64)).heap[w.heap.size + 1]? = some (.cells #[.int .i64 0, .string ⟨#[]⟩, .slice none 0 0] 36 (0, 0)) from block_alloc (block_alloc HZ2.out (.cells #[.int .i64 m0, .int .i64 m1, .int .i64 m2] 62)) _)
            have HDW := Lib.hid (show ((w2.alloc (.cells #[.int .i64 m0, .int .i64 m1, .int .i64 m2] 62)).alloc (.cells #[.int .u64 E.h, .int .i64 m0, .int .i64 m1, .int .i64 m2] 64)).heap[w.heap.size]? = some (.cells #[.int .i64 d.k, .string d.t, .slice (some ⟨lb, lo, none⟩) d.l.length d.lc, .int .i64 d.x.h, .string d.x.text, .slice d.xa d.x.kids.length d.xc, .int .u64 d.h] 48 (0, 0)) from block_alloc (block_alloc HD2.out (.cells #[.int .i64 m0, .int .i64 m1, .int .i64 m2] 62)) _)
            have HOW := Lib.hid (show OwnKs base ((w2.alloc (.cells #[.int .i64 m0, .int .i64 m1, .int .i64 m2] 62)).alloc (.cells #[.int .u64 E.h, .int .i64 m0, .int .i64 m1, .int .i64 m2] 64)) (.slice ao k cap) k (innerKids L d.l k) from OwnKs.grow (HO2.out.grow (.cells #[.int .i64 m0, .int .i64 m1, .int .i64 m2] 62)) _)
            have HBW2 := Lib.hid (show Below w.heap.size w ((w2.alloc (.cells #[.int .i64 m0, .int .i64 m1, .int .i64 m2] 62)).alloc (.cells #[.int .u64 E.h, .int .i64 m0, .int .i64 m1, .int .i64 m2] 64)) from (HB2.out.alloc (by omega) (.cells #[.int .i64 m0, .int .i64 m1, .int .i64 m2] 62)).alloc (by simp; omega) _)
            have HN7 := Lib.hid (show ((w2.alloc (.cells #[.int .i64 m0, .int .i64 m1, .int .i64 m2] 62)).alloc (.cells #[.int .u64 E.h, .int .i64 m0, .int .i64 m1, .int .i64 m2] 64)).heap[w2.heap.size + 1]? = some (.cells #[.int .u64 E.h, .int .i64 m0, .int .i64 m1, .int .i64 m2] 64 (0, 0)) from block_new' (w2.alloc (.cells #[.int .i64 m0, .int .i64 m1, .int .i64 m2] 62)) _ _ (by simp))
            have HLEN := Lib.hid (show ((w2.alloc (.cells #[.int .i64 m0, .int .i64 m1, .int .i64 m2] 62)).alloc (.cells #[.int .u64 E.h, .int .i64 m0, .int .i64 m1, .int .i64 m2] 64)).heap.size = w2.heap.size + 2 by simp)
            clear HX2 HZ2 HD2 HO2 HB2 HSO
            go_wp2_with (at_builtin; refine wpList_append_own _ rfl _ _ 34 rfl base 64 i0 (.agg #[.int .u64 0, .int .i64 0, .int .i64 0, .int .i64 0]) 4 32 Try.underlying34 hi hz0 hz1 hz2 rfl (by decide) _ k (flatR fK (innerKids L d.l k)) rfl HOW.out.2.2 ⟨w2.heap.size + 1, 0, none⟩ 1 _ (flatR fK [(E.h, m0, m1, m2)]) rfl rfl (slkA (k := (E.h, m0, m1, m2)) HN7.out) (fK_one _) ?c3 ?c4 ?c5 ?_)
            case c3 => have := HLEN.out; unfold maxLen; omega
            case c4 => have := HLEN.out; omega
            case c5 => have := HLEN.out; omega
            intro v' w3 hown1 hgrow _
            rw [← flatR_app, ← HNX.out] at hown1
            have hlow := HOW.out.2.2.lt
            have hok : OwnKs base w3 v' (k + 1) (innerKids L d.l (k + 1)) := ⟨HLN.out, HRG.out, hown1⟩
            obtain ⟨ao', cap', rfl, -⟩ := hok.ks
            have hl2 := HLEN.out
            have hx3 := (hgrow.block bx (by omega) (fun hj => by have := hlow _ hj.symm; omega)).trans HXW.out
            have HZ3 := Lib.hid ((hgrow.block (w.heap.size + 1) (by omega) (fun hj => by have := hlow _ hj.symm; omega)).trans HZW.out)
            have HD3 := Lib.hid ((hgrow.block w.heap.size (by omega) (fun hj => by have := hlow _ hj.symm; omega)).trans HDW.out)
            have HB3X := Lib.hid (HBW2.out.grown hgrow (by omega) (fun j hj => by have := hlow j hj; omega))
            have HX3 := Lib.hid hx3
            have HOK := Lib.hid hok
            have hs3 := hgrow.size
            rw [hl2] at hs3
            clear q0 q1 q2 q3 f0 f1 f2 f3 hz z0 z1 z2 g0 g1 g2 hzz hown1 hgrow hok HXW HZW HDW HOW HBW2 HN7 hlow HLEN hl2
            (have q0 := block_cell hx3 0; have q1 := block_cell hx3 1; have q2 := block_cell hx3 2; have f0 := block_free hx3 0; have f1 := block_free hx3 1; have f2 := block_free hx3 2; have hz := block_lt hx3; simp at q0 q1 q2)
            clear hx3
            go_wp2_with fail
            go_roundw
            case rel => exact ⟨k + 1, ao', cap', by omega, by go_num, HB3X.out.setCell (by simp; omega) _, block_setCell_other HD3.out (p := ⟨bx, 2, none⟩) (by simp; omega) _, block_setCell_other HZ3.out (p := ⟨bx, 2, none⟩) (by simp; omega) _, block_setCell HX3.out 2 _, HOK.out.setCell hbvb _, by simp; omega⟩
            case measure => simp [intOf]; omega
        · have hM3 : k = M := by omega
          have hk3 : ¬ (0 : Int) < (L.length : Int) := by omega
          have HTM := Lib.hid hM3
          have HRX := Lib.hid (show nodeD L d = some ⟨hSo L d.l k, ⟨#[]⟩, innerKids L d.l k⟩ by rw [HR.out, ← hM3])
          clear hM3
          (have q0 := block_cell hdb 0; have q1 := block_cell hdb 1; have q2 := block_cell hdb 2; have q3 := block_cell hdb 3; have q4 := block_cell hdb 4; have q5 := block_cell hdb 5; have q6 := block_cell hdb 6; have f0 := block_free hdb 0; have f1 := block_free hdb 1; have f2 := block_free hdb 2; have f3 := block_free hdb 3; have f4 := block_free hdb 4; have f5 := block_free hdb 5; have f6 := block_free hdb 6; have hz := block_lt hdb; simp at q0 q1 q2 q3 q4 q5 q6)
          (have q0 := block_cell hx 0; have q1 := block_cell hx 1; have q2 := block_cell hx 2; have f0 := block_free hx 0; have f1 := block_free hx 1; have f2 := block_free hx 2; have hz := block_lt hx; simp at q0 q1 q2)
          have HZ := Lib.hid hzb
          have HBR := Lib.hid hbr
          have HOWN := Lib.hid hown
          have HZC := Lib.hid hzb
          (have z0 := block_cell hzb 0; have z1 := block_cell hzb 1; have z2 := block_cell hzb 2; have g0 := block_free hzb 0; have g1 := block_free hzb 1; have g2 := block_free hzb 2; have hzz := block_lt hzb; simp at z0 z1 z2)
          clear hx hzb hbr hown hdb
          go_wp2_with fail
          have hb0 := block_setCell (block_setCell (block_setCell HZ.out 0 (.int .i64 (hSo L d.l k))) 1 (.string ⟨#[]⟩)) 2 (.slice ao k cap)
          have hbl := ((HBR.out.setCell (p := ⟨w.heap.size + 1, 0, none⟩) (by simp) (.int .i64 (hSo L d.l k))).setCell (p := ⟨w.heap.size + 1, 1, none⟩) (by simp) (.string ⟨#[]⟩)).setCell (p := ⟨w.heap.size + 1, 2, none⟩) (by simp) (.slice ao k cap)
          have ho := ((HOWN.out.setCell (a := ⟨w.heap.size + 1, 0, none⟩) HRB.out (.int .i64 (hSo L d.l k))).setCell (a := ⟨w.heap.size + 1, 1, none⟩) HRB.out (.string ⟨#[]⟩)).setCell (a := ⟨w.heap.size + 1, 2, none⟩) HRB.out (.slice ao k cap)
          exact bodyPost_ret (res3_tmp Try.results24 (Try.isAgg36 _) (Try.sizeOf36 _) rfl hb0) rfl (by
            rw [HRX.out]
            obtain ⟨ao', c', e, hok⟩ := ho.ok (b0 := b0)
            cases e
            have hkk : (innerKids L d.l k).length = k := HOWN.out.1
            refine ⟨ao, cap, ?_, ?_, hbl⟩
            · show _ = Ending.returned (.tuple #[aggN _ _ _ (innerKids L d.l k).length _, _])
              rw [hkk]
              rfl
            · show KsOK _ _ _ (innerKids L d.l k).length _ _
              rw [hkk]
              exact hok)
      · have hM3 : k = M := by omega
        have hk2 : (5 : Int) ≤ (k : Int) := by omega
        have HTM := Lib.hid hM3
        have HRX := Lib.hid (show nodeD L d = some ⟨hSo L d.l k, ⟨#[]⟩, innerKids L d.l k⟩ by rw [HR.out, ← hM3])
        clear hM3
        (have q0 := block_cell hdb 0; have q1 := block_cell hdb 1; have q2 := block_cell hdb 2; have q3 := block_cell hdb 3; have q4 := block_cell hdb 4; have q5 := block_cell hdb 5; have q6 := block_cell hdb 6; have f0 := block_free hdb 0; have f1 := block_free hdb 1; have f2 := block_free hdb 2; have f3 := block_free hdb 3; have f4 := block_free hdb 4; have f5 := block_free hdb 5; have f6 := block_free hdb 6; have hz := block_lt hdb; simp at q0 q1 q2 q3 q4 q5 q6)
        (have q0 := block_cell hx 0; have q1 := block_cell hx 1; have q2 := block_cell hx 2; have f0 := block_free hx 0; have f1 := block_free hx 1; have f2 := block_free hx 2; have hz := block_lt hx; simp at q0 q1 q2)
        have HZ := Lib.hid hzb
        have HBR := Lib.hid hbr
        have HOWN := Lib.hid hown
        have HZC := Lib.hid hzb
        (have z0 := block_cell hzb 0; have z1 := block_cell hzb 1; have z2 := block_cell hzb 2; have g0 := block_free hzb 0; have g1 := block_free hzb 1; have g2 := block_free hzb 2; have hzz := block_lt hzb; simp at z0 z1 z2)
        clear hx hzb hbr hown hdb
        go_wp2_with fail
        have hb0 := block_setCell (block_setCell (block_setCell HZ.out 0 (.int .i64 (hSo L d.l k))) 1 (.string ⟨#[]⟩)) 2 (.slice ao k cap)
        have hbl := ((HBR.out.setCell (p := ⟨w.heap.size + 1, 0, none⟩) (by simp) (.int .i64 (hSo L d.l k))).setCell (p := ⟨w.heap.size + 1, 1, none⟩) (by simp) (.string ⟨#[]⟩)).setCell (p := ⟨w.heap.size + 1, 2, none⟩) (by simp) (.slice ao k cap)
        have ho := ((HOWN.out.setCell (a := ⟨w.heap.size + 1, 0, none⟩) HRB.out (.int .i64 (hSo L d.l k))).setCell (a := ⟨w.heap.size + 1, 1, none⟩) HRB.out (.string ⟨#[]⟩)).setCell (a := ⟨w.heap.size + 1, 2, none⟩) HRB.out (.slice ao k cap)
        exact bodyPost_ret (res3_tmp Try.results24 (Try.isAgg36 _) (Try.sizeOf36 _) rfl hb0) rfl (by
          rw [HRX.out]
          obtain ⟨ao', c', e, hok⟩ := ho.ok (b0 := b0)
          cases e
          have hkk : (innerKids L d.l k).length = k := HOWN.out.1
          refine ⟨ao, cap, ?_, ?_, hbl⟩
          · show _ = Ending.returned (.tuple #[aggN _ _ _ (innerKids L d.l k).length _, _])
            rw [hkk]
            rfl
          · show KsOK _ _ _ (innerKids L d.l k).length _ _
            rw [hkk]
            exact hok)
    · have hM3 : k = M := by omega
      have hk1 : (d.l.length : Int) ≤ (k : Int) := by omega
      have HTM := Lib.hid hM3
      have HRX := Lib.hid (show nodeD L d = some ⟨hSo L d.l k, ⟨#[]⟩, innerKids L d.l k⟩ by rw [HR.out, ← hM3])
      clear hM3
      (have q0 := block_cell hdb 0; have q1 := block_cell hdb 1; have q2 := block_cell hdb 2; have q3 := block_cell hdb 3; have q4 := block_cell hdb 4; have q5 := block_cell hdb 5; have q6 := block_cell hdb 6; have f0 := block_free hdb 0; have f1 := block_free hdb 1; have f2 := block_free hdb 2; have f3 := block_free hdb 3; have f4 := block_free hdb 4; have f5 := block_free hdb 5; have f6 := block_free hdb 6; have hz := block_lt hdb; simp at q0 q1 q2 q3 q4 q5 q6)
      (have q0 := block_cell hx 0; have q1 := block_cell hx 1; have q2 := block_cell hx 2; have f0 := block_free hx 0; have f1 := block_free hx 1; have f2 := block_free hx 2; have hz := block_lt hx; simp at q0 q1 q2)
      have HZ := Lib.hid hzb
      have HBR := Lib.hid hbr
      have HOWN := Lib.hid hown
      have HZC := Lib.hid hzb
      (have z0 := block_cell hzb 0; have z1 := block_cell hzb 1; have z2 := block_cell hzb 2; have g0 := block_free hzb 0; have g1 := block_free hzb 1; have g2 := block_free hzb 2; have hzz := block_lt hzb; simp at z0 z1 z2)
      clear hx hzb hbr hown hdb
      go_wp2_with fail
      have hb0 := block_setCell (block_setCell (block_setCell HZ.out 0 (.int .i64 (hSo L d.l k))) 1 (.string ⟨#[]⟩)) 2 (.slice ao k cap)
      have hbl := ((HBR.out.setCell (p := ⟨w.heap.size + 1, 0, none⟩) (by simp) (.int .i64 (hSo L d.l k))).setCell (p := ⟨w.heap.size + 1, 1, none⟩) (by simp) (.string ⟨#[]⟩)).setCell (p := ⟨w.heap.size + 1, 2, none⟩) (by simp) (.slice ao k cap)
      have ho := ((HOWN.out.setCell (a := ⟨w.heap.size + 1, 0, none⟩) HRB.out (.int .i64 (hSo L d.l k))).setCell (a := ⟨w.heap.size + 1, 1, none⟩) HRB.out (.string ⟨#[]⟩)).setCell (a := ⟨w.heap.size + 1, 2, none⟩) HRB.out (.slice ao k cap)
      exact bodyPost_ret (res3_tmp Try.results24 (Try.isAgg36 _) (Try.sizeOf36 _) rfl hb0) rfl (by
        rw [HRX.out]
        obtain ⟨ao', c', e, hok⟩ := ho.ok (b0 := b0)
        cases e
        have hkk : (innerKids L d.l k).length = k := HOWN.out.1
        refine ⟨ao, cap, ?_, ?_, hbl⟩
        · show _ = Ending.returned (.tuple #[aggN _ _ _ (innerKids L d.l k).length _, _])
          rw [hkk]
          rfl
        · show KsOK _ _ _ (innerKids L d.l k).length _ _
          rw [hkk]
          exact hok)
end Go.Proofs.Ytfgkbnnojogjpaa
