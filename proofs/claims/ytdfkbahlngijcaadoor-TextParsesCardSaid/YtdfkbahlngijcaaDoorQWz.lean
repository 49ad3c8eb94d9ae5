/- Text: Parse of the reference: its walk (printed by gen/genw_z.py). (printed by slim.py.) -/
import Derived.Test.YtdfkbahlngijcaaDoorQKj
import Derived.Test.YtdfkbahlngijcaaDoorQWm
import Derived.Test.YtdfkbahlngijcaaDoorQWt
import Derived.Test.YtdfkbahlngijcaaDoorQWx
import Derived.Test.YtdfkbahlngijcaaDoorQWy
namespace Go.Proofs.YtdfkbahlngijcaaDoor
open Go.RowKit
set_option linter.unusedVariables false

/-- one line, whatever it is -/
theorem line_any (B bR : Nat) (x : Rd) (n : Nat) (row : List UInt8) (w : World) (hB : B ≤ w.heap.size) (h : RnS B bR x n w) (hl : row.length ≤ 1000000) (h0 : n = 0 → x = zeroRd) (hN : x.ss.length ≤ 1000000) (hop : ∀ l ∈ x.ss, l.length ≤ 1000000) (hp : x.ps.length ≤ 65535) :
    Calls Tryd.prog 49 #[.pointer (some ⟨bR, 0, none⟩), .string ⟨row.toArray⟩] w (LinePost B bR x n row w) := by
  rcases Nat.eq_zero_or_pos n with rfl | hn
  · obtain rfl := h0 rfl
    exact line_first B bR row w hB h hl
  · by_cases h1 : (splitW row).getD 0 [] = clientN
    · exact line_client_any B bR x n row w hB h hl hn hN h1
    · by_cases h2 : (splitW row).getD 0 [] = pickN
      · exact line_pick_any B bR x n row w hB h hl hn hp h2
      · exact line_op_any B bR x n row w hB h hl hn hN hop h1 h2
theorem res10t {P : Program} {fn : Func} {p q r : Tmp} {t1 : TypeId} (hr : fn.results = #[.cell p t1, .tmp q, .tmp r]) {tmps : Array Value} {W : World} {b : Nat} {x0 x1 x2 x3 x4 x5 x6 x7 x8 x9 k e : Value} {T : TypeId} {fr : Nat × Nat}
    (hg : (isAgg t1).run P W = .ok true W) (hs : (sizeOf t1).run P W = .ok 10 W) (ht : tmps.getD p undef = .pointer (some ⟨b, 0, none⟩)) (hq : tmps.getD q undef = k) (hr2 : tmps.getD r undef = e)
    (hb : W.heap[b]? = some (.cells #[x0, x1, x2, x3, x4, x5, x6, x7, x8, x9] T fr)) : (results fn tmps).run P W = .ok (.tuple #[.agg #[x0, x1, x2, x3, x4, x5, x6, x7, x8, x9], k, e]) W := by
  have h0 : W.cell? ⟨b, 0, none⟩ = some x0 := block_cell hb 0
  have h1 : W.cell? ⟨b, 1, none⟩ = some x1 := block_cell hb 1
  have h2 : W.cell? ⟨b, 2, none⟩ = some x2 := block_cell hb 2
  have h3 : W.cell? ⟨b, 3, none⟩ = some x3 := block_cell hb 3
  have h4 : W.cell? ⟨b, 4, none⟩ = some x4 := block_cell hb 4
  have h5 : W.cell? ⟨b, 5, none⟩ = some x5 := block_cell hb 5
  have h6 : W.cell? ⟨b, 6, none⟩ = some x6 := block_cell hb 6
  have h7 : W.cell? ⟨b, 7, none⟩ = some x7 := block_cell hb 7
  have h8 : W.cell? ⟨b, 8, none⟩ = some x8 := block_cell hb 8
  have h9 : W.cell? ⟨b, 9, none⟩ = some x9 := block_cell hb 9
  have ht' : tmps[p]?.getD undef = .pointer (some ⟨b, 0, none⟩) := by simpa using ht
  have hq' : tmps[q]?.getD undef = k := by simpa using hq
  have hr' : tmps[r]?.getD undef = e := by simpa using hr2
  simp only [results, hr]
  simp [ht', hq', hr', hg, hs, h0, h1, h2, h3, h4, h5, h6, h7, h8, h9, go_sem]
theorem wpList_store10 {P : Program} {ops : Array Oper} {rest : List Oper} {op : Oper} {a : Act} {w : World} {Q : Exit → Act → World → Prop} (hgd : op.guard = none) (ty : TypeId) (x y : Operand) (ho : op.op = .store ty x y) (b : Nat) (l : List Value) (hx : a.eval x = .pointer (some ⟨b, 0, none⟩)) (hy : a.eval y = .agg l.toArray)
    (ht : w.there b 0 l.toArray.size) (hi : (P.info? ty).map (·.size) = some l.toArray.size) (h1 : l.toArray.all (·.oneCell') = true) (h : wpList P ops Q rest (a.put op.dst undef) (w.setCells b 0 l)) : wpList P ops Q (op :: rest) a w :=
  wpList_store_mid hgd ty x y ho b 0 l.toArray hx hy ht hi h1 (by rw [List.toList_toArray]; exact h)
/-- what the loop keeps -/
structure RLoop (l : List UInt8) (b0 : Nat) (w2 : World) (x : Rd) (n i from_ : Nat) (W : World) : Prop where
  fold : foldP zeroRd 0 (segs l) = foldP x n (segs (l.drop from_))
  no10 : ∀ j (hj : j < l.length), from_ ≤ j → j < i → l[j] ≠ 10
  rd : RnS (b0 + 2) (b0 + 1) x n W
  kept : KeptR (b0 + 2) (b0 + 1) w2 W
  size : b0 + 2 ≤ W.heap.size
  lim : RdLim x n
  cnt : n ≤ from_
  zero : n = 0 → x = zeroRd ∧ from_ = 0
  le : from_ ≤ i
theorem piece_len {l : List UInt8} {a b : Nat} (hb : b ≤ l.length) : (pieceL l a b).length = b - a := by
  unfold pieceL
  rw [List.length_drop, List.length_take]
  omega
theorem piece_no10 {l : List UInt8} {a b : Nat} (h : ∀ j (hj : j < l.length), a ≤ j → j < b → l[j] ≠ 10) : ∀ c ∈ pieceL l a b, c ≠ 10 := by
  intro c hc
  unfold pieceL at hc
  obtain ⟨j, hj, rfl⟩ := List.getElem_of_mem hc
  rw [List.length_drop, List.length_take] at hj
  rw [List.getElem_drop, List.getElem_take]
  exact h (a + j) (by omega) (by omega) (by omega)
theorem drop_piece {l : List UInt8} {a b : Nat} (hab : a ≤ b) (hb : b < l.length) : l.drop a = pieceL l a b ++ l[b] :: l.drop (b + 1) := by
  unfold pieceL
  have h1 : l = l.take b ++ l[b] :: l.drop (b + 1) := by rw [← List.drop_eq_getElem_cons hb, List.take_append_drop]
  conv => lhs; rw [h1]
  rw [List.drop_append_of_le_length (by rw [List.length_take]; omega)]
theorem lim_step {x y : Rd} {n : Nat} {row : List UInt8} (h : RdLim x n) (hs : stepR x n row = some y) : RdLim y (n + 1) := by
  unfold stepR at hs
  split at hs
  · rw [Option.map_eq_some_iff] at hs
    obtain ⟨c, -, rfl⟩ := hs
    exact lim_cfg h c
  · rcases lineP_some hs with hs | hs | hs
    · exact lim_client h hs
    · exact lim_op h hs
    · exact lim_pick h hs
theorem fold_row {l : List UInt8} {b0 : Nat} {w2 W : World} {x : Rd} {n i a : Nat} (h : RLoop l b0 w2 x n i a W) (hi : i < l.length) (h10 : l[i] = 10) : foldP zeroRd 0 (segs l) = match stepR x n (pieceL l a i) with
    | some y => foldP y (n + 1) (segs (l.drop (i + 1)))
    | none => (x, n + 1, false) := by
  rw [h.fold, drop_piece h.le hi, h10, fold_line _ _ _ _ (piece_no10 h.no10)]
  rfl
theorem segs_last : ∀ l : List UInt8, (∀ c ∈ l, c ≠ 10) → segs l = [l]
  | [], _ => rfl
  | c :: l, h => by rw [segs_cons, if_neg (h c (List.mem_cons_self ..)), segs_last l fun d hd => h d (List.mem_cons_of_mem _ hd)]
theorem fold_tail {l : List UInt8} {b0 : Nat} {w2 W : World} {x : Rd} {n i a : Nat} (h : RLoop l b0 w2 x n i a W) (hi : i = l.length) : (a < l.length → foldP zeroRd 0 (segs l) = (x, n + 1, false)) ∧ (a = l.length → foldP zeroRd 0 (segs l) = (x, n, true)) := by
  have hno : ∀ c ∈ l.drop a, c ≠ 10 := by
    intro c hc
    obtain ⟨j, hj, rfl⟩ := List.getElem_of_mem hc
    rw [List.length_drop] at hj
    rw [List.getElem_drop]
    exact h.no10 (a + j) (by omega) (by omega) (by omega)
  rw [h.fold, segs_last _ hno]
  refine ⟨fun ha => ?_, fun ha => ?_⟩
  · have hne : l.drop a ≠ [] := fun e => by have := congrArg List.length e; rw [List.length_drop, List.length_nil] at this; omega
    have hst : stepP x n (l.drop a) = none := by
      unfold stepP
      rw [if_neg]
      intro e
      exact hno 10 (List.mem_of_getLast? e) rfl
    show (if l.drop a = [] then _ else match stepP x n (l.drop a) with | some y => foldP y (n + 1) [] | none => (x, n + 1, false)) = _
    rw [if_neg hne, hst]
  · rw [List.drop_of_length_le (by omega)]
    rfl
set_option maxRecDepth 100000 in
set_option maxHeartbeats 16000000 in
theorem refParse_long (S : ByteArray) (w : World) (h1 : 65536 < S.size) : Calls Tryd.prog 19 #[.string S] w (ParsePost S w) := by
  have hd : decide ((65536 : Int) < (S.size : Int)) = true := decide_eq_true (by omega)
  have HP := Lib.hid (fun (w' : World) (hb : Below w.heap.size w w') => parse_zero (S := S) (k := 0) (er := 5) hb (by unfold prsR; rw [if_pos (by rw [Array.length_toList]; exact h1)]))
  generalize ParsePost S w = PP at *
  go_enter Tryd.func19, Tryd.ntmps19
  go_wp2_with fail
  exact bodyPost_ret (res10t Tryd.results19 (Tryd.isAgg42 _) (Tryd.sizeOf42 _) rfl rfl rfl (block_new w _)) rfl (HP.out _ ((Below.refl _ _).alloc (Nat.le_refl _) _))
theorem kept_low {B b0 bR : Nat} {w w2 W : World} (hB : b0 ≤ B) (hR : b0 ≤ bR) (h : Below b0 w w2) (k : KeptR B bR w2 W) : Below b0 w W :=
  ⟨k.os.trans h.os, k.tape.trans h.tape, k.output.trans h.output, Nat.le_trans h.size k.size, fun j hj => (k.block j (by omega) (by omega)).trans (h.block j hj)⟩
set_option maxRecDepth 100000 in
set_option maxHeartbeats 16000000 in
theorem refParse_go (S : ByteArray) (w : World) (h1 : S.size ≤ 65536) : Calls Tryd.prog 19 #[.string S] w (ParsePost S w) := by
  have hd : decide ((65536 : Int) < (S.size : Int)) = false := decide_eq_false (by omega)
  have hlen : S.data.toList.length = S.size := Array.length_toList ..
  have HLN := Lib.hid hlen
  have HSX := Lib.hid (fun a b => extract_piece S a b)
  have HAT := Lib.hid (fun i (h : i < S.size) (h2 : i < S.data.toList.length) => list_at S h h2)
  have HPR := Lib.hid (show prsR S.data.toList = if S.data.toList = [] then (zeroRd, 1, 4) else match foldP zeroRd 0 (segs S.data.toList) with
    | (x, n, true) => if scE x.c (x.ss.map pgOf) x.ps = 0 then (x, 0, 0) else (zeroRd, 0, scE x.c (x.ss.map pgOf) x.ps)
    | (_, n, false) => (zeroRd, n, 4) by unfold prsR; rw [if_neg (by rw [hlen]; omega)]; rfl)
  have HP := Lib.hid (fun (w' : World) (k : Nat) (er : Int) (hb : Below w.heap.size w w') (h : prsR S.data.toList = (zeroRd, k, er)) => parse_zero (S := S) hb h)
  have HPF := Lib.hid (show ∀ e w', ParsePost S w e w' → ParsePost S w e w' from fun _ _ h => h)
  clear hlen
  have HB2 := Lib.hid (show Below w.heap.size w ((w.alloc (.cells #[.int .i64 0, .int .u64 0, .int .i64 0, .int .i64 0, .int .i64 0, .int .i64 0, .int .i64 0, .string ⟨#[]⟩, .slice none 0 0, .slice none 0 0] 42 (0, 0))).alloc (.cells #[.int .i64 0, .int .u64 0, .int .i64 0, .int .i64 0, .int .i64 0, .int .i64 0, .int .i64 0, .string ⟨#[]⟩, .slice none 0 0, .slice none 0 0, .int .i64 0, .int .i64 0] 96 (0, 0))) from ((Below.refl _ _).alloc (Nat.le_refl _) _).alloc (by simp) _)
  have HX2 := Lib.hid (show ((w.alloc (.cells #[.int .i64 0, .int .u64 0, .int .i64 0, .int .i64 0, .int .i64 0, .int .i64 0, .int .i64 0, .string ⟨#[]⟩, .slice none 0 0, .slice none 0 0] 42 (0, 0))).alloc (.cells #[.int .i64 0, .int .u64 0, .int .i64 0, .int .i64 0, .int .i64 0, .int .i64 0, .int .i64 0, .string ⟨#[]⟩, .slice none 0 0, .slice none 0 0, .int .i64 0, .int .i64 0] 96 (0, 0))).heap[w.heap.size]? = some (.cells zCf 42 (0, 0)) from at_old (at_new rfl))
  have HR2 := Lib.hid (show ((w.alloc (.cells #[.int .i64 0, .int .u64 0, .int .i64 0, .int .i64 0, .int .i64 0, .int .i64 0, .int .i64 0, .string ⟨#[]⟩, .slice none 0 0, .slice none 0 0] 42 (0, 0))).alloc (.cells #[.int .i64 0, .int .u64 0, .int .i64 0, .int .i64 0, .int .i64 0, .int .i64 0, .int .i64 0, .string ⟨#[]⟩, .slice none 0 0, .slice none 0 0, .int .i64 0, .int .i64 0] 96 (0, 0))).heap[w.heap.size + 1]? = some (.cells (rdC zeroC (.slice none 0 0) (.slice none 0 0) 0 0) 96 (0, 0)) from at_new (by simp))
  have hz2 : ((w.alloc (.cells #[.int .i64 0, .int .u64 0, .int .i64 0, .int .i64 0, .int .i64 0, .int .i64 0, .int .i64 0, .string ⟨#[]⟩, .slice none 0 0, .slice none 0 0] 42 (0, 0))).alloc (.cells #[.int .i64 0, .int .u64 0, .int .i64 0, .int .i64 0, .int .i64 0, .int .i64 0, .int .i64 0, .string ⟨#[]⟩, .slice none 0 0, .slice none 0 0, .int .i64 0, .int .i64 0] 96 (0, 0))).heap.size = w.heap.size + 2 := by simp
  go_enter Tryd.func19, Tryd.ntmps19
  go_wp2_with fail
  generalize (w.alloc (.cells #[.int .i64 0, .int .u64 0, .int .i64 0, .int .i64 0, .int .i64 0, .int .i64 0, .int .i64 0, .string ⟨#[]⟩, .slice none 0 0, .slice none 0 0] 42 (0, 0))).alloc (.cells #[.int .i64 0, .int .u64 0, .int .i64 0, .int .i64 0, .int .i64 0, .int .i64 0, .int .i64 0, .string ⟨#[]⟩, .slice none 0 0, .slice none 0 0, .int .i64 0, .int .i64 0] 96 (0, 0)) = w2 at *
  have HZ2 := Lib.hid hz2
  have HR0 := Lib.hid (show RLoop S.data.toList w.heap.size w2 zeroRd 0 0 0 w2 from ⟨rfl, fun j _ _ h => absurd h (Nat.not_lt_zero _), ⟨.slice none 0 0, .slice none 0 0, [], ⟨HR2.out, ⟨rfl, .inl ⟨rfl, rfl⟩⟩, ⟨rfl, .inl ⟨rfl, rfl⟩⟩, fun s hs => (by cases hs), List.Pairwise.nil⟩, rfl⟩, KeptR.refl _ _ _, by rw [HZ2.out]; exact Nat.le_refl _, ⟨Nat.le_refl _, fun l hl => (by cases hl), Nat.zero_le _⟩, Nat.le_refl _, fun _ => ⟨rfl, rfl⟩, Nat.le_refl _⟩)
  clear hz2
  go_loopw [6, 7, 8] (fun s6 s7 s8 wr => ∃ (n a i : Nat) (x : Rd), i ≤ S.size ∧ s8 = .int .i64 i ∧ s7 = .int .i64 a ∧ s6 = .int .i64 n ∧ RLoop S.data.toList w.heap.size w2 x n i a wr) (fun _ _ s8 _ => S.size - (intOf s8).toNat)
  case atStart => exact ⟨0, 0, 0, zeroRd, Nat.zero_le _, rfl, rfl, rfl, HR0.out⟩
  case round =>
    obtain ⟨n, a, i, x, hi, rfl, rfl, rfl, hL⟩ := hrel
    have HL := Lib.hid hL
    have hai : a ≤ i := hL.le
    have hna : n ≤ a := hL.cnt
    have HBW := Lib.hid (kept_low (show w.heap.size ≤ w.heap.size + 2 by omega) (show w.heap.size ≤ w.heap.size + 1 by omega) HB2.out hL.kept)
    have HXW := Lib.hid ((hL.kept.block w.heap.size (by omega) (by omega)).trans HX2.out)
    clear hL HR0
    by_cases hlt : i < S.size
    · have hil : (i : Int) < (S.size : Int) := by omega
      have hi0 : (0 : Int) ≤ (i : Int) := by omega
      have ha0 : (0 : Int) ≤ (a : Int) := by omega
      have hai1 : (a : Int) ≤ (i : Int) := by omega
      have hbig : ¬ (9223372036854775807 < i) := by omega
      have hbig1 : ¬ (9223372036854775807 < i + 1) := by omega
      have hc8 := u8lt S[i]
      have HII := Lib.hid (show i < S.data.toList.length by rw [HLN.out]; exact hlt)
      have hwi : IntKind.i64.wrap ((i : Int) + 1) = (i : Int) + 1 := by rw [IntKind.wrap_i64]; omega
      have hwn : IntKind.i64.wrap ((n : Int) + 1) = (n : Int) + 1 := by rw [IntKind.wrap_i64]; omega
      by_cases h10 : S[i] = 10
      · have hb : ((S[i].toNat : Int) == 10) = true := by rw [h10]; rfl
        have hb1 : ((S[i].toNat : Int) != 10) = false := by rw [h10]; rfl
        have HF := Lib.hid (fold_row HL.out HII.out (by rw [HAT.out i hlt HII.out]; exact h10))
        have HLI := Lib.hid (show Calls Tryd.prog 49 #[.pointer (some ⟨w.heap.size + 1, 0, none⟩), .string (S.extract a i)] wr (LinePost (w.heap.size + 2) (w.heap.size + 1) x n (pieceL S.data.toList a i) wr) from by
          rw [HSX.out]
          have h5 := HL.out.lim
          exact line_any _ _ x n _ wr HL.out.size HL.out.rd (by rw [piece_len (by rw [HLN.out]; omega)]; omega) (fun h => (HL.out.zero h).1) (by have := h5.ss; omega) (fun l hl => by have := h5.ops l hl; omega) h5.ps)
        clear h10
        go_wp2_with fail
        refine (HLI.out).mono ?_; rintro e3 w3 ⟨hk3, (⟨y, hst, rfl, hr3⟩ | ⟨hst, rfl⟩)⟩
        · have HN := Lib.hid (show RLoop S.data.toList w.heap.size w2 y (n + 1) (i + 1) (i + 1) w3 from ⟨by rw [HF.out, hst], fun j _ h1 h2 => absurd h2 (by omega), hr3, HL.out.kept.trans hk3, Nat.le_trans HL.out.size hk3.size, lim_step HL.out.lim hst, by omega, fun h => absurd h (by omega), Nat.le_refl _⟩)
          clear hk3 hst hr3 HLI HF HL
          go_wp2_with fail
          go_roundw
          case rel => exact ⟨n + 1, i + 1, i + 1, y, by omega, by go_num, by go_num, by go_num, HN.out⟩
          case measure => (simp [intOf] <;> omega)
        · have HPZ := Lib.hid (show prsR S.data.toList = (zeroRd, n + 1, 4) by
            rw [HPR.out, if_neg (fun e => by have h5 := HII.out; rw [e] at h5; exact absurd h5 (Nat.not_lt_zero _)), HF.out, hst])
          have HX3 := Lib.hid ((hk3.block w.heap.size (by omega) (by omega)).trans HXW.out)
          have HB3 := Lib.hid (kept_low (show w.heap.size ≤ w.heap.size + 2 by omega) (show w.heap.size ≤ w.heap.size + 1 by omega) HBW.out hk3)
          have HPE := Lib.hid (HP.out _ _ 4 (setCells_below (Nat.le_refl _) [.int .i64 0, .int .u64 0, .int .i64 0, .int .i64 0, .int .i64 0, .int .i64 0, .int .i64 0, .string ⟨#[]⟩, .slice none 0 0, .slice none 0 0] 0 w3 HB3.out) HPZ.out)
          clear hk3 hst HLI HF HL
          go_wp2_with (refine wpList_store10 rfl 42 _ _ rfl w.heap.size [.int .i64 0, .int .u64 0, .int .i64 0, .int .i64 0, .int .i64 0, .int .i64 0, .int .i64 0, .string ⟨#[]⟩, .slice none 0 0, .slice none 0 0] rfl rfl (store10 HX3.out) (by kernel_rfl) (by simp [Value.oneCell']) ?_; generalize hU : w3.setCells w.heap.size 0 [.int .i64 0, .int .u64 0, .int .i64 0, .int .i64 0, .int .i64 0, .int .i64 0, .int .i64 0, .string ⟨#[]⟩, .slice none 0 0, .slice none 0 0] = U5 at *; have HU := Lib.hid hU; clear hU)
          have hU := HU.out
          subst hU
          exact bodyPost_ret (res10t Tryd.results19 (Tryd.isAgg42 _) (Tryd.sizeOf42 _) rfl rfl rfl (set10 HX3.out _ _ _ _ _ _ _ _ _ _)) rfl HPE.out
      · have hb : ((S[i].toNat : Int) == 10) = false := by
          rw [beq_eq_false_iff_ne]
          intro e
          exact h10 (UInt8.toNat_inj.1 (by show S[i].toNat = 10; omega))
        have hb1 : ((S[i].toNat : Int) != 10) = true := by
          rw [bne_iff_ne]
          intro e
          exact h10 (UInt8.toNat_inj.1 (by show S[i].toNat = 10; omega))
        have HN := Lib.hid (show RLoop S.data.toList w.heap.size w2 x n (i + 1) a wr from ⟨HL.out.fold, fun j hj h1 h2 => by
          rcases Nat.lt_or_ge j i with h | h
          · exact HL.out.no10 j hj h1 h
          · obtain rfl : j = i := by omega
            rw [HAT.out j hlt hj]; exact h10, HL.out.rd, HL.out.kept, HL.out.size, HL.out.lim, HL.out.cnt, HL.out.zero, by omega⟩)
        clear h10 HL
        go_wp2_with fail
        go_roundw
        case rel => exact ⟨n, a, i + 1, x, by omega, by go_num, rfl, rfl, HN.out⟩
        case measure => (simp [intOf] <;> omega)
    · have hie : i = S.size := by omega
      have hlt1 : ¬ ((i : Int) < (S.size : Int)) := by omega
      obtain ⟨hf1, hf2⟩ := fold_tail HL.out (by rw [HLN.out]; exact hie)
      rw [HLN.out] at hf1 hf2
      have hwn : IntKind.i64.wrap ((n : Int) + 1) = (n : Int) + 1 := by rw [IntKind.wrap_i64]; omega
      by_cases hbad : a < S.size ∨ n = 0
      · have HPZ := Lib.hid (show prsR S.data.toList = (zeroRd, n + 1, 4) by
          rw [HPR.out]
          by_cases he : S.data.toList = []
          · have h5 := HLN.out
            rw [he] at h5
            rw [if_pos he]
            have h6 : n = 0 := by have h7 : 0 = S.size := h5; omega
            rw [h6]
          · rw [if_neg he]
            have h6 : a < S.size := by
              rcases hbad with h | h
              · exact h
              · have h7 := (HL.out.zero h).2
                have h8 := HLN.out
                have h9 := List.length_pos_iff.2 he
                omega
            rw [hf1 h6])
        have HPE := Lib.hid (HP.out _ _ 4 (setCells_below (Nat.le_refl _) [.int .i64 0, .int .u64 0, .int .i64 0, .int .i64 0, .int .i64 0, .int .i64 0, .int .i64 0, .string ⟨#[]⟩, .slice none 0 0, .slice none 0 0] 0 wr HBW.out) HPZ.out)
        by_cases h1 : a < S.size
        · have h11 : decide ((a : Int) < (S.size : Int)) = true := decide_eq_true (by omega)
          have h12 : (a : Int) < (S.size : Int) := by omega
          clear hf1 hf2 hbad h1 hlt
          go_wp2_with (refine wpList_store10 rfl 42 _ _ rfl w.heap.size [.int .i64 0, .int .u64 0, .int .i64 0, .int .i64 0, .int .i64 0, .int .i64 0, .int .i64 0, .string ⟨#[]⟩, .slice none 0 0, .slice none 0 0] rfl rfl (store10 HXW.out) (by kernel_rfl) (by simp [Value.oneCell']) ?_; generalize hU : wr.setCells w.heap.size 0 [.int .i64 0, .int .u64 0, .int .i64 0, .int .i64 0, .int .i64 0, .int .i64 0, .int .i64 0, .string ⟨#[]⟩, .slice none 0 0, .slice none 0 0] = U5 at *; have HU := Lib.hid hU; clear hU)
          have hU := HU.out
          subst hU
          exact bodyPost_ret (res10t Tryd.results19 (Tryd.isAgg42 _) (Tryd.sizeOf42 _) rfl rfl rfl (set10 HXW.out _ _ _ _ _ _ _ _ _ _)) rfl HPE.out
        · have h11 : decide ((a : Int) < (S.size : Int)) = false := decide_eq_false (by omega)
          have h12 : ¬ ((a : Int) < (S.size : Int)) := by omega
          obtain rfl : n = 0 := hbad.resolve_left h1
          clear hf1 hf2 hbad h1 hlt
          go_wp2_with (refine wpList_store10 rfl 42 _ _ rfl w.heap.size [.int .i64 0, .int .u64 0, .int .i64 0, .int .i64 0, .int .i64 0, .int .i64 0, .int .i64 0, .string ⟨#[]⟩, .slice none 0 0, .slice none 0 0] rfl rfl (store10 HXW.out) (by kernel_rfl) (by simp [Value.oneCell']) ?_; generalize hU : wr.setCells w.heap.size 0 [.int .i64 0, .int .u64 0, .int .i64 0, .int .i64 0, .int .i64 0, .int .i64 0, .int .i64 0, .string ⟨#[]⟩, .slice none 0 0, .slice none 0 0] = U5 at *; have HU := Lib.hid hU; clear hU)
          have hU := HU.out
          subst hU
          exact bodyPost_ret (res10t Tryd.results19 (Tryd.isAgg42 _) (Tryd.sizeOf42 _) rfl rfl rfl (set10 HXW.out _ _ _ _ _ _ _ _ _ _)) rfl HPE.out
      · have h1 : ¬ (a < S.size) := fun h => hbad (.inl h)
        have h0 : ¬ (n = 0) := fun h => hbad (.inr h)
        have h11 : decide ((a : Int) < (S.size : Int)) = false := decide_eq_false (by omega)
        have h12 : ¬ ((a : Int) < (S.size : Int)) := by omega
        have h13 : ((n : Int) == 0) = false := by rw [beq_eq_false_iff_ne]; omega
        have hfold := hf2 (by omega)
        have hne : S.data.toList ≠ [] := fun e => by
          have h5 := HLN.out
          rw [e] at h5
          have h7 : 0 = S.size := h5
          omega
        obtain ⟨hfl, hops⟩ := fold_back hne hfold
        have HPX := Lib.hid (show prsR S.data.toList = if scE x.c (x.ss.map pgOf) x.ps = 0 then (x, 0, 0) else (zeroRd, 0, scE x.c (x.ss.map pgOf) x.ps) by rw [HPR.out, if_neg hne, hfold])
        have hct : x.c.t.size ≤ 65536 := by
          have h5 := fmt_text (c := x.c) (ss := x.ss.map pgOf) (ps := x.ps)
          rw [hfl, HLN.out] at h5
          omega
        obtain ⟨vP, vQ, ss, hM, hss⟩ := HL.out.rd
        obtain ⟨po, pc, rfl, hp, -, -⟩ := IsR.owned fPg_len rfl hM.ownP
        obtain ⟨qo, qc, rfl, hq, -, -⟩ := IsR.owned (f := fI) (s := 1) (fun _ => rfl) rfl hM.ownQ
        have hrow : ∀ s ∈ ss, IsR fO wr s.a s.n s.l := by
          intro s hs
          obtain ⟨ao, ac, e, h5, -, -⟩ := IsR.owned fO_len (hM.rows s hs).2 (hM.rows s hs).1
          injection e with e1 e2 e3
          rw [← e1] at h5
          exact h5
        have hse : scE x.c ss x.ps = scE x.c (x.ss.map pgOf) x.ps := by rw [scE_lists fun s hs => (hM.rows s hs).2, hss]
        have hpn : ss.length ≤ 140737488355328 := by
          have h5 := HL.out.lim.ss
          have h6 : ss.length = x.ss.length := by rw [← hss, List.length_map]
          omega
        have HCK := Lib.hid (refCheck_sc x.c po ss.length pc qo x.ps.length qc ss x.ps wr ⟨hp, hrow⟩ hq (by omega) (fun s hs o ho => by
          have h5 := plain_text (hops s.l (by rw [← hss]; exact List.mem_map_of_mem hs) o ho).2
          omega) hpn (by have := HL.out.lim.ps; omega))
        rw [hse] at HCK
        have HM := Lib.hid hM
        have HSS := Lib.hid hss
        obtain ⟨er, her⟩ : ∃ er, er = scE x.c (x.ss.map pgOf) x.ps := ⟨_, rfl⟩
        rw [← her] at HCK HPX
        have q0 : wr.cell? ⟨w.heap.size + 1, 0, none⟩ = some (.int .i64 x.c.slots) := block_cell hM.cells 0
        have q1 : wr.cell? ⟨w.heap.size + 1, 1, none⟩ = some (.int .u64 x.c.gens) := block_cell hM.cells 1
        have q2 : wr.cell? ⟨w.heap.size + 1, 2, none⟩ = some (.int .i64 x.c.clients) := block_cell hM.cells 2
        have q3 : wr.cell? ⟨w.heap.size + 1, 3, none⟩ = some (.int .i64 x.c.readers) := block_cell hM.cells 3
        have q4 : wr.cell? ⟨w.heap.size + 1, 4, none⟩ = some (.int .i64 x.c.queue) := block_cell hM.cells 4
        have q5 : wr.cell? ⟨w.heap.size + 1, 5, none⟩ = some (.int .i64 x.c.batch) := block_cell hM.cells 5
        have q6 : wr.cell? ⟨w.heap.size + 1, 6, none⟩ = some (.int .i64 x.c.feed) := block_cell hM.cells 6
        have q7 : wr.cell? ⟨w.heap.size + 1, 7, none⟩ = some (.string x.c.t) := block_cell hM.cells 7
        have q8 : wr.cell? ⟨w.heap.size + 1, 8, none⟩ = some (.slice po ss.length pc) := block_cell hM.cells 8
        have q9 : wr.cell? ⟨w.heap.size + 1, 9, none⟩ = some (.slice qo x.ps.length qc) := block_cell hM.cells 9
        clear her hf1 hf2 hbad h1 h0 hlt hfold hfl hops hct hM hp hq hrow hse hpn hss hne
        go_wp2_with fail
        refine (HCK.out).mono ?_; rintro e5 w5 ⟨rfl, hb5⟩
        have HM5 := Lib.hid (HM.out.later hb5)
        have HB5 := Lib.hid (HBW.out.trans (hb5.mono (by have := HL.out.size; omega)))
        have HX5 := Lib.hid (block_below hb5 HXW.out (block_lt HXW.out))
        clear q0 q1 q2 q3 q4 q5 q6 q7 q8 q9 hb5 HCK
        by_cases h0 : er = 0
        · subst h0
          have q0 : w5.cell? ⟨w.heap.size + 1, 0, none⟩ = some (.int .i64 x.c.slots) := block_cell HM5.out.cells 0
          have q1 : w5.cell? ⟨w.heap.size + 1, 1, none⟩ = some (.int .u64 x.c.gens) := block_cell HM5.out.cells 1
          have q2 : w5.cell? ⟨w.heap.size + 1, 2, none⟩ = some (.int .i64 x.c.clients) := block_cell HM5.out.cells 2
          have q3 : w5.cell? ⟨w.heap.size + 1, 3, none⟩ = some (.int .i64 x.c.readers) := block_cell HM5.out.cells 3
          have q4 : w5.cell? ⟨w.heap.size + 1, 4, none⟩ = some (.int .i64 x.c.queue) := block_cell HM5.out.cells 4
          have q5 : w5.cell? ⟨w.heap.size + 1, 5, none⟩ = some (.int .i64 x.c.batch) := block_cell HM5.out.cells 5
          have q6 : w5.cell? ⟨w.heap.size + 1, 6, none⟩ = some (.int .i64 x.c.feed) := block_cell HM5.out.cells 6
          have q7 : w5.cell? ⟨w.heap.size + 1, 7, none⟩ = some (.string x.c.t) := block_cell HM5.out.cells 7
          have q8 : w5.cell? ⟨w.heap.size + 1, 8, none⟩ = some (.slice po ss.length pc) := block_cell HM5.out.cells 8
          have q9 : w5.cell? ⟨w.heap.size + 1, 9, none⟩ = some (.slice qo x.ps.length qc) := block_cell HM5.out.cells 9
          have HPZ := Lib.hid (show prsR S.data.toList = (x, 0, 0) by rw [HPX.out, if_pos rfl])
          have hm5 := HM5.out.turn (setCells_grown (b := w.heap.size) [.int .i64 x.c.slots, .int .u64 x.c.gens, .int .i64 x.c.clients, .int .i64 x.c.readers, .int .i64 x.c.queue, .int .i64 x.c.batch, .int .i64 x.c.feed, .string x.c.t, .slice po ss.length pc, .slice qo x.ps.length qc] 0 w5) (.inl ⟨by omega, by omega⟩)
          have HSV := Lib.hid (show ScrV (w.heap.size + 2) (.slice po ss.length pc) (.slice qo x.ps.length qc) ss x.ps (w5.setCells w.heap.size 0 [.int .i64 x.c.slots, .int .u64 x.c.gens, .int .i64 x.c.clients, .int .i64 x.c.readers, .int .i64 x.c.queue, .int .i64 x.c.batch, .int .i64 x.c.feed, .string x.c.t, .slice po ss.length pc, .slice qo x.ps.length qc]) from ⟨hm5.ownP, hm5.ownQ, hm5.rows⟩)
          have HBE := Lib.hid (setCells_below (Nat.le_refl _) [.int .i64 x.c.slots, .int .u64 x.c.gens, .int .i64 x.c.clients, .int .i64 x.c.readers, .int .i64 x.c.queue, .int .i64 x.c.batch, .int .i64 x.c.feed, .string x.c.t, .slice po ss.length pc, .slice qo x.ps.length qc] 0 w5 HB5.out)
          clear hm5
          go_wp2_with (refine wpList_store10 rfl 42 _ _ rfl w.heap.size [.int .i64 x.c.slots, .int .u64 x.c.gens, .int .i64 x.c.clients, .int .i64 x.c.readers, .int .i64 x.c.queue, .int .i64 x.c.batch, .int .i64 x.c.feed, .string x.c.t, .slice po ss.length pc, .slice qo x.ps.length qc] rfl rfl (store10 HX5.out) (by kernel_rfl) (by simp [Value.oneCell']) ?_; generalize hU : w5.setCells w.heap.size 0 [.int .i64 x.c.slots, .int .u64 x.c.gens, .int .i64 x.c.clients, .int .i64 x.c.readers, .int .i64 x.c.queue, .int .i64 x.c.batch, .int .i64 x.c.feed, .string x.c.t, .slice po ss.length pc, .slice qo x.ps.length qc] = U5 at *; have HU := Lib.hid hU; clear hU)
          have hU := HU.out
          subst hU
          exact bodyPost_ret (res10t Tryd.results19 (Tryd.isAgg42 _) (Tryd.sizeOf42 _) rfl rfl rfl (set10 HX5.out _ _ _ _ _ _ _ _ _ _)) rfl ⟨HBE.out, _, _, _, ss, by rw [HPZ.out]; exact HSV.out, by rw [HPZ.out]; exact HSS.out, by rw [HPZ.out]; rfl⟩
        · have h01 : (er == 0) = false := by rw [beq_eq_false_iff_ne]; exact h0
          have h02 : (er != 0) = true := by rw [bne_iff_ne]; exact h0
          have HPZ := Lib.hid (show prsR S.data.toList = (zeroRd, 0, er) by rw [HPX.out, if_neg h0])
          have HPE := Lib.hid (HP.out _ _ er (setCells_below (Nat.le_refl _) [.int .i64 0, .int .u64 0, .int .i64 0, .int .i64 0, .int .i64 0, .int .i64 0, .int .i64 0, .string ⟨#[]⟩, .slice none 0 0, .slice none 0 0] 0 w5 HB5.out) HPZ.out)
          clear h0
          go_wp2_with (refine wpList_store10 rfl 42 _ _ rfl w.heap.size [.int .i64 0, .int .u64 0, .int .i64 0, .int .i64 0, .int .i64 0, .int .i64 0, .int .i64 0, .string ⟨#[]⟩, .slice none 0 0, .slice none 0 0] rfl rfl (store10 HX5.out) (by kernel_rfl) (by simp [Value.oneCell']) ?_; generalize hU : w5.setCells w.heap.size 0 [.int .i64 0, .int .u64 0, .int .i64 0, .int .i64 0, .int .i64 0, .int .i64 0, .int .i64 0, .string ⟨#[]⟩, .slice none 0 0, .slice none 0 0] = U5 at *; have HU := Lib.hid hU; clear hU)
          have hU := HU.out
          subst hU
          exact bodyPost_ret (res10t Tryd.results19 (Tryd.isAgg42 _) (Tryd.sizeOf42 _) rfl rfl rfl (set10 HX5.out _ _ _ _ _ _ _ _ _ _)) rfl HPE.out
theorem refParse_all (S : ByteArray) (w : World) : Calls Tryd.prog 19 #[.string S] w (ParsePost S w) := by
  by_cases h1 : 65536 < S.size
  · exact refParse_long S w h1
  · exact refParse_go S w (by omega)
end Go.Proofs.YtdfkbahlngijcaaDoor

