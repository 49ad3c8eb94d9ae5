/- Text: Format: what both share. Text: Format: what both share, on. Text: strconv.FormatUint to the base 10: its walk. Text: Format of the program: the closure put; what is kept beside the builder. -/
import Derived.Test.YtdfkbahlngijcaaDoorKc
import Derived.Test.YtdfkbahlngijcaaDoorKb
import Derived.Lib.ItoaMem
import Derived.BigCall
import Derived.BigGuard
namespace Go.Proofs.YtdfkbahlngijcaaDoor
open Go.RowKit
set_option linter.unusedVariables false

theorem idx7_0 (v0 v1 v2 v3 v4 v5 v6 : Int) (w : World) : (Instr.index 84 (.agg #[.int .i64 v0, .int .i64 v1, .int .i64 v2, .int .i64 v3, .int .i64 v4, .int .i64 v5, .int .i64 v6]) (.int .i64 0)).run Tryd.prog w = .ok (.int .i64 v0) w := by kernel_rfl
theorem idx7_1 (v0 v1 v2 v3 v4 v5 v6 : Int) (w : World) : (Instr.index 84 (.agg #[.int .i64 v0, .int .i64 v1, .int .i64 v2, .int .i64 v3, .int .i64 v4, .int .i64 v5, .int .i64 v6]) (.int .i64 1)).run Tryd.prog w = .ok (.int .i64 v1) w := by kernel_rfl
theorem idx7_2 (v0 v1 v2 v3 v4 v5 v6 : Int) (w : World) : (Instr.index 84 (.agg #[.int .i64 v0, .int .i64 v1, .int .i64 v2, .int .i64 v3, .int .i64 v4, .int .i64 v5, .int .i64 v6]) (.int .i64 2)).run Tryd.prog w = .ok (.int .i64 v2) w := by kernel_rfl
theorem idx7_3 (v0 v1 v2 v3 v4 v5 v6 : Int) (w : World) : (Instr.index 84 (.agg #[.int .i64 v0, .int .i64 v1, .int .i64 v2, .int .i64 v3, .int .i64 v4, .int .i64 v5, .int .i64 v6]) (.int .i64 3)).run Tryd.prog w = .ok (.int .i64 v3) w := by kernel_rfl
theorem idx7_4 (v0 v1 v2 v3 v4 v5 v6 : Int) (w : World) : (Instr.index 84 (.agg #[.int .i64 v0, .int .i64 v1, .int .i64 v2, .int .i64 v3, .int .i64 v4, .int .i64 v5, .int .i64 v6]) (.int .i64 4)).run Tryd.prog w = .ok (.int .i64 v4) w := by kernel_rfl
theorem idx7_5 (v0 v1 v2 v3 v4 v5 v6 : Int) (w : World) : (Instr.index 84 (.agg #[.int .i64 v0, .int .i64 v1, .int .i64 v2, .int .i64 v3, .int .i64 v4, .int .i64 v5, .int .i64 v6]) (.int .i64 5)).run Tryd.prog w = .ok (.int .i64 v5) w := by kernel_rfl
theorem idx7_6 (v0 v1 v2 v3 v4 v5 v6 : Int) (w : World) : (Instr.index 84 (.agg #[.int .i64 v0, .int .i64 v1, .int .i64 v2, .int .i64 v3, .int .i64 v4, .int .i64 v5, .int .i64 v6]) (.int .i64 6)).run Tryd.prog w = .ok (.int .i64 v6) w := by kernel_rfl
theorem idx7_any (v0 v1 v2 v3 v4 v5 v6 : Int) (l : List Int) (hl : l = [v0, v1, v2, v3, v4, v5, v6]) (w : World) (i : Nat) (h : i < l.length) :
    (Instr.index 84 (.agg #[.int .i64 v0, .int .i64 v1, .int .i64 v2, .int .i64 v3, .int .i64 v4, .int .i64 v5, .int .i64 v6]) (.int .i64 i)).run Tryd.prog w = .ok (.int .i64 l[i]) w := by
  subst hl
  have h7 : i < 7 := h
  rcases (by omega : i = 0 ∨ i = 1 ∨ i = 2 ∨ i = 3 ∨ i = 4 ∨ i = 5 ∨ i = 6) with rfl | rfl | rfl | rfl | rfl | rfl | rfl
  · exact idx7_0 v0 v1 v2 v3 v4 v5 v6 w
  · exact idx7_1 v0 v1 v2 v3 v4 v5 v6 w
  · exact idx7_2 v0 v1 v2 v3 v4 v5 v6 w
  · exact idx7_3 v0 v1 v2 v3 v4 v5 v6 w
  · exact idx7_4 v0 v1 v2 v3 v4 v5 v6 w
  · exact idx7_5 v0 v1 v2 v3 v4 v5 v6 w
  · exact idx7_6 v0 v1 v2 v3 v4 v5 v6 w
theorem bcat (a b : List UInt8) : (⟨a.toArray⟩ : ByteArray) ++ ⟨b.toArray⟩ = ⟨(a ++ b).toArray⟩ := by
  apply ByteArray.ext
  rw [ByteArray.data_append]
  simp
theorem lbytes (l : List UInt8) : (⟨l.toArray⟩ : ByteArray).size = l.length := List.size_toArray ..
/-- the script's box and its configuration beside it -/
structure BoxS (c : Cf) (po : Option Addr) (pn pc : Nat) (qo : Option Addr) (qn qc : Nat) (b k : Nat) (w : World) : Prop where
  box : w.heap[b]? = some (.cells (scA c po pn pc qo qn qc) 42 (0, 0))
  cfg : w.heap[k]? = some (.cells (cC c) 38 (0, 0))
theorem BoxS.later {c : Cf} {po : Option Addr} {pn pc : Nat} {qo : Option Addr} {qn qc b k : Nat} {w w' : World} (h : BoxS c po pn pc qo qn qc b k w) (hb : Below w.heap.size w w') : BoxS c po pn pc qo qn qc b k w' :=
  ⟨block_below hb h.box (block_lt h.box), block_below hb h.cfg (block_lt h.cfg)⟩
end Go.Proofs.YtdfkbahlngijcaaDoor

namespace Go.Proofs.YtdfkbahlngijcaaDoor
open Go.RowKit
set_option linter.unusedVariables false

structure CfgZ (c : Cf) : Prop where
  slots : 1 ≤ c.slots ∧ c.slots ≤ 16384
  gens : 1 ≤ c.gens ∧ c.gens ≤ 4294967295
  clients : 0 ≤ c.clients ∧ c.clients ≤ 8
  readers : 0 ≤ c.readers ∧ c.readers ≤ 8
  queue : 1 ≤ c.queue ∧ c.queue ≤ 64
  batch : 1 ≤ c.batch ∧ c.batch ≤ 16
  feed : 1 ≤ c.feed ∧ c.feed ≤ 64
theorem cfgZ_of {c : Cf} (h : cfgE c = 0) : CfgZ c := by
  have hk : cfgOk c = true := by
    unfold cfgE at h
    by_cases hk : cfgOk c = true
    · exact hk
    · rw [if_neg hk] at h; exact absurd h (by decide)
  unfold cfgOk inR at hk
  simp only [Bool.and_eq_true, decide_eq_true_eq] at hk
  obtain ⟨h1, h2, h3, h4, h5, h6, h7⟩ := hk
  exact ⟨h1, h2, h3, h4, h5, h6, h7⟩
theorem fmt_cfg_end {S : ByteArray} {c : Cf} (h : S = ⟨(joinW ([[99, 111, 110, 102, 105, 103]] ++ (cfgV c).map numL)).toArray⟩) :
    S ++ (((⟨#[32]⟩ : ByteArray) ++ ⟨(quoteL c.t).toArray⟩) ++ ⟨#[10]⟩) = ⟨(lineL (cfgW c)).toArray⟩ := by
  subst h
  unfold lineL cfgW
  rw [joinW_snoc _ _ (by simp)]
  apply ByteArray.ext
  simp only [ByteArray.data_append]
  simp
theorem fmt_client {S : ByteArray} {A : List UInt8} (h : S = ⟨A.toArray⟩) (i : Nat) :
    S ++ (((⟨#[99, 108, 105, 101, 110, 116, 32]⟩ : ByteArray) ++ ⟨(numL i).toArray⟩) ++ ⟨#[10]⟩) = ⟨(A ++ lineL (clientW i)).toArray⟩ := by
  subst h
  have e : lineL (clientW i) = ([99, 108, 105, 101, 110, 116] ++ 32 :: numL i) ++ [10] := rfl
  rw [e]
  apply ByteArray.ext
  simp only [ByteArray.data_append]
  simp
theorem fmt_op {S : ByteArray} {A : List UInt8} (h : S = ⟨A.toArray⟩) (l : List UInt8) :
    S ++ ((⟨l.toArray⟩ : ByteArray) ++ ⟨#[10]⟩) = ⟨(A ++ lineL [l]).toArray⟩ := by
  subst h
  have e : lineL [l] = l ++ [10] := rfl
  rw [e]
  apply ByteArray.ext
  simp only [ByteArray.data_append]
  simp
theorem fmt_pick {S : ByteArray} {A : List UInt8} (h : S = ⟨A.toArray⟩) (q : Int) (n : Nat) :
    S ++ (((((⟨#[112, 105, 99, 107, 32]⟩ : ByteArray) ++ ⟨(numL q).toArray⟩) ++ ⟨#[32]⟩) ++ ⟨(numL n).toArray⟩) ++ ⟨#[10]⟩) = ⟨(A ++ lineL (pickW q n)).toArray⟩ := by
  subst h
  have e : lineL (pickW q n) = ([112, 105, 99, 107] ++ 32 :: (numL q ++ 32 :: numL n)) ++ [10] := rfl
  rw [e]
  apply ByteArray.ext
  simp only [ByteArray.data_append]
  simp
theorem cat_lt {a b f : List UInt8} (h : a ++ b = f) (hf : f.length ≤ 300000000) : a.length ≤ 300000000 := by
  have := congrArg List.length h
  rw [List.length_append] at this
  omega
theorem take_V {l : List Int} {i : Nat} (h : i < l.length) (A : List (List UInt8)) : A ++ (l.take (i + 1)).map numL = (A ++ (l.take i).map numL) ++ [numL l[i]] := by
  rw [List.take_succ_eq_append_getElem h, List.map_append, ← List.append_assoc]; rfl

end Go.Proofs.YtdfkbahlngijcaaDoor

namespace Go.Proofs.YtdfkbahlngijcaaDoor
open Go.RowKit Go.Sort
set_option linter.unusedVariables false

theorem holds_zero0 (w : World) (T : TypeId) (nd : Nat) (hs : nd ≤ 24) : Holds (fun (b : UInt8) => Value.int .u8 (b.toNat : Int)) (w.alloc (.cells Lib.zeros24 T)) w.heap.size 0 (Array.replicate nd (0 : UInt8)) := fun j hj => by
  have hj' : j < nd := by simpa using hj
  refine ⟨?_, World.frozen?_alloc_new _ _ _ _⟩
  rw [World.cell?_alloc_new, Lib.zeros24_at _ (by omega), getElem!_pos _ j hj]
  simp
theorem below_fmt0 (w : World) (o : Obj) (dk : Array UInt8) (k : Nat) : Below w.heap.size w ((putRow (fun (b : UInt8) => Value.int .u8 (b.toNat : Int)) (w.alloc o) w.heap.size 0 dk).drewN k) := by
  rw [alloc_eq_grow]
  obtain ⟨os', _, e⟩ := putRow_grow_new (fun (b : UInt8) => Value.int .u8 (b.toNat : Int)) w #[o] w.heap.size 0 dk (Nat.le_refl _)
  rw [e]
  exact below_growN w k os'
set_option maxRecDepth 100000 in
set_option maxHeartbeats 8000000 in
theorem fmtUintI_any (u : Nat) (hu64 : u < 18446744073709551616) (w : World) (htab : Tab w) :
    Calls Tryd.prog 74 #[.int .u64 u, .int .i64 10] w fun e w' => e = .returned (.string ⟨(Lib.decDigits u).toArray⟩) ∧ Below w.heap.size w w' := by
  by_cases hs : u < 100
  · have HS := Lib.hid (Tryd.internal_strconv_small u hs w)
    have hs1 : (u : Int) < 100 := by omega
    go_enter Tryd.func74, Tryd.ntmps74
    go_wp2_with fail
    refine (HS.out).mono ?_; rintro e w1 ⟨rfl, rfl⟩
    go_wp2_with fail
    go_ret
    exact ⟨rfl, Below.refl _ _⟩
  · have hu1 : 1 ≤ u := by omega
    have hs1 : ¬ ((u : Int) < 100) := by omega
    have hnd20 : Lib.nDigits u ≤ 20 := by have := Lib.numDigits_eq u hu1 hu64; split at this <;> omega
    have hal : Tryd.prog.arrayLen 149 = 24 := by kernel_rfl
    have hund : Tryd.prog.underlying 149 = some (.array 24 5) := Tryd.underlying149
    have hsl1 : ∀ W, (Instr.sliceAt 149 (.pointer (some ⟨w.heap.size, 0, none⟩)) none (some (.int .i64 (Lib.nDigits u : Int))) none).run Tryd.prog W = .ok (.slice (some ⟨w.heap.size, 0, none⟩) (Lib.nDigits u) 24) W := fun W => by
      rw [run_sliceAt_array_h W 149 ⟨w.heap.size, 0, none⟩ (by simp [Program.arrayLen, Program.elem, hund]) .i64 (Lib.nDigits u : Int) (by omega) (by rw [hal]; omega)]
      rw [hal]
      go_simp
    have hH0 := holds_zero0 w 149 (Lib.nDigits u) (by omega)
    have HN := Lib.hid (Tryd.internal_strconv_numDigits u hu1 hu64 (w.alloc (.cells Lib.zeros24 149)) (Lib.tabIs_alloc htab _))
    have hfmt := Tryd.internal_strconv_formatBase10 w.heap.size 0 24 u (Array.replicate (Lib.nDigits u) 0) (w.alloc (.cells Lib.zeros24 149)) hH0 (by rw [Array.size_replicate]; exact Lib.lt_pow_nDigits u) hu64 (by rw [Array.size_replicate]; omega)
    rw [Array.size_replicate] at hfmt
    have HF := Lib.hid hfmt
    have HH0 := Lib.hid hH0
    have HND := Lib.hid hnd20
    clear hH0 hal hfmt hund
    go_enter Tryd.func74, Tryd.ntmps74
    go_wp2_with fail
    refine (HN.out).mono ?_; rintro e w1 ⟨rfl, rfl⟩
    go_wp2_with fail
    refine (HF.out).mono ?_; rintro e w2 ⟨rfl, k, v', dk, rfl, hF⟩
    have hcv : (convert 73 9 (.slice (some ⟨w.heap.size, 0, none⟩) (Lib.nDigits u) 24)).run Tryd.prog ((putRow (fun (b : UInt8) => Value.int .u8 (b.toNat : Int)) (w.alloc (.cells Lib.zeros24 149)) w.heap.size 0 dk).drewN k) = .ok (.string ⟨(Lib.decDigits u).toArray⟩) ((putRow (fun (b : UInt8) => Value.int .u8 (b.toNat : Int)) (w.alloc (.cells Lib.zeros24 149)) w.heap.size 0 dk).drewN k) := by
      have h := run_convert_bytes_back (P := Tryd.prog) ((putRow (fun (b : UInt8) => Value.int .u8 (b.toNat : Int)) (w.alloc (.cells Lib.zeros24 149)) w.heap.size 0 dk).drewN k) 73 9 5 ⟨w.heap.size, 0, none⟩ 24 (Lib.decDigits u) Tryd.underlying73 Tryd.underlying5 Tryd.underlying9 (fun j hj => by
        rw [Lib.add_plain, Lib.row_is_numeral hF j hj, World.cell?_drewN, Nat.zero_add]
        have := cell?_putRow (fun (b : UInt8) => Value.int .u8 (b.toNat : Int)) _ w.heap.size 0 _ dk HH0.out (by rw [hF.size, Array.size_replicate]) j (by rw [hF.size]; rw [Lib.decDigits_length] at hj; exact hj)
        rw [Nat.zero_add] at this
        exact this)
      rw [Lib.decDigits_length] at h
      exact h
    have HB := Lib.hid (below_fmt0 w (.cells Lib.zeros24 149) dk k)
    clear hF HF HN HH0
    go_wp2_with fail
    go_ret
    exact ⟨rfl, HB.out⟩
set_option maxRecDepth 100000 in
set_option maxHeartbeats 2000000 in
theorem fmtUint_any (u : Nat) (hu64 : u < 18446744073709551616) (w : World) (htab : Tab w) :
    Calls Tryd.prog 38 #[.int .u64 u, .int .i64 10] w fun e w' => e = .returned (.string ⟨(Lib.decDigits u).toArray⟩) ∧ Below w.heap.size w w' := by
  have HF := Lib.hid (fmtUintI_any u hu64 w htab)
  go_enter Tryd.func38, Tryd.ntmps38
  go_wp2_with fail
  refine (HF.out).mono ?_; rintro e w1 ⟨rfl, hb⟩
  have HB := Lib.hid hb
  clear hb
  go_wp2_with fail
  go_ret
  exact ⟨rfl, HB.out⟩
end Go.Proofs.YtdfkbahlngijcaaDoor

namespace Go.Proofs.YtdfkbahlngijcaaDoor
open Go.RowKit
set_option linter.unusedVariables false

theorem join_at (bk o c : Nat) (ws : List (List UInt8)) (w : World) (hcells : ∀ (j : Nat) x, ws[j]? = some x → w.cell? ⟨bk, o + j, none⟩ = some (.string ⟨x.toArray⟩)) (hbk : bk < w.heap.size) (hN : ws.length ≤ 1000) (hcap : ws.length ≤ c) (hlen : (joinW ws).length ≤ 140737488355328) :
    Calls Tryd.prog 31 #[.slice (some ⟨bk, o, none⟩) ws.length c, .string ⟨#[32]⟩] w fun e w' => e = .returned (.string ⟨(joinW ws).toArray⟩) ∧ Below w.heap.size w w' := by
  have hl : (ws.map fun x => (⟨x.toArray⟩ : ByteArray)).length = ws.length := List.length_map ..
  have hmap : (ws.map fun x => (⟨x.toArray⟩ : ByteArray)).map (·.data.toList) = ws := by
    rw [List.map_map]
    conv => rhs; rw [← List.map_id ws]
    rfl
  have hJ := Tryd.strings_Join bk o c (ws.map fun x => (⟨x.toArray⟩ : ByteArray)) ⟨#[32]⟩ w (fun j x hj => by
    rw [List.getElem?_map] at hj
    rcases hw : ws[j]? with _ | y
    · rw [hw] at hj; cases hj
    · rw [hw] at hj
      obtain rfl := Option.some.inj hj
      exact hcells j y hw) hbk (by rw [hl]; omega) (by rw [hl]; exact hcap) (by
    rw [hmap]
    show (Lib.join ws [32]).length ≤ _
    rw [join_is]; exact hlen)
  rw [hl, hmap] at hJ
  have e : Lib.join ws (⟨#[32]⟩ : ByteArray).data.toList = joinW ws := join_is ws
  rw [e] at hJ
  exact hJ
theorem Kept2.of_below {w w' : World} (h : Below w.heap.size w w') (r1 r2 : Option Nat) : Kept2 w w' r1 r2 := ⟨h.os, h.tape, h.output, h.size, fun k hk _ _ => h.block k hk⟩
theorem Bd.below {B b : Nat} {v : Value} {l : List UInt8} {w w' : World} (h : Bd B b v l w) (hb : Below w.heap.size w w') : Bd B b v l w' :=
  h.kept (Kept2.of_below hb none none) (by simp) (by simp) (fun _ _ => by simp) (fun _ _ => by simp)
theorem Bd.lt {B b : Nat} {v : Value} {l : List UInt8} {w : World} (h : Bd B b v l w) : b < w.heap.size := by rcases h.cells with e | e <;> exact block_lt e
def PutFP (B b : Nat) (v : Value) (l : List UInt8) (ws : List (List UInt8)) (w : World) (e : Ending) (w' : World) : Prop :=
  e = .returned (.tuple #[]) ∧ ∃ v', Bd B b v' (l ++ lineL ws) w' ∧ Kept2 w w' (some b) v.ownBlock ∧ NewAt w v v'
theorem nl_data (A : List UInt8) : ((⟨A.toArray⟩ : ByteArray) ++ ⟨#[10]⟩).data.toList = A ++ [10] := by
  rw [ByteArray.data_append]; simp
theorem nl_size (A : List UInt8) : ((⟨A.toArray⟩ : ByteArray) ++ ⟨#[10]⟩).size = A.length + 1 := by
  rw [ByteArray.size_append, lbytes]; rfl
set_option maxRecDepth 100000 in
set_option maxHeartbeats 4000000 in
theorem putF_any (B b : Nat) (v : Value) (l : List UInt8) (bk o c n : Nat) (ws : List (List UInt8)) (w : World) (h : Bd B b v l w) (hBw : B ≤ w.heap.size)
    (hcells : ∀ (j : Nat) x, ws[j]? = some x → w.cell? ⟨bk, o + j, none⟩ = some (.string ⟨x.toArray⟩)) (hbk : bk < w.heap.size) (hn : ws.length = n) (hN : n ≤ 1000) (hcap : n ≤ c) (hlen : l.length + (joinW ws).length ≤ 1000000000) :
    Calls Tryd.prog 36 #[.slice (some ⟨bk, o, none⟩) n c, .pointer (some ⟨b, 0, none⟩)] w (PutFP B b v l ws w) := by
  subst hn
  have HJ := Lib.hid (join_at bk o c ws w hcells hbk hN hcap (by omega))
  have HD := Lib.hid (fun (u : World) (hu : Below w.heap.size w u) => write_own B b v l ((⟨(joinW ws).toArray⟩ : ByteArray) ++ ⟨#[10]⟩) u (h.below hu) (Nat.le_trans hBw hu.size) (by rw [nl_size]; omega))
  have HPP := Lib.hid (show ∀ (u : World) (e : Ending) (w' : World), Below w.heap.size w u → WrPost B b v l ((⟨(joinW ws).toArray⟩ : ByteArray) ++ ⟨#[10]⟩) u e w' → ∃ v', Bd B b v' (l ++ lineL ws) w' ∧ Kept2 w w' (some b) v.ownBlock ∧ NewAt w v v' from fun u e w' hu hw => by
    obtain ⟨_, v', h1, h2, h3⟩ := hw
    rw [nl_data] at h1
    refine ⟨v', h1, (Kept2.of_below hu _ _).trans h2, ?_⟩
    rcases h3 with h3 | ⟨q, h3, h4⟩
    · exact .inl h3
    · exact .inr ⟨q, h3, Nat.le_trans hu.size h4⟩)
  have HF := Lib.hid (show ∀ e w', (e = .returned (.tuple #[]) ∧ ∃ v', Bd B b v' (l ++ lineL ws) w' ∧ Kept2 w w' (some b) v.ownBlock ∧ NewAt w v v') → PutFP B b v l ws w e w' from fun e w' h => h)
  generalize hA : joinW ws = A at *
  have hcn : ¬ (9223372036854775807 < (⟨A.toArray⟩ : ByteArray).size + (⟨#[10]⟩ : ByteArray).size) := by
    rw [lbytes]
    show ¬ (9223372036854775807 < A.length + 1)
    omega
  clear hA h hcells
  go_enter Tryd.func36, Tryd.ntmps36
  go_wp2_with fail
  refine (HJ.out).mono ?_; rintro e w1 ⟨rfl, hb1⟩
  have HB1 := Lib.hid hb1
  clear hb1
  go_wp2_with fail
  refine (HD.out _ HB1.out).mono ?_; rintro e w2 hw2
  have he2 := hw2.1
  have HW := Lib.hid (HPP.out _ _ _ HB1.out hw2)
  clear hw2
  subst he2
  go_wp2_with fail
  (try simp only [Exit.inBlock, Exit.then])
  refine bodyPost_end (results_none rfl _ _ _) rfl ?_
  exact HF.out _ _ ⟨rfl, HW.out⟩
/-- blocks that are no builder's and hold no bytes stay at a call of put -/
theorem Kept2.other {B b i : Nat} {v : Value} {l : List UInt8} {w w' : World} {cs : Array Value} {T : TypeId} {fr : Nat × Nat} (k : Kept2 w w' (some b) v.ownBlock) (hd : Bd B b v l w) (hx : w.heap[i]? = some (.cells cs T fr)) (h1 : T ≠ 75) (h2 : T ≠ 5) : w'.heap[i]? = some (.cells cs T fr) := by
  rw [k.block i (block_lt hx) (fun e => by
    injection e with e
    subst e
    rcases hd.cells with c | c
    · rw [hx] at c
      injection c with c
      injection c with _ c _
      exact h1 c
    · rw [hx] at c
      injection c with c
      injection c with _ c _
      exact h1 c) (fun e => by
    obtain ⟨-, cur, hc⟩ := own_typ1 hd.own e.symm
    rw [hx] at hc
    injection hc with hc
    injection hc with _ hc _
    exact h2 hc)]
  exact hx
theorem Bd.ge {B b : Nat} {v : Value} {l : List UInt8} {w : World} (h : Bd B b v l w) : ∀ q, v.ownBlock = some q → B ≤ q := fun q hq => (own_typ1 h.own hq).1
/-- what Format keeps: the script's box and its configuration, the builder, and all that was there -/
structure FmtS (c : Cf) (po : Option Addr) (pn pc : Nat) (qo : Option Addr) (qn qc : Nat) (w0 : World) (bS b bC : Nat) (l : List UInt8) (w : World) : Prop where
  box : BoxS c po pn pc qo qn qc bS bC w
  bd : ∃ v, Bd w0.heap.size b v l w
  low : Below w0.heap.size w0 w
  ge : w0.heap.size ≤ b
theorem FmtS.later {c : Cf} {po : Option Addr} {pn pc : Nat} {qo : Option Addr} {qn qc bS b bC : Nat} {l : List UInt8} {w0 w w' : World} (h : FmtS c po pn pc qo qn qc w0 bS b bC l w) (hb : Below w.heap.size w w') : FmtS c po pn pc qo qn qc w0 bS b bC l w' := by
  obtain ⟨v, hv⟩ := h.bd
  exact ⟨h.box.later hb, ⟨v, hv.below hb⟩, below_two h.low hb, h.ge⟩
theorem FmtS.put {c : Cf} {po : Option Addr} {pn pc : Nat} {qo : Option Addr} {qn qc bS b bC : Nat} {l l' : List UInt8} {w0 w w' : World} (h : FmtS c po pn pc qo qn qc w0 bS b bC l w) {v v' : Value} (hv : Bd w0.heap.size b v l w) (k : Kept2 w w' (some b) v.ownBlock) (hv' : Bd w0.heap.size b v' l' w') : FmtS c po pn pc qo qn qc w0 bS b bC l' w' :=
  ⟨⟨k.other hv h.box.box (by decide) (by decide), k.other hv h.box.cfg (by decide) (by decide)⟩, ⟨v', hv'⟩, Kept2.below h.low k h.low.size (fun q e => by injection e with e; subst e; exact h.ge) hv.ge, h.ge⟩
/-- put at a state of Format -/
theorem put_fmt {c : Cf} {po : Option Addr} {pn pc : Nat} {qo : Option Addr} {qn qc bS b bC : Nat} {l : List UInt8} {w0 w : World} (h : FmtS c po pn pc qo qn qc w0 bS b bC l w) (bk o cp n : Nat) (ws : List (List UInt8))
    (hcells : ∀ (j : Nat) x, ws[j]? = some x → w.cell? ⟨bk, o + j, none⟩ = some (.string ⟨x.toArray⟩)) (hbk : bk < w.heap.size) (hn : ws.length = n) (hN : n ≤ 1000) (hcap : n ≤ cp) (hlen : l.length + (joinW ws).length ≤ 1000000000) :
    Calls Tryd.prog 36 #[.slice (some ⟨bk, o, none⟩) n cp, .pointer (some ⟨b, 0, none⟩)] w fun e w' => e = .returned (.tuple #[]) ∧ FmtS c po pn pc qo qn qc w0 bS b bC (l ++ lineL ws) w' := by
  obtain ⟨v, hv⟩ := h.bd
  refine (putF_any w0.heap.size b v l bk o cp n ws w hv h.low.size hcells hbk hn hN hcap hlen).mono ?_
  rintro e w' ⟨rfl, v', h1, h2, h3⟩
  exact ⟨rfl, h.put hv h2 h1⟩
end Go.Proofs.YtdfkbahlngijcaaDoor

