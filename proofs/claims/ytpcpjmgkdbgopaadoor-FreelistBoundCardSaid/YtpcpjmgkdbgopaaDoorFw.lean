/- The freelist: handle.Text at the four handles of the examples; took. -/
import Derived.Test.YtpcpjmgkdbgopaaDoorFv
namespace Go.Proofs.YtpcpjmgkdbgopaaDoor
open Go.RowKit

set_option maxRecDepth 100000 in
set_option maxHeartbeats 2000000 in
theorem small_0 (w : World) : Calls Tryd.prog 53 #[.int .i64 0] w fun e w' => e = .returned (.string { data := #[48] }) ∧ w = w' := by
  go_enter Tryd.func53, Tryd.ntmps53
  go_wp2_with fail
  go_ret
  exact ⟨rfl, rfl⟩

set_option maxRecDepth 100000 in
set_option maxHeartbeats 2000000 in
theorem fmtInt_0 (w : World) : Calls Tryd.prog 52 #[.int .i64 0, .int .i64 10] w fun e w' => e = .returned (.string { data := #[48] }) ∧ w = w' := by
  go_enter Tryd.func52, Tryd.ntmps52
  go_wp2_with fail
  refine (small_0 _).mono ?_; rintro e w1 ⟨rfl, rfl⟩
  go_wp2_with fail
  go_ret
  exact ⟨rfl, rfl⟩

set_option maxRecDepth 100000 in
set_option maxHeartbeats 2000000 in
theorem itoaI_0 (w : World) : Calls Tryd.prog 50 #[.int .i64 0] w fun e w' => e = .returned (.string { data := #[48] }) ∧ w = w' := by
  go_enter Tryd.func50, Tryd.ntmps50
  go_wp2_with fail
  refine (fmtInt_0 _).mono ?_; rintro e w1 ⟨rfl, rfl⟩
  go_wp2_with fail
  go_ret
  exact ⟨rfl, rfl⟩

set_option maxRecDepth 100000 in
set_option maxHeartbeats 2000000 in
theorem itoa_0 (w : World) : Calls Tryd.prog 48 #[.int .i64 0] w fun e w' => e = .returned (.string { data := #[48] }) ∧ w = w' := by
  go_enter Tryd.func48, Tryd.ntmps48
  go_wp2_with fail
  refine (itoaI_0 _).mono ?_; rintro e w1 ⟨rfl, rfl⟩
  go_wp2_with fail
  go_ret
  exact ⟨rfl, rfl⟩

set_option maxRecDepth 100000 in
set_option maxHeartbeats 2000000 in
theorem small_1 (w : World) : Calls Tryd.prog 53 #[.int .i64 1] w fun e w' => e = .returned (.string { data := #[49] }) ∧ w = w' := by
  go_enter Tryd.func53, Tryd.ntmps53
  go_wp2_with fail
  go_ret
  exact ⟨rfl, rfl⟩

set_option maxRecDepth 100000 in
set_option maxHeartbeats 2000000 in
theorem fmtInt_1 (w : World) : Calls Tryd.prog 52 #[.int .i64 1, .int .i64 10] w fun e w' => e = .returned (.string { data := #[49] }) ∧ w = w' := by
  go_enter Tryd.func52, Tryd.ntmps52
  go_wp2_with fail
  refine (small_1 _).mono ?_; rintro e w1 ⟨rfl, rfl⟩
  go_wp2_with fail
  go_ret
  exact ⟨rfl, rfl⟩

set_option maxRecDepth 100000 in
set_option maxHeartbeats 2000000 in
theorem itoaI_1 (w : World) : Calls Tryd.prog 50 #[.int .i64 1] w fun e w' => e = .returned (.string { data := #[49] }) ∧ w = w' := by
  go_enter Tryd.func50, Tryd.ntmps50
  go_wp2_with fail
  refine (fmtInt_1 _).mono ?_; rintro e w1 ⟨rfl, rfl⟩
  go_wp2_with fail
  go_ret
  exact ⟨rfl, rfl⟩

set_option maxRecDepth 100000 in
set_option maxHeartbeats 2000000 in
theorem itoa_1 (w : World) : Calls Tryd.prog 48 #[.int .i64 1] w fun e w' => e = .returned (.string { data := #[49] }) ∧ w = w' := by
  go_enter Tryd.func48, Tryd.ntmps48
  go_wp2_with fail
  refine (itoaI_1 _).mono ?_; rintro e w1 ⟨rfl, rfl⟩
  go_wp2_with fail
  go_ret
  exact ⟨rfl, rfl⟩

set_option maxRecDepth 100000 in
set_option maxHeartbeats 2000000 in
theorem small_2 (w : World) : Calls Tryd.prog 53 #[.int .i64 2] w fun e w' => e = .returned (.string { data := #[50] }) ∧ w = w' := by
  go_enter Tryd.func53, Tryd.ntmps53
  go_wp2_with fail
  go_ret
  exact ⟨rfl, rfl⟩

set_option maxRecDepth 100000 in
set_option maxHeartbeats 2000000 in
theorem fmtInt_2 (w : World) : Calls Tryd.prog 52 #[.int .i64 2, .int .i64 10] w fun e w' => e = .returned (.string { data := #[50] }) ∧ w = w' := by
  go_enter Tryd.func52, Tryd.ntmps52
  go_wp2_with fail
  refine (small_2 _).mono ?_; rintro e w1 ⟨rfl, rfl⟩
  go_wp2_with fail
  go_ret
  exact ⟨rfl, rfl⟩

set_option maxRecDepth 100000 in
set_option maxHeartbeats 2000000 in
theorem itoaI_2 (w : World) : Calls Tryd.prog 50 #[.int .i64 2] w fun e w' => e = .returned (.string { data := #[50] }) ∧ w = w' := by
  go_enter Tryd.func50, Tryd.ntmps50
  go_wp2_with fail
  refine (fmtInt_2 _).mono ?_; rintro e w1 ⟨rfl, rfl⟩
  go_wp2_with fail
  go_ret
  exact ⟨rfl, rfl⟩

set_option maxRecDepth 100000 in
set_option maxHeartbeats 2000000 in
theorem itoa_2 (w : World) : Calls Tryd.prog 48 #[.int .i64 2] w fun e w' => e = .returned (.string { data := #[50] }) ∧ w = w' := by
  go_enter Tryd.func48, Tryd.ntmps48
  go_wp2_with fail
  refine (itoaI_2 _).mono ?_; rintro e w1 ⟨rfl, rfl⟩
  go_wp2_with fail
  go_ret
  exact ⟨rfl, rfl⟩

set_option maxRecDepth 100000 in
set_option maxHeartbeats 2000000 in
theorem fmtUI_1 (w : World) : Calls Tryd.prog 51 #[.int .u64 1, .int .i64 10] w fun e w' => e = .returned (.string { data := #[49] }) ∧ w = w' := by
  go_enter Tryd.func51, Tryd.ntmps51
  go_wp2_with fail
  refine (small_1 _).mono ?_; rintro e w1 ⟨rfl, rfl⟩
  go_wp2_with fail
  go_ret
  exact ⟨rfl, rfl⟩

set_option maxRecDepth 100000 in
set_option maxHeartbeats 2000000 in
theorem fmtU_1 (w : World) : Calls Tryd.prog 49 #[.int .u64 1, .int .i64 10] w fun e w' => e = .returned (.string { data := #[49] }) ∧ w = w' := by
  go_enter Tryd.func49, Tryd.ntmps49
  go_wp2_with fail
  refine (fmtUI_1 _).mono ?_; rintro e w1 ⟨rfl, rfl⟩
  go_wp2_with fail
  go_ret
  exact ⟨rfl, rfl⟩

set_option maxRecDepth 100000 in
set_option maxHeartbeats 2000000 in
theorem fmtUI_2 (w : World) : Calls Tryd.prog 51 #[.int .u64 2, .int .i64 10] w fun e w' => e = .returned (.string { data := #[50] }) ∧ w = w' := by
  go_enter Tryd.func51, Tryd.ntmps51
  go_wp2_with fail
  refine (small_2 _).mono ?_; rintro e w1 ⟨rfl, rfl⟩
  go_wp2_with fail
  go_ret
  exact ⟨rfl, rfl⟩

set_option maxRecDepth 100000 in
set_option maxHeartbeats 2000000 in
theorem fmtU_2 (w : World) : Calls Tryd.prog 49 #[.int .u64 2, .int .i64 10] w fun e w' => e = .returned (.string { data := #[50] }) ∧ w = w' := by
  go_enter Tryd.func49, Tryd.ntmps49
  go_wp2_with fail
  refine (fmtUI_2 _).mono ?_; rintro e w1 ⟨rfl, rfl⟩
  go_wp2_with fail
  go_ret
  exact ⟨rfl, rfl⟩

set_option maxRecDepth 100000 in
set_option maxHeartbeats 2000000 in
theorem text_01 (w : World) : Calls Tryd.prog 47 #[.int .u64 65536] w fun e w' => e = .returned (.tuple #[(.string { data := #[48, 46, 49] }), .int .i64 0]) ∧ w = w' := by
  have hc := Lib.hid (hCheck_ok 65536 w (by decide) (by decide) (by decide))
  have hp := Lib.hid (parts_any 65536 w (by decide) (by decide))
  go_enter Tryd.func47, Tryd.ntmps47
  go_wp2_with fail
  refine hc.out.mono ?_; rintro e w1 ⟨rfl, rfl⟩
  go_wp2_with fail
  refine hp.out.mono ?_; rintro e w1 ⟨rfl, rfl⟩
  go_wp2_with fail
  refine (itoa_0 _).mono ?_; rintro e w1 ⟨rfl, rfl⟩
  go_wp2_with fail
  refine (fmtU_1 _).mono ?_; rintro e w1 ⟨rfl, rfl⟩
  go_wp2_with fail
  go_ret2
  exact ⟨rfl, rfl⟩

set_option maxRecDepth 100000 in
set_option maxHeartbeats 2000000 in
theorem took_01 (b : LB) (x : FL) (w : World) (k : Nat) (hl : IsL w b x) (hi : FInv x) (hm : x.m = k + 1) (hh : hMk (x.sk k) (x.gn (x.sk k)) = 65536) :
    Calls Tryd.prog 41 #[.pointer (some ⟨b.p, 0, none⟩), (.string { data := #[48, 46, 49] })] w fun e w' => e = .returned (.bool true) ∧ IsL w' b (takeL x) ∧ KeepL b w w' := by
  have ht := take_ok b x w hl hi k hm
  rw [hh] at ht
  have HT := Lib.hid ht
  clear ht hl hi hm hh
  go_enter Tryd.func41, Tryd.ntmps41
  go_wp2_with fail
  refine HT.out.mono ?_; rintro e w1 ⟨rfl, h1, h2⟩
  have H1 := Lib.hid h1
  have H2 := Lib.hid h2
  clear h1 h2
  go_wp2_with fail
  refine (text_01 _).mono ?_; rintro e w1 ⟨rfl, rfl⟩
  go_wp2_with fail
  go_ret
  exact ⟨rfl, H1.out, H2.out⟩

set_option maxRecDepth 100000 in
set_option maxHeartbeats 2000000 in
theorem text_11 (w : World) : Calls Tryd.prog 47 #[.int .u64 65537] w fun e w' => e = .returned (.tuple #[(.string { data := #[49, 46, 49] }), .int .i64 0]) ∧ w = w' := by
  have hc := Lib.hid (hCheck_ok 65537 w (by decide) (by decide) (by decide))
  have hp := Lib.hid (parts_any 65537 w (by decide) (by decide))
  go_enter Tryd.func47, Tryd.ntmps47
  go_wp2_with fail
  refine hc.out.mono ?_; rintro e w1 ⟨rfl, rfl⟩
  go_wp2_with fail
  refine hp.out.mono ?_; rintro e w1 ⟨rfl, rfl⟩
  go_wp2_with fail
  refine (itoa_1 _).mono ?_; rintro e w1 ⟨rfl, rfl⟩
  go_wp2_with fail
  refine (fmtU_1 _).mono ?_; rintro e w1 ⟨rfl, rfl⟩
  go_wp2_with fail
  go_ret2
  exact ⟨rfl, rfl⟩

set_option maxRecDepth 100000 in
set_option maxHeartbeats 2000000 in
theorem took_11 (b : LB) (x : FL) (w : World) (k : Nat) (hl : IsL w b x) (hi : FInv x) (hm : x.m = k + 1) (hh : hMk (x.sk k) (x.gn (x.sk k)) = 65537) :
    Calls Tryd.prog 41 #[.pointer (some ⟨b.p, 0, none⟩), (.string { data := #[49, 46, 49] })] w fun e w' => e = .returned (.bool true) ∧ IsL w' b (takeL x) ∧ KeepL b w w' := by
  have ht := take_ok b x w hl hi k hm
  rw [hh] at ht
  have HT := Lib.hid ht
  clear ht hl hi hm hh
  go_enter Tryd.func41, Tryd.ntmps41
  go_wp2_with fail
  refine HT.out.mono ?_; rintro e w1 ⟨rfl, h1, h2⟩
  have H1 := Lib.hid h1
  have H2 := Lib.hid h2
  clear h1 h2
  go_wp2_with fail
  refine (text_11 _).mono ?_; rintro e w1 ⟨rfl, rfl⟩
  go_wp2_with fail
  go_ret
  exact ⟨rfl, H1.out, H2.out⟩

set_option maxRecDepth 100000 in
set_option maxHeartbeats 2000000 in
theorem text_02 (w : World) : Calls Tryd.prog 47 #[.int .u64 131072] w fun e w' => e = .returned (.tuple #[(.string { data := #[48, 46, 50] }), .int .i64 0]) ∧ w = w' := by
  have hc := Lib.hid (hCheck_ok 131072 w (by decide) (by decide) (by decide))
  have hp := Lib.hid (parts_any 131072 w (by decide) (by decide))
  go_enter Tryd.func47, Tryd.ntmps47
  go_wp2_with fail
  refine hc.out.mono ?_; rintro e w1 ⟨rfl, rfl⟩
  go_wp2_with fail
  refine hp.out.mono ?_; rintro e w1 ⟨rfl, rfl⟩
  go_wp2_with fail
  refine (itoa_0 _).mono ?_; rintro e w1 ⟨rfl, rfl⟩
  go_wp2_with fail
  refine (fmtU_2 _).mono ?_; rintro e w1 ⟨rfl, rfl⟩
  go_wp2_with fail
  go_ret2
  exact ⟨rfl, rfl⟩

set_option maxRecDepth 100000 in
set_option maxHeartbeats 2000000 in
theorem took_02 (b : LB) (x : FL) (w : World) (k : Nat) (hl : IsL w b x) (hi : FInv x) (hm : x.m = k + 1) (hh : hMk (x.sk k) (x.gn (x.sk k)) = 131072) :
    Calls Tryd.prog 41 #[.pointer (some ⟨b.p, 0, none⟩), (.string { data := #[48, 46, 50] })] w fun e w' => e = .returned (.bool true) ∧ IsL w' b (takeL x) ∧ KeepL b w w' := by
  have ht := take_ok b x w hl hi k hm
  rw [hh] at ht
  have HT := Lib.hid ht
  clear ht hl hi hm hh
  go_enter Tryd.func41, Tryd.ntmps41
  go_wp2_with fail
  refine HT.out.mono ?_; rintro e w1 ⟨rfl, h1, h2⟩
  have H1 := Lib.hid h1
  have H2 := Lib.hid h2
  clear h1 h2
  go_wp2_with fail
  refine (text_02 _).mono ?_; rintro e w1 ⟨rfl, rfl⟩
  go_wp2_with fail
  go_ret
  exact ⟨rfl, H1.out, H2.out⟩

set_option maxRecDepth 100000 in
set_option maxHeartbeats 2000000 in
theorem text_21 (w : World) : Calls Tryd.prog 47 #[.int .u64 65538] w fun e w' => e = .returned (.tuple #[(.string { data := #[50, 46, 49] }), .int .i64 0]) ∧ w = w' := by
  have hc := Lib.hid (hCheck_ok 65538 w (by decide) (by decide) (by decide))
  have hp := Lib.hid (parts_any 65538 w (by decide) (by decide))
  go_enter Tryd.func47, Tryd.ntmps47
  go_wp2_with fail
  refine hc.out.mono ?_; rintro e w1 ⟨rfl, rfl⟩
  go_wp2_with fail
  refine hp.out.mono ?_; rintro e w1 ⟨rfl, rfl⟩
  go_wp2_with fail
  refine (itoa_2 _).mono ?_; rintro e w1 ⟨rfl, rfl⟩
  go_wp2_with fail
  refine (fmtU_1 _).mono ?_; rintro e w1 ⟨rfl, rfl⟩
  go_wp2_with fail
  go_ret2
  exact ⟨rfl, rfl⟩

set_option maxRecDepth 100000 in
set_option maxHeartbeats 2000000 in
theorem took_21 (b : LB) (x : FL) (w : World) (k : Nat) (hl : IsL w b x) (hi : FInv x) (hm : x.m = k + 1) (hh : hMk (x.sk k) (x.gn (x.sk k)) = 65538) :
    Calls Tryd.prog 41 #[.pointer (some ⟨b.p, 0, none⟩), (.string { data := #[50, 46, 49] })] w fun e w' => e = .returned (.bool true) ∧ IsL w' b (takeL x) ∧ KeepL b w w' := by
  have ht := take_ok b x w hl hi k hm
  rw [hh] at ht
  have HT := Lib.hid ht
  clear ht hl hi hm hh
  go_enter Tryd.func41, Tryd.ntmps41
  go_wp2_with fail
  refine HT.out.mono ?_; rintro e w1 ⟨rfl, h1, h2⟩
  have H1 := Lib.hid h1
  have H2 := Lib.hid h2
  clear h1 h2
  go_wp2_with fail
  refine (text_21 _).mono ?_; rintro e w1 ⟨rfl, rfl⟩
  go_wp2_with fail
  go_ret
  exact ⟨rfl, H1.out, H2.out⟩
end Go.Proofs.YtpcpjmgkdbgopaaDoor
