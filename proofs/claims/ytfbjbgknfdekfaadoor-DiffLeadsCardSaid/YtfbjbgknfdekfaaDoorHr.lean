/- Diff: the law Leads: its walk. -/
import Derived.Test.YtfbjbgknfdekfaaDoorHq
namespace Go.Proofs.YtfbjbgknfdekfaaDoor
open Go.RowKit
set_option linter.unusedVariables false

set_option maxRecDepth 100000 in
set_option maxHeartbeats 4000000 in
theorem leads_5555 (a b : ByteArray) (w : World) (d l n m : List Pc) (hbt : ∀ u, Calls Tryd.prog 14 #[.string a, .string b] u (Rowed u d 5)) (hln : ∀ u, Calls Tryd.prog 17 #[.string a, .string b] u (Rowed u l 5)) (hba : ∀ u, Calls Tryd.prog 14 #[.string a, .string a] u (Rowed u n 5)) (hla : ∀ u, Calls Tryd.prog 17 #[.string a, .string a] u (Rowed u m 5)) (hid : ∀ u, Calls Tryd.prog 26 #[.int .i64 a.size] u (Rowed u n 5)) (hnl : n.length ≤ 9223372036854775807) : Calls Tryd.prog 9 #[.string a, .string b] w fun e w' => e = .returned (.bool true) ∧ Below w.heap.size w w' := by
  have HBT := Lib.hid hbt
  have HLN := Lib.hid hln
  have HBA := Lib.hid hba
  have HLA := Lib.hid hla
  have HID := Lib.hid hid
  have HNL := Lib.hid hnl
  clear hbt hln hba hla hid hnl
  go_enter Tryd.func9, Tryd.ntmps9
  have HC1 := Lib.hid (HBT.out w)
  go_wp2_with fail
  refine (HC1.out).mono ?_; rintro e w1 ⟨v1, rfl, hown1, hb1⟩
  have HB1 := Lib.hid (below_two (Below.refl w.heap.size w) hb1)
  obtain ⟨aod, capd, rfl, hr1, hncd, hg1⟩ := IsR.owned (f := fP) (s := 3) fP_len (l := d) (n := (d).length) rfl hown1
  have Hd1 := Lib.hid hr1
  have HNd := Lib.hid hncd
  clear hb1 HC1 hown1 hr1 hg1 hncd
  have HC2 := Lib.hid (HLN.out w1)
  go_wp2_with fail
  refine (HC2.out).mono ?_; rintro e w2 ⟨v2, rfl, hown2, hb2⟩
  have HB2 := Lib.hid (below_two HB1.out hb2)
  have Hd2 := Lib.hid (Hd1.out.later hb2)
  obtain ⟨aol, capl, rfl, hr2, hncl, hg2⟩ := IsR.owned (f := fP) (s := 3) fP_len (l := l) (n := (l).length) rfl hown2
  have Hl2 := Lib.hid hr2
  have HNl := Lib.hid hncl
  clear hb2 HC2 hown2 hr2 hg2 hncl
  have HC3 := Lib.hid (HBA.out w2)
  go_wp2_with fail
  refine (HC3.out).mono ?_; rintro e w3 ⟨v3, rfl, hown3, hb3⟩
  have HB3 := Lib.hid (below_two HB2.out hb3)
  have Hd3 := Lib.hid (Hd2.out.later hb3)
  have Hl3 := Lib.hid (Hl2.out.later hb3)
  obtain ⟨aox, capx, rfl, hr3, hncx, hg3⟩ := IsR.owned (f := fP) (s := 3) fP_len (l := n) (n := (n).length) rfl hown3
  have Hx3 := Lib.hid hr3
  have HNx := Lib.hid hncx
  clear hb3 HC3 hown3 hr3 hg3 hncx
  have HC4 := Lib.hid (HLA.out w3)
  go_wp2_with fail
  refine (HC4.out).mono ?_; rintro e w4 ⟨v4, rfl, hown4, hb4⟩
  have HB4 := Lib.hid (below_two HB3.out hb4)
  have Hd4 := Lib.hid (Hd3.out.later hb4)
  have Hl4 := Lib.hid (Hl3.out.later hb4)
  have Hx4 := Lib.hid (Hx3.out.later hb4)
  obtain ⟨aoy, capy, rfl, hr4, hncy, hg4⟩ := IsR.owned (f := fP) (s := 3) fP_len (l := m) (n := (m).length) rfl hown4
  have Hy4 := Lib.hid hr4
  have HNy := Lib.hid hncy
  clear hb4 HC4 hown4 hr4 hg4 hncy
  have HC5 := Lib.hid (HID.out w4)
  go_wp2_with fail
  refine (HC5.out).mono ?_; rintro e w5 ⟨v5, rfl, hown5, hb5⟩
  have HB5 := Lib.hid (below_two HB4.out hb5)
  have Hd5 := Lib.hid (Hd4.out.later hb5)
  have Hl5 := Lib.hid (Hl4.out.later hb5)
  have Hx5 := Lib.hid (Hx4.out.later hb5)
  have Hy5 := Lib.hid (Hy4.out.later hb5)
  obtain ⟨aoi, capi, rfl, hr5, hnci, hg5⟩ := IsR.owned (f := fP) (s := 3) fP_len (l := n) (n := (n).length) rfl hown5
  have Hi5 := Lib.hid hr5
  have HNi := Lib.hid hnci
  clear hb5 HC5 hown5 hr5 hg5 hnci
  have HC6 := Lib.hid (refSame_self aox aoi n.length capx n.length capi n w5 Hx5.out Hi5.out HNL.out)
  go_wp2_with fail
  refine (HC6.out).mono ?_; rintro e w6 ⟨rfl, hb6⟩
  have HB6 := Lib.hid (below_two HB5.out hb6)
  have Hd6 := Lib.hid (Hd5.out.later hb6)
  have Hl6 := Lib.hid (Hl5.out.later hb6)
  have Hx6 := Lib.hid (Hx5.out.later hb6)
  have Hy6 := Lib.hid (Hy5.out.later hb6)
  have Hi6 := Lib.hid (Hi5.out.later hb6)
  clear hb6 HC6
  have HC7 := Lib.hid (known_any w6)
  go_wp2_with fail
  refine (HC7.out).mono ?_; rintro e w7 ⟨rfl, hb7⟩
  have HB7 := Lib.hid (below_two HB6.out hb7)
  have Hd7 := Lib.hid (Hd6.out.later hb7)
  have Hl7 := Lib.hid (Hl6.out.later hb7)
  have Hx7 := Lib.hid (Hx6.out.later hb7)
  have Hy7 := Lib.hid (Hy6.out.later hb7)
  have Hi7 := Lib.hid (Hi6.out.later hb7)
  clear hb7 HC7
  go_wp2_with fail
  go_ret
  exact ⟨rfl, HB7.out⟩
set_option maxRecDepth 100000 in
set_option maxHeartbeats 4000000 in
theorem leads_5500 (a b : ByteArray) (w : World) (d l n m : List Pc) (hbt : ∀ u, Calls Tryd.prog 14 #[.string a, .string b] u (Rowed u d 5)) (hln : ∀ u, Calls Tryd.prog 17 #[.string a, .string b] u (Rowed u l 5)) (hba : ∀ u, Calls Tryd.prog 14 #[.string a, .string a] u (Rowed u n 0)) (hla : ∀ u, Calls Tryd.prog 17 #[.string a, .string a] u (Rowed u n 0)) (hid : ∀ u, Calls Tryd.prog 26 #[.int .i64 a.size] u (Rowed u n 0)) (hnl : n.length ≤ 9223372036854775807) : Calls Tryd.prog 9 #[.string a, .string b] w fun e w' => e = .returned (.bool true) ∧ Below w.heap.size w w' := by
  have HBT := Lib.hid hbt
  have HLN := Lib.hid hln
  have HBA := Lib.hid hba
  have HLA := Lib.hid hla
  have HID := Lib.hid hid
  have HNL := Lib.hid hnl
  clear hbt hln hba hla hid hnl
  go_enter Tryd.func9, Tryd.ntmps9
  have HC1 := Lib.hid (HBT.out w)
  go_wp2_with fail
  refine (HC1.out).mono ?_; rintro e w1 ⟨v1, rfl, hown1, hb1⟩
  have HB1 := Lib.hid (below_two (Below.refl w.heap.size w) hb1)
  obtain ⟨aod, capd, rfl, hr1, hncd, hg1⟩ := IsR.owned (f := fP) (s := 3) fP_len (l := d) (n := (d).length) rfl hown1
  have Hd1 := Lib.hid hr1
  have HNd := Lib.hid hncd
  clear hb1 HC1 hown1 hr1 hg1 hncd
  have HC2 := Lib.hid (HLN.out w1)
  go_wp2_with fail
  refine (HC2.out).mono ?_; rintro e w2 ⟨v2, rfl, hown2, hb2⟩
  have HB2 := Lib.hid (below_two HB1.out hb2)
  have Hd2 := Lib.hid (Hd1.out.later hb2)
  obtain ⟨aol, capl, rfl, hr2, hncl, hg2⟩ := IsR.owned (f := fP) (s := 3) fP_len (l := l) (n := (l).length) rfl hown2
  have Hl2 := Lib.hid hr2
  have HNl := Lib.hid hncl
  clear hb2 HC2 hown2 hr2 hg2 hncl
  have HC3 := Lib.hid (HBA.out w2)
  go_wp2_with fail
  refine (HC3.out).mono ?_; rintro e w3 ⟨v3, rfl, hown3, hb3⟩
  have HB3 := Lib.hid (below_two HB2.out hb3)
  have Hd3 := Lib.hid (Hd2.out.later hb3)
  have Hl3 := Lib.hid (Hl2.out.later hb3)
  obtain ⟨aox, capx, rfl, hr3, hncx, hg3⟩ := IsR.owned (f := fP) (s := 3) fP_len (l := n) (n := (n).length) rfl hown3
  have Hx3 := Lib.hid hr3
  have HNx := Lib.hid hncx
  clear hb3 HC3 hown3 hr3 hg3 hncx
  have HC4 := Lib.hid (HLA.out w3)
  go_wp2_with fail
  refine (HC4.out).mono ?_; rintro e w4 ⟨v4, rfl, hown4, hb4⟩
  have HB4 := Lib.hid (below_two HB3.out hb4)
  have Hd4 := Lib.hid (Hd3.out.later hb4)
  have Hl4 := Lib.hid (Hl3.out.later hb4)
  have Hx4 := Lib.hid (Hx3.out.later hb4)
  obtain ⟨aoy, capy, rfl, hr4, hncy, hg4⟩ := IsR.owned (f := fP) (s := 3) fP_len (l := n) (n := (n).length) rfl hown4
  have Hy4 := Lib.hid hr4
  have HNy := Lib.hid hncy
  clear hb4 HC4 hown4 hr4 hg4 hncy
  have HC5 := Lib.hid (HID.out w4)
  go_wp2_with fail
  refine (HC5.out).mono ?_; rintro e w5 ⟨v5, rfl, hown5, hb5⟩
  have HB5 := Lib.hid (below_two HB4.out hb5)
  have Hd5 := Lib.hid (Hd4.out.later hb5)
  have Hl5 := Lib.hid (Hl4.out.later hb5)
  have Hx5 := Lib.hid (Hx4.out.later hb5)
  have Hy5 := Lib.hid (Hy4.out.later hb5)
  obtain ⟨aoi, capi, rfl, hr5, hnci, hg5⟩ := IsR.owned (f := fP) (s := 3) fP_len (l := n) (n := (n).length) rfl hown5
  have Hi5 := Lib.hid hr5
  have HNi := Lib.hid hnci
  clear hb5 HC5 hown5 hr5 hg5 hnci
  have HC6 := Lib.hid (refSame_self aox aoi n.length capx n.length capi n w5 Hx5.out Hi5.out HNL.out)
  go_wp2_with fail
  refine (HC6.out).mono ?_; rintro e w6 ⟨rfl, hb6⟩
  have HB6 := Lib.hid (below_two HB5.out hb6)
  have Hd6 := Lib.hid (Hd5.out.later hb6)
  have Hl6 := Lib.hid (Hl5.out.later hb6)
  have Hx6 := Lib.hid (Hx5.out.later hb6)
  have Hy6 := Lib.hid (Hy5.out.later hb6)
  have Hi6 := Lib.hid (Hi5.out.later hb6)
  clear hb6 HC6
  have HC7 := Lib.hid (refSame_self aoy aoi n.length capy n.length capi n w6 Hy6.out Hi6.out HNL.out)
  go_wp2_with fail
  refine (HC7.out).mono ?_; rintro e w7 ⟨rfl, hb7⟩
  have HB7 := Lib.hid (below_two HB6.out hb7)
  have Hd7 := Lib.hid (Hd6.out.later hb7)
  have Hl7 := Lib.hid (Hl6.out.later hb7)
  have Hx7 := Lib.hid (Hx6.out.later hb7)
  have Hy7 := Lib.hid (Hy6.out.later hb7)
  have Hi7 := Lib.hid (Hi6.out.later hb7)
  clear hb7 HC7
  have HC8 := Lib.hid (known_any w7)
  go_wp2_with fail
  refine (HC8.out).mono ?_; rintro e w8 ⟨rfl, hb8⟩
  have HB8 := Lib.hid (below_two HB7.out hb8)
  have Hd8 := Lib.hid (Hd7.out.later hb8)
  have Hl8 := Lib.hid (Hl7.out.later hb8)
  have Hx8 := Lib.hid (Hx7.out.later hb8)
  have Hy8 := Lib.hid (Hy7.out.later hb8)
  have Hi8 := Lib.hid (Hi7.out.later hb8)
  clear hb8 HC8
  go_wp2_with fail
  go_ret
  exact ⟨rfl, HB8.out⟩
set_option maxRecDepth 100000 in
set_option maxHeartbeats 4000000 in
theorem leads_5505 (a b : ByteArray) (w : World) (d l n m : List Pc) (hbt : ∀ u, Calls Tryd.prog 14 #[.string a, .string b] u (Rowed u d 5)) (hln : ∀ u, Calls Tryd.prog 17 #[.string a, .string b] u (Rowed u l 5)) (hba : ∀ u, Calls Tryd.prog 14 #[.string a, .string a] u (Rowed u n 0)) (hla : ∀ u, Calls Tryd.prog 17 #[.string a, .string a] u (Rowed u m 5)) (hid : ∀ u, Calls Tryd.prog 26 #[.int .i64 a.size] u (Rowed u n 0)) (hnl : n.length ≤ 9223372036854775807) : Calls Tryd.prog 9 #[.string a, .string b] w fun e w' => e = .returned (.bool true) ∧ Below w.heap.size w w' := by
  have HBT := Lib.hid hbt
  have HLN := Lib.hid hln
  have HBA := Lib.hid hba
  have HLA := Lib.hid hla
  have HID := Lib.hid hid
  have HNL := Lib.hid hnl
  clear hbt hln hba hla hid hnl
  go_enter Tryd.func9, Tryd.ntmps9
  have HC1 := Lib.hid (HBT.out w)
  go_wp2_with fail
  refine (HC1.out).mono ?_; rintro e w1 ⟨v1, rfl, hown1, hb1⟩
  have HB1 := Lib.hid (below_two (Below.refl w.heap.size w) hb1)
  obtain ⟨aod, capd, rfl, hr1, hncd, hg1⟩ := IsR.owned (f := fP) (s := 3) fP_len (l := d) (n := (d).length) rfl hown1
  have Hd1 := Lib.hid hr1
  have HNd := Lib.hid hncd
  clear hb1 HC1 hown1 hr1 hg1 hncd
  have HC2 := Lib.hid (HLN.out w1)
  go_wp2_with fail
  refine (HC2.out).mono ?_; rintro e w2 ⟨v2, rfl, hown2, hb2⟩
  have HB2 := Lib.hid (below_two HB1.out hb2)
  have Hd2 := Lib.hid (Hd1.out.later hb2)
  obtain ⟨aol, capl, rfl, hr2, hncl, hg2⟩ := IsR.owned (f := fP) (s := 3) fP_len (l := l) (n := (l).length) rfl hown2
  have Hl2 := Lib.hid hr2
  have HNl := Lib.hid hncl
  clear hb2 HC2 hown2 hr2 hg2 hncl
  have HC3 := Lib.hid (HBA.out w2)
  go_wp2_with fail
  refine (HC3.out).mono ?_; rintro e w3 ⟨v3, rfl, hown3, hb3⟩
  have HB3 := Lib.hid (below_two HB2.out hb3)
  have Hd3 := Lib.hid (Hd2.out.later hb3)
  have Hl3 := Lib.hid (Hl2.out.later hb3)
  obtain ⟨aox, capx, rfl, hr3, hncx, hg3⟩ := IsR.owned (f := fP) (s := 3) fP_len (l := n) (n := (n).length) rfl hown3
  have Hx3 := Lib.hid hr3
  have HNx := Lib.hid hncx
  clear hb3 HC3 hown3 hr3 hg3 hncx
  have HC4 := Lib.hid (HLA.out w3)
  go_wp2_with fail
  refine (HC4.out).mono ?_; rintro e w4 ⟨v4, rfl, hown4, hb4⟩
  have HB4 := Lib.hid (below_two HB3.out hb4)
  have Hd4 := Lib.hid (Hd3.out.later hb4)
  have Hl4 := Lib.hid (Hl3.out.later hb4)
  have Hx4 := Lib.hid (Hx3.out.later hb4)
  obtain ⟨aoy, capy, rfl, hr4, hncy, hg4⟩ := IsR.owned (f := fP) (s := 3) fP_len (l := m) (n := (m).length) rfl hown4
  have Hy4 := Lib.hid hr4
  have HNy := Lib.hid hncy
  clear hb4 HC4 hown4 hr4 hg4 hncy
  have HC5 := Lib.hid (HID.out w4)
  go_wp2_with fail
  refine (HC5.out).mono ?_; rintro e w5 ⟨v5, rfl, hown5, hb5⟩
  have HB5 := Lib.hid (below_two HB4.out hb5)
  have Hd5 := Lib.hid (Hd4.out.later hb5)
  have Hl5 := Lib.hid (Hl4.out.later hb5)
  have Hx5 := Lib.hid (Hx4.out.later hb5)
  have Hy5 := Lib.hid (Hy4.out.later hb5)
  obtain ⟨aoi, capi, rfl, hr5, hnci, hg5⟩ := IsR.owned (f := fP) (s := 3) fP_len (l := n) (n := (n).length) rfl hown5
  have Hi5 := Lib.hid hr5
  have HNi := Lib.hid hnci
  clear hb5 HC5 hown5 hr5 hg5 hnci
  have HC6 := Lib.hid (refSame_self aox aoi n.length capx n.length capi n w5 Hx5.out Hi5.out HNL.out)
  go_wp2_with fail
  refine (HC6.out).mono ?_; rintro e w6 ⟨rfl, hb6⟩
  have HB6 := Lib.hid (below_two HB5.out hb6)
  have Hd6 := Lib.hid (Hd5.out.later hb6)
  have Hl6 := Lib.hid (Hl5.out.later hb6)
  have Hx6 := Lib.hid (Hx5.out.later hb6)
  have Hy6 := Lib.hid (Hy5.out.later hb6)
  have Hi6 := Lib.hid (Hi5.out.later hb6)
  clear hb6 HC6
  have HC7 := Lib.hid (known_any w6)
  go_wp2_with fail
  refine (HC7.out).mono ?_; rintro e w7 ⟨rfl, hb7⟩
  have HB7 := Lib.hid (below_two HB6.out hb7)
  have Hd7 := Lib.hid (Hd6.out.later hb7)
  have Hl7 := Lib.hid (Hl6.out.later hb7)
  have Hx7 := Lib.hid (Hx6.out.later hb7)
  have Hy7 := Lib.hid (Hy6.out.later hb7)
  have Hi7 := Lib.hid (Hi6.out.later hb7)
  clear hb7 HC7
  go_wp2_with fail
  go_ret
  exact ⟨rfl, HB7.out⟩
set_option maxRecDepth 100000 in
set_option maxHeartbeats 4000000 in
theorem leads_0500 (a b : ByteArray) (w : World) (d l n m : List Pc) (hbt : ∀ u, Calls Tryd.prog 14 #[.string a, .string b] u (Rowed u d 0)) (hln : ∀ u, Calls Tryd.prog 17 #[.string a, .string b] u (Rowed u l 5)) (hba : ∀ u, Calls Tryd.prog 14 #[.string a, .string a] u (Rowed u n 0)) (hla : ∀ u, Calls Tryd.prog 17 #[.string a, .string a] u (Rowed u n 0)) (hid : ∀ u, Calls Tryd.prog 26 #[.int .i64 a.size] u (Rowed u n 0)) (hnl : n.length ≤ 9223372036854775807) (had : ∀ (u : World) (ao : Option Addr) (c : Nat), IsR fP u ao d.length d → Calls Tryd.prog 25 #[.string a, .slice ao d.length c] u fun e w' => e = .returned (.tuple #[.string b, .int .i64 0]) ∧ Below u.heap.size u w') : Calls Tryd.prog 9 #[.string a, .string b] w fun e w' => e = .returned (.bool true) ∧ Below w.heap.size w w' := by
  have HBT := Lib.hid hbt
  have HLN := Lib.hid hln
  have HBA := Lib.hid hba
  have HLA := Lib.hid hla
  have HID := Lib.hid hid
  have HNL := Lib.hid hnl
  have HAD := Lib.hid had
  clear hbt hln hba hla hid hnl had
  go_enter Tryd.func9, Tryd.ntmps9
  have HC1 := Lib.hid (HBT.out w)
  go_wp2_with fail
  refine (HC1.out).mono ?_; rintro e w1 ⟨v1, rfl, hown1, hb1⟩
  have HB1 := Lib.hid (below_two (Below.refl w.heap.size w) hb1)
  obtain ⟨aod, capd, rfl, hr1, hncd, hg1⟩ := IsR.owned (f := fP) (s := 3) fP_len (l := d) (n := (d).length) rfl hown1
  have Hd1 := Lib.hid hr1
  have HNd := Lib.hid hncd
  clear hb1 HC1 hown1 hr1 hg1 hncd
  have HC2 := Lib.hid (HLN.out w1)
  go_wp2_with fail
  refine (HC2.out).mono ?_; rintro e w2 ⟨v2, rfl, hown2, hb2⟩
  have HB2 := Lib.hid (below_two HB1.out hb2)
  have Hd2 := Lib.hid (Hd1.out.later hb2)
  obtain ⟨aol, capl, rfl, hr2, hncl, hg2⟩ := IsR.owned (f := fP) (s := 3) fP_len (l := l) (n := (l).length) rfl hown2
  have Hl2 := Lib.hid hr2
  have HNl := Lib.hid hncl
  clear hb2 HC2 hown2 hr2 hg2 hncl
  have HC3 := Lib.hid (HAD.out w2 aod capd Hd2.out)
  go_wp2_with fail
  refine (HC3.out).mono ?_; rintro e w3 ⟨rfl, hb3⟩
  have HB3 := Lib.hid (below_two HB2.out hb3)
  have Hd3 := Lib.hid (Hd2.out.later hb3)
  have Hl3 := Lib.hid (Hl2.out.later hb3)
  clear hb3 HC3
  have HC4 := Lib.hid (HBA.out w3)
  go_wp2_with fail
  refine (HC4.out).mono ?_; rintro e w4 ⟨v4, rfl, hown4, hb4⟩
  have HB4 := Lib.hid (below_two HB3.out hb4)
  have Hd4 := Lib.hid (Hd3.out.later hb4)
  have Hl4 := Lib.hid (Hl3.out.later hb4)
  obtain ⟨aox, capx, rfl, hr4, hncx, hg4⟩ := IsR.owned (f := fP) (s := 3) fP_len (l := n) (n := (n).length) rfl hown4
  have Hx4 := Lib.hid hr4
  have HNx := Lib.hid hncx
  clear hb4 HC4 hown4 hr4 hg4 hncx
  have HC5 := Lib.hid (HLA.out w4)
  go_wp2_with fail
  refine (HC5.out).mono ?_; rintro e w5 ⟨v5, rfl, hown5, hb5⟩
  have HB5 := Lib.hid (below_two HB4.out hb5)
  have Hd5 := Lib.hid (Hd4.out.later hb5)
  have Hl5 := Lib.hid (Hl4.out.later hb5)
  have Hx5 := Lib.hid (Hx4.out.later hb5)
  obtain ⟨aoy, capy, rfl, hr5, hncy, hg5⟩ := IsR.owned (f := fP) (s := 3) fP_len (l := n) (n := (n).length) rfl hown5
  have Hy5 := Lib.hid hr5
  have HNy := Lib.hid hncy
  clear hb5 HC5 hown5 hr5 hg5 hncy
  have HC6 := Lib.hid (HID.out w5)
  go_wp2_with fail
  refine (HC6.out).mono ?_; rintro e w6 ⟨v6, rfl, hown6, hb6⟩
  have HB6 := Lib.hid (below_two HB5.out hb6)
  have Hd6 := Lib.hid (Hd5.out.later hb6)
  have Hl6 := Lib.hid (Hl5.out.later hb6)
  have Hx6 := Lib.hid (Hx5.out.later hb6)
  have Hy6 := Lib.hid (Hy5.out.later hb6)
  obtain ⟨aoi, capi, rfl, hr6, hnci, hg6⟩ := IsR.owned (f := fP) (s := 3) fP_len (l := n) (n := (n).length) rfl hown6
  have Hi6 := Lib.hid hr6
  have HNi := Lib.hid hnci
  clear hb6 HC6 hown6 hr6 hg6 hnci
  have HC7 := Lib.hid (refSame_self aox aoi n.length capx n.length capi n w6 Hx6.out Hi6.out HNL.out)
  go_wp2_with fail
  refine (HC7.out).mono ?_; rintro e w7 ⟨rfl, hb7⟩
  have HB7 := Lib.hid (below_two HB6.out hb7)
  have Hd7 := Lib.hid (Hd6.out.later hb7)
  have Hl7 := Lib.hid (Hl6.out.later hb7)
  have Hx7 := Lib.hid (Hx6.out.later hb7)
  have Hy7 := Lib.hid (Hy6.out.later hb7)
  have Hi7 := Lib.hid (Hi6.out.later hb7)
  clear hb7 HC7
  have HC8 := Lib.hid (refSame_self aoy aoi n.length capy n.length capi n w7 Hy7.out Hi7.out HNL.out)
  go_wp2_with fail
  refine (HC8.out).mono ?_; rintro e w8 ⟨rfl, hb8⟩
  have HB8 := Lib.hid (below_two HB7.out hb8)
  have Hd8 := Lib.hid (Hd7.out.later hb8)
  have Hl8 := Lib.hid (Hl7.out.later hb8)
  have Hx8 := Lib.hid (Hx7.out.later hb8)
  have Hy8 := Lib.hid (Hy7.out.later hb8)
  have Hi8 := Lib.hid (Hi7.out.later hb8)
  clear hb8 HC8
  have HC9 := Lib.hid (known_any w8)
  go_wp2_with fail
  refine (HC9.out).mono ?_; rintro e w9 ⟨rfl, hb9⟩
  have HB9 := Lib.hid (below_two HB8.out hb9)
  have Hd9 := Lib.hid (Hd8.out.later hb9)
  have Hl9 := Lib.hid (Hl8.out.later hb9)
  have Hx9 := Lib.hid (Hx8.out.later hb9)
  have Hy9 := Lib.hid (Hy8.out.later hb9)
  have Hi9 := Lib.hid (Hi8.out.later hb9)
  clear hb9 HC9
  go_wp2_with fail
  go_ret
  exact ⟨rfl, HB9.out⟩
set_option maxRecDepth 100000 in
set_option maxHeartbeats 4000000 in
theorem leads_0505 (a b : ByteArray) (w : World) (d l n m : List Pc) (hbt : ∀ u, Calls Tryd.prog 14 #[.string a, .string b] u (Rowed u d 0)) (hln : ∀ u, Calls Tryd.prog 17 #[.string a, .string b] u (Rowed u l 5)) (hba : ∀ u, Calls Tryd.prog 14 #[.string a, .string a] u (Rowed u n 0)) (hla : ∀ u, Calls Tryd.prog 17 #[.string a, .string a] u (Rowed u m 5)) (hid : ∀ u, Calls Tryd.prog 26 #[.int .i64 a.size] u (Rowed u n 0)) (hnl : n.length ≤ 9223372036854775807) (had : ∀ (u : World) (ao : Option Addr) (c : Nat), IsR fP u ao d.length d → Calls Tryd.prog 25 #[.string a, .slice ao d.length c] u fun e w' => e = .returned (.tuple #[.string b, .int .i64 0]) ∧ Below u.heap.size u w') : Calls Tryd.prog 9 #[.string a, .string b] w fun e w' => e = .returned (.bool true) ∧ Below w.heap.size w w' := by
  have HBT := Lib.hid hbt
  have HLN := Lib.hid hln
  have HBA := Lib.hid hba
  have HLA := Lib.hid hla
  have HID := Lib.hid hid
  have HNL := Lib.hid hnl
  have HAD := Lib.hid had
  clear hbt hln hba hla hid hnl had
  go_enter Tryd.func9, Tryd.ntmps9
  have HC1 := Lib.hid (HBT.out w)
  go_wp2_with fail
  refine (HC1.out).mono ?_; rintro e w1 ⟨v1, rfl, hown1, hb1⟩
  have HB1 := Lib.hid (below_two (Below.refl w.heap.size w) hb1)
  obtain ⟨aod, capd, rfl, hr1, hncd, hg1⟩ := IsR.owned (f := fP) (s := 3) fP_len (l := d) (n := (d).length) rfl hown1
  have Hd1 := Lib.hid hr1
  have HNd := Lib.hid hncd
  clear hb1 HC1 hown1 hr1 hg1 hncd
  have HC2 := Lib.hid (HLN.out w1)
  go_wp2_with fail
  refine (HC2.out).mono ?_; rintro e w2 ⟨v2, rfl, hown2, hb2⟩
  have HB2 := Lib.hid (below_two HB1.out hb2)
  have Hd2 := Lib.hid (Hd1.out.later hb2)
  obtain ⟨aol, capl, rfl, hr2, hncl, hg2⟩ := IsR.owned (f := fP) (s := 3) fP_len (l := l) (n := (l).length) rfl hown2
  have Hl2 := Lib.hid hr2
  have HNl := Lib.hid hncl
  clear hb2 HC2 hown2 hr2 hg2 hncl
  have HC3 := Lib.hid (HAD.out w2 aod capd Hd2.out)
  go_wp2_with fail
  refine (HC3.out).mono ?_; rintro e w3 ⟨rfl, hb3⟩
  have HB3 := Lib.hid (below_two HB2.out hb3)
  have Hd3 := Lib.hid (Hd2.out.later hb3)
  have Hl3 := Lib.hid (Hl2.out.later hb3)
  clear hb3 HC3
  have HC4 := Lib.hid (HBA.out w3)
  go_wp2_with fail
  refine (HC4.out).mono ?_; rintro e w4 ⟨v4, rfl, hown4, hb4⟩
  have HB4 := Lib.hid (below_two HB3.out hb4)
  have Hd4 := Lib.hid (Hd3.out.later hb4)
  have Hl4 := Lib.hid (Hl3.out.later hb4)
  obtain ⟨aox, capx, rfl, hr4, hncx, hg4⟩ := IsR.owned (f := fP) (s := 3) fP_len (l := n) (n := (n).length) rfl hown4
  have Hx4 := Lib.hid hr4
  have HNx := Lib.hid hncx
  clear hb4 HC4 hown4 hr4 hg4 hncx
  have HC5 := Lib.hid (HLA.out w4)
  go_wp2_with fail
  refine (HC5.out).mono ?_; rintro e w5 ⟨v5, rfl, hown5, hb5⟩
  have HB5 := Lib.hid (below_two HB4.out hb5)
  have Hd5 := Lib.hid (Hd4.out.later hb5)
  have Hl5 := Lib.hid (Hl4.out.later hb5)
  have Hx5 := Lib.hid (Hx4.out.later hb5)
  obtain ⟨aoy, capy, rfl, hr5, hncy, hg5⟩ := IsR.owned (f := fP) (s := 3) fP_len (l := m) (n := (m).length) rfl hown5
  have Hy5 := Lib.hid hr5
  have HNy := Lib.hid hncy
  clear hb5 HC5 hown5 hr5 hg5 hncy
  have HC6 := Lib.hid (HID.out w5)
  go_wp2_with fail
  refine (HC6.out).mono ?_; rintro e w6 ⟨v6, rfl, hown6, hb6⟩
  have HB6 := Lib.hid (below_two HB5.out hb6)
  have Hd6 := Lib.hid (Hd5.out.later hb6)
  have Hl6 := Lib.hid (Hl5.out.later hb6)
  have Hx6 := Lib.hid (Hx5.out.later hb6)
  have Hy6 := Lib.hid (Hy5.out.later hb6)
  obtain ⟨aoi, capi, rfl, hr6, hnci, hg6⟩ := IsR.owned (f := fP) (s := 3) fP_len (l := n) (n := (n).length) rfl hown6
  have Hi6 := Lib.hid hr6
  have HNi := Lib.hid hnci
  clear hb6 HC6 hown6 hr6 hg6 hnci
  have HC7 := Lib.hid (refSame_self aox aoi n.length capx n.length capi n w6 Hx6.out Hi6.out HNL.out)
  go_wp2_with fail
  refine (HC7.out).mono ?_; rintro e w7 ⟨rfl, hb7⟩
  have HB7 := Lib.hid (below_two HB6.out hb7)
  have Hd7 := Lib.hid (Hd6.out.later hb7)
  have Hl7 := Lib.hid (Hl6.out.later hb7)
  have Hx7 := Lib.hid (Hx6.out.later hb7)
  have Hy7 := Lib.hid (Hy6.out.later hb7)
  have Hi7 := Lib.hid (Hi6.out.later hb7)
  clear hb7 HC7
  have HC8 := Lib.hid (known_any w7)
  go_wp2_with fail
  refine (HC8.out).mono ?_; rintro e w8 ⟨rfl, hb8⟩
  have HB8 := Lib.hid (below_two HB7.out hb8)
  have Hd8 := Lib.hid (Hd7.out.later hb8)
  have Hl8 := Lib.hid (Hl7.out.later hb8)
  have Hx8 := Lib.hid (Hx7.out.later hb8)
  have Hy8 := Lib.hid (Hy7.out.later hb8)
  have Hi8 := Lib.hid (Hi7.out.later hb8)
  clear hb8 HC8
  go_wp2_with fail
  go_ret
  exact ⟨rfl, HB8.out⟩
set_option maxRecDepth 100000 in
set_option maxHeartbeats 4000000 in
theorem leads_0000 (a b : ByteArray) (w : World) (d l n m : List Pc) (hbt : ∀ u, Calls Tryd.prog 14 #[.string a, .string b] u (Rowed u d 0)) (hln : ∀ u, Calls Tryd.prog 17 #[.string a, .string b] u (Rowed u l 0)) (hba : ∀ u, Calls Tryd.prog 14 #[.string a, .string a] u (Rowed u n 0)) (hla : ∀ u, Calls Tryd.prog 17 #[.string a, .string a] u (Rowed u n 0)) (hid : ∀ u, Calls Tryd.prog 26 #[.int .i64 a.size] u (Rowed u n 0)) (hnl : n.length ≤ 9223372036854775807) (had : ∀ (u : World) (ao : Option Addr) (c : Nat), IsR fP u ao d.length d → Calls Tryd.prog 25 #[.string a, .slice ao d.length c] u fun e w' => e = .returned (.tuple #[.string b, .int .i64 0]) ∧ Below u.heap.size u w') (hal : ∀ (u : World) (ao : Option Addr) (c : Nat), IsR fP u ao l.length l → Calls Tryd.prog 25 #[.string a, .slice ao l.length c] u fun e w' => e = .returned (.tuple #[.string b, .int .i64 0]) ∧ Below u.heap.size u w') : Calls Tryd.prog 9 #[.string a, .string b] w fun e w' => e = .returned (.bool true) ∧ Below w.heap.size w w' := by
  have HBT := Lib.hid hbt
  have HLN := Lib.hid hln
  have HBA := Lib.hid hba
  have HLA := Lib.hid hla
  have HID := Lib.hid hid
  have HNL := Lib.hid hnl
  have HAD := Lib.hid had
  have HAL := Lib.hid hal
  clear hbt hln hba hla hid hnl had hal
  go_enter Tryd.func9, Tryd.ntmps9
  have HC1 := Lib.hid (HBT.out w)
  go_wp2_with fail
  refine (HC1.out).mono ?_; rintro e w1 ⟨v1, rfl, hown1, hb1⟩
  have HB1 := Lib.hid (below_two (Below.refl w.heap.size w) hb1)
  obtain ⟨aod, capd, rfl, hr1, hncd, hg1⟩ := IsR.owned (f := fP) (s := 3) fP_len (l := d) (n := (d).length) rfl hown1
  have Hd1 := Lib.hid hr1
  have HNd := Lib.hid hncd
  clear hb1 HC1 hown1 hr1 hg1 hncd
  have HC2 := Lib.hid (HLN.out w1)
  go_wp2_with fail
  refine (HC2.out).mono ?_; rintro e w2 ⟨v2, rfl, hown2, hb2⟩
  have HB2 := Lib.hid (below_two HB1.out hb2)
  have Hd2 := Lib.hid (Hd1.out.later hb2)
  obtain ⟨aol, capl, rfl, hr2, hncl, hg2⟩ := IsR.owned (f := fP) (s := 3) fP_len (l := l) (n := (l).length) rfl hown2
  have Hl2 := Lib.hid hr2
  have HNl := Lib.hid hncl
  clear hb2 HC2 hown2 hr2 hg2 hncl
  have HC3 := Lib.hid (HAD.out w2 aod capd Hd2.out)
  go_wp2_with fail
  refine (HC3.out).mono ?_; rintro e w3 ⟨rfl, hb3⟩
  have HB3 := Lib.hid (below_two HB2.out hb3)
  have Hd3 := Lib.hid (Hd2.out.later hb3)
  have Hl3 := Lib.hid (Hl2.out.later hb3)
  clear hb3 HC3
  have HC4 := Lib.hid (HAL.out w3 aol capl Hl3.out)
  go_wp2_with fail
  refine (HC4.out).mono ?_; rintro e w4 ⟨rfl, hb4⟩
  have HB4 := Lib.hid (below_two HB3.out hb4)
  have Hd4 := Lib.hid (Hd3.out.later hb4)
  have Hl4 := Lib.hid (Hl3.out.later hb4)
  clear hb4 HC4
  have HC5 := Lib.hid (HBA.out w4)
  go_wp2_with fail
  refine (HC5.out).mono ?_; rintro e w5 ⟨v5, rfl, hown5, hb5⟩
  have HB5 := Lib.hid (below_two HB4.out hb5)
  have Hd5 := Lib.hid (Hd4.out.later hb5)
  have Hl5 := Lib.hid (Hl4.out.later hb5)
  obtain ⟨aox, capx, rfl, hr5, hncx, hg5⟩ := IsR.owned (f := fP) (s := 3) fP_len (l := n) (n := (n).length) rfl hown5
  have Hx5 := Lib.hid hr5
  have HNx := Lib.hid hncx
  clear hb5 HC5 hown5 hr5 hg5 hncx
  have HC6 := Lib.hid (HLA.out w5)
  go_wp2_with fail
  refine (HC6.out).mono ?_; rintro e w6 ⟨v6, rfl, hown6, hb6⟩
  have HB6 := Lib.hid (below_two HB5.out hb6)
  have Hd6 := Lib.hid (Hd5.out.later hb6)
  have Hl6 := Lib.hid (Hl5.out.later hb6)
  have Hx6 := Lib.hid (Hx5.out.later hb6)
  obtain ⟨aoy, capy, rfl, hr6, hncy, hg6⟩ := IsR.owned (f := fP) (s := 3) fP_len (l := n) (n := (n).length) rfl hown6
  have Hy6 := Lib.hid hr6
  have HNy := Lib.hid hncy
  clear hb6 HC6 hown6 hr6 hg6 hncy
  have HC7 := Lib.hid (HID.out w6)
  go_wp2_with fail
  refine (HC7.out).mono ?_; rintro e w7 ⟨v7, rfl, hown7, hb7⟩
  have HB7 := Lib.hid (below_two HB6.out hb7)
  have Hd7 := Lib.hid (Hd6.out.later hb7)
  have Hl7 := Lib.hid (Hl6.out.later hb7)
  have Hx7 := Lib.hid (Hx6.out.later hb7)
  have Hy7 := Lib.hid (Hy6.out.later hb7)
  obtain ⟨aoi, capi, rfl, hr7, hnci, hg7⟩ := IsR.owned (f := fP) (s := 3) fP_len (l := n) (n := (n).length) rfl hown7
  have Hi7 := Lib.hid hr7
  have HNi := Lib.hid hnci
  clear hb7 HC7 hown7 hr7 hg7 hnci
  have HC8 := Lib.hid (refSame_self aox aoi n.length capx n.length capi n w7 Hx7.out Hi7.out HNL.out)
  go_wp2_with fail
  refine (HC8.out).mono ?_; rintro e w8 ⟨rfl, hb8⟩
  have HB8 := Lib.hid (below_two HB7.out hb8)
  have Hd8 := Lib.hid (Hd7.out.later hb8)
  have Hl8 := Lib.hid (Hl7.out.later hb8)
  have Hx8 := Lib.hid (Hx7.out.later hb8)
  have Hy8 := Lib.hid (Hy7.out.later hb8)
  have Hi8 := Lib.hid (Hi7.out.later hb8)
  clear hb8 HC8
  have HC9 := Lib.hid (refSame_self aoy aoi n.length capy n.length capi n w8 Hy8.out Hi8.out HNL.out)
  go_wp2_with fail
  refine (HC9.out).mono ?_; rintro e w9 ⟨rfl, hb9⟩
  have HB9 := Lib.hid (below_two HB8.out hb9)
  have Hd9 := Lib.hid (Hd8.out.later hb9)
  have Hl9 := Lib.hid (Hl8.out.later hb9)
  have Hx9 := Lib.hid (Hx8.out.later hb9)
  have Hy9 := Lib.hid (Hy8.out.later hb9)
  have Hi9 := Lib.hid (Hi8.out.later hb9)
  clear hb9 HC9
  have HC10 := Lib.hid (known_any w9)
  go_wp2_with fail
  refine (HC10.out).mono ?_; rintro e w10 ⟨rfl, hb10⟩
  have HB10 := Lib.hid (below_two HB9.out hb10)
  have Hd10 := Lib.hid (Hd9.out.later hb10)
  have Hl10 := Lib.hid (Hl9.out.later hb10)
  have Hx10 := Lib.hid (Hx9.out.later hb10)
  have Hy10 := Lib.hid (Hy9.out.later hb10)
  have Hi10 := Lib.hid (Hi9.out.later hb10)
  clear hb10 HC10
  go_wp2_with fail
  go_ret
  exact ⟨rfl, HB10.out⟩
set_option maxRecDepth 100000 in
set_option maxHeartbeats 4000000 in
theorem leads_0005 (a b : ByteArray) (w : World) (d l n m : List Pc) (hbt : ∀ u, Calls Tryd.prog 14 #[.string a, .string b] u (Rowed u d 0)) (hln : ∀ u, Calls Tryd.prog 17 #[.string a, .string b] u (Rowed u l 0)) (hba : ∀ u, Calls Tryd.prog 14 #[.string a, .string a] u (Rowed u n 0)) (hla : ∀ u, Calls Tryd.prog 17 #[.string a, .string a] u (Rowed u m 5)) (hid : ∀ u, Calls Tryd.prog 26 #[.int .i64 a.size] u (Rowed u n 0)) (hnl : n.length ≤ 9223372036854775807) (had : ∀ (u : World) (ao : Option Addr) (c : Nat), IsR fP u ao d.length d → Calls Tryd.prog 25 #[.string a, .slice ao d.length c] u fun e w' => e = .returned (.tuple #[.string b, .int .i64 0]) ∧ Below u.heap.size u w') (hal : ∀ (u : World) (ao : Option Addr) (c : Nat), IsR fP u ao l.length l → Calls Tryd.prog 25 #[.string a, .slice ao l.length c] u fun e w' => e = .returned (.tuple #[.string b, .int .i64 0]) ∧ Below u.heap.size u w') : Calls Tryd.prog 9 #[.string a, .string b] w fun e w' => e = .returned (.bool true) ∧ Below w.heap.size w w' := by
  have HBT := Lib.hid hbt
  have HLN := Lib.hid hln
  have HBA := Lib.hid hba
  have HLA := Lib.hid hla
  have HID := Lib.hid hid
  have HNL := Lib.hid hnl
  have HAD := Lib.hid had
  have HAL := Lib.hid hal
  clear hbt hln hba hla hid hnl had hal
  go_enter Tryd.func9, Tryd.ntmps9
  have HC1 := Lib.hid (HBT.out w)
  go_wp2_with fail
  refine (HC1.out).mono ?_; rintro e w1 ⟨v1, rfl, hown1, hb1⟩
  have HB1 := Lib.hid (below_two (Below.refl w.heap.size w) hb1)
  obtain ⟨aod, capd, rfl, hr1, hncd, hg1⟩ := IsR.owned (f := fP) (s := 3) fP_len (l := d) (n := (d).length) rfl hown1
  have Hd1 := Lib.hid hr1
  have HNd := Lib.hid hncd
  clear hb1 HC1 hown1 hr1 hg1 hncd
  have HC2 := Lib.hid (HLN.out w1)
  go_wp2_with fail
  refine (HC2.out).mono ?_; rintro e w2 ⟨v2, rfl, hown2, hb2⟩
  have HB2 := Lib.hid (below_two HB1.out hb2)
  have Hd2 := Lib.hid (Hd1.out.later hb2)
  obtain ⟨aol, capl, rfl, hr2, hncl, hg2⟩ := IsR.owned (f := fP) (s := 3) fP_len (l := l) (n := (l).length) rfl hown2
  have Hl2 := Lib.hid hr2
  have HNl := Lib.hid hncl
  clear hb2 HC2 hown2 hr2 hg2 hncl
  have HC3 := Lib.hid (HAD.out w2 aod capd Hd2.out)
  go_wp2_with fail
  refine (HC3.out).mono ?_; rintro e w3 ⟨rfl, hb3⟩
  have HB3 := Lib.hid (below_two HB2.out hb3)
  have Hd3 := Lib.hid (Hd2.out.later hb3)
  have Hl3 := Lib.hid (Hl2.out.later hb3)
  clear hb3 HC3
  have HC4 := Lib.hid (HAL.out w3 aol capl Hl3.out)
  go_wp2_with fail
  refine (HC4.out).mono ?_; rintro e w4 ⟨rfl, hb4⟩
  have HB4 := Lib.hid (below_two HB3.out hb4)
  have Hd4 := Lib.hid (Hd3.out.later hb4)
  have Hl4 := Lib.hid (Hl3.out.later hb4)
  clear hb4 HC4
  have HC5 := Lib.hid (HBA.out w4)
  go_wp2_with fail
  refine (HC5.out).mono ?_; rintro e w5 ⟨v5, rfl, hown5, hb5⟩
  have HB5 := Lib.hid (below_two HB4.out hb5)
  have Hd5 := Lib.hid (Hd4.out.later hb5)
  have Hl5 := Lib.hid (Hl4.out.later hb5)
  obtain ⟨aox, capx, rfl, hr5, hncx, hg5⟩ := IsR.owned (f := fP) (s := 3) fP_len (l := n) (n := (n).length) rfl hown5
  have Hx5 := Lib.hid hr5
  have HNx := Lib.hid hncx
  clear hb5 HC5 hown5 hr5 hg5 hncx
  have HC6 := Lib.hid (HLA.out w5)
  go_wp2_with fail
  refine (HC6.out).mono ?_; rintro e w6 ⟨v6, rfl, hown6, hb6⟩
  have HB6 := Lib.hid (below_two HB5.out hb6)
  have Hd6 := Lib.hid (Hd5.out.later hb6)
  have Hl6 := Lib.hid (Hl5.out.later hb6)
  have Hx6 := Lib.hid (Hx5.out.later hb6)
  obtain ⟨aoy, capy, rfl, hr6, hncy, hg6⟩ := IsR.owned (f := fP) (s := 3) fP_len (l := m) (n := (m).length) rfl hown6
  have Hy6 := Lib.hid hr6
  have HNy := Lib.hid hncy
  clear hb6 HC6 hown6 hr6 hg6 hncy
  have HC7 := Lib.hid (HID.out w6)
  go_wp2_with fail
  refine (HC7.out).mono ?_; rintro e w7 ⟨v7, rfl, hown7, hb7⟩
  have HB7 := Lib.hid (below_two HB6.out hb7)
  have Hd7 := Lib.hid (Hd6.out.later hb7)
  have Hl7 := Lib.hid (Hl6.out.later hb7)
  have Hx7 := Lib.hid (Hx6.out.later hb7)
  have Hy7 := Lib.hid (Hy6.out.later hb7)
  obtain ⟨aoi, capi, rfl, hr7, hnci, hg7⟩ := IsR.owned (f := fP) (s := 3) fP_len (l := n) (n := (n).length) rfl hown7
  have Hi7 := Lib.hid hr7
  have HNi := Lib.hid hnci
  clear hb7 HC7 hown7 hr7 hg7 hnci
  have HC8 := Lib.hid (refSame_self aox aoi n.length capx n.length capi n w7 Hx7.out Hi7.out HNL.out)
  go_wp2_with fail
  refine (HC8.out).mono ?_; rintro e w8 ⟨rfl, hb8⟩
  have HB8 := Lib.hid (below_two HB7.out hb8)
  have Hd8 := Lib.hid (Hd7.out.later hb8)
  have Hl8 := Lib.hid (Hl7.out.later hb8)
  have Hx8 := Lib.hid (Hx7.out.later hb8)
  have Hy8 := Lib.hid (Hy7.out.later hb8)
  have Hi8 := Lib.hid (Hi7.out.later hb8)
  clear hb8 HC8
  have HC9 := Lib.hid (known_any w8)
  go_wp2_with fail
  refine (HC9.out).mono ?_; rintro e w9 ⟨rfl, hb9⟩
  have HB9 := Lib.hid (below_two HB8.out hb9)
  have Hd9 := Lib.hid (Hd8.out.later hb9)
  have Hl9 := Lib.hid (Hl8.out.later hb9)
  have Hx9 := Lib.hid (Hx8.out.later hb9)
  have Hy9 := Lib.hid (Hy8.out.later hb9)
  have Hi9 := Lib.hid (Hi8.out.later hb9)
  clear hb9 HC9
  go_wp2_with fail
  go_ret
  exact ⟨rfl, HB9.out⟩
theorem leads_law (a b : ByteArray) (w : World) (ha : a.size ≤ 140737488355328) (hb : b.size ≤ 140737488355328) : Calls Tryd.prog 9 #[.string a, .string b] w fun e w' => e = .returned (.bool true) ∧ Below w.heap.size w w' := by
  have hbt := fun u => between_any a b u ha hb
  have hba := fun u => between_any a a u ha ha
  have hln := fun u => lines_all a b u ha hb
  have hla := fun u => lines_all a a u ha ha
  have hid := fun u => identity_any (a.size : Int) u
  have hnl : (idL (a.size : Int)).length ≤ 9223372036854775807 := by
    have : (idL (a.size : Int)).length ≤ 1 := by unfold idL; split; simp; split; simp; split <;> simp
    omega
  have had : ¬ (1048576 < a.size ∨ 1048576 < b.size) → ∀ (u : World) (ao : Option Addr) (c : Nat), IsR fP u ao (formP (betL a b)).length (formP (betL a b)) → Calls Tryd.prog 25 #[.string a, .slice ao (formP (betL a b)).length c] u fun e w' => e = .returned (.tuple #[.string b, .int .i64 0]) ∧ Below u.heap.size u w' := fun h u ao c hr => by
    have hp := bet_props (a := a) (b := b) (by omega) (by omega)
    have h1 := len_formP (betL a b)
    have k := apply_any a ao (formP (betL a b)).length c (formP (betL a b)) u hr (by omega)
    rw [appR_ok (b := b) (check_formP hp.2.2.2.2) (by rw [sIP_form, bet_sum]) (by rw [appP_form, bet_app])] at k
    exact k
  have hal : ¬ linT a b → ∀ (u : World) (ao : Option Addr) (c : Nat), IsR fP u ao (linL a b).length (linL a b) → Calls Tryd.prog 25 #[.string a, .slice ao (linL a b).length c] u fun e w' => e = .returned (.tuple #[.string b, .int .i64 0]) ∧ Below u.heap.size u w' := fun h u ao c hr => by
    have q := lin_ok h
    have h1 := q.len
    have k := apply_any a ao (linL a b).length c (linL a b) u hr (by omega)
    rw [appR_ok (b := b) q.check q.inn q.app] at k
    exact k
  by_cases h1 : 1048576 < a.size
  · rw [show betR a b = ([], 5) from if_pos (.inl h1)] at hbt
    rw [linL_yes (.inl h1), linE_yes (.inl h1)] at hln hla
    rw [bet_self_long h1] at hba
    have hz : idE (a.size : Int) = 5 := by unfold idE; rw [if_neg (by omega), if_pos (by omega)]
    rw [hz] at hba hid
    exact leads_5555 a b w [] [] _ [] hbt hln hba hla hid hnl
  · rw [bet_self (by omega)] at hba
    have hz : idE (a.size : Int) = 0 := by unfold idE; rw [if_neg (by omega), if_neg (by omega)]
    rw [hz] at hba hid
    by_cases h2 : 1048576 < b.size
    · rw [show betR a b = ([], 5) from if_pos (.inr h2)] at hbt
      rw [linL_yes (.inr (.inl h2)), linE_yes (.inr (.inl h2))] at hln
      by_cases h3 : linT a a
      · rw [linL_yes h3, linE_yes h3] at hla
        exact leads_5505 a b w [] [] _ [] hbt hln hba hla hid hnl
      · rw [lin_self h3, linE_no h3] at hla
        exact leads_5500 a b w [] [] _ [] hbt hln hba hla hid hnl
    · have h12 : ¬ (1048576 < a.size ∨ 1048576 < b.size) := by omega
      rw [show betR a b = (formP (betL a b), 0) from if_neg h12] at hbt
      by_cases h4 : linT a b
      · rw [linL_yes h4, linE_yes h4] at hln
        by_cases h3 : linT a a
        · rw [linL_yes h3, linE_yes h3] at hla
          exact leads_0505 a b w _ [] _ [] hbt hln hba hla hid hnl (had h12)
        · rw [lin_self h3, linE_no h3] at hla
          exact leads_0500 a b w _ [] _ [] hbt hln hba hla hid hnl (had h12)
      · rw [linE_no h4] at hln
        by_cases h3 : linT a a
        · rw [linL_yes h3, linE_yes h3] at hla
          exact leads_0005 a b w _ _ _ [] hbt hln hba hla hid hnl (had h12) (hal h4)
        · rw [lin_self h3, linE_no h3] at hla
          exact leads_0000 a b w _ _ _ [] hbt hln hba hla hid hnl (had h12) (hal h4)
end Go.Proofs.YtfbjbgknfdekfaaDoor
