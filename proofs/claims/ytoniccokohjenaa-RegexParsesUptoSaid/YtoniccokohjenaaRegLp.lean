/-
  The law RegexParses (chapter 18): its walk.
-/
import Derived.Test.YtoniccokohjenaaRegLd
import Derived.Test.YtoniccokohjenaaRfR
namespace Go.Proofs.Ytoniccokohjenaa
open Go.RowKit

set_option maxHeartbeats 4000000 in
set_option maxRecDepth 100000 in
theorem regexParses_walk (s : ByteArray) (free : Bool) (w : World) (hs : s.size ≤ 17592186044000) :
    Calls Try.prog 3 #[.string s, .bool free] w fun e w' => e = .returned (.bool true) ∧ Below w.heap.size w w' := by
  have KS := Lib.hid (fun W => (rxShown_any W))
  obtain ⟨⟨X1, ns, at', er⟩, hp1⟩ : ∃ r, parseV s.data.toList free = r := ⟨_, rfl⟩
  have hsm := parse_sm X1 ns at' er hp1
  have K1 := Lib.hid (fun W => parse_lit hp1 (by omega) W)
  have K2 := Lib.hid (fun W => refParse_any hp1 (by omega) W)
  have HM := Lib.hid hsm.1
  have hnl := hsm.2
  clear hp1 hsm
  go_enter Try.func3, Try.ntmps3
  go_wp2_with (go_at_call 11; refine (KS.out _).mono ?_)
  rintro e V0 ⟨rfl, b0⟩
  have B0 := Lib.hid b0
  clear b0
  go_wp2_with (go_at_call 12; refine (K1.out _).mono ?_)
  rintro e w1 ⟨A1, c1, NA1, nc1, rfl, hk1, hn1, hb1⟩
  obtain ⟨V1, hV1⟩ : ∃ V, V = w1.alloc (.cells (rxCells X1 (.slice A1 X1.kids.length c1)).toArray TRx) := ⟨_, rfl⟩
  have P1 := Lib.hid (show PV V1 w1.heap.size X1 A1 c1 by rw [hV1]; exact PV.made hk1)
  have N1 := Lib.hid (show V1.ownsRow 0 9 1 (.slice NA1 _ nc1) _ (strCells _) by rw [hV1]; exact rowns_low (rowns_below hn1 ((Below.refl _ w1).alloc (Nat.le_refl _) _)) (Nat.zero_le _))
  have s1 : Below V0.heap.size V0 V1 := by rw [hV1]; exact hb1.alloc hb1.size _
  have B1 := Lib.hid (B0.out.trans (s1.mono B0.out.size))
  clear hk1 hn1 hb1 s1 B0
  simp only [rxAgg]
  go_upto_region 3 with fail
  have e1 : V1 = w1.alloc (.cells #[.int .i64 (X1.kind : Int), .int .i64 X1.rune, .int .i64 X1.to, .slice A1 X1.kids.length c1, .int .i64 X1.min, .int .i64 X1.max, .bool X1.lazy, .bool X1.not, .int .i64 (X1.group : Int), .string ⟨X1.name.toArray⟩] TRx) := hV1
  rw [← e1]
  clear e1 hV1
  go_wp2_with (go_at_call 13; refine (K2.out _).mono ?_)
  rintro e w2 ⟨A2, c2, NA2, nc2, rfl, hk2, hn2, hb2⟩
  obtain ⟨V2, hV2⟩ : ∃ V, V = w2.alloc (.cells (rxCells X1 (.slice A2 X1.kids.length c2)).toArray TRx) := ⟨_, rfl⟩
  have P2 := Lib.hid (show PV V2 w2.heap.size X1 A2 c2 by rw [hV2]; exact PV.made hk2)
  have N2 := Lib.hid (show V2.ownsRow 0 9 1 (.slice NA2 _ nc2) _ (strCells _) by rw [hV2]; exact rowns_low (rowns_below hn2 ((Below.refl _ w2).alloc (Nat.le_refl _) _)) (Nat.zero_le _))
  have s2 : Below V1.heap.size V1 V2 := by rw [hV2]; exact hb2.alloc hb2.size _
  have B2 := Lib.hid (B1.out.trans (s2.mono B1.out.size))
  have P1 := Lib.hid (P1.out.below s2)
  have N1 := Lib.hid (rowns_below N1.out s2)
  clear hk2 hn2 hb2 s2 B1
  simp only [rxAgg]
  go_upto_region 4 with fail
  have e2 : V2 = w2.alloc (.cells #[.int .i64 (X1.kind : Int), .int .i64 X1.rune, .int .i64 X1.to, .slice A2 X1.kids.length c2, .int .i64 X1.min, .int .i64 X1.max, .bool X1.lazy, .bool X1.not, .int .i64 (X1.group : Int), .string ⟨X1.name.toArray⟩] TRx) := hV2
  rw [← e2]
  clear e2 hV2
  have KS1 := Lib.hid (fun (W : World) (h1 : KT W X1 A1 c1) (h2 : KT W X1 A2 c2) => rxSame_agg (m := 1002) (by omega) HM.out A1 c1 A2 c2 W h1 h2)
  have KT1 := Lib.hid (fun (W : World) h1 h2 => sameTexts_any ns NA1 nc1 NA2 nc2 W (by omega) h1 h2)
  obtain ⟨a0, a1, a2, a3, a4, a5, a6, a7, a8, a9⟩ := P1.out.all
  obtain ⟨b0, b1, b2, b3, b4, b5, b6, b7, b8, b9⟩ := P2.out.all
  go_wp2_with (go_at_call 14; refine (KS1.out _ P1.out.kids P2.out.kids).mono ?_)
  rintro e w4 ⟨rfl, hb4⟩
  have B4 := Lib.hid (B2.out.trans (hb4.mono B2.out.size))
  have M1 := Lib.hid (rowns_below N1.out hb4)
  have M2 := Lib.hid (rowns_below N2.out hb4)
  clear hb4 a0 b0 a1 b1 a2 b2 a3 b3 a4 b4 a5 b5 a6 b6 a7 b7 a8 b8 a9 b9
  go_wp2_with (go_at_call 15; refine (KT1.out _ M1.out M2.out).mono ?_)
  rintro e w6 ⟨rfl, hb6⟩
  have B6 := Lib.hid (B4.out.trans (hb6.mono B4.out.size))
  clear hb6
  go_wp2
  go_ret
  exact ⟨rfl, B6.out⟩

end Go.Proofs.Ytoniccokohjenaa
