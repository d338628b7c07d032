/-
  The law RegexSound (chapter 18): its walk.
-/
import Derived.Test.YtoniccokohjenaaRegLb
namespace Go.Proofs.Ytoniccokohjenaa
open Go.RowKit

theorem PV.all {w : World} {b : Nat} {X : Rx} {A : Option Addr} {c : Nat} (h : PV w b X A c) : w.cell? ⟨b, 0, none⟩ = some (.int .i64 (X.kind : Int)) ∧ w.cell? ⟨b, 1, none⟩ = some (.int .i64 X.rune) ∧ w.cell? ⟨b, 2, none⟩ = some (.int .i64 X.to) ∧ w.cell? ⟨b, 3, none⟩ = some (.slice A X.kids.length c) ∧ w.cell? ⟨b, 4, none⟩ = some (.int .i64 X.min) ∧ w.cell? ⟨b, 5, none⟩ = some (.int .i64 X.max) ∧ w.cell? ⟨b, 6, none⟩ = some (.bool X.lazy) ∧ w.cell? ⟨b, 7, none⟩ = some (.bool X.not) ∧ w.cell? ⟨b, 8, none⟩ = some (.int .i64 (X.group : Int)) ∧ w.cell? ⟨b, 9, none⟩ = some (.string ⟨X.name.toArray⟩) :=
  ⟨h.cell (j := 0) rfl, h.cell (j := 1) rfl, h.cell (j := 2) rfl, h.cell (j := 3) rfl, h.cell (j := 4) rfl, h.cell (j := 5) rfl, h.cell (j := 6) rfl, h.cell (j := 7) rfl, h.cell (j := 8) rfl, h.cell (j := 9) rfl⟩
theorem rxSame_none {X : Rx} (h : X = rxNone) (A : Option Addr) (c : Nat) (w : World) (hk : KT w X A c) : Calls Try.prog 14 #[.agg #[.int .i64 (X.kind : Int), .int .i64 X.rune, .int .i64 X.to, .slice A X.kids.length c, .int .i64 X.min, .int .i64 X.max, .bool X.lazy, .bool X.not, .int .i64 (X.group : Int), .string ⟨X.name.toArray⟩], .agg #[.int .i64 0, .int .i64 0, .int .i64 0, .slice none 0 0, .int .i64 0, .int .i64 0, .bool false, .bool false, .int .i64 0, .string ⟨#[]⟩]] w (RetE (.bool true) fun w' => Below w.heap.size w w') := by
  subst h
  exact rxSame_any (m := 0) (by omega) (.leaf rfl) A c none 0 w hk (KX.leaf rfl)

set_option maxHeartbeats 4000000 in
set_option maxRecDepth 100000 in
theorem regexSound_walk (s : ByteArray) (free : Bool) (w : World) (hs : s.size ≤ 17592186044416) :
    Calls Try.prog 4 #[.string s, .bool free] w fun e w' => e = .returned (.bool true) ∧ Below w.heap.size w w' := by
  obtain ⟨⟨X1, ns, at', er⟩, hp⟩ : ∃ r, parseV s.data.toList free = r := ⟨_, rfl⟩
  have hps := parse_sound (l := explode s.data.toList) (free := free) hp
  have hsm := parse_sm X1 ns at' er hp
  have hlen := explode_len s.data.toList
  have hsz := Lib.size_eq s
  have KE := Lib.hid (fun W => utfExplode_any s W hs)
  have K1 := Lib.hid (fun W => parse_lit hp hs W)
  have KS := Lib.hid (fun W => (rxShown_any W))
  have HP := Lib.hid hps
  have HM := Lib.hid hsm.1
  have hnl := hsm.2
  have her : er ≤ 10 := hps.2.2
  clear hps hsm hp
  generalize explode s.data.toList = l at *
  have hll : l.length ≤ 17592186044416 := by omega
  clear hsz hlen
  go_enter Try.func4, Try.ntmps4
  go_wp2_with (go_at_call 11; refine (KS.out _).mono ?_)
  rintro e V0 ⟨rfl, b0⟩
  have B0 := Lib.hid b0
  clear b0
  go_wp2_with (go_at_call 12; refine (K1.out _).mono ?_)
  rintro e w1 ⟨A1, c1, NA1, nc1, rfl, hk1, hn1, hb1⟩
  obtain ⟨V1, hV1⟩ : ∃ V, V = w1.alloc (.cells (rxCells X1 (.slice A1 X1.kids.length c1)).toArray TRx) := ⟨_, rfl⟩
  have P1 := Lib.hid (show PV V1 w1.heap.size X1 A1 c1 by rw [hV1]; exact PV.made hk1)
  have N1 := Lib.hid (show V1.ownsRow 0 9 1 (.slice NA1 _ nc1) _ (strCells _) by rw [hV1]; exact rowns_low (rowns_below hn1 ((Below.refl _ w1).alloc (Nat.le_refl _) _)) (Nat.zero_le _))
  have s1 : Below V0.heap.size V0 V1 := by rw [hV1]; exact hb1.alloc hb1.size _
  have B1 := Lib.hid (B0.out.trans (s1.mono B0.out.size))
  clear hk1 hn1 hb1 s1 B0
  simp only [rxAgg]
  go_upto_region 3 with fail
  have e1 : V1 = w1.alloc (.cells #[.int .i64 (X1.kind : Int), .int .i64 X1.rune, .int .i64 X1.to, .slice A1 X1.kids.length c1, .int .i64 X1.min, .int .i64 X1.max, .bool X1.lazy, .bool X1.not, .int .i64 (X1.group : Int), .string ⟨X1.name.toArray⟩] TRx) := hV1
  rw [← e1]
  clear e1 hV1
  by_cases he : er = 0
  · have z0 : ((er : Int) != 0) = false := by rw [he]; rfl
    obtain ⟨hsn, ha⟩ := HP.out.2.1 he
    have KN := Lib.hid (fun (W : World) (h : KT W X1 A1 c1) => rxSound_any (m := 1002) (by omega) HM.out A1 c1 W 1 (ns.length + 1) h hsn (by omega))
    simp only [rxAgg] at KN
    subst ha
    obtain ⟨e0, e1, e2, e3, e4, e5, e6, e7, e8, e9⟩ := P1.out.all
    clear hsn HP HM
    go_wp2_with (go_at_call 17; refine (KN.out _ P1.out.kids).mono ?_)
    rintro e w3 ⟨rfl, hb3⟩
    have B3 := Lib.hid (B1.out.trans (hb3.mono B1.out.size))
    clear hb3
    go_wp2
    go_ret
    exact ⟨rfl, B3.out⟩
  · have z0 : ((er : Int) != 0) = true := by simp; omega
    obtain ⟨hx, hn, ha, h5⟩ := HP.out.1 he
    have KN := Lib.hid (fun (W : World) (h : KT W X1 A1 c1) => rxSame_none hx A1 c1 W h)
    subst hn
    clear HP HM hx
    go_wp2_with (go_at_call 16; refine (KE.out _).mono ?_)
    rintro e w3 ⟨Lv, rfl, hL, hb3⟩
    obtain ⟨LA, Lc, rfl⟩ := rowns_slice hL
    have B3 := Lib.hid (B1.out.trans (hb3.mono B1.out.size))
    have P3 := Lib.hid (P1.out.below hb3)
    obtain ⟨e0, e1, e2, e3, e4, e5, e6, e7, e8, e9⟩ := P3.out.all
    clear hL hb3
    have y1 : decide ((0 : Int) ≤ (at' : Int)) = true := decide_eq_true (by omega)
    have y2 : decide ((at' : Int) ≤ (l.length : Int)) = true := decide_eq_true (by omega)
    by_cases he5 : er = 5
    · have y3 : ((er : Int) != 5) = false := by rw [he5]; rfl
      have h6 := h5 he5
      subst h6
      clear h5 he he5
      go_wp2_with (go_at_call 14; refine (KN.out _ P3.out.kids).mono ?_)
      rintro e w4 ⟨rfl, hb4⟩
      have B4 := Lib.hid (B3.out.trans (hb4.mono B3.out.size))
      clear hb4
      go_wp2
      go_ret
      exact ⟨rfl, B4.out⟩
    · have y3 : ((er : Int) != 5) = true := by simp; omega
      have y4 : ¬ (er : Int) = 5 := by omega
      have y5 : ((er : Int) == 5) = false := beq_false_of_ne y4
      clear h5 he he5
      go_wp2_with (go_at_call 14; refine (KN.out _ P3.out.kids).mono ?_)
      rintro e w4 ⟨rfl, hb4⟩
      have B4 := Lib.hid (B3.out.trans (hb4.mono B3.out.size))
      clear hb4
      go_wp2
      go_ret
      exact ⟨rfl, B4.out⟩

end Go.Proofs.Ytoniccokohjenaa
