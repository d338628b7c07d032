/-
  The walks of the laws of chapter 1: Sums, Divs, Texts, Shifts, Parses.
-/
import Derived.Test.YtmmlclgmehfmhaaDoorLawB
namespace Go.Proofs.YtmmlclgmehfmhaaDoor
open Go.RowKit

set_option maxHeartbeats 4000000 in
set_option maxRecDepth 100000 in
theorem limbSums_walk (A0 A1 : Option Addr) (n0 cap0 n1 cap1 : Nat) (l0 l1 : List Nat) (w : World) (HT : Tab10 w) (r0 : RdN .u32 w A0 n0 l0) (r1 : RdN .u32 w A1 n1 l1) (h0 : ∀ x ∈ l0, x < 4294967296) (h1 : ∀ x ∈ l1, x < 4294967296) :
    Calls Tryd.prog 7 #[.slice A0 n0 cap0, .slice A1 n1 cap1] w fun e w' => e = .returned (.bool true) ∧ Below w.heap.size w w' := by
  have HB := Below.refl w.heap.size w
  have q0 : n0 ≤ 40 → (digs 1000000000 (val 1000000000 l0)).length ≤ 41 := fun h => by have := digs_val_len l0 h0; have := r0.1; omega
  have q1 : n1 ≤ 40 → (digs 1000000000 (val 1000000000 l1)).length ≤ 41 := fun h => by have := digs_val_len l1 h1; have := r1.1; omega
  by_cases g0 : 40 < n0
  · skip
    go_enter Tryd.func7, Tryd.ntmps7
    have K1 := Lib.hid (shown_any w HT)
    go_wp2_with (go_at_call 14; refine K1.out.mono ?_)
    rintro e w1 ⟨rfl, hb1⟩
    replace r0 := r0.below hb1
    replace r1 := r1.below hb1
    replace HT := HT.below hb1
    replace HB := HB.trans (hb1.mono HB.size)
    have K2 := Lib.hid (great_yes A0 n0 cap0 w1 g0)
    go_wp2_with (go_at_call 15; refine K2.out.mono ?_; rintro e w2 ⟨rfl, rfl⟩)
    go_wp2
    go_ret
    exact ⟨rfl, HB⟩
  · skip
    by_cases g1 : 40 < n1
    · skip
      go_enter Tryd.func7, Tryd.ntmps7
      have K1 := Lib.hid (shown_any w HT)
      go_wp2_with (go_at_call 14; refine K1.out.mono ?_)
      rintro e w1 ⟨rfl, hb1⟩
      replace r0 := r0.below hb1
      replace r1 := r1.below hb1
      replace HT := HT.below hb1
      replace HB := HB.trans (hb1.mono HB.size)
      have K2 := Lib.hid (great_no A0 n0 cap0 w1 (by omega))
      go_wp2_with (go_at_call 15; refine K2.out.mono ?_; rintro e w2 ⟨rfl, rfl⟩)
      have K3 := Lib.hid (great_yes A1 n1 cap1 w1 g1)
      go_wp2_with (go_at_call 15; refine K3.out.mono ?_; rintro e w3 ⟨rfl, rfl⟩)
      go_wp2
      go_ret
      exact ⟨rfl, HB⟩
    · skip
      replace g0 : n0 ≤ 40 := by omega
      replace q0 := q0 g0
      have t0 := len_ten q0
      replace g1 : n1 ≤ 40 := by omega
      replace q1 := q1 g1
      have t1 := len_ten q1
      have qs := len_add q0 q1
      have ts := len_ten qs
      have qd := len_mono (Nat.sub_le (val 1000000000 l0) (val 1000000000 l1)) q0
      have td := len_ten_mono (Nat.sub_le (val 1000000000 l0) (val 1000000000 l1)) t0
      by_cases hlt : val 1000000000 l0 < val 1000000000 l1
      · skip
        go_enter Tryd.func7, Tryd.ntmps7
        have K1 := Lib.hid (shown_any w HT)
        go_wp2_with (go_at_call 14; refine K1.out.mono ?_)
        rintro e w1 ⟨rfl, hb1⟩
        replace r0 := r0.below hb1
        replace r1 := r1.below hb1
        replace HT := HT.below hb1
        replace HB := HB.trans (hb1.mono HB.size)
        have K2 := Lib.hid (great_no A0 n0 cap0 w1 (by omega))
        go_wp2_with (go_at_call 15; refine K2.out.mono ?_; rintro e w2 ⟨rfl, rfl⟩)
        have K3 := Lib.hid (great_no A1 n1 cap1 w1 (by omega))
        go_wp2_with (go_at_call 15; refine K3.out.mono ?_; rintro e w3 ⟨rfl, rfl⟩)
        have K4 := Lib.hid (lawOf_any A0 n0 cap0 l0 w1 r0 (by omega) h0)
        go_wp2_with (go_at_call 17; refine K4.out.mono ?_)
        rintro e w4 ⟨vP, rfl, oP, hb4⟩
        replace r0 := r0.below hb4
        replace r1 := r1.below hb4
        replace HT := HT.below hb4
        replace HB := HB.trans (hb4.mono HB.size)
        obtain ⟨AP, cP, rfl, _, rP, _⟩ := oP.rd
        have K5 := Lib.hid (lawOf_any A1 n1 cap1 l1 w4 r1 (by omega) h1)
        go_wp2_with (go_at_call 17; refine K5.out.mono ?_)
        rintro e w5 ⟨vQ, rfl, oQ, hb5⟩
        replace r0 := r0.below hb5
        replace r1 := r1.below hb5
        replace rP := rP.below hb5
        replace HT := HT.below hb5
        replace HB := HB.trans (hb5.mono HB.size)
        obtain ⟨AQ, cQ, rfl, _, rQ, _⟩ := oQ.rd
        have K6 := Lib.hid (sub_low A0 A1 n0 cap0 n1 cap1 l0 l1 w5 r0 r1 (by omega) (by omega) h0 h1 hlt)
        go_wp2_with (go_at_call 28; refine K6.out.mono ?_)
        rintro e w6 ⟨rfl, hb6⟩
        replace r0 := r0.below hb6
        replace r1 := r1.below hb6
        replace rP := rP.below hb6
        replace rQ := rQ.below hb6
        replace HT := HT.below hb6
        replace HB := HB.trans (hb6.mono HB.size)
        have kc := rcmp_any _ _ AP AQ _ cP _ cQ w6 rP rQ (by omega) (by omega)
        rw [cmpN_lt hlt] at kc
        have K7 := Lib.hid (kc)
        go_wp2_with (go_at_call 27; refine K7.out.mono ?_)
        rintro e w7 ⟨rfl, hb7⟩
        replace r0 := r0.below hb7
        replace r1 := r1.below hb7
        replace rP := rP.below hb7
        replace rQ := rQ.below hb7
        replace HT := HT.below hb7
        replace HB := HB.trans (hb7.mono HB.size)
        have K8 := Lib.hid (add_any A0 A1 n0 cap0 n1 cap1 l0 l1 w7 r0 r1 (by omega) (by omega) h0 h1)
        go_wp2_with (go_at_call 29; refine K8.out.mono ?_)
        rintro e w8 ⟨vM, rfl, oM, hb8⟩
        replace r0 := r0.below hb8
        replace r1 := r1.below hb8
        replace rP := rP.below hb8
        replace rQ := rQ.below hb8
        replace HT := HT.below hb8
        replace HB := HB.trans (hb8.mono HB.size)
        obtain ⟨AM, cM, rfl, _, rM, _⟩ := oM.rd
        have K9 := Lib.hid (radd_any AP AQ _ cP _ cQ _ _ w8 rP rQ (by omega) (by omega) (digs_nine _) (digs_nine _))
        go_wp2_with (go_at_call 30; refine K9.out.mono ?_)
        rintro e w9 ⟨vR, rfl, oR, hb9⟩
        replace r0 := r0.below hb9
        replace r1 := r1.below hb9
        replace rP := rP.below hb9
        replace rQ := rQ.below hb9
        replace rM := rM.below hb9
        replace HT := HT.below hb9
        replace HB := HB.trans (hb9.mono HB.size)
        replace oR := oR.asList (show _ = digs 10 (val 1000000000 l0 + val 1000000000 l1) by rw [vten, vten])
        obtain ⟨AR, cR, rfl, _, rR, _⟩ := oR.rd
        have K10 := Lib.hid (lawTo_any AR _ cR (val 1000000000 l0 + val 1000000000 l1) w9 rR (by omega))
        go_wp2_with (go_at_call 20; refine K10.out.mono ?_)
        rintro e w10 ⟨vS, rfl, oS, hb10⟩
        replace r0 := r0.below hb10
        replace r1 := r1.below hb10
        replace rP := rP.below hb10
        replace rQ := rQ.below hb10
        replace rM := rM.below hb10
        replace rR := rR.below hb10
        replace HT := HT.below hb10
        replace HB := HB.trans (hb10.mono HB.size)
        obtain ⟨AS, cS, rfl, _, rS, _⟩ := oS.rd
        have K11 := Lib.hid (same_true _ _ _ cM _ cS _ _ w10 rM rS (by first | omega | decide) (by first | omega | decide) rfl)
        go_wp2_with (go_at_call 19; refine K11.out.mono ?_)
        rintro e w11 ⟨rfl, hb11⟩
        replace r0 := r0.below hb11
        replace r1 := r1.below hb11
        replace rP := rP.below hb11
        replace rQ := rQ.below hb11
        replace rM := rM.below hb11
        replace rR := rR.below hb11
        replace rS := rS.below hb11
        replace HT := HT.below hb11
        replace HB := HB.trans (hb11.mono HB.size)
        go_wp2
        go_ret
        exact ⟨rfl, HB⟩
      · skip
        have hle : val 1000000000 l1 ≤ val 1000000000 l0 := by omega
        go_enter Tryd.func7, Tryd.ntmps7
        have K1 := Lib.hid (shown_any w HT)
        go_wp2_with (go_at_call 14; refine K1.out.mono ?_)
        rintro e w1 ⟨rfl, hb1⟩
        replace r0 := r0.below hb1
        replace r1 := r1.below hb1
        replace HT := HT.below hb1
        replace HB := HB.trans (hb1.mono HB.size)
        have K2 := Lib.hid (great_no A0 n0 cap0 w1 (by omega))
        go_wp2_with (go_at_call 15; refine K2.out.mono ?_; rintro e w2 ⟨rfl, rfl⟩)
        have K3 := Lib.hid (great_no A1 n1 cap1 w1 (by omega))
        go_wp2_with (go_at_call 15; refine K3.out.mono ?_; rintro e w3 ⟨rfl, rfl⟩)
        have K4 := Lib.hid (lawOf_any A0 n0 cap0 l0 w1 r0 (by omega) h0)
        go_wp2_with (go_at_call 17; refine K4.out.mono ?_)
        rintro e w4 ⟨vP, rfl, oP, hb4⟩
        replace r0 := r0.below hb4
        replace r1 := r1.below hb4
        replace HT := HT.below hb4
        replace HB := HB.trans (hb4.mono HB.size)
        obtain ⟨AP, cP, rfl, _, rP, _⟩ := oP.rd
        have K5 := Lib.hid (lawOf_any A1 n1 cap1 l1 w4 r1 (by omega) h1)
        go_wp2_with (go_at_call 17; refine K5.out.mono ?_)
        rintro e w5 ⟨vQ, rfl, oQ, hb5⟩
        replace r0 := r0.below hb5
        replace r1 := r1.below hb5
        replace rP := rP.below hb5
        replace HT := HT.below hb5
        replace HB := HB.trans (hb5.mono HB.size)
        obtain ⟨AQ, cQ, rfl, _, rQ, _⟩ := oQ.rd
        have K6 := Lib.hid (sub_ok A0 A1 n0 cap0 n1 cap1 l0 l1 w5 r0 r1 (by omega) (by omega) h0 h1 hle)
        go_wp2_with (go_at_call 28; refine K6.out.mono ?_)
        rintro e w6 ⟨vD, rfl, oD, hb6⟩
        replace r0 := r0.below hb6
        replace r1 := r1.below hb6
        replace rP := rP.below hb6
        replace rQ := rQ.below hb6
        replace HT := HT.below hb6
        replace HB := HB.trans (hb6.mono HB.size)
        obtain ⟨AD, cD, rfl, _, rD, _⟩ := oD.rd
        have kc := rcmp_any _ _ AP AQ _ cP _ cQ w6 rP rQ (by omega) (by omega)
        have hc : 0 ≤ cmpN (val 1000000000 l0) (val 1000000000 l1) := by unfold cmpN; rw [if_neg hlt]; split <;> omega
        generalize cmpN (val 1000000000 l0) (val 1000000000 l1) = C at kc hc
        have K7 := Lib.hid (kc)
        go_wp2_with (go_at_call 27; refine K7.out.mono ?_)
        rintro e w7 ⟨rfl, hb7⟩
        replace r0 := r0.below hb7
        replace r1 := r1.below hb7
        replace rP := rP.below hb7
        replace rQ := rQ.below hb7
        replace rD := rD.below hb7
        replace HT := HT.below hb7
        replace HB := HB.trans (hb7.mono HB.size)
        have K8 := Lib.hid (rsub_any _ _ AP AQ _ cP _ cQ w7 rP rQ (by omega) (by omega) hle)
        go_wp2_with (go_at_call 31; refine K8.out.mono ?_)
        rintro e w8 ⟨vE, rfl, oE, hb8⟩
        replace r0 := r0.below hb8
        replace r1 := r1.below hb8
        replace rP := rP.below hb8
        replace rQ := rQ.below hb8
        replace rD := rD.below hb8
        replace HT := HT.below hb8
        replace HB := HB.trans (hb8.mono HB.size)
        obtain ⟨AE, cE, rfl, _, rE, _⟩ := oE.rd
        have K9 := Lib.hid (lawTo_any AE _ cE (val 1000000000 l0 - val 1000000000 l1) w8 rE (by omega))
        go_wp2_with (go_at_call 20; refine K9.out.mono ?_)
        rintro e w9 ⟨vF, rfl, oF, hb9⟩
        replace r0 := r0.below hb9
        replace r1 := r1.below hb9
        replace rP := rP.below hb9
        replace rQ := rQ.below hb9
        replace rD := rD.below hb9
        replace rE := rE.below hb9
        replace HT := HT.below hb9
        replace HB := HB.trans (hb9.mono HB.size)
        obtain ⟨AF, cF, rfl, _, rF, _⟩ := oF.rd
        have K10 := Lib.hid (same_true _ _ _ cD _ cF _ _ w9 rD rF (by first | omega | decide) (by first | omega | decide) rfl)
        go_wp2_with (go_at_call 19; refine K10.out.mono ?_)
        rintro e w10 ⟨rfl, hb10⟩
        replace r0 := r0.below hb10
        replace r1 := r1.below hb10
        replace rP := rP.below hb10
        replace rQ := rQ.below hb10
        replace rD := rD.below hb10
        replace rE := rE.below hb10
        replace rF := rF.below hb10
        replace HT := HT.below hb10
        replace HB := HB.trans (hb10.mono HB.size)
        have K11 := Lib.hid (add_any A0 A1 n0 cap0 n1 cap1 l0 l1 w10 r0 r1 (by omega) (by omega) h0 h1)
        go_wp2_with (go_at_call 29; refine K11.out.mono ?_)
        rintro e w11 ⟨vM, rfl, oM, hb11⟩
        replace r0 := r0.below hb11
        replace r1 := r1.below hb11
        replace rP := rP.below hb11
        replace rQ := rQ.below hb11
        replace rD := rD.below hb11
        replace rE := rE.below hb11
        replace rF := rF.below hb11
        replace HT := HT.below hb11
        replace HB := HB.trans (hb11.mono HB.size)
        obtain ⟨AM, cM, rfl, _, rM, _⟩ := oM.rd
        have K12 := Lib.hid (radd_any AP AQ _ cP _ cQ _ _ w11 rP rQ (by omega) (by omega) (digs_nine _) (digs_nine _))
        go_wp2_with (go_at_call 30; refine K12.out.mono ?_)
        rintro e w12 ⟨vR, rfl, oR, hb12⟩
        replace r0 := r0.below hb12
        replace r1 := r1.below hb12
        replace rP := rP.below hb12
        replace rQ := rQ.below hb12
        replace rD := rD.below hb12
        replace rE := rE.below hb12
        replace rF := rF.below hb12
        replace rM := rM.below hb12
        replace HT := HT.below hb12
        replace HB := HB.trans (hb12.mono HB.size)
        replace oR := oR.asList (show _ = digs 10 (val 1000000000 l0 + val 1000000000 l1) by rw [vten, vten])
        obtain ⟨AR, cR, rfl, _, rR, _⟩ := oR.rd
        have K13 := Lib.hid (lawTo_any AR _ cR (val 1000000000 l0 + val 1000000000 l1) w12 rR (by omega))
        go_wp2_with (go_at_call 20; refine K13.out.mono ?_)
        rintro e w13 ⟨vS, rfl, oS, hb13⟩
        replace r0 := r0.below hb13
        replace r1 := r1.below hb13
        replace rP := rP.below hb13
        replace rQ := rQ.below hb13
        replace rD := rD.below hb13
        replace rE := rE.below hb13
        replace rF := rF.below hb13
        replace rM := rM.below hb13
        replace rR := rR.below hb13
        replace HT := HT.below hb13
        replace HB := HB.trans (hb13.mono HB.size)
        obtain ⟨AS, cS, rfl, _, rS, _⟩ := oS.rd
        have K14 := Lib.hid (same_true _ _ _ cM _ cS _ _ w13 rM rS (by first | omega | decide) (by first | omega | decide) rfl)
        go_wp2_with (go_at_call 19; refine K14.out.mono ?_)
        rintro e w14 ⟨rfl, hb14⟩
        replace r0 := r0.below hb14
        replace r1 := r1.below hb14
        replace rP := rP.below hb14
        replace rQ := rQ.below hb14
        replace rD := rD.below hb14
        replace rE := rE.below hb14
        replace rF := rF.below hb14
        replace rM := rM.below hb14
        replace rR := rR.below hb14
        replace rS := rS.below hb14
        replace HT := HT.below hb14
        replace HB := HB.trans (hb14.mono HB.size)
        go_wp2
        go_ret
        exact ⟨rfl, HB⟩
set_option maxHeartbeats 4000000 in
set_option maxRecDepth 100000 in
theorem limbDivs_walk (A0 A1 : Option Addr) (n0 cap0 n1 cap1 : Nat) (l0 l1 : List Nat) (w : World) (HT : Tab10 w) (r0 : RdN .u32 w A0 n0 l0) (r1 : RdN .u32 w A1 n1 l1) (h0 : ∀ x ∈ l0, x < 4294967296) (h1 : ∀ x ∈ l1, x < 4294967296) :
    Calls Tryd.prog 3 #[.slice A0 n0 cap0, .slice A1 n1 cap1] w fun e w' => e = .returned (.bool true) ∧ Below w.heap.size w w' := by
  have HB := Below.refl w.heap.size w
  have q0 : n0 ≤ 40 → (digs 1000000000 (val 1000000000 l0)).length ≤ 41 := fun h => by have := digs_val_len l0 h0; have := r0.1; omega
  have q1 : n1 ≤ 40 → (digs 1000000000 (val 1000000000 l1)).length ≤ 41 := fun h => by have := digs_val_len l1 h1; have := r1.1; omega
  by_cases g0 : 40 < n0
  · skip
    go_enter Tryd.func3, Tryd.ntmps3
    have K1 := Lib.hid (shown_any w HT)
    go_wp2_with (go_at_call 14; refine K1.out.mono ?_)
    rintro e w1 ⟨rfl, hb1⟩
    replace r0 := r0.below hb1
    replace r1 := r1.below hb1
    replace HT := HT.below hb1
    replace HB := HB.trans (hb1.mono HB.size)
    have K2 := Lib.hid (great_yes A0 n0 cap0 w1 g0)
    go_wp2_with (go_at_call 15; refine K2.out.mono ?_; rintro e w2 ⟨rfl, rfl⟩)
    go_wp2
    go_ret
    exact ⟨rfl, HB⟩
  · skip
    by_cases g1 : 40 < n1
    · skip
      go_enter Tryd.func3, Tryd.ntmps3
      have K1 := Lib.hid (shown_any w HT)
      go_wp2_with (go_at_call 14; refine K1.out.mono ?_)
      rintro e w1 ⟨rfl, hb1⟩
      replace r0 := r0.below hb1
      replace r1 := r1.below hb1
      replace HT := HT.below hb1
      replace HB := HB.trans (hb1.mono HB.size)
      have K2 := Lib.hid (great_no A0 n0 cap0 w1 (by omega))
      go_wp2_with (go_at_call 15; refine K2.out.mono ?_; rintro e w2 ⟨rfl, rfl⟩)
      have K3 := Lib.hid (great_yes A1 n1 cap1 w1 g1)
      go_wp2_with (go_at_call 15; refine K3.out.mono ?_; rintro e w3 ⟨rfl, rfl⟩)
      go_wp2
      go_ret
      exact ⟨rfl, HB⟩
    · skip
      replace g0 : n0 ≤ 40 := by omega
      replace q0 := q0 g0
      have t0 := len_ten q0
      replace g1 : n1 ≤ 40 := by omega
      replace q1 := q1 g1
      have t1 := len_ten q1
      have qd := len_mono (Nat.div_le_self (val 1000000000 l0) (val 1000000000 l1)) q0
      have td := len_ten qd
      have qr := len_mono (Nat.mod_le (val 1000000000 l0) (val 1000000000 l1)) q0
      have tr := len_ten qr
      by_cases hz : val 1000000000 l1 = 0
      · skip
        go_enter Tryd.func3, Tryd.ntmps3
        have K1 := Lib.hid (shown_any w HT)
        go_wp2_with (go_at_call 14; refine K1.out.mono ?_)
        rintro e w1 ⟨rfl, hb1⟩
        replace r0 := r0.below hb1
        replace r1 := r1.below hb1
        replace HT := HT.below hb1
        replace HB := HB.trans (hb1.mono HB.size)
        have K2 := Lib.hid (great_no A0 n0 cap0 w1 (by omega))
        go_wp2_with (go_at_call 15; refine K2.out.mono ?_; rintro e w2 ⟨rfl, rfl⟩)
        have K3 := Lib.hid (great_no A1 n1 cap1 w1 (by omega))
        go_wp2_with (go_at_call 15; refine K3.out.mono ?_; rintro e w3 ⟨rfl, rfl⟩)
        have K4 := Lib.hid (divmod_no A0 A1 n0 cap0 n1 cap1 l0 l1 w1 r0 r1 (by omega) (by omega) h0 h1 hz)
        go_wp2_with (go_at_call 16; refine K4.out.mono ?_)
        rintro e w4 ⟨rfl, hb4⟩
        replace r0 := r0.below hb4
        replace r1 := r1.below hb4
        replace HT := HT.below hb4
        replace HB := HB.trans (hb4.mono HB.size)
        have K5 := Lib.hid (lawOf_any A1 n1 cap1 l1 w4 r1 (by omega) h1)
        go_wp2_with (go_at_call 17; refine K5.out.mono ?_)
        rintro e w5 ⟨vQ, rfl, oQ, hb5⟩
        replace r0 := r0.below hb5
        replace r1 := r1.below hb5
        replace HT := HT.below hb5
        replace HB := HB.trans (hb5.mono HB.size)
        replace oQ := oQ.asList (show _ = [] by rw [hz, digs_zero])
        obtain ⟨AQ, cQ, rfl, _, rQ, _⟩ := oQ.rd
        go_wp2
        go_ret
        exact ⟨rfl, HB⟩
      · skip
        have hpos : 0 < val 1000000000 l1 := by omega
        have hne : (digs 10 (val 1000000000 l1)).length ≠ 0 := fun h => hz ((digs_nil 10 _ (by omega)).1 (List.eq_nil_of_length_eq_zero h))
        go_enter Tryd.func3, Tryd.ntmps3
        have K1 := Lib.hid (shown_any w HT)
        go_wp2_with (go_at_call 14; refine K1.out.mono ?_)
        rintro e w1 ⟨rfl, hb1⟩
        replace r0 := r0.below hb1
        replace r1 := r1.below hb1
        replace HT := HT.below hb1
        replace HB := HB.trans (hb1.mono HB.size)
        have K2 := Lib.hid (great_no A0 n0 cap0 w1 (by omega))
        go_wp2_with (go_at_call 15; refine K2.out.mono ?_; rintro e w2 ⟨rfl, rfl⟩)
        have K3 := Lib.hid (great_no A1 n1 cap1 w1 (by omega))
        go_wp2_with (go_at_call 15; refine K3.out.mono ?_; rintro e w3 ⟨rfl, rfl⟩)
        have K4 := Lib.hid (divmod_ok A0 A1 n0 cap0 n1 cap1 l0 l1 w1 r0 r1 (by omega) (by omega) h0 h1 hpos)
        go_wp2_with (go_at_call 16; refine K4.out.mono ?_)
        rintro e w4 ⟨vD, vE, rfl, oD, oE, hb4⟩
        replace r0 := r0.below hb4
        replace r1 := r1.below hb4
        replace HT := HT.below hb4
        replace HB := HB.trans (hb4.mono HB.size)
        obtain ⟨AD, cD, rfl, _, rD, _⟩ := oD.rd
        obtain ⟨AE, cE, rfl, _, rE, _⟩ := oE.rd
        have K5 := Lib.hid (lawOf_any A1 n1 cap1 l1 w4 r1 (by omega) h1)
        go_wp2_with (go_at_call 17; refine K5.out.mono ?_)
        rintro e w5 ⟨vQ, rfl, oQ, hb5⟩
        replace r0 := r0.below hb5
        replace r1 := r1.below hb5
        replace rD := rD.below hb5
        replace rE := rE.below hb5
        replace HT := HT.below hb5
        replace HB := HB.trans (hb5.mono HB.size)
        obtain ⟨AQ, cQ, rfl, _, rQ, _⟩ := oQ.rd
        have K6 := Lib.hid (lawOf_any A0 n0 cap0 l0 w5 r0 (by omega) h0)
        go_wp2_with (go_at_call 17; refine K6.out.mono ?_)
        rintro e w6 ⟨vP, rfl, oP, hb6⟩
        replace r0 := r0.below hb6
        replace r1 := r1.below hb6
        replace rD := rD.below hb6
        replace rE := rE.below hb6
        replace rQ := rQ.below hb6
        replace HT := HT.below hb6
        replace HB := HB.trans (hb6.mono HB.size)
        obtain ⟨AP, cP, rfl, _, rP, _⟩ := oP.rd
        have K7 := Lib.hid (rdiv_any _ _ AP AQ _ cP _ cQ w6 rP rQ (by omega) (by omega) hpos)
        go_wp2_with (go_at_call 18; refine K7.out.mono ?_)
        rintro e w7 ⟨vF, vG, rfl, oF, oG, hb7⟩
        replace r0 := r0.below hb7
        replace r1 := r1.below hb7
        replace rD := rD.below hb7
        replace rE := rE.below hb7
        replace rQ := rQ.below hb7
        replace rP := rP.below hb7
        replace HT := HT.below hb7
        replace HB := HB.trans (hb7.mono HB.size)
        obtain ⟨AF, cF, rfl, _, rF, _⟩ := oF.rd
        obtain ⟨AG, cG, rfl, _, rG, _⟩ := oG.rd
        have K8 := Lib.hid (lawTo_any AF _ cF (val 1000000000 l0 / val 1000000000 l1) w7 rF (by omega))
        go_wp2_with (go_at_call 20; refine K8.out.mono ?_)
        rintro e w8 ⟨vH, rfl, oH, hb8⟩
        replace r0 := r0.below hb8
        replace r1 := r1.below hb8
        replace rD := rD.below hb8
        replace rE := rE.below hb8
        replace rQ := rQ.below hb8
        replace rP := rP.below hb8
        replace rF := rF.below hb8
        replace rG := rG.below hb8
        replace HT := HT.below hb8
        replace HB := HB.trans (hb8.mono HB.size)
        obtain ⟨AH, cH, rfl, _, rH, _⟩ := oH.rd
        have K9 := Lib.hid (same_true _ _ _ cD _ cH _ _ w8 rD rH (by first | omega | decide) (by first | omega | decide) rfl)
        go_wp2_with (go_at_call 19; refine K9.out.mono ?_)
        rintro e w9 ⟨rfl, hb9⟩
        replace r0 := r0.below hb9
        replace r1 := r1.below hb9
        replace rD := rD.below hb9
        replace rE := rE.below hb9
        replace rQ := rQ.below hb9
        replace rP := rP.below hb9
        replace rF := rF.below hb9
        replace rG := rG.below hb9
        replace rH := rH.below hb9
        replace HT := HT.below hb9
        replace HB := HB.trans (hb9.mono HB.size)
        have K10 := Lib.hid (lawTo_any AG _ cG (val 1000000000 l0 % val 1000000000 l1) w9 rG (by omega))
        go_wp2_with (go_at_call 20; refine K10.out.mono ?_)
        rintro e w10 ⟨vI, rfl, oI, hb10⟩
        replace r0 := r0.below hb10
        replace r1 := r1.below hb10
        replace rD := rD.below hb10
        replace rE := rE.below hb10
        replace rQ := rQ.below hb10
        replace rP := rP.below hb10
        replace rF := rF.below hb10
        replace rG := rG.below hb10
        replace rH := rH.below hb10
        replace HT := HT.below hb10
        replace HB := HB.trans (hb10.mono HB.size)
        obtain ⟨AI, cI, rfl, _, rI, _⟩ := oI.rd
        have K11 := Lib.hid (same_true _ _ _ cE _ cI _ _ w10 rE rI (by first | omega | decide) (by first | omega | decide) rfl)
        go_wp2_with (go_at_call 19; refine K11.out.mono ?_)
        rintro e w11 ⟨rfl, hb11⟩
        replace r0 := r0.below hb11
        replace r1 := r1.below hb11
        replace rD := rD.below hb11
        replace rE := rE.below hb11
        replace rQ := rQ.below hb11
        replace rP := rP.below hb11
        replace rF := rF.below hb11
        replace rG := rG.below hb11
        replace rH := rH.below hb11
        replace rI := rI.below hb11
        replace HT := HT.below hb11
        replace HB := HB.trans (hb11.mono HB.size)
        go_wp2
        go_ret
        exact ⟨rfl, HB⟩
set_option maxHeartbeats 4000000 in
set_option maxRecDepth 100000 in
theorem limbTexts_walk (A0 : Option Addr) (n0 cap0 : Nat) (l0 : List Nat) (w : World) (HT : Tab10 w) (r0 : RdN .u32 w A0 n0 l0) (h0 : ∀ x ∈ l0, x < 4294967296) :
    Calls Tryd.prog 8 #[.slice A0 n0 cap0] w fun e w' => e = .returned (.bool true) ∧ Below w.heap.size w w' := by
  have HB := Below.refl w.heap.size w
  have q0 : n0 ≤ 40 → (digs 1000000000 (val 1000000000 l0)).length ≤ 41 := fun h => by have := digs_val_len l0 h0; have := r0.1; omega
  by_cases g0 : 40 < n0
  · skip
    go_enter Tryd.func8, Tryd.ntmps8
    have K1 := Lib.hid (shown_any w HT)
    go_wp2_with (go_at_call 14; refine K1.out.mono ?_)
    rintro e w1 ⟨rfl, hb1⟩
    replace r0 := r0.below hb1
    replace HT := HT.below hb1
    replace HB := HB.trans (hb1.mono HB.size)
    have K2 := Lib.hid (great_yes A0 n0 cap0 w1 g0)
    go_wp2_with (go_at_call 15; refine K2.out.mono ?_; rintro e w2 ⟨rfl, rfl⟩)
    go_wp2
    go_ret
    exact ⟨rfl, HB⟩
  · skip
    replace g0 : n0 ≤ 40 := by omega
    replace q0 := q0 g0
    have t0 := len_ten q0
    go_enter Tryd.func8, Tryd.ntmps8
    have K1 := Lib.hid (shown_any w HT)
    go_wp2_with (go_at_call 14; refine K1.out.mono ?_)
    rintro e w1 ⟨rfl, hb1⟩
    replace r0 := r0.below hb1
    replace HT := HT.below hb1
    replace HB := HB.trans (hb1.mono HB.size)
    have K2 := Lib.hid (great_no A0 n0 cap0 w1 (by omega))
    go_wp2_with (go_at_call 15; refine K2.out.mono ?_; rintro e w2 ⟨rfl, rfl⟩)
    have K3 := Lib.hid (lawOf_any A0 n0 cap0 l0 w1 r0 (by omega) h0)
    go_wp2_with (go_at_call 17; refine K3.out.mono ?_)
    rintro e w3 ⟨vP, rfl, oP, hb3⟩
    replace r0 := r0.below hb3
    replace HT := HT.below hb3
    replace HB := HB.trans (hb3.mono HB.size)
    obtain ⟨AP, cP, rfl, _, rP, _⟩ := oP.rd
    have K4 := Lib.hid (text_any A0 n0 cap0 l0 w3 r0 (by omega) h0 HT)
    go_wp2_with (go_at_call 32; refine K4.out.mono ?_)
    rintro e w4 ⟨rfl, hb4⟩
    replace r0 := r0.below hb4
    replace rP := rP.below hb4
    replace HT := HT.below hb4
    replace HB := HB.trans (hb4.mono HB.size)
    have K5 := Lib.hid (rtext_any AP _ cP _ w4 rP (by omega))
    go_wp2_with (go_at_call 33; refine K5.out.mono ?_)
    rintro e w5 ⟨rfl, hb5⟩
    replace r0 := r0.below hb5
    replace rP := rP.below hb5
    replace HT := HT.below hb5
    replace HB := HB.trans (hb5.mono HB.size)
    have K6 := Lib.hid (digits_any A0 n0 cap0 l0 w5 r0 (by omega) h0 HT)
    go_wp2_with (go_at_call 34; refine K6.out.mono ?_)
    rintro e w6 ⟨rfl, hb6⟩
    replace r0 := r0.below hb6
    replace rP := rP.below hb6
    replace HT := HT.below hb6
    replace HB := HB.trans (hb6.mono HB.size)
    go_wp2
    go_ret
    exact ⟨rfl, HB⟩
end Go.Proofs.YtmmlclgmehfmhaaDoor
