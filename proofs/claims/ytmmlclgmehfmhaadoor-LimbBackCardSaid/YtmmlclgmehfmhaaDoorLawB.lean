/-
  The walks of the laws of chapter 1: Norms, Cmps, Muls, Sums.
-/
import Derived.Test.YtmmlclgmehfmhaaDoorLawA
namespace Go.Proofs.YtmmlclgmehfmhaaDoor
open Go.RowKit

set_option maxHeartbeats 4000000 in
set_option maxRecDepth 100000 in
theorem limbNorms_walk (A0 : Option Addr) (n0 cap0 : Nat) (l0 : List Nat) (u : Nat) (hu : u < 18446744073709551616) (w : World) (HT : Tab10 w) (r0 : RdN .u32 w A0 n0 l0) (h0 : ∀ x ∈ l0, x < 4294967296) :
    Calls Tryd.prog 5 #[.slice A0 n0 cap0, .int .u64 u] w fun e w' => e = .returned (.bool true) ∧ Below w.heap.size w w' := by
  have HB := Below.refl w.heap.size w
  have q0 : n0 ≤ 40 → (digs 1000000000 (val 1000000000 l0)).length ≤ 41 := fun h => by have := digs_val_len l0 h0; have := r0.1; omega
  by_cases g0 : 40 < n0
  · skip
    go_enter Tryd.func5, Tryd.ntmps5
    have K1 := Lib.hid (shown_any w HT)
    go_wp2_with (go_at_call 14; refine K1.out.mono ?_)
    rintro e w1 ⟨rfl, hb1⟩
    replace r0 := r0.below hb1
    replace HT := HT.below hb1
    replace HB := HB.trans (hb1.mono HB.size)
    have K2 := Lib.hid (great_yes A0 n0 cap0 w1 g0)
    go_wp2_with (go_at_call 15; refine K2.out.mono ?_; rintro e w2 ⟨rfl, rfl⟩)
    go_wp2
    go_ret
    exact ⟨rfl, HB⟩
  · skip
    replace g0 : n0 ≤ 40 := by omega
    replace q0 := q0 g0
    have t0 := len_ten q0
    have qu : (digs 1000000000 u).length ≤ 3 := len_le (by omega) (by omega)
    have tu := len_ten qu
    go_enter Tryd.func5, Tryd.ntmps5
    have K1 := Lib.hid (shown_any w HT)
    go_wp2_with (go_at_call 14; refine K1.out.mono ?_)
    rintro e w1 ⟨rfl, hb1⟩
    replace r0 := r0.below hb1
    replace HT := HT.below hb1
    replace HB := HB.trans (hb1.mono HB.size)
    have K2 := Lib.hid (great_no A0 n0 cap0 w1 (by omega))
    go_wp2_with (go_at_call 15; refine K2.out.mono ?_; rintro e w2 ⟨rfl, rfl⟩)
    have K3 := Lib.hid (norm_any A0 n0 cap0 l0 w1 r0 (by omega) h0)
    go_wp2_with (go_at_call 23; refine K3.out.mono ?_)
    rintro e w3 ⟨vP, rfl, oP, hb3⟩
    replace r0 := r0.below hb3
    replace HT := HT.below hb3
    replace HB := HB.trans (hb3.mono HB.size)
    obtain ⟨AP, cP, rfl, _, rP, _⟩ := oP.rd
    have K4 := Lib.hid (lawOf_any A0 n0 cap0 l0 w3 r0 (by omega) h0)
    go_wp2_with (go_at_call 17; refine K4.out.mono ?_)
    rintro e w4 ⟨vQ, rfl, oQ, hb4⟩
    replace r0 := r0.below hb4
    replace rP := rP.below hb4
    replace HT := HT.below hb4
    replace HB := HB.trans (hb4.mono HB.size)
    obtain ⟨AQ, cQ, rfl, _, rQ, _⟩ := oQ.rd
    have K5 := Lib.hid (lawTo_any AQ _ cQ (val 1000000000 l0) w4 rQ (by omega))
    go_wp2_with (go_at_call 20; refine K5.out.mono ?_)
    rintro e w5 ⟨vR, rfl, oR, hb5⟩
    replace r0 := r0.below hb5
    replace rP := rP.below hb5
    replace rQ := rQ.below hb5
    replace HT := HT.below hb5
    replace HB := HB.trans (hb5.mono HB.size)
    obtain ⟨AR, cR, rfl, _, rR, _⟩ := oR.rd
    have K6 := Lib.hid (same_true _ _ _ cP _ cR _ _ w5 rP rR (by first | omega | decide) (by first | omega | decide) rfl)
    go_wp2_with (go_at_call 19; refine K6.out.mono ?_)
    rintro e w6 ⟨rfl, hb6⟩
    replace r0 := r0.below hb6
    replace rP := rP.below hb6
    replace rQ := rQ.below hb6
    replace rR := rR.below hb6
    replace HT := HT.below hb6
    replace HB := HB.trans (hb6.mono HB.size)
    have K7 := Lib.hid (of_any u w6 hu)
    go_wp2_with (go_at_call 24; refine K7.out.mono ?_)
    rintro e w7 ⟨vS, rfl, oS, hb7⟩
    replace r0 := r0.below hb7
    replace rP := rP.below hb7
    replace rQ := rQ.below hb7
    replace rR := rR.below hb7
    replace HT := HT.below hb7
    replace HB := HB.trans (hb7.mono HB.size)
    obtain ⟨AS, cS, rfl, _, rS, _⟩ := oS.rd
    have K8 := Lib.hid (small_any u w7 hu)
    go_wp2_with (go_at_call 25; refine K8.out.mono ?_)
    rintro e w8 ⟨vT, rfl, oT, hb8⟩
    replace r0 := r0.below hb8
    replace rP := rP.below hb8
    replace rQ := rQ.below hb8
    replace rR := rR.below hb8
    replace rS := rS.below hb8
    replace HT := HT.below hb8
    replace HB := HB.trans (hb8.mono HB.size)
    obtain ⟨AT, cT, rfl, _, rT, _⟩ := oT.rd
    have K9 := Lib.hid (lawTo_any AT _ cT (u) w8 rT (by omega))
    go_wp2_with (go_at_call 20; refine K9.out.mono ?_)
    rintro e w9 ⟨vU, rfl, oU, hb9⟩
    replace r0 := r0.below hb9
    replace rP := rP.below hb9
    replace rQ := rQ.below hb9
    replace rR := rR.below hb9
    replace rS := rS.below hb9
    replace rT := rT.below hb9
    replace HT := HT.below hb9
    replace HB := HB.trans (hb9.mono HB.size)
    obtain ⟨AU, cU, rfl, _, rU, _⟩ := oU.rd
    have K10 := Lib.hid (same_true _ _ _ cS _ cU _ _ w9 rS rU (by first | omega | decide) (by first | omega | decide) rfl)
    go_wp2_with (go_at_call 19; refine K10.out.mono ?_)
    rintro e w10 ⟨rfl, hb10⟩
    replace r0 := r0.below hb10
    replace rP := rP.below hb10
    replace rQ := rQ.below hb10
    replace rR := rR.below hb10
    replace rS := rS.below hb10
    replace rT := rT.below hb10
    replace rU := rU.below hb10
    replace HT := HT.below hb10
    replace HB := HB.trans (hb10.mono HB.size)
    go_wp2
    go_ret
    exact ⟨rfl, HB⟩
set_option maxHeartbeats 4000000 in
set_option maxRecDepth 100000 in
theorem limbCmps_walk (A0 A1 : Option Addr) (n0 cap0 n1 cap1 : Nat) (l0 l1 : List Nat) (w : World) (HT : Tab10 w) (r0 : RdN .u32 w A0 n0 l0) (r1 : RdN .u32 w A1 n1 l1) (h0 : ∀ x ∈ l0, x < 4294967296) (h1 : ∀ x ∈ l1, x < 4294967296) :
    Calls Tryd.prog 6 #[.slice A0 n0 cap0, .slice A1 n1 cap1] w fun e w' => e = .returned (.bool true) ∧ Below w.heap.size w w' := by
  have HB := Below.refl w.heap.size w
  have q0 : n0 ≤ 40 → (digs 1000000000 (val 1000000000 l0)).length ≤ 41 := fun h => by have := digs_val_len l0 h0; have := r0.1; omega
  have q1 : n1 ≤ 40 → (digs 1000000000 (val 1000000000 l1)).length ≤ 41 := fun h => by have := digs_val_len l1 h1; have := r1.1; omega
  by_cases g0 : 40 < n0
  · skip
    go_enter Tryd.func6, Tryd.ntmps6
    have K1 := Lib.hid (shown_any w HT)
    go_wp2_with (go_at_call 14; refine K1.out.mono ?_)
    rintro e w1 ⟨rfl, hb1⟩
    replace r0 := r0.below hb1
    replace r1 := r1.below hb1
    replace HT := HT.below hb1
    replace HB := HB.trans (hb1.mono HB.size)
    have K2 := Lib.hid (great_yes A0 n0 cap0 w1 g0)
    go_wp2_with (go_at_call 15; refine K2.out.mono ?_; rintro e w2 ⟨rfl, rfl⟩)
    go_wp2
    go_ret
    exact ⟨rfl, HB⟩
  · skip
    by_cases g1 : 40 < n1
    · skip
      go_enter Tryd.func6, Tryd.ntmps6
      have K1 := Lib.hid (shown_any w HT)
      go_wp2_with (go_at_call 14; refine K1.out.mono ?_)
      rintro e w1 ⟨rfl, hb1⟩
      replace r0 := r0.below hb1
      replace r1 := r1.below hb1
      replace HT := HT.below hb1
      replace HB := HB.trans (hb1.mono HB.size)
      have K2 := Lib.hid (great_no A0 n0 cap0 w1 (by omega))
      go_wp2_with (go_at_call 15; refine K2.out.mono ?_; rintro e w2 ⟨rfl, rfl⟩)
      have K3 := Lib.hid (great_yes A1 n1 cap1 w1 g1)
      go_wp2_with (go_at_call 15; refine K3.out.mono ?_; rintro e w3 ⟨rfl, rfl⟩)
      go_wp2
      go_ret
      exact ⟨rfl, HB⟩
    · skip
      replace g0 : n0 ≤ 40 := by omega
      replace q0 := q0 g0
      have t0 := len_ten q0
      replace g1 : n1 ≤ 40 := by omega
      replace q1 := q1 g1
      have t1 := len_ten q1
      go_enter Tryd.func6, Tryd.ntmps6
      have K1 := Lib.hid (shown_any w HT)
      go_wp2_with (go_at_call 14; refine K1.out.mono ?_)
      rintro e w1 ⟨rfl, hb1⟩
      replace r0 := r0.below hb1
      replace r1 := r1.below hb1
      replace HT := HT.below hb1
      replace HB := HB.trans (hb1.mono HB.size)
      have K2 := Lib.hid (great_no A0 n0 cap0 w1 (by omega))
      go_wp2_with (go_at_call 15; refine K2.out.mono ?_; rintro e w2 ⟨rfl, rfl⟩)
      have K3 := Lib.hid (great_no A1 n1 cap1 w1 (by omega))
      go_wp2_with (go_at_call 15; refine K3.out.mono ?_; rintro e w3 ⟨rfl, rfl⟩)
      have K4 := Lib.hid (cmp_any A0 A1 n0 cap0 n1 cap1 l0 l1 w1 r0 r1 (by omega) (by omega) h0 h1 (by omega) (by omega))
      go_wp2_with (go_at_call 26; refine K4.out.mono ?_)
      rintro e w4 ⟨rfl, hb4⟩
      replace r0 := r0.below hb4
      replace r1 := r1.below hb4
      replace HT := HT.below hb4
      replace HB := HB.trans (hb4.mono HB.size)
      have K5 := Lib.hid (lawOf_any A0 n0 cap0 l0 w4 r0 (by omega) h0)
      go_wp2_with (go_at_call 17; refine K5.out.mono ?_)
      rintro e w5 ⟨vP, rfl, oP, hb5⟩
      replace r0 := r0.below hb5
      replace r1 := r1.below hb5
      replace HT := HT.below hb5
      replace HB := HB.trans (hb5.mono HB.size)
      obtain ⟨AP, cP, rfl, _, rP, _⟩ := oP.rd
      have K6 := Lib.hid (lawOf_any A1 n1 cap1 l1 w5 r1 (by omega) h1)
      go_wp2_with (go_at_call 17; refine K6.out.mono ?_)
      rintro e w6 ⟨vQ, rfl, oQ, hb6⟩
      replace r0 := r0.below hb6
      replace r1 := r1.below hb6
      replace rP := rP.below hb6
      replace HT := HT.below hb6
      replace HB := HB.trans (hb6.mono HB.size)
      obtain ⟨AQ, cQ, rfl, _, rQ, _⟩ := oQ.rd
      have K7 := Lib.hid (rcmp_any _ _ AP AQ _ cP _ cQ w6 rP rQ (by omega) (by omega))
      go_wp2_with (go_at_call 27; refine K7.out.mono ?_)
      rintro e w7 ⟨rfl, hb7⟩
      replace r0 := r0.below hb7
      replace r1 := r1.below hb7
      replace rP := rP.below hb7
      replace rQ := rQ.below hb7
      replace HT := HT.below hb7
      replace HB := HB.trans (hb7.mono HB.size)
      go_wp2
      go_ret
      exact ⟨rfl, HB⟩
set_option maxHeartbeats 4000000 in
set_option maxRecDepth 100000 in
theorem limbMuls_walk (A0 A1 : Option Addr) (n0 cap0 n1 cap1 : Nat) (l0 l1 : List Nat) (w : World) (HT : Tab10 w) (r0 : RdN .u32 w A0 n0 l0) (r1 : RdN .u32 w A1 n1 l1) (h0 : ∀ x ∈ l0, x < 4294967296) (h1 : ∀ x ∈ l1, x < 4294967296) :
    Calls Tryd.prog 9 #[.slice A0 n0 cap0, .slice A1 n1 cap1] w fun e w' => e = .returned (.bool true) ∧ Below w.heap.size w w' := by
  have HB := Below.refl w.heap.size w
  have q0 : n0 ≤ 40 → (digs 1000000000 (val 1000000000 l0)).length ≤ 41 := fun h => by have := digs_val_len l0 h0; have := r0.1; omega
  have q1 : n1 ≤ 40 → (digs 1000000000 (val 1000000000 l1)).length ≤ 41 := fun h => by have := digs_val_len l1 h1; have := r1.1; omega
  by_cases g0 : 40 < n0
  · skip
    go_enter Tryd.func9, Tryd.ntmps9
    have K1 := Lib.hid (shown_any w HT)
    go_wp2_with (go_at_call 14; refine K1.out.mono ?_)
    rintro e w1 ⟨rfl, hb1⟩
    replace r0 := r0.below hb1
    replace r1 := r1.below hb1
    replace HT := HT.below hb1
    replace HB := HB.trans (hb1.mono HB.size)
    have K2 := Lib.hid (great_yes A0 n0 cap0 w1 g0)
    go_wp2_with (go_at_call 15; refine K2.out.mono ?_; rintro e w2 ⟨rfl, rfl⟩)
    go_wp2
    go_ret
    exact ⟨rfl, HB⟩
  · skip
    by_cases g1 : 40 < n1
    · skip
      go_enter Tryd.func9, Tryd.ntmps9
      have K1 := Lib.hid (shown_any w HT)
      go_wp2_with (go_at_call 14; refine K1.out.mono ?_)
      rintro e w1 ⟨rfl, hb1⟩
      replace r0 := r0.below hb1
      replace r1 := r1.below hb1
      replace HT := HT.below hb1
      replace HB := HB.trans (hb1.mono HB.size)
      have K2 := Lib.hid (great_no A0 n0 cap0 w1 (by omega))
      go_wp2_with (go_at_call 15; refine K2.out.mono ?_; rintro e w2 ⟨rfl, rfl⟩)
      have K3 := Lib.hid (great_yes A1 n1 cap1 w1 g1)
      go_wp2_with (go_at_call 15; refine K3.out.mono ?_; rintro e w3 ⟨rfl, rfl⟩)
      go_wp2
      go_ret
      exact ⟨rfl, HB⟩
    · skip
      replace g0 : n0 ≤ 40 := by omega
      replace q0 := q0 g0
      have t0 := len_ten q0
      replace g1 : n1 ≤ 40 := by omega
      replace q1 := q1 g1
      have t1 := len_ten q1
      have qm := len_mul q0 q1
      have tm := len_ten qm
      go_enter Tryd.func9, Tryd.ntmps9
      have K1 := Lib.hid (shown_any w HT)
      go_wp2_with (go_at_call 14; refine K1.out.mono ?_)
      rintro e w1 ⟨rfl, hb1⟩
      replace r0 := r0.below hb1
      replace r1 := r1.below hb1
      replace HT := HT.below hb1
      replace HB := HB.trans (hb1.mono HB.size)
      have K2 := Lib.hid (great_no A0 n0 cap0 w1 (by omega))
      go_wp2_with (go_at_call 15; refine K2.out.mono ?_; rintro e w2 ⟨rfl, rfl⟩)
      have K3 := Lib.hid (great_no A1 n1 cap1 w1 (by omega))
      go_wp2_with (go_at_call 15; refine K3.out.mono ?_; rintro e w3 ⟨rfl, rfl⟩)
      have K4 := Lib.hid (mul_any A0 A1 n0 cap0 n1 cap1 l0 l1 w1 r0 r1 (by omega) (by omega) h0 h1)
      go_wp2_with (go_at_call 35; refine K4.out.mono ?_)
      rintro e w4 ⟨vM, rfl, oM, hb4⟩
      replace r0 := r0.below hb4
      replace r1 := r1.below hb4
      replace HT := HT.below hb4
      replace HB := HB.trans (hb4.mono HB.size)
      obtain ⟨AM, cM, rfl, _, rM, _⟩ := oM.rd
      have K5 := Lib.hid (lawOf_any A0 n0 cap0 l0 w4 r0 (by omega) h0)
      go_wp2_with (go_at_call 17; refine K5.out.mono ?_)
      rintro e w5 ⟨vP, rfl, oP, hb5⟩
      replace r0 := r0.below hb5
      replace r1 := r1.below hb5
      replace rM := rM.below hb5
      replace HT := HT.below hb5
      replace HB := HB.trans (hb5.mono HB.size)
      obtain ⟨AP, cP, rfl, _, rP, _⟩ := oP.rd
      have K6 := Lib.hid (lawOf_any A1 n1 cap1 l1 w5 r1 (by omega) h1)
      go_wp2_with (go_at_call 17; refine K6.out.mono ?_)
      rintro e w6 ⟨vQ, rfl, oQ, hb6⟩
      replace r0 := r0.below hb6
      replace r1 := r1.below hb6
      replace rM := rM.below hb6
      replace rP := rP.below hb6
      replace HT := HT.below hb6
      replace HB := HB.trans (hb6.mono HB.size)
      obtain ⟨AQ, cQ, rfl, _, rQ, _⟩ := oQ.rd
      have K7 := Lib.hid (rmul_any _ _ AP AQ _ cP _ cQ w6 rP rQ (by omega) (by omega))
      go_wp2_with (go_at_call 36; refine K7.out.mono ?_)
      rintro e w7 ⟨vR, rfl, oR, hb7⟩
      replace r0 := r0.below hb7
      replace r1 := r1.below hb7
      replace rM := rM.below hb7
      replace rP := rP.below hb7
      replace rQ := rQ.below hb7
      replace HT := HT.below hb7
      replace HB := HB.trans (hb7.mono HB.size)
      obtain ⟨AR, cR, rfl, _, rR, _⟩ := oR.rd
      have K8 := Lib.hid (lawTo_any AR _ cR (val 1000000000 l0 * val 1000000000 l1) w7 rR (by omega))
      go_wp2_with (go_at_call 20; refine K8.out.mono ?_)
      rintro e w8 ⟨vS, rfl, oS, hb8⟩
      replace r0 := r0.below hb8
      replace r1 := r1.below hb8
      replace rM := rM.below hb8
      replace rP := rP.below hb8
      replace rQ := rQ.below hb8
      replace rR := rR.below hb8
      replace HT := HT.below hb8
      replace HB := HB.trans (hb8.mono HB.size)
      obtain ⟨AS, cS, rfl, _, rS, _⟩ := oS.rd
      have K9 := Lib.hid (same_true _ _ _ cM _ cS _ _ w8 rM rS (by first | omega | decide) (by first | omega | decide) rfl)
      go_wp2_with (go_at_call 19; refine K9.out.mono ?_)
      rintro e w9 ⟨rfl, hb9⟩
      replace r0 := r0.below hb9
      replace r1 := r1.below hb9
      replace rM := rM.below hb9
      replace rP := rP.below hb9
      replace rQ := rQ.below hb9
      replace rR := rR.below hb9
      replace rS := rS.below hb9
      replace HT := HT.below hb9
      replace HB := HB.trans (hb9.mono HB.size)
      go_wp2
      go_ret
      exact ⟨rfl, HB⟩
end Go.Proofs.YtmmlclgmehfmhaaDoor
