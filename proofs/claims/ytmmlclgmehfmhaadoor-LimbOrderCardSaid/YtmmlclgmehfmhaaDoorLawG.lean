/-
  The walk of the law Order, where the first number is below the second.
-/
import Derived.Test.YtmmlclgmehfmhaaDoorLawE
namespace Go.Proofs.YtmmlclgmehfmhaaDoor
open Go.RowKit
set_option maxHeartbeats 2000000 in
set_option maxRecDepth 100000 in
theorem limbOrder_lt (A0 A1 A2 : Option Addr) (n0 cap0 n1 cap1 n2 cap2 : Nat) (l0 l1 l2 : List Nat) (w : World) (HT : Tab10 w) (r0 : RdN .u32 w A0 n0 l0) (r1 : RdN .u32 w A1 n1 l1) (r2 : RdN .u32 w A2 n2 l2) (h0 : ∀ x ∈ l0, x < 4294967296) (h1 : ∀ x ∈ l1, x < 4294967296) (h2 : ∀ x ∈ l2, x < 4294967296) (g0 : n0 ≤ 40) (g1 : n1 ≤ 40) (g2 : n2 ≤ 40) (ht : val 1000000000 l0 < val 1000000000 l1) :
    Calls Tryd.prog 11 #[.slice A0 n0 cap0, .slice A1 n1 cap1, .slice A2 n2 cap2] w fun e w' => e = .returned (.bool true) ∧ Below w.heap.size w w' := by
  have HB := Below.refl w.heap.size w
  have q0 : (digs 1000000000 (val 1000000000 l0)).length ≤ 41 := by have := digs_val_len l0 h0; have := r0.1; omega
  have q1 : (digs 1000000000 (val 1000000000 l1)).length ≤ 41 := by have := digs_val_len l1 h1; have := r1.1; omega
  have q2 : (digs 1000000000 (val 1000000000 l2)).length ≤ 41 := by have := digs_val_len l2 h2; have := r2.1; omega
  have qac := len_add q0 q2
  have qbc := len_add q1 q2
  have qma := len_mul q0 q2
  have qmb := len_mul q1 q2
  obtain ⟨C2, e2⟩ : ∃ C2, cmpN (val 1000000000 l1) (val 1000000000 l2) = C2 := ⟨_, rfl⟩
  have hle2 := cmpN_le (val 1000000000 l1) (val 1000000000 l2)
  rw [e2] at hle2
  obtain ⟨C3, e3⟩ : ∃ C3, cmpN (val 1000000000 l0) (val 1000000000 l2) = C3 := ⟨_, rfl⟩
  have hle3 := cmpN_le (val 1000000000 l0) (val 1000000000 l2)
  rw [e3] at hle3
  have e5' := cmpN_zero (val 1000000000 l2)
  have e1 : cmpN (val 1000000000 l0) (val 1000000000 l1) = -1 := cmpN_lt ht
  have e1' : cmpN (val 1000000000 l1) (val 1000000000 l0) = 1 := cmpN_gt ht
  have e4 : decide (digs 1000000000 (val 1000000000 l0) = digs 1000000000 (val 1000000000 l1)) = false := decide_eq_false (fun h => by have := (digs_inj _ _).1 h; omega)
  by_cases hz : val 1000000000 l2 = 0
  · skip
    rw [if_pos hz] at e5'
    have e5 : cmpN (val 1000000000 l2) (val 1000000000 []) = 0 := e5'
    by_cases hc : C2 ≤ 0
    · skip
      have hc3 : C3 ≤ 0 := hle3.2 (by have := hle2.1 hc; omega)
      have E1 := Lib.hid e1
      have E1b := Lib.hid e1'
      have E2 := Lib.hid e2
      have E4 := Lib.hid e4
      have E5 := Lib.hid e5
      have HZ := Lib.hid hz
      have E3 := Lib.hid e3
      clear hle2 ht e5' e1 e1' e2 e4 e5 hz e3 hle3
      go_enter Tryd.func11, Tryd.ntmps11
      have K1 := Lib.hid (shown_any w HT)
      go_wp2_with (go_at_call 14; refine K1.out.mono ?_)
      rintro e w1 ⟨rfl, hb1⟩
      replace r0 := r0.below hb1
      replace r1 := r1.below hb1
      replace r2 := r2.below hb1
      replace HT := HT.below hb1
      replace HB := HB.trans (hb1.mono HB.size)
      have K2 := Lib.hid (great_no A0 n0 cap0 w1 (by omega))
      go_wp2_with (go_at_call 15; refine K2.out.mono ?_; rintro e w2 ⟨rfl, rfl⟩)
      have K3 := Lib.hid (great_no A1 n1 cap1 w1 (by omega))
      go_wp2_with (go_at_call 15; refine K3.out.mono ?_; rintro e w3 ⟨rfl, rfl⟩)
      have K4 := Lib.hid (great_no A2 n2 cap2 w1 (by omega))
      go_wp2_with (go_at_call 15; refine K4.out.mono ?_; rintro e w4 ⟨rfl, rfl⟩)
      have K5 := Lib.hid (cmp_is A0 A1 n0 cap0 n1 cap1 l0 l1 (-1) w1 r0 r1 (by omega) (by omega) h0 h1 E1.out)
      go_wp2_with (go_at_call 26; refine K5.out.mono ?_)
      rintro e w5 ⟨rfl, hb5⟩
      replace r0 := r0.below hb5
      replace r1 := r1.below hb5
      replace r2 := r2.below hb5
      replace HT := HT.below hb5
      replace HB := HB.trans (hb5.mono HB.size)
      have K6 := Lib.hid (cmp_is A1 A2 n1 cap1 n2 cap2 l1 l2 C2 w5 r1 r2 (by omega) (by omega) h1 h2 E2.out)
      go_wp2_with (go_at_call 26; refine K6.out.mono ?_)
      rintro e w6 ⟨rfl, hb6⟩
      replace r0 := r0.below hb6
      replace r1 := r1.below hb6
      replace r2 := r2.below hb6
      replace HT := HT.below hb6
      replace HB := HB.trans (hb6.mono HB.size)
      have K7 := Lib.hid (cmp_is A1 A0 n1 cap1 n0 cap0 l1 l0 (1) w6 r1 r0 (by omega) (by omega) h1 h0 E1b.out)
      go_wp2_with (go_at_call 26; refine K7.out.mono ?_)
      rintro e w7 ⟨rfl, hb7⟩
      replace r0 := r0.below hb7
      replace r1 := r1.below hb7
      replace r2 := r2.below hb7
      replace HT := HT.below hb7
      replace HB := HB.trans (hb7.mono HB.size)
      have K8 := Lib.hid (cmp_is A0 A2 n0 cap0 n2 cap2 l0 l2 C3 w7 r0 r2 (by omega) (by omega) h0 h2 E3.out)
      go_wp2_with (go_at_call 26; refine K8.out.mono ?_)
      rintro e w8 ⟨rfl, hb8⟩
      replace r0 := r0.below hb8
      replace r1 := r1.below hb8
      replace r2 := r2.below hb8
      replace HT := HT.below hb8
      replace HB := HB.trans (hb8.mono HB.size)
      have K9 := Lib.hid (norm_any A0 n0 cap0 l0 w8 r0 (by omega) h0)
      go_wp2_with (go_at_call 23; refine K9.out.mono ?_)
      rintro e w9 ⟨vP, rfl, oP, hb9⟩
      replace r0 := r0.below hb9
      replace r1 := r1.below hb9
      replace r2 := r2.below hb9
      replace HT := HT.below hb9
      replace HB := HB.trans (hb9.mono HB.size)
      obtain ⟨AP, cP, rfl, _, rP, _⟩ := oP.rd
      have K10 := Lib.hid (norm_any A1 n1 cap1 l1 w9 r1 (by omega) h1)
      go_wp2_with (go_at_call 23; refine K10.out.mono ?_)
      rintro e w10 ⟨vQ, rfl, oQ, hb10⟩
      replace r0 := r0.below hb10
      replace r1 := r1.below hb10
      replace r2 := r2.below hb10
      replace rP := rP.below hb10
      replace HT := HT.below hb10
      replace HB := HB.trans (hb10.mono HB.size)
      obtain ⟨AQ, cQ, rfl, _, rQ, _⟩ := oQ.rd
      have K11 := Lib.hid (same_is AP AQ _ cP _ cQ _ _ false w10 rP rQ (by omega) (by omega) E4.out)
      go_wp2_with (go_at_call 19; refine K11.out.mono ?_)
      rintro e w11 ⟨rfl, hb11⟩
      replace r0 := r0.below hb11
      replace r1 := r1.below hb11
      replace r2 := r2.below hb11
      replace rP := rP.below hb11
      replace rQ := rQ.below hb11
      replace HT := HT.below hb11
      replace HB := HB.trans (hb11.mono HB.size)
      have K12 := Lib.hid (add_any A0 A2 n0 cap0 n2 cap2 l0 l2 w11 r0 r2 (by omega) (by omega) h0 h2)
      go_wp2_with (go_at_call 29; refine K12.out.mono ?_)
      rintro e w12 ⟨vR, rfl, oR, hb12⟩
      replace r0 := r0.below hb12
      replace r1 := r1.below hb12
      replace r2 := r2.below hb12
      replace rP := rP.below hb12
      replace rQ := rQ.below hb12
      replace HT := HT.below hb12
      replace HB := HB.trans (hb12.mono HB.size)
      obtain ⟨AR, cR, rfl, _, rR, _⟩ := oR.rd
      have K13 := Lib.hid (add_any A1 A2 n1 cap1 n2 cap2 l1 l2 w12 r1 r2 (by omega) (by omega) h1 h2)
      go_wp2_with (go_at_call 29; refine K13.out.mono ?_)
      rintro e w13 ⟨vS, rfl, oS, hb13⟩
      replace r0 := r0.below hb13
      replace r1 := r1.below hb13
      replace r2 := r2.below hb13
      replace rP := rP.below hb13
      replace rQ := rQ.below hb13
      replace rR := rR.below hb13
      replace HT := HT.below hb13
      replace HB := HB.trans (hb13.mono HB.size)
      obtain ⟨AS, cS, rfl, _, rS, _⟩ := oS.rd
      have K14 := Lib.hid (cmp_is AR AS _ cR _ cS _ _ (-1) w13 rR rS (by omega) (by omega) (digs_u32 _) (digs_u32 _) (by rw [vdig, vdig, cmpN_add]; exact E1.out))
      go_wp2_with (go_at_call 26; refine K14.out.mono ?_)
      rintro e w14 ⟨rfl, hb14⟩
      replace r0 := r0.below hb14
      replace r1 := r1.below hb14
      replace r2 := r2.below hb14
      replace rP := rP.below hb14
      replace rQ := rQ.below hb14
      replace rR := rR.below hb14
      replace rS := rS.below hb14
      replace HT := HT.below hb14
      replace HB := HB.trans (hb14.mono HB.size)
      have K15 := Lib.hid (cmp_is A2 none n2 cap2 0 0 l2 [] 0 w14 r2 (.none0 rfl rfl) (by omega) (by omega) h2 nil_u32 E5.out)
      go_wp2_with (go_at_call 26; refine K15.out.mono ?_)
      rintro e w15 ⟨rfl, hb15⟩
      replace r0 := r0.below hb15
      replace r1 := r1.below hb15
      replace r2 := r2.below hb15
      replace rP := rP.below hb15
      replace rQ := rQ.below hb15
      replace rR := rR.below hb15
      replace rS := rS.below hb15
      replace HT := HT.below hb15
      replace HB := HB.trans (hb15.mono HB.size)
      go_wp2
      go_ret
      exact ⟨rfl, HB⟩
    · skip
      have hc4 : 0 < C2 := by omega
      clear hc
      have E1 := Lib.hid e1
      have E1b := Lib.hid e1'
      have E2 := Lib.hid e2
      have E4 := Lib.hid e4
      have E5 := Lib.hid e5
      have HZ := Lib.hid hz
      have E3 := Lib.hid e3
      clear hle2 ht e5' e1 e1' e2 e4 e5 hz e3 hle3
      go_enter Tryd.func11, Tryd.ntmps11
      have K1 := Lib.hid (shown_any w HT)
      go_wp2_with (go_at_call 14; refine K1.out.mono ?_)
      rintro e w1 ⟨rfl, hb1⟩
      replace r0 := r0.below hb1
      replace r1 := r1.below hb1
      replace r2 := r2.below hb1
      replace HT := HT.below hb1
      replace HB := HB.trans (hb1.mono HB.size)
      have K2 := Lib.hid (great_no A0 n0 cap0 w1 (by omega))
      go_wp2_with (go_at_call 15; refine K2.out.mono ?_; rintro e w2 ⟨rfl, rfl⟩)
      have K3 := Lib.hid (great_no A1 n1 cap1 w1 (by omega))
      go_wp2_with (go_at_call 15; refine K3.out.mono ?_; rintro e w3 ⟨rfl, rfl⟩)
      have K4 := Lib.hid (great_no A2 n2 cap2 w1 (by omega))
      go_wp2_with (go_at_call 15; refine K4.out.mono ?_; rintro e w4 ⟨rfl, rfl⟩)
      have K5 := Lib.hid (cmp_is A0 A1 n0 cap0 n1 cap1 l0 l1 (-1) w1 r0 r1 (by omega) (by omega) h0 h1 E1.out)
      go_wp2_with (go_at_call 26; refine K5.out.mono ?_)
      rintro e w5 ⟨rfl, hb5⟩
      replace r0 := r0.below hb5
      replace r1 := r1.below hb5
      replace r2 := r2.below hb5
      replace HT := HT.below hb5
      replace HB := HB.trans (hb5.mono HB.size)
      have K6 := Lib.hid (cmp_is A1 A2 n1 cap1 n2 cap2 l1 l2 C2 w5 r1 r2 (by omega) (by omega) h1 h2 E2.out)
      go_wp2_with (go_at_call 26; refine K6.out.mono ?_)
      rintro e w6 ⟨rfl, hb6⟩
      replace r0 := r0.below hb6
      replace r1 := r1.below hb6
      replace r2 := r2.below hb6
      replace HT := HT.below hb6
      replace HB := HB.trans (hb6.mono HB.size)
      have K7 := Lib.hid (cmp_is A1 A0 n1 cap1 n0 cap0 l1 l0 (1) w6 r1 r0 (by omega) (by omega) h1 h0 E1b.out)
      go_wp2_with (go_at_call 26; refine K7.out.mono ?_)
      rintro e w7 ⟨rfl, hb7⟩
      replace r0 := r0.below hb7
      replace r1 := r1.below hb7
      replace r2 := r2.below hb7
      replace HT := HT.below hb7
      replace HB := HB.trans (hb7.mono HB.size)
      have K8 := Lib.hid (norm_any A0 n0 cap0 l0 w7 r0 (by omega) h0)
      go_wp2_with (go_at_call 23; refine K8.out.mono ?_)
      rintro e w8 ⟨vP, rfl, oP, hb8⟩
      replace r0 := r0.below hb8
      replace r1 := r1.below hb8
      replace r2 := r2.below hb8
      replace HT := HT.below hb8
      replace HB := HB.trans (hb8.mono HB.size)
      obtain ⟨AP, cP, rfl, _, rP, _⟩ := oP.rd
      have K9 := Lib.hid (norm_any A1 n1 cap1 l1 w8 r1 (by omega) h1)
      go_wp2_with (go_at_call 23; refine K9.out.mono ?_)
      rintro e w9 ⟨vQ, rfl, oQ, hb9⟩
      replace r0 := r0.below hb9
      replace r1 := r1.below hb9
      replace r2 := r2.below hb9
      replace rP := rP.below hb9
      replace HT := HT.below hb9
      replace HB := HB.trans (hb9.mono HB.size)
      obtain ⟨AQ, cQ, rfl, _, rQ, _⟩ := oQ.rd
      have K10 := Lib.hid (same_is AP AQ _ cP _ cQ _ _ false w9 rP rQ (by omega) (by omega) E4.out)
      go_wp2_with (go_at_call 19; refine K10.out.mono ?_)
      rintro e w10 ⟨rfl, hb10⟩
      replace r0 := r0.below hb10
      replace r1 := r1.below hb10
      replace r2 := r2.below hb10
      replace rP := rP.below hb10
      replace rQ := rQ.below hb10
      replace HT := HT.below hb10
      replace HB := HB.trans (hb10.mono HB.size)
      have K11 := Lib.hid (add_any A0 A2 n0 cap0 n2 cap2 l0 l2 w10 r0 r2 (by omega) (by omega) h0 h2)
      go_wp2_with (go_at_call 29; refine K11.out.mono ?_)
      rintro e w11 ⟨vR, rfl, oR, hb11⟩
      replace r0 := r0.below hb11
      replace r1 := r1.below hb11
      replace r2 := r2.below hb11
      replace rP := rP.below hb11
      replace rQ := rQ.below hb11
      replace HT := HT.below hb11
      replace HB := HB.trans (hb11.mono HB.size)
      obtain ⟨AR, cR, rfl, _, rR, _⟩ := oR.rd
      have K12 := Lib.hid (add_any A1 A2 n1 cap1 n2 cap2 l1 l2 w11 r1 r2 (by omega) (by omega) h1 h2)
      go_wp2_with (go_at_call 29; refine K12.out.mono ?_)
      rintro e w12 ⟨vS, rfl, oS, hb12⟩
      replace r0 := r0.below hb12
      replace r1 := r1.below hb12
      replace r2 := r2.below hb12
      replace rP := rP.below hb12
      replace rQ := rQ.below hb12
      replace rR := rR.below hb12
      replace HT := HT.below hb12
      replace HB := HB.trans (hb12.mono HB.size)
      obtain ⟨AS, cS, rfl, _, rS, _⟩ := oS.rd
      have K13 := Lib.hid (cmp_is AR AS _ cR _ cS _ _ (-1) w12 rR rS (by omega) (by omega) (digs_u32 _) (digs_u32 _) (by rw [vdig, vdig, cmpN_add]; exact E1.out))
      go_wp2_with (go_at_call 26; refine K13.out.mono ?_)
      rintro e w13 ⟨rfl, hb13⟩
      replace r0 := r0.below hb13
      replace r1 := r1.below hb13
      replace r2 := r2.below hb13
      replace rP := rP.below hb13
      replace rQ := rQ.below hb13
      replace rR := rR.below hb13
      replace rS := rS.below hb13
      replace HT := HT.below hb13
      replace HB := HB.trans (hb13.mono HB.size)
      have K14 := Lib.hid (cmp_is A2 none n2 cap2 0 0 l2 [] 0 w13 r2 (.none0 rfl rfl) (by omega) (by omega) h2 nil_u32 E5.out)
      go_wp2_with (go_at_call 26; refine K14.out.mono ?_)
      rintro e w14 ⟨rfl, hb14⟩
      replace r0 := r0.below hb14
      replace r1 := r1.below hb14
      replace r2 := r2.below hb14
      replace rP := rP.below hb14
      replace rQ := rQ.below hb14
      replace rR := rR.below hb14
      replace rS := rS.below hb14
      replace HT := HT.below hb14
      replace HB := HB.trans (hb14.mono HB.size)
      go_wp2
      go_ret
      exact ⟨rfl, HB⟩
  · skip
    rw [if_neg hz] at e5'
    have e5 : cmpN (val 1000000000 l2) (val 1000000000 []) = 1 := e5'
    by_cases hc : C2 ≤ 0
    · skip
      have hc3 : C3 ≤ 0 := hle3.2 (by have := hle2.1 hc; omega)
      have E1 := Lib.hid e1
      have E1b := Lib.hid e1'
      have E2 := Lib.hid e2
      have E4 := Lib.hid e4
      have E5 := Lib.hid e5
      have HZ := Lib.hid hz
      have E3 := Lib.hid e3
      clear hle2 ht e5' e1 e1' e2 e4 e5 hz e3 hle3
      go_enter Tryd.func11, Tryd.ntmps11
      have K1 := Lib.hid (shown_any w HT)
      go_wp2_with (go_at_call 14; refine K1.out.mono ?_)
      rintro e w1 ⟨rfl, hb1⟩
      replace r0 := r0.below hb1
      replace r1 := r1.below hb1
      replace r2 := r2.below hb1
      replace HT := HT.below hb1
      replace HB := HB.trans (hb1.mono HB.size)
      have K2 := Lib.hid (great_no A0 n0 cap0 w1 (by omega))
      go_wp2_with (go_at_call 15; refine K2.out.mono ?_; rintro e w2 ⟨rfl, rfl⟩)
      have K3 := Lib.hid (great_no A1 n1 cap1 w1 (by omega))
      go_wp2_with (go_at_call 15; refine K3.out.mono ?_; rintro e w3 ⟨rfl, rfl⟩)
      have K4 := Lib.hid (great_no A2 n2 cap2 w1 (by omega))
      go_wp2_with (go_at_call 15; refine K4.out.mono ?_; rintro e w4 ⟨rfl, rfl⟩)
      have K5 := Lib.hid (cmp_is A0 A1 n0 cap0 n1 cap1 l0 l1 (-1) w1 r0 r1 (by omega) (by omega) h0 h1 E1.out)
      go_wp2_with (go_at_call 26; refine K5.out.mono ?_)
      rintro e w5 ⟨rfl, hb5⟩
      replace r0 := r0.below hb5
      replace r1 := r1.below hb5
      replace r2 := r2.below hb5
      replace HT := HT.below hb5
      replace HB := HB.trans (hb5.mono HB.size)
      have K6 := Lib.hid (cmp_is A1 A2 n1 cap1 n2 cap2 l1 l2 C2 w5 r1 r2 (by omega) (by omega) h1 h2 E2.out)
      go_wp2_with (go_at_call 26; refine K6.out.mono ?_)
      rintro e w6 ⟨rfl, hb6⟩
      replace r0 := r0.below hb6
      replace r1 := r1.below hb6
      replace r2 := r2.below hb6
      replace HT := HT.below hb6
      replace HB := HB.trans (hb6.mono HB.size)
      have K7 := Lib.hid (cmp_is A1 A0 n1 cap1 n0 cap0 l1 l0 (1) w6 r1 r0 (by omega) (by omega) h1 h0 E1b.out)
      go_wp2_with (go_at_call 26; refine K7.out.mono ?_)
      rintro e w7 ⟨rfl, hb7⟩
      replace r0 := r0.below hb7
      replace r1 := r1.below hb7
      replace r2 := r2.below hb7
      replace HT := HT.below hb7
      replace HB := HB.trans (hb7.mono HB.size)
      have K8 := Lib.hid (cmp_is A0 A2 n0 cap0 n2 cap2 l0 l2 C3 w7 r0 r2 (by omega) (by omega) h0 h2 E3.out)
      go_wp2_with (go_at_call 26; refine K8.out.mono ?_)
      rintro e w8 ⟨rfl, hb8⟩
      replace r0 := r0.below hb8
      replace r1 := r1.below hb8
      replace r2 := r2.below hb8
      replace HT := HT.below hb8
      replace HB := HB.trans (hb8.mono HB.size)
      have K9 := Lib.hid (norm_any A0 n0 cap0 l0 w8 r0 (by omega) h0)
      go_wp2_with (go_at_call 23; refine K9.out.mono ?_)
      rintro e w9 ⟨vP, rfl, oP, hb9⟩
      replace r0 := r0.below hb9
      replace r1 := r1.below hb9
      replace r2 := r2.below hb9
      replace HT := HT.below hb9
      replace HB := HB.trans (hb9.mono HB.size)
      obtain ⟨AP, cP, rfl, _, rP, _⟩ := oP.rd
      have K10 := Lib.hid (norm_any A1 n1 cap1 l1 w9 r1 (by omega) h1)
      go_wp2_with (go_at_call 23; refine K10.out.mono ?_)
      rintro e w10 ⟨vQ, rfl, oQ, hb10⟩
      replace r0 := r0.below hb10
      replace r1 := r1.below hb10
      replace r2 := r2.below hb10
      replace rP := rP.below hb10
      replace HT := HT.below hb10
      replace HB := HB.trans (hb10.mono HB.size)
      obtain ⟨AQ, cQ, rfl, _, rQ, _⟩ := oQ.rd
      have K11 := Lib.hid (same_is AP AQ _ cP _ cQ _ _ false w10 rP rQ (by omega) (by omega) E4.out)
      go_wp2_with (go_at_call 19; refine K11.out.mono ?_)
      rintro e w11 ⟨rfl, hb11⟩
      replace r0 := r0.below hb11
      replace r1 := r1.below hb11
      replace r2 := r2.below hb11
      replace rP := rP.below hb11
      replace rQ := rQ.below hb11
      replace HT := HT.below hb11
      replace HB := HB.trans (hb11.mono HB.size)
      have K12 := Lib.hid (add_any A0 A2 n0 cap0 n2 cap2 l0 l2 w11 r0 r2 (by omega) (by omega) h0 h2)
      go_wp2_with (go_at_call 29; refine K12.out.mono ?_)
      rintro e w12 ⟨vR, rfl, oR, hb12⟩
      replace r0 := r0.below hb12
      replace r1 := r1.below hb12
      replace r2 := r2.below hb12
      replace rP := rP.below hb12
      replace rQ := rQ.below hb12
      replace HT := HT.below hb12
      replace HB := HB.trans (hb12.mono HB.size)
      obtain ⟨AR, cR, rfl, _, rR, _⟩ := oR.rd
      have K13 := Lib.hid (add_any A1 A2 n1 cap1 n2 cap2 l1 l2 w12 r1 r2 (by omega) (by omega) h1 h2)
      go_wp2_with (go_at_call 29; refine K13.out.mono ?_)
      rintro e w13 ⟨vS, rfl, oS, hb13⟩
      replace r0 := r0.below hb13
      replace r1 := r1.below hb13
      replace r2 := r2.below hb13
      replace rP := rP.below hb13
      replace rQ := rQ.below hb13
      replace rR := rR.below hb13
      replace HT := HT.below hb13
      replace HB := HB.trans (hb13.mono HB.size)
      obtain ⟨AS, cS, rfl, _, rS, _⟩ := oS.rd
      have K14 := Lib.hid (cmp_is AR AS _ cR _ cS _ _ (-1) w13 rR rS (by omega) (by omega) (digs_u32 _) (digs_u32 _) (by rw [vdig, vdig, cmpN_add]; exact E1.out))
      go_wp2_with (go_at_call 26; refine K14.out.mono ?_)
      rintro e w14 ⟨rfl, hb14⟩
      replace r0 := r0.below hb14
      replace r1 := r1.below hb14
      replace r2 := r2.below hb14
      replace rP := rP.below hb14
      replace rQ := rQ.below hb14
      replace rR := rR.below hb14
      replace rS := rS.below hb14
      replace HT := HT.below hb14
      replace HB := HB.trans (hb14.mono HB.size)
      have K15 := Lib.hid (cmp_is A2 none n2 cap2 0 0 l2 [] 1 w14 r2 (.none0 rfl rfl) (by omega) (by omega) h2 nil_u32 E5.out)
      go_wp2_with (go_at_call 26; refine K15.out.mono ?_)
      rintro e w15 ⟨rfl, hb15⟩
      replace r0 := r0.below hb15
      replace r1 := r1.below hb15
      replace r2 := r2.below hb15
      replace rP := rP.below hb15
      replace rQ := rQ.below hb15
      replace rR := rR.below hb15
      replace rS := rS.below hb15
      replace HT := HT.below hb15
      replace HB := HB.trans (hb15.mono HB.size)
      have K16 := Lib.hid (mul_any A0 A2 n0 cap0 n2 cap2 l0 l2 w15 r0 r2 (by omega) (by omega) h0 h2)
      go_wp2_with (go_at_call 35; refine K16.out.mono ?_)
      rintro e w16 ⟨vT, rfl, oT, hb16⟩
      replace r0 := r0.below hb16
      replace r1 := r1.below hb16
      replace r2 := r2.below hb16
      replace rP := rP.below hb16
      replace rQ := rQ.below hb16
      replace rR := rR.below hb16
      replace rS := rS.below hb16
      replace HT := HT.below hb16
      replace HB := HB.trans (hb16.mono HB.size)
      obtain ⟨AT, cT, rfl, _, rT, _⟩ := oT.rd
      have K17 := Lib.hid (mul_any A1 A2 n1 cap1 n2 cap2 l1 l2 w16 r1 r2 (by omega) (by omega) h1 h2)
      go_wp2_with (go_at_call 35; refine K17.out.mono ?_)
      rintro e w17 ⟨vU, rfl, oU, hb17⟩
      replace r0 := r0.below hb17
      replace r1 := r1.below hb17
      replace r2 := r2.below hb17
      replace rP := rP.below hb17
      replace rQ := rQ.below hb17
      replace rR := rR.below hb17
      replace rS := rS.below hb17
      replace rT := rT.below hb17
      replace HT := HT.below hb17
      replace HB := HB.trans (hb17.mono HB.size)
      obtain ⟨AU, cU, rfl, _, rU, _⟩ := oU.rd
      have K18 := Lib.hid (cmp_is AT AU _ cT _ cU _ _ (-1) w17 rT rU (by omega) (by omega) (digs_u32 _) (digs_u32 _) (by rw [vdig, vdig, cmpN_mul _ _ _ HZ.out]; exact E1.out))
      go_wp2_with (go_at_call 26; refine K18.out.mono ?_)
      rintro e w18 ⟨rfl, hb18⟩
      replace r0 := r0.below hb18
      replace r1 := r1.below hb18
      replace r2 := r2.below hb18
      replace rP := rP.below hb18
      replace rQ := rQ.below hb18
      replace rR := rR.below hb18
      replace rS := rS.below hb18
      replace rT := rT.below hb18
      replace rU := rU.below hb18
      replace HT := HT.below hb18
      replace HB := HB.trans (hb18.mono HB.size)
      go_wp2
      go_ret
      exact ⟨rfl, HB⟩
    · skip
      have hc4 : 0 < C2 := by omega
      clear hc
      have E1 := Lib.hid e1
      have E1b := Lib.hid e1'
      have E2 := Lib.hid e2
      have E4 := Lib.hid e4
      have E5 := Lib.hid e5
      have HZ := Lib.hid hz
      have E3 := Lib.hid e3
      clear hle2 ht e5' e1 e1' e2 e4 e5 hz e3 hle3
      go_enter Tryd.func11, Tryd.ntmps11
      have K1 := Lib.hid (shown_any w HT)
      go_wp2_with (go_at_call 14; refine K1.out.mono ?_)
      rintro e w1 ⟨rfl, hb1⟩
      replace r0 := r0.below hb1
      replace r1 := r1.below hb1
      replace r2 := r2.below hb1
      replace HT := HT.below hb1
      replace HB := HB.trans (hb1.mono HB.size)
      have K2 := Lib.hid (great_no A0 n0 cap0 w1 (by omega))
      go_wp2_with (go_at_call 15; refine K2.out.mono ?_; rintro e w2 ⟨rfl, rfl⟩)
      have K3 := Lib.hid (great_no A1 n1 cap1 w1 (by omega))
      go_wp2_with (go_at_call 15; refine K3.out.mono ?_; rintro e w3 ⟨rfl, rfl⟩)
      have K4 := Lib.hid (great_no A2 n2 cap2 w1 (by omega))
      go_wp2_with (go_at_call 15; refine K4.out.mono ?_; rintro e w4 ⟨rfl, rfl⟩)
      have K5 := Lib.hid (cmp_is A0 A1 n0 cap0 n1 cap1 l0 l1 (-1) w1 r0 r1 (by omega) (by omega) h0 h1 E1.out)
      go_wp2_with (go_at_call 26; refine K5.out.mono ?_)
      rintro e w5 ⟨rfl, hb5⟩
      replace r0 := r0.below hb5
      replace r1 := r1.below hb5
      replace r2 := r2.below hb5
      replace HT := HT.below hb5
      replace HB := HB.trans (hb5.mono HB.size)
      have K6 := Lib.hid (cmp_is A1 A2 n1 cap1 n2 cap2 l1 l2 C2 w5 r1 r2 (by omega) (by omega) h1 h2 E2.out)
      go_wp2_with (go_at_call 26; refine K6.out.mono ?_)
      rintro e w6 ⟨rfl, hb6⟩
      replace r0 := r0.below hb6
      replace r1 := r1.below hb6
      replace r2 := r2.below hb6
      replace HT := HT.below hb6
      replace HB := HB.trans (hb6.mono HB.size)
      have K7 := Lib.hid (cmp_is A1 A0 n1 cap1 n0 cap0 l1 l0 (1) w6 r1 r0 (by omega) (by omega) h1 h0 E1b.out)
      go_wp2_with (go_at_call 26; refine K7.out.mono ?_)
      rintro e w7 ⟨rfl, hb7⟩
      replace r0 := r0.below hb7
      replace r1 := r1.below hb7
      replace r2 := r2.below hb7
      replace HT := HT.below hb7
      replace HB := HB.trans (hb7.mono HB.size)
      have K8 := Lib.hid (norm_any A0 n0 cap0 l0 w7 r0 (by omega) h0)
      go_wp2_with (go_at_call 23; refine K8.out.mono ?_)
      rintro e w8 ⟨vP, rfl, oP, hb8⟩
      replace r0 := r0.below hb8
      replace r1 := r1.below hb8
      replace r2 := r2.below hb8
      replace HT := HT.below hb8
      replace HB := HB.trans (hb8.mono HB.size)
      obtain ⟨AP, cP, rfl, _, rP, _⟩ := oP.rd
      have K9 := Lib.hid (norm_any A1 n1 cap1 l1 w8 r1 (by omega) h1)
      go_wp2_with (go_at_call 23; refine K9.out.mono ?_)
      rintro e w9 ⟨vQ, rfl, oQ, hb9⟩
      replace r0 := r0.below hb9
      replace r1 := r1.below hb9
      replace r2 := r2.below hb9
      replace rP := rP.below hb9
      replace HT := HT.below hb9
      replace HB := HB.trans (hb9.mono HB.size)
      obtain ⟨AQ, cQ, rfl, _, rQ, _⟩ := oQ.rd
      have K10 := Lib.hid (same_is AP AQ _ cP _ cQ _ _ false w9 rP rQ (by omega) (by omega) E4.out)
      go_wp2_with (go_at_call 19; refine K10.out.mono ?_)
      rintro e w10 ⟨rfl, hb10⟩
      replace r0 := r0.below hb10
      replace r1 := r1.below hb10
      replace r2 := r2.below hb10
      replace rP := rP.below hb10
      replace rQ := rQ.below hb10
      replace HT := HT.below hb10
      replace HB := HB.trans (hb10.mono HB.size)
      have K11 := Lib.hid (add_any A0 A2 n0 cap0 n2 cap2 l0 l2 w10 r0 r2 (by omega) (by omega) h0 h2)
      go_wp2_with (go_at_call 29; refine K11.out.mono ?_)
      rintro e w11 ⟨vR, rfl, oR, hb11⟩
      replace r0 := r0.below hb11
      replace r1 := r1.below hb11
      replace r2 := r2.below hb11
      replace rP := rP.below hb11
      replace rQ := rQ.below hb11
      replace HT := HT.below hb11
      replace HB := HB.trans (hb11.mono HB.size)
      obtain ⟨AR, cR, rfl, _, rR, _⟩ := oR.rd
      have K12 := Lib.hid (add_any A1 A2 n1 cap1 n2 cap2 l1 l2 w11 r1 r2 (by omega) (by omega) h1 h2)
      go_wp2_with (go_at_call 29; refine K12.out.mono ?_)
      rintro e w12 ⟨vS, rfl, oS, hb12⟩
      replace r0 := r0.below hb12
      replace r1 := r1.below hb12
      replace r2 := r2.below hb12
      replace rP := rP.below hb12
      replace rQ := rQ.below hb12
      replace rR := rR.below hb12
      replace HT := HT.below hb12
      replace HB := HB.trans (hb12.mono HB.size)
      obtain ⟨AS, cS, rfl, _, rS, _⟩ := oS.rd
      have K13 := Lib.hid (cmp_is AR AS _ cR _ cS _ _ (-1) w12 rR rS (by omega) (by omega) (digs_u32 _) (digs_u32 _) (by rw [vdig, vdig, cmpN_add]; exact E1.out))
      go_wp2_with (go_at_call 26; refine K13.out.mono ?_)
      rintro e w13 ⟨rfl, hb13⟩
      replace r0 := r0.below hb13
      replace r1 := r1.below hb13
      replace r2 := r2.below hb13
      replace rP := rP.below hb13
      replace rQ := rQ.below hb13
      replace rR := rR.below hb13
      replace rS := rS.below hb13
      replace HT := HT.below hb13
      replace HB := HB.trans (hb13.mono HB.size)
      have K14 := Lib.hid (cmp_is A2 none n2 cap2 0 0 l2 [] 1 w13 r2 (.none0 rfl rfl) (by omega) (by omega) h2 nil_u32 E5.out)
      go_wp2_with (go_at_call 26; refine K14.out.mono ?_)
      rintro e w14 ⟨rfl, hb14⟩
      replace r0 := r0.below hb14
      replace r1 := r1.below hb14
      replace r2 := r2.below hb14
      replace rP := rP.below hb14
      replace rQ := rQ.below hb14
      replace rR := rR.below hb14
      replace rS := rS.below hb14
      replace HT := HT.below hb14
      replace HB := HB.trans (hb14.mono HB.size)
      have K15 := Lib.hid (mul_any A0 A2 n0 cap0 n2 cap2 l0 l2 w14 r0 r2 (by omega) (by omega) h0 h2)
      go_wp2_with (go_at_call 35; refine K15.out.mono ?_)
      rintro e w15 ⟨vT, rfl, oT, hb15⟩
      replace r0 := r0.below hb15
      replace r1 := r1.below hb15
      replace r2 := r2.below hb15
      replace rP := rP.below hb15
      replace rQ := rQ.below hb15
      replace rR := rR.below hb15
      replace rS := rS.below hb15
      replace HT := HT.below hb15
      replace HB := HB.trans (hb15.mono HB.size)
      obtain ⟨AT, cT, rfl, _, rT, _⟩ := oT.rd
      have K16 := Lib.hid (mul_any A1 A2 n1 cap1 n2 cap2 l1 l2 w15 r1 r2 (by omega) (by omega) h1 h2)
      go_wp2_with (go_at_call 35; refine K16.out.mono ?_)
      rintro e w16 ⟨vU, rfl, oU, hb16⟩
      replace r0 := r0.below hb16
      replace r1 := r1.below hb16
      replace r2 := r2.below hb16
      replace rP := rP.below hb16
      replace rQ := rQ.below hb16
      replace rR := rR.below hb16
      replace rS := rS.below hb16
      replace rT := rT.below hb16
      replace HT := HT.below hb16
      replace HB := HB.trans (hb16.mono HB.size)
      obtain ⟨AU, cU, rfl, _, rU, _⟩ := oU.rd
      have K17 := Lib.hid (cmp_is AT AU _ cT _ cU _ _ (-1) w16 rT rU (by omega) (by omega) (digs_u32 _) (digs_u32 _) (by rw [vdig, vdig, cmpN_mul _ _ _ HZ.out]; exact E1.out))
      go_wp2_with (go_at_call 26; refine K17.out.mono ?_)
      rintro e w17 ⟨rfl, hb17⟩
      replace r0 := r0.below hb17
      replace r1 := r1.below hb17
      replace r2 := r2.below hb17
      replace rP := rP.below hb17
      replace rQ := rQ.below hb17
      replace rR := rR.below hb17
      replace rS := rS.below hb17
      replace rT := rT.below hb17
      replace rU := rU.below hb17
      replace HT := HT.below hb17
      replace HB := HB.trans (hb17.mono HB.size)
      go_wp2
      go_ret
      exact ⟨rfl, HB⟩
end Go.Proofs.YtmmlclgmehfmhaaDoor
