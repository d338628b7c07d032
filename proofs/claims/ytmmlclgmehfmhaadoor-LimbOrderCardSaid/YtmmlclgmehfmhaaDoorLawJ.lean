/-
  The walk of the law Order.
-/
import Derived.Test.YtmmlclgmehfmhaaDoorLawG
import Derived.Test.YtmmlclgmehfmhaaDoorLawH
import Derived.Test.YtmmlclgmehfmhaaDoorLawI
namespace Go.Proofs.YtmmlclgmehfmhaaDoor
open Go.RowKit
set_option maxHeartbeats 4000000 in
set_option maxRecDepth 100000 in
theorem limbOrder_walk (A0 A1 A2 : Option Addr) (n0 cap0 n1 cap1 n2 cap2 : Nat) (l0 l1 l2 : List Nat) (w : World) (HT : Tab10 w) (r0 : RdN .u32 w A0 n0 l0) (r1 : RdN .u32 w A1 n1 l1) (r2 : RdN .u32 w A2 n2 l2) (h0 : ∀ x ∈ l0, x < 4294967296) (h1 : ∀ x ∈ l1, x < 4294967296) (h2 : ∀ x ∈ l2, x < 4294967296) :
    Calls Tryd.prog 11 #[.slice A0 n0 cap0, .slice A1 n1 cap1, .slice A2 n2 cap2] w fun e w' => e = .returned (.bool true) ∧ Below w.heap.size w w' := by
  have HB := Below.refl w.heap.size w
  have q0 : n0 ≤ 40 → (digs 1000000000 (val 1000000000 l0)).length ≤ 41 := fun h => by have := digs_val_len l0 h0; have := r0.1; omega
  have q1 : n1 ≤ 40 → (digs 1000000000 (val 1000000000 l1)).length ≤ 41 := fun h => by have := digs_val_len l1 h1; have := r1.1; omega
  have q2 : n2 ≤ 40 → (digs 1000000000 (val 1000000000 l2)).length ≤ 41 := fun h => by have := digs_val_len l2 h2; have := r2.1; omega
  by_cases g0 : 40 < n0
  · skip
    go_enter Tryd.func11, Tryd.ntmps11
    have K1 := Lib.hid (shown_any w HT)
    go_wp2_with (go_at_call 14; refine K1.out.mono ?_)
    rintro e w1 ⟨rfl, hb1⟩
    replace r0 := r0.below hb1
    replace r1 := r1.below hb1
    replace r2 := r2.below hb1
    replace HT := HT.below hb1
    replace HB := HB.trans (hb1.mono HB.size)
    have K2 := Lib.hid (great_yes A0 n0 cap0 w1 g0)
    go_wp2_with (go_at_call 15; refine K2.out.mono ?_; rintro e w2 ⟨rfl, rfl⟩)
    go_wp2
    go_ret
    exact ⟨rfl, HB⟩
  · skip
    by_cases g1 : 40 < n1
    · skip
      go_enter Tryd.func11, Tryd.ntmps11
      have K1 := Lib.hid (shown_any w HT)
      go_wp2_with (go_at_call 14; refine K1.out.mono ?_)
      rintro e w1 ⟨rfl, hb1⟩
      replace r0 := r0.below hb1
      replace r1 := r1.below hb1
      replace r2 := r2.below hb1
      replace HT := HT.below hb1
      replace HB := HB.trans (hb1.mono HB.size)
      have K2 := Lib.hid (great_no A0 n0 cap0 w1 (by omega))
      go_wp2_with (go_at_call 15; refine K2.out.mono ?_; rintro e w2 ⟨rfl, rfl⟩)
      have K3 := Lib.hid (great_yes A1 n1 cap1 w1 g1)
      go_wp2_with (go_at_call 15; refine K3.out.mono ?_; rintro e w3 ⟨rfl, rfl⟩)
      go_wp2
      go_ret
      exact ⟨rfl, HB⟩
    · skip
      by_cases g2 : 40 < n2
      · skip
        go_enter Tryd.func11, Tryd.ntmps11
        have K1 := Lib.hid (shown_any w HT)
        go_wp2_with (go_at_call 14; refine K1.out.mono ?_)
        rintro e w1 ⟨rfl, hb1⟩
        replace r0 := r0.below hb1
        replace r1 := r1.below hb1
        replace r2 := r2.below hb1
        replace HT := HT.below hb1
        replace HB := HB.trans (hb1.mono HB.size)
        have K2 := Lib.hid (great_no A0 n0 cap0 w1 (by omega))
        go_wp2_with (go_at_call 15; refine K2.out.mono ?_; rintro e w2 ⟨rfl, rfl⟩)
        have K3 := Lib.hid (great_no A1 n1 cap1 w1 (by omega))
        go_wp2_with (go_at_call 15; refine K3.out.mono ?_; rintro e w3 ⟨rfl, rfl⟩)
        have K4 := Lib.hid (great_yes A2 n2 cap2 w1 g2)
        go_wp2_with (go_at_call 15; refine K4.out.mono ?_; rintro e w4 ⟨rfl, rfl⟩)
        go_wp2
        go_ret
        exact ⟨rfl, HB⟩
      · skip
        replace g0 : n0 ≤ 40 := by omega
        replace q0 := q0 g0
        have t0 := len_ten q0
        replace g1 : n1 ≤ 40 := by omega
        replace q1 := q1 g1
        have t1 := len_ten q1
        replace g2 : n2 ≤ 40 := by omega
        replace q2 := q2 g2
        have t2 := len_ten q2
        rcases Nat.lt_trichotomy (val 1000000000 l0) (val 1000000000 l1) with ht | ht | ht
        · exact limbOrder_lt A0 A1 A2 n0 cap0 n1 cap1 n2 cap2 l0 l1 l2 w HT r0 r1 r2 h0 h1 h2 g0 g1 g2 ht
        · exact limbOrder_eq A0 A1 A2 n0 cap0 n1 cap1 n2 cap2 l0 l1 l2 w HT r0 r1 r2 h0 h1 h2 g0 g1 g2 ht
        · exact limbOrder_gt A0 A1 A2 n0 cap0 n1 cap1 n2 cap2 l0 l1 l2 w HT r0 r1 r2 h0 h1 h2 g0 g1 g2 ht
end Go.Proofs.YtmmlclgmehfmhaaDoor
