/-
  The walk of limb's Sub.
-/
import Derived.Test.YtmmlclgmehfmhaaDoorLimH
namespace Go.Proofs.YtmmlclgmehfmhaaDoor
open Go.RowKit

/-- what Sub answers -/
def IsSub (x y : Nat) (w w' : World) (e : Ending) : Prop :=
  (x < y ∧ e = .returned (.tuple #[.slice none 0 0, .int .i64 1]) ∧ Below w.heap.size w w') ∨
  (y ≤ x ∧ ∃ v, e = .returned (.tuple #[v, .int .i64 0]) ∧ OwnN .u32 61 w.heap.size w' v (digs 1000000000 (x - y)) ∧ Below w.heap.size w w')

set_option maxHeartbeats 1000000 in
set_option maxRecDepth 100000 in
theorem sub_any (A A2 : Option Addr) (n cap n2 cap2 : Nat) (l l2 : List Nat) (w : World) (hR : RdN .u32 w A n l) (hR2 : RdN .u32 w A2 n2 l2) (hn : n ≤ 549755813888) (hn2 : n2 ≤ 549755813888) (hl : ∀ x ∈ l, x < 4294967296) (hl2 : ∀ x ∈ l2, x < 4294967296) :
    Calls Tryd.prog 28 #[.slice A n cap, .slice A2 n2 cap2] w fun e w' => IsSub (val 1000000000 l) (val 1000000000 l2) w w' e := by
  have K1 := Lib.hid (norm_any A n cap l w hR (by omega) hl)
  have K2 := Lib.hid (fun u hu => norm_any A2 n2 cap2 l2 u (hR2.below hu) (by omega) hl2)
  have HD := Lib.hid (show (digs 1000000000 (val 1000000000 l)).length ≤ 1099511627776 by have := digs_val_len l hl; have := hR.1; omega)
  have HD2 := Lib.hid (show (digs 1000000000 (val 1000000000 l2)).length ≤ 1099511627776 by have := digs_val_len l2 hl2; have := hR2.1; omega)
  clear hR hR2 hl hl2
  generalize val 1000000000 l = x at *
  generalize val 1000000000 l2 = y at *
  by_cases hxy : x < y
  · have hc := cmpN_lt hxy
    have HXY := Lib.hid hxy
    clear hxy
    go_enter Tryd.func28, Tryd.ntmps28
    go_wp2_with (go_at_call 23; refine K1.out.mono ?_)
    rintro e w1 ⟨v1, rfl, hown1, hb1⟩
    obtain ⟨B1, c1, rfl, hcap1, hrd1, hge1⟩ := hown1.rd
    have K3 := Lib.hid (K2.out w1 hb1)
    go_wp2_with (go_at_call 23; refine K3.out.mono ?_)
    rintro e w2 ⟨v2, rfl, hown2, hb2⟩
    obtain ⟨B2, c2, rfl, hcap2, hrd2, hge2⟩ := hown2.rd
    have K4 := Lib.hid (order_any x y B1 B2 _ c1 _ c2 w2 (hrd1.below hb2) hrd2 HD.out HD2.out)
    rw [hc] at K4
    go_wp2_with (go_at_call 44; refine K4.out.mono ?_)
    rintro e w3 ⟨rfl, hb3⟩
    go_wp2
    go_ret2
    exact .inl ⟨HXY.out, rfl, (hb1.trans (hb2.mono hb1.size)).trans (hb3.mono (by have := hb1.size; have := hb2.size; omega))⟩
  · have hc : 0 ≤ cmpN x y := by unfold cmpN; rw [if_neg hxy]; split <;> omega
    generalize cmpN x y = C at hc
    have HXY := Lib.hid hxy
    clear hxy
    go_enter Tryd.func28, Tryd.ntmps28
    go_wp2_with (go_at_call 23; refine K1.out.mono ?_)
    rintro e w1 ⟨v1, rfl, hown1, hb1⟩
    obtain ⟨B1, c1, rfl, hcap1, hrd1, hge1⟩ := hown1.rd
    have K3 := Lib.hid (K2.out w1 hb1)
    go_wp2_with (go_at_call 23; refine K3.out.mono ?_)
    rintro e w2 ⟨v2, rfl, hown2, hb2⟩
    obtain ⟨B2, c2, rfl, hcap2, hrd2, hge2⟩ := hown2.rd
    have k4 := order_any x y B1 B2 _ c1 _ c2 w2 (hrd1.below hb2) hrd2 HD.out HD2.out
    have k5 := fun w3 (hb3 : Below w2.heap.size w2 w3) => less_any x y B1 B2 _ c1 _ c2 w3 ((hrd1.below hb2).below hb3) (hrd2.below hb3) HD.out HD2.out (by have := HXY.out; omega)
    generalize hC : cmpN x y = C at k4
    have hc : 0 ≤ C := by rw [← hC]; have h := HXY.out; unfold cmpN; rw [if_neg h]; split <;> omega
    clear hC
    have K4 := Lib.hid k4
    have K5 := Lib.hid k5
    clear k4 k5
    go_wp2_with (go_at_call 44; refine K4.out.mono ?_)
    rintro e w3 ⟨rfl, hb3⟩
    have K6 := Lib.hid (K5.out w3 hb3)
    go_wp2_with (go_at_call 46; refine K6.out.mono ?_)
    rintro e w4 ⟨v, rfl, hown4, hb4⟩
    go_wp2
    go_ret2
    have h3 : Below w.heap.size w w3 := (hb1.trans (hb2.mono hb1.size)).trans (hb3.mono (by have := hb1.size; have := hb2.size; omega))
    exact .inr ⟨by have := HXY.out; omega, v, rfl, hown4.more h3.size, h3.trans (hb4.mono h3.size)⟩
end Go.Proofs.YtmmlclgmehfmhaaDoor
