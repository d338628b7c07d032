/-
  The walk of limb's Add.
-/
import Derived.Test.YtmmlclgmehfmhaaDoorLimD
namespace Go.Proofs.YtmmlclgmehfmhaaDoor
open Go.RowKit

set_option maxHeartbeats 400000 in
set_option maxRecDepth 100000 in
theorem add1_any (A A2 : Option Addr) (n cap n2 cap2 : Nat) (l l2 : List Nat) (b b2 i : Nat) (w : World) (hR : RdN .u32 w A n l) (hR2 : RdN .u32 w A2 n2 l2) (hn : n ≤ 9223372036854775807) (hn2 : n2 ≤ 9223372036854775807) (hl : ∀ x ∈ l, x < 4294967296) (hl2 : ∀ x ∈ l2, x < 4294967296) (hb : w.cell? ⟨b, 0, none⟩ = some (.slice A n cap)) (hb2 : w.cell? ⟨b2, 0, none⟩ = some (.slice A2 n2 cap2)) :
    Calls Tryd.prog 54 #[.int .i64 i, .pointer (some ⟨b, 0, none⟩), .pointer (some ⟨b2, 0, none⟩)] w fun e w' => e = .returned (.int .u64 (l.getD i 0 + l2.getD i 0 : Nat)) ∧ Below w.heap.size w w' := by
  have k1 := fun m : Nat => quiet_left (at_any A n cap l i (w.drewN m) (hR.drewN m) hn hl)
  have k2 := fun m : Nat => quiet_left (at_any A2 n2 cap2 l2 i (w.drewN m) (hR2.drewN m) hn2 hl2)
  have K1 := Lib.hid k1
  have K2 := Lib.hid k2
  clear k1 k2
  have h1 : l.getD i 0 < 4294967296 := getD_lt (by omega) hl i
  have h2 : l2.getD i 0 < 4294967296 := getD_lt (by omega) hl2 i
  clear hl hl2
  generalize l.getD i 0 = x at h1 K1
  generalize l2.getD i 0 = y at h2 K2
  clear hR hR2
  go_enter Tryd.func54, Tryd.ntmps54
  go_wp2
  go_quiet (first | (go_at_call 55; with_reducible exact K1.out _) | (go_at_call 55; with_reducible exact K2.out _))
  go_wp2
  go_ret
  exact ⟨by rw [Int.natCast_add]; rfl, below_drew0 _ _⟩

set_option maxHeartbeats 400000 in
set_option maxRecDepth 100000 in
theorem of_any (x : Nat) (w : World) (hx : x < 18446744073709551616) :
    Calls Tryd.prog 24 #[.int .u64 x] w fun e w' => IsNum x w w' e := by
  have HV := Lib.hid (show sumTo (fun _ => x) 1000000000 1 = x by simp [sumTo])
  have k1 := carried_any 1 53 #[.pointer (some ⟨w.heap.size, 0, none⟩)] (fun _ => x) (w.alloc (.cells #[.int .u64 x] 40)) (by omega) enters53 (fun i _ => ⟨hx, fun _ => by omega⟩)
    (fun w' i hi hb' => of1_any x w.heap.size i w' ((hb'.cell (p := ⟨w.heap.size, 0, none⟩) (by simp)).trans (cell_new _ _ _)))
  have K1 := Lib.hid k1
  clear k1
  go_enter Tryd.func24, Tryd.ntmps24
  go_wp2_with (go_at_call 51; refine K1.out.mono ?_)
  rintro e w1 ⟨v, rfl, hown, hb⟩
  go_wp2
  go_ret
  have hown2 := hown
  rw [HV.out] at hown2
  have h : IsNum x _ w1 (.returned v) := ⟨v, rfl, hown2, hb⟩
  exact h.from_ (below_alloc0 _ _)

set_option maxHeartbeats 400000 in
set_option maxRecDepth 100000 in
theorem times_any (A : Option Addr) (n cap : Nat) (l : List Nat) (m : Nat) (w : World) (hR : RdN .u32 w A n l) (hn : n ≤ 1099511627776) (hl : ∀ x ∈ l, x < 4294967296) (hm : m ≤ 2147483648) :
    Calls Tryd.prog 45 #[.slice A n cap, .int .u64 m] w fun e w' => IsNum (val 1000000000 l * m) w w' e := by
  have hlen := hR.1
  have HV := Lib.hid (show sumTo (fun i => l.getD i 0 * m) 1000000000 n = val 1000000000 l * m by rw [sumTo_mul, sumTo_val, ← hlen, List.take_length])
  have hbb : Below w.heap.size w ((w.alloc (.cells #[.slice A n cap] 22)).alloc (.cells #[.int .u64 m] 40)) := (below_alloc0 w _).alloc (by simp) _
  have k1 := carried_any n 65 #[.pointer (some ⟨w.heap.size, 0, none⟩), .pointer (some ⟨w.heap.size + 1, 0, none⟩)] (fun i => l.getD i 0 * m) ((w.alloc (.cells #[.slice A n cap] 22)).alloc (.cells #[.int .u64 m] 40)) hn enters65
    (fun i _ => by
      have h1 := getD_lt (by omega) hl i
      have hp : l.getD i 0 * m ≤ 4294967295 * 2147483648 := Nat.mul_le_mul (by omega) hm
      omega)
    (fun w' i hi hb' => times1_any A n cap l m w.heap.size (w.heap.size + 1) i w' (hR.below (hbb.trans (hb'.mono (by simp; omega)))) hi (by omega) (getD_lt (by omega) hl i) hm
      ((hb'.cell (p := ⟨w.heap.size, 0, none⟩) (by simp; omega)).trans ((((below_alloc0 (w.alloc (.cells #[.slice A n cap] 22)) _)).cell (p := ⟨w.heap.size, 0, none⟩) (by simp)).trans (cell_new _ _ _)))
      ((hb'.cell (p := ⟨w.heap.size + 1, 0, none⟩) (by simp)).trans (by have := cell_new (w.alloc (.cells #[.slice A n cap] 22)) (.int .u64 m) 40; simp)))
  have K1 := Lib.hid k1
  have HB := Lib.hid hbb
  clear k1 hl hR hlen hbb
  go_enter Tryd.func45, Tryd.ntmps45
  go_wp2_with (go_at_call 51; refine K1.out.mono ?_)
  rintro e w1 ⟨v, rfl, hown, hb⟩
  go_wp2
  go_ret
  have h : IsNum (val 1000000000 l * m) _ w1 (.returned v) := ⟨v, rfl, HV.out ▸ hown, hb⟩
  exact h.from_ HB.out

set_option maxHeartbeats 400000 in
set_option maxRecDepth 100000 in
theorem add_any (A A2 : Option Addr) (n cap n2 cap2 : Nat) (l l2 : List Nat) (w : World) (hR : RdN .u32 w A n l) (hR2 : RdN .u32 w A2 n2 l2) (hn : n ≤ 1099511627776) (hn2 : n2 ≤ 1099511627776) (hl : ∀ x ∈ l, x < 4294967296) (hl2 : ∀ x ∈ l2, x < 4294967296) :
    Calls Tryd.prog 29 #[.slice A n cap, .slice A2 n2 cap2] w fun e w' => IsNum (val 1000000000 l + val 1000000000 l2) w w' e := by
  have hlen := hR.1
  have hlen2 := hR2.1
  have hbb : Below w.heap.size w ((w.alloc (.cells #[.slice A n cap] 22)).alloc (.cells #[.slice A2 n2 cap2] 22)) := (below_alloc0 w _).alloc (by simp) _
  have key : ∀ q : Nat, n ≤ q → n2 ≤ q → q ≤ 1099511627776 → Calls Tryd.prog 51 #[.int .i64 q, .func (.func 54) #[] #[.pointer (some ⟨w.heap.size, 0, none⟩), .pointer (some ⟨w.heap.size + 1, 0, none⟩)]] ((w.alloc (.cells #[.slice A n cap] 22)).alloc (.cells #[.slice A2 n2 cap2] 22)) fun e w' => IsNum (val 1000000000 l + val 1000000000 l2) w w' e := by
    intro q hq1 hq2 hq3
    have HV : sumTo (fun i => l.getD i 0 + l2.getD i 0) 1000000000 q = val 1000000000 l + val 1000000000 l2 := by rw [sumTo_add, sumTo_val, sumTo_val, List.take_of_length_le (by omega), List.take_of_length_le (by omega)]
    have k1 := carried_any q 54 #[.pointer (some ⟨w.heap.size, 0, none⟩), .pointer (some ⟨w.heap.size + 1, 0, none⟩)] (fun i => l.getD i 0 + l2.getD i 0) ((w.alloc (.cells #[.slice A n cap] 22)).alloc (.cells #[.slice A2 n2 cap2] 22)) hq3 enters54
      (fun i _ => by
        have h1 := getD_lt (by omega) hl i
        have h2 := getD_lt (by omega) hl2 i
        omega)
      (fun w' i hi hb' => add1_any A A2 n cap n2 cap2 l l2 w.heap.size (w.heap.size + 1) i w' (hR.below (hbb.trans (hb'.mono (by simp; omega)))) (hR2.below (hbb.trans (hb'.mono (by simp; omega)))) (by omega) (by omega) hl hl2
        ((hb'.cell (p := ⟨w.heap.size, 0, none⟩) (by simp; omega)).trans ((((below_alloc0 (w.alloc (.cells #[.slice A n cap] 22)) _)).cell (p := ⟨w.heap.size, 0, none⟩) (by simp)).trans (cell_new _ _ _)))
        ((hb'.cell (p := ⟨w.heap.size + 1, 0, none⟩) (by simp)).trans (by have := cell_new (w.alloc (.cells #[.slice A n cap] 22)) (.slice A2 n2 cap2) 22; simp)))
    rw [HV] at k1
    exact k1.mono fun e w' h => h.from_ hbb
  by_cases h : n < n2
  · have K1 := Lib.hid (key n2 (by omega) (by omega) hn2)
    clear key hl hR hlen hl2 hR2 hlen2 hbb
    go_enter Tryd.func29, Tryd.ntmps29
    go_wp2_with (go_at_call 51; refine K1.out.mono ?_)
    rintro e w1 ⟨v, rfl, hown, hb⟩
    go_wp2
    go_ret
    exact ⟨v, rfl, hown, hb⟩
  · have K1 := Lib.hid (key n (by omega) (by omega) hn)
    clear key hl hR hlen hl2 hR2 hlen2 hbb
    go_enter Tryd.func29, Tryd.ntmps29
    go_wp2_with (go_at_call 51; refine K1.out.mono ?_)
    rintro e w1 ⟨v, rfl, hown, hb⟩
    go_wp2
    go_ret
    exact ⟨v, rfl, hown, hb⟩
end Go.Proofs.YtmmlclgmehfmhaaDoor
