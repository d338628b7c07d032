/-
  The walks of limb's closures, and of Norm, Of, Add, times.
-/
import Derived.Test.YtmmlclgmehfmhaaDoorLimC
namespace Go.Proofs.YtmmlclgmehfmhaaDoor
open Go.RowKit

theorem enters52 : ∀ args w, (callFunc 52 args).run Tryd.prog w = .ok (.enter 52 args) w := enters_of Tryd.func52 (by kernel_rfl) rfl
theorem enters53 : ∀ args w, (callFunc 53 args).run Tryd.prog w = .ok (.enter 53 args) w := enters_of Tryd.func53 (by kernel_rfl) rfl
theorem enters54 : ∀ args w, (callFunc 54 args).run Tryd.prog w = .ok (.enter 54 args) w := enters_of Tryd.func54 (by kernel_rfl) rfl
theorem enters65 : ∀ args w, (callFunc 65 args).run Tryd.prog w = .ok (.enter 65 args) w := enters_of Tryd.func65 (by kernel_rfl) rfl

set_option maxHeartbeats 400000 in
set_option maxRecDepth 100000 in
theorem norm1_any (A : Option Addr) (n cap : Nat) (l : List Nat) (b i : Nat) (w : World) (hR : RdN .u32 w A n l) (hi : i < n) (hn : n ≤ 9223372036854775807) (hx : l.getD i 0 < 4294967296) (hb : w.cell? ⟨b, 0, none⟩ = some (.slice A n cap)) :
    Calls Tryd.prog 52 #[.int .i64 i, .pointer (some ⟨b, 0, none⟩)] w fun e w' => e = .returned (.int .u64 (l.getD i 0 : Nat)) ∧ Below w.heap.size w w' := by
  obtain ⟨hlen, hat⟩ := hR
  obtain ⟨b0, off, rfl, hbl, hcell⟩ := hat (by omega)
  have c1 := hcell i hi
  clear hcell hat hlen
  generalize l.getD i 0 = x at c1 hx
  have hx' : (x : Int) < 4294967296 := by omega
  go_enter Tryd.func52, Tryd.ntmps52
  go_wp2
  go_ret
  exact ⟨rfl, Below.refl _ _⟩

set_option maxHeartbeats 400000 in
set_option maxRecDepth 100000 in
theorem of1_any (x : Nat) (b i : Nat) (w : World) (hb : w.cell? ⟨b, 0, none⟩ = some (.int .u64 x)) :
    Calls Tryd.prog 53 #[.int .i64 i, .pointer (some ⟨b, 0, none⟩)] w fun e w' => e = .returned (.int .u64 x) ∧ Below w.heap.size w w' := by
  go_enter Tryd.func53, Tryd.ntmps53
  go_wp2
  go_ret
  exact ⟨rfl, Below.refl _ _⟩

set_option maxHeartbeats 400000 in
set_option maxRecDepth 100000 in
theorem times1_any (A : Option Addr) (n cap : Nat) (l : List Nat) (m : Nat) (b b2 i : Nat) (w : World) (hR : RdN .u32 w A n l) (hi : i < n) (hn : n ≤ 9223372036854775807) (hx : l.getD i 0 < 4294967296) (hm : m ≤ 2147483648) (hb : w.cell? ⟨b, 0, none⟩ = some (.slice A n cap)) (hb2 : w.cell? ⟨b2, 0, none⟩ = some (.int .u64 m)) :
    Calls Tryd.prog 65 #[.int .i64 i, .pointer (some ⟨b, 0, none⟩), .pointer (some ⟨b2, 0, none⟩)] w fun e w' => e = .returned (.int .u64 (l.getD i 0 * m : Nat)) ∧ Below w.heap.size w w' := by
  obtain ⟨hlen, hat⟩ := hR
  obtain ⟨b0, off, rfl, hbl, hcell⟩ := hat (by omega)
  have c1 := hcell i hi
  clear hcell hat hlen
  generalize l.getD i 0 = x at c1 hx
  have hx' : (x : Int) < 4294967296 := by omega
  have hp : x * m ≤ 4294967296 * 2147483648 := Nat.mul_le_mul (by omega) hm
  have hp' : (x : Int) * m < 18446744073709551616 := by
    have : ((x * m : Nat) : Int) ≤ 4294967296 * 2147483648 := by omega
    rw [Int.natCast_mul] at this
    omega
  have hp0 : 0 ≤ (x : Int) * m := Int.mul_nonneg (by omega) (by omega)
  go_enter Tryd.func65, Tryd.ntmps65
  go_wp2
  go_quiet (fail)
  go_wp2
  go_ret
  exact ⟨by rw [Int.natCast_mul]; rfl, below_drew0 _ _⟩

set_option maxHeartbeats 400000 in
set_option maxRecDepth 100000 in
theorem norm_any (A : Option Addr) (n cap : Nat) (l : List Nat) (w : World) (hR : RdN .u32 w A n l) (hn : n ≤ 1099511627776) (hl : ∀ x ∈ l, x < 4294967296) :
    Calls Tryd.prog 23 #[.slice A n cap] w fun e w' => IsNum (val 1000000000 l) w w' e := by
  have hlen := hR.1
  have HV := Lib.hid (show sumTo (fun i => l.getD i 0) 1000000000 n = val 1000000000 l by rw [sumTo_val, ← hlen, List.take_length])
  have k1 := carried_any n 52 #[.pointer (some ⟨w.heap.size, 0, none⟩)] (fun i => l.getD i 0) (w.alloc (.cells #[.slice A n cap] 22)) hn enters52 (fun i _ => by have := getD_lt (by omega) hl i; omega)
    (fun w' i hi hb' => norm1_any A n cap l w.heap.size i w' (hR.below ((below_alloc0 w _).trans (hb'.mono (by simp)))) hi (by omega) (getD_lt (by omega) hl i) ((hb'.cell (p := ⟨w.heap.size, 0, none⟩) (by simp)).trans (cell_new _ _ _)))
  have K1 := Lib.hid k1
  clear k1 hl hR hlen
  go_enter Tryd.func23, Tryd.ntmps23
  go_wp2_with (go_at_call 51; refine K1.out.mono ?_)
  rintro e w1 ⟨v, rfl, hown, hb⟩
  go_wp2
  go_ret
  have h : IsNum (val 1000000000 l) _ w1 (.returned v) := ⟨v, rfl, HV.out ▸ hown, hb⟩
  exact h.from_ (below_alloc0 _ _)
end Go.Proofs.YtmmlclgmehfmhaaDoor
