/-
  The walks of the laws of chapter 1: Order.
-/
import Derived.Test.YtmmlclgmehfmhaaDoorLawD
namespace Go.Proofs.YtmmlclgmehfmhaaDoor
open Go.RowKit

theorem cmp_is (A A2 : Option Addr) (n cap n2 cap2 : Nat) (l l2 : List Nat) (c : Int) (w : World) (hR : RdN .u32 w A n l) (hR2 : RdN .u32 w A2 n2 l2) (hn : n ≤ 549755813888) (hn2 : n2 ≤ 549755813888) (hl : ∀ x ∈ l, x < 4294967296) (hl2 : ∀ x ∈ l2, x < 4294967296) (hc : cmpN (val 1000000000 l) (val 1000000000 l2) = c) :
    Calls Tryd.prog 26 #[.slice A n cap, .slice A2 n2 cap2] w fun e w' => e = .returned (.int .i64 c) ∧ Below w.heap.size w w' := by
  have h := cmp_any A A2 n cap n2 cap2 l l2 w hR hR2 (by omega) (by omega) hl hl2 (by have := digs_val_len l hl; have := hR.1; omega) (by have := digs_val_len l2 hl2; have := hR2.1; omega)
  rw [hc] at h
  exact h
theorem nil_u32 : ∀ x ∈ ([] : List Nat), x < 4294967296 := fun x hx => by cases hx
theorem cmpN_add (x y z : Nat) : cmpN (x + z) (y + z) = cmpN x y := by unfold cmpN; simp only [Nat.add_lt_add_iff_right]
theorem cmpN_mul (x y z : Nat) (h : z ≠ 0) : cmpN (x * z) (y * z) = cmpN x y := by
  have hz : 0 < z := by omega
  unfold cmpN
  simp only [Nat.mul_lt_mul_right hz]
theorem cmpN_zero (z : Nat) : cmpN z 0 = if z = 0 then 0 else 1 := by
  unfold cmpN
  rw [if_neg (by omega)]
  by_cases h : z = 0
  · rw [if_pos h, if_neg (by omega)]
  · rw [if_neg h, if_pos (by omega)]
theorem cmpN_le (x y : Nat) : cmpN x y ≤ 0 ↔ x ≤ y := by
  unfold cmpN
  by_cases h : x < y
  · rw [if_pos h]; constructor <;> intro <;> omega
  · rw [if_neg h]
    by_cases h2 : y < x
    · rw [if_pos h2]; constructor <;> intro <;> omega
    · rw [if_neg h2]; constructor <;> intro <;> omega
theorem digs_inj (x y : Nat) : (digs 1000000000 x = digs 1000000000 y) ↔ x = y := ⟨fun h => by rw [← vdig x, ← vdig y, h], fun h => by rw [h]⟩
theorem same_is (A A2 : Option Addr) (n cap n2 cap2 : Nat) (l l2 : List Nat) (b : Bool) (w : World) (hR : RdN .u32 w A n l) (hR2 : RdN .u32 w A2 n2 l2) (hn : n ≤ 9223372036854775807) (hn2 : n2 ≤ 9223372036854775807) (h : decide (l = l2) = b) :
    Calls Tryd.prog 19 #[.slice A n cap, .slice A2 n2 cap2] w fun e w' => e = .returned (.bool b) ∧ Below w.heap.size w w' := by
  have := same_any A A2 n cap n2 cap2 l l2 w hR hR2 hn hn2
  rw [h] at this
  exact this
end Go.Proofs.YtmmlclgmehfmhaaDoor
