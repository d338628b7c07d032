/-
  The walks of limb's ten, Shift and Cut.
-/
import Derived.Test.YtmmlclgmehfmhaaDoorLimL
namespace Go.Proofs.YtmmlclgmehfmhaaDoor
open Go.RowKit

theorem ten_le (n : Nat) (h : n ≤ 8) : 10 ^ n ≤ 100000000 := by
  have : 10 ^ n ≤ 10 ^ 8 := Nat.pow_le_pow_right (by decide) h
  omega

set_option maxHeartbeats 1000000 in
set_option maxRecDepth 100000 in
theorem ten_any (n : Nat) (w : World) (hn : n ≤ 8) :
    Calls Tryd.prog 61 #[.int .i64 n] w fun e w' => e = .returned (.int .u64 ((10 ^ n : Nat) : Int)) ∧ w = w' := by
  go_enter Tryd.func61, Tryd.ntmps61
  go_wp2
  go_loop [3, 5] (fun pv iv => ∃ k p : Nat, k ≤ n ∧ iv = .int .i64 k ∧ pv = .int .u64 p ∧ p ≤ 100000000 ∧ Hid (p = 10 ^ k)) (fun _ iv => n - (intOf iv).toNat)
  case atStart => exact ⟨0, 1, Nat.zero_le _, rfl, rfl, by omega, rfl⟩
  case round =>
    obtain ⟨k, p, hk, rfl, rfl, hp, hpk⟩ := hrel
    by_cases hlt : k < n
    · have h1 : p * 10 ≤ 100000000 := by rw [hpk.out, ← Nat.pow_succ]; exact ten_le _ (by omega)
      have HP := Lib.hid (show p * 10 = 10 ^ (k + 1) by rw [hpk.out, Nat.pow_succ])
      go_wp2
      go_round
      case rel => exact ⟨k + 1, p * 10, by omega, by go_num, by go_num, h1, HP.out⟩
      case measure => simp [intOf]; omega
    · obtain rfl : k = n := by omega
      go_wp2
      go_ret
      have e := hpk.out
      subst e
      exact ⟨rfl, rfl⟩

/-- what Shift answers within its bounds -/
def IsShift (x n : Nat) (w w' : World) (e : Ending) : Prop := ∃ v, e = .returned (.tuple #[v, .int .i64 0]) ∧ OwnN .u32 61 w.heap.size w' v (digs 1000000000 (x * 10 ^ n)) ∧ Below w.heap.size w w'

set_option maxHeartbeats 1000000 in
set_option maxRecDepth 100000 in
theorem shift_bad (A : Option Addr) (n cap : Nat) (m : Int) (w : World) (hm : m < 0 ∨ 30000 < m) :
    Calls Tryd.prog 37 #[.slice A n cap, .int .i64 m] w fun e w' => e = .returned (.tuple #[.slice none 0 0, .int .i64 1]) ∧ w = w' := by
  go_enter Tryd.func37, Tryd.ntmps37
  rcases hm with hm | hm
  · go_wp2
    go_ret2
    exact ⟨rfl, rfl⟩
  · have hm0 : ¬ m < 0 := by omega
    go_wp2
    go_ret2
    exact ⟨rfl, rfl⟩

set_option maxHeartbeats 1000000 in
set_option maxRecDepth 100000 in
theorem shift_any (A : Option Addr) (n cap : Nat) (l : List Nat) (m : Nat) (w : World) (hR : RdN .u32 w A n l) (hn : n ≤ 549755813888) (hl : ∀ x ∈ l, x < 4294967296) (hm : m ≤ 30000) :
    Calls Tryd.prog 37 #[.slice A n cap, .int .i64 m] w fun e w' => IsShift (val 1000000000 l) m w w' e := by
  obtain ⟨i0, hi0, hz0, hz1, hz2⟩ := info_parts info_u32
  have K1 := Lib.hid (norm_any A n cap l w hR (by omega) hl)
  have hd : (digs 1000000000 (val 1000000000 l)).length ≤ 549755813889 := by have := digs_val_len l hl; have := hR.1; omega
  clear hR hl
  generalize val 1000000000 l = x at *
  have kt := fun u : World => ten_any (m % 9) u (by omega)
  rw [show ((m % 9 : Nat) : Int) = (m : Int) % 9 by omega] at kt
  have KT := Lib.hid kt
  clear kt
  have h10 := ten_le (m % 9) (by omega)
  have hlen := digs_mul_len x (10 ^ (m % 9)) 549755813889 hd (by omega)
  have HSD := Lib.hid (shift_digs x m)
  have HZ := Lib.hid (show x = 0 ↔ x * 10 ^ (m % 9) = 0 by
    have : 0 < 10 ^ (m % 9) := Nat.pow_pos (by omega)
    constructor
    · rintro rfl; simp
    · intro h; rcases Nat.mul_eq_zero.1 h with h | h
      · exact h
      · omega)
  have KM := Lib.hid (fun (u : World) (B : Option Addr) (n2 c2 : Nat) (h : RdN .u32 u B n2 (digs 1000000000 x)) (hn2 : n2 ≤ 1099511627776) => times_any B n2 c2 _ (10 ^ (m % 9)) u h hn2 (digs_u32 x) (by omega))
  rw [val_digs 1000000000 (by omega)] at KM
  generalize 10 ^ (m % 9) = p at *
  have hmq : ((m / 9 : Nat) : Int) = (m : Int) / 9 := by omega
  have hq9 : m / 9 ≤ 30000 := by omega
  go_enter Tryd.func37, Tryd.ntmps37
  go_wp2_with (go_at_call 23; refine K1.out.mono ?_)
  rintro e w1 ⟨v1, rfl, hown1, hb1⟩
  obtain ⟨B1, c1, rfl, hcap1, hrd1, hge1⟩ := hown1.rd
  go_wp2_with (go_at_call 61; refine (KT.out _).mono ?_; rintro e w1' ⟨rfl, rfl⟩)
  have K3 := Lib.hid (KM.out w1 B1 _ c1 hrd1 (by omega))
  go_wp2_with (go_at_call 45; refine K3.out.mono ?_)
  rintro e w3 ⟨v3, rfl, hown3, hb3⟩
  have HB := Lib.hid (show Below w.heap.size w w3 from hb1.trans (hb3.mono hb1.size))
  by_cases hx : x = 0
  · have h0 := HZ.out.1 hx
    rw [h0, digs_zero] at hown3
    obtain ⟨B3, c3, rfl, hcap3, hrd3, hge3⟩ := hown3.rd
    have HX := Lib.hid hx
    clear hx
    go_wp2
    go_ret2
    exact ⟨_, rfl, by rw [HX.out, Nat.zero_mul, digs_zero]; exact OwnN.nil _ _ _ _, HB.out⟩
  · have hne : (digs 1000000000 (x * p)).length ≠ 0 := fun h => hx (HZ.out.2 ((digs_nil 1000000000 _ (by omega)).1 (List.eq_nil_of_length_eq_zero h)))
    have HX := Lib.hid hx
    clear hx
    have hmk := make_u32 (m / 9) (m / 9) (Nat.le_refl _) (by omega) w3
    have hown0 := OwnN.made (m / 9) w3 (by unfold maxLen; omega)
    rw [hmq] at hmk
    have HS := Lib.hid (HSD.out HX.out)
    generalize digs 1000000000 (x * p) = D at *
    obtain ⟨B3, c3, rfl, hcap3, hrd3, hge3⟩ := hown3.rd
    clear HSD
    generalize m / 9 = q at *
    have hbs := HB.out.size
    go_wp2_with (at_builtin; refine wpList_append_rd _ rfl _ _ 22 rfl w3.heap.size w1.heap.size .u32 61 i0 (.int .u32 0) 4 Tryd.underlying22 hi0 hz0 hz1 hz2 rfl _ _ (List.replicate q 0) D rfl rfl hown0 (hown3.below (below_alloc0 w3 _)) ?c1 ?c2 ?c3 ?_)
    case c1 => rw [List.length_replicate]; unfold maxLen; omega
    case c2 => rw [List.length_replicate]; omega
    case c3 => simp
    intro v' w' hown' hgrow
    go_wp2
    go_ret2
    refine ⟨_, rfl, (hown'.asList HS.out.symm).more hbs, (HB.out.alloc hbs _).grown hgrow (by simp; omega) (fun k hk => ?_)⟩
    have : w3.heap.size = k := by simpa [Value.ownBlock] using hk
    omega
end Go.Proofs.YtmmlclgmehfmhaaDoor
