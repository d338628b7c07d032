/-
  The walks of the document's answer for chapter 5: letter, Hex.
-/
import Derived.Test.YtojapomkmfbciaaDoorQuoP
namespace Go.Proofs.YtojapomkmfbciaaDoor
open Go.RowKit

set_option maxHeartbeats 4000000 in
set_option maxRecDepth 100000 in
theorem refLetter_any (p : Nat) (hp : p ≤ 1114111) (w : World) :
    Calls Tryd.prog 26 #[.int .i64 p] w fun e w' => e = .returned (.int .u8 (shortP p : Nat)) ∧ Below w.heap.size w w' := by
  by_cases q0 : p = 34
  · subst q0
    go_enter Tryd.func26, Tryd.ntmps26
    go_wp2
    go_rounds 8
    go_ret
    exact ⟨rfl, (Below.refl _ w).alloc (Nat.le_refl _) _⟩
  by_cases q1 : p = 92
  · subst q1
    go_enter Tryd.func26, Tryd.ntmps26
    go_wp2
    go_rounds 8
    go_ret
    exact ⟨rfl, (Below.refl _ w).alloc (Nat.le_refl _) _⟩
  by_cases q2 : p = 8
  · subst q2
    go_enter Tryd.func26, Tryd.ntmps26
    go_wp2
    go_rounds 8
    go_ret
    exact ⟨rfl, (Below.refl _ w).alloc (Nat.le_refl _) _⟩
  by_cases q3 : p = 9
  · subst q3
    go_enter Tryd.func26, Tryd.ntmps26
    go_wp2
    go_rounds 8
    go_ret
    exact ⟨rfl, (Below.refl _ w).alloc (Nat.le_refl _) _⟩
  by_cases q4 : p = 10
  · subst q4
    go_enter Tryd.func26, Tryd.ntmps26
    go_wp2
    go_rounds 8
    go_ret
    exact ⟨rfl, (Below.refl _ w).alloc (Nat.le_refl _) _⟩
  by_cases q5 : p = 12
  · subst q5
    go_enter Tryd.func26, Tryd.ntmps26
    go_wp2
    go_rounds 8
    go_ret
    exact ⟨rfl, (Below.refl _ w).alloc (Nat.le_refl _) _⟩
  by_cases q6 : p = 13
  · subst q6
    go_enter Tryd.func26, Tryd.ntmps26
    go_wp2
    go_rounds 8
    go_ret
    exact ⟨rfl, (Below.refl _ w).alloc (Nat.le_refl _) _⟩
  have hv : shortP p = 0 := by unfold shortP; rw [if_neg (by omega), if_neg q2, if_neg q3, if_neg q4, if_neg q5, if_neg q6]
  rw [hv]
  have d0 : ((34 : Int) == (p : Int)) = false := by simp; omega
  have d1 : ((92 : Int) == (p : Int)) = false := by simp; omega
  have d2 : ((8 : Int) == (p : Int)) = false := by simp; omega
  have d3 : ((9 : Int) == (p : Int)) = false := by simp; omega
  have d4 : ((10 : Int) == (p : Int)) = false := by simp; omega
  have d5 : ((12 : Int) == (p : Int)) = false := by simp; omega
  have d6 : ((13 : Int) == (p : Int)) = false := by simp; omega
  clear hv q0 q1 q2 q3 q4 q5 q6
  go_enter Tryd.func26, Tryd.ntmps26
  go_wp2
  go_rounds 8
  go_ret
  exact ⟨rfl, (Below.refl _ w).alloc (Nat.le_refl _) _⟩

/-- four digits -/
def hex4 (h : Nat) : List UInt8 := [hexD (h / 4096 % 16), hexD (h / 256 % 16), hexD (h / 16 % 16), hexD (h % 16)]
theorem unitL_hex (h : Nat) : unitL h = [92, 117] ++ hex4 h := rfl
abbrev hexS : ByteArray := ⟨#[48, 49, 50, 51, 52, 53, 54, 55, 56, 57, 97, 98, 99, 100, 101, 102]⟩
set_option maxRecDepth 100000 in
theorem hex_part (d : Nat) (hd : d < 16) (w : World) : (Instr.slice 9 (.string hexS) (some (.int .i64 (d : Int))) (some (.int .i64 ((d : Int) + 1))) none).run Tryd.prog w = .ok (.string ⟨#[hexD d]⟩) w := by
  obtain rfl | rfl | rfl | rfl | rfl | rfl | rfl | rfl | rfl | rfl | rfl | rfl | rfl | rfl | rfl | rfl : d = 0 ∨ d = 1 ∨ d = 2 ∨ d = 3 ∨ d = 4 ∨ d = 5 ∨ d = 6 ∨ d = 7 ∨ d = 8 ∨ d = 9 ∨ d = 10 ∨ d = 11 ∨ d = 12 ∨ d = 13 ∨ d = 14 ∨ d = 15 := by omega
  all_goals kernel_rfl

set_option maxHeartbeats 4000000 in
set_option maxRecDepth 100000 in
theorem refHex_any (h : Nat) (hh : h ≤ 65535) (w : World) :
    Calls Tryd.prog 27 #[.int .i64 h, .int .i64 4] w fun e w' => e = .returned (.string ⟨(hex4 h).toArray⟩) ∧ w = w' := by
  go_enter Tryd.func27, Tryd.ntmps27
  go_wp2
  go_loop [0, 6, 7] (fun a b c => ∃ j m : Nat, j ≤ 4 ∧ m = h / 16 ^ j ∧ m ≤ 65535 ∧ a = .int .i64 m ∧ b = .string ⟨((hex4 h).drop (4 - j)).toArray⟩ ∧ c = .int .i64 j) (fun _ _ c => 4 - (intOf c).toNat)
  case atStart => exact ⟨0, h, by omega, by simp, hh, rfl, rfl, rfl⟩
  case round =>
    obtain ⟨j, m, hj, hm, hm2, rfl, rfl, rfl⟩ := hrel
    by_cases h4 : j < 4
    · have hd : m % 16 < 16 := Nat.mod_lt _ (by decide)
      have hp := hex_part (m % 16) hd w
      have hdr : (hex4 h).drop (4 - (j + 1)) = hexD (m % 16) :: (hex4 h).drop (4 - j) := by
        subst hm
        obtain rfl | rfl | rfl | rfl : j = 0 ∨ j = 1 ∨ j = 2 ∨ j = 3 := by omega
        · show [hexD (h % 16)] = _; rw [Nat.pow_zero, Nat.div_one]; rfl
        · rfl
        · rfl
        · rfl
      have hm3 : m / 16 = h / 16 ^ (j + 1) := by subst hm; rw [Nat.div_div_eq_div_mul, ← Nat.pow_succ]
      have hmod : (m : Int) % 16 = ((m % 16 : Nat) : Int) := by omega
      have hdI : ((m % 16 : Nat) : Int) < 16 := by omega
      have hdiv : (m : Int) / 16 = ((m / 16 : Nat) : Int) := by omega
      have hq2 : m / 16 ≤ 65535 := by omega
      have HM := Lib.hid hm
      clear hm
      generalize m % 16 = d at hd hp hdr hmod hdI
      generalize m / 16 = q at hm3 hdiv hq2
      have HDR := Lib.hid hdr
      have HM3 := Lib.hid hm3
      have hln : ((hex4 h).drop (4 - j)).length ≤ 4 := by rw [List.length_drop]; show 4 - _ ≤ 4; omega
      clear hdr hm3
      generalize (hex4 h).drop (4 - j) = L at HDR hln
      go_wp2
      go_round
      case rel => exact ⟨j + 1, q, by omega, HM3.out, hq2, rfl, by rw [HDR.out]; rfl, by go_num⟩
      case measure => simp [intOf]; omega
    · obtain rfl : j = 4 := by omega
      go_wp2
      go_ret
      exact ⟨rfl, rfl⟩

end Go.Proofs.YtojapomkmfbciaaDoor
