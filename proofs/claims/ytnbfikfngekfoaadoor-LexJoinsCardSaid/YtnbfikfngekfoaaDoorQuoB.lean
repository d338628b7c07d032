/-
  The walk of quote's four (chapter 5): how many hexadecimal digits there are, up to four, and what they say.
-/
import Derived.Test.YtnbfikfngekfoaaDoorQuoT
import Derived.Test.YtnbfikfngekfoaaDoorQuoA
namespace Go.Proofs.YtnbfikfngekfoaaDoor
open Go.RowKit

theorem ret_four {p q : Nat × Nat} (h : p = q) : Ending.returned (.tuple #[.int .i64 (p.1 : Int), .int .i64 (p.2 : Int)]) = .returned (.tuple #[.int .i64 (q.1 : Int), .int .i64 (q.2 : Int)]) := by rw [h]

set_option maxHeartbeats 1000000 in
set_option maxRecDepth 100000 in
theorem quoFour_any (A : Option Addr) (n cap : Nat) (l : List UInt8) (w : World) (hR : RdB w A n l) (hn : n ≤ 17592186044416) :
    Calls Tryd.prog 60 #[.slice A n cap] w fun e w' => e = .returned (.tuple #[.int .i64 ((fourL l).1 : Int), .int .i64 ((fourL l).2 : Int)]) ∧ w' = w := by
  have hl := Lib.hid hR.1
  have HR := Lib.hid hR
  clear hR
  have k1 := fun (c : Int) w => Tryd.strings_IndexByte ⟨hexB.toArray⟩ c w
  have K1 := Lib.hid k1
  clear k1
  go_enter Tryd.func60, Tryd.ntmps60
  go_wp2
  go_loopw [4, 7] (fun a b wr => ∃ k h : Nat, k ≤ 4 ∧ h < 16 ^ k ∧ a = .int .i64 h ∧ b = .int .i64 k ∧ Hid (fourL l = fourF (4 - k) l k h) ∧ wr = w) (fun _ b _ => 4 - (intOf b).toNat)
  case atStart => exact ⟨0, 0, by omega, by decide, rfl, rfl, rfl, rfl⟩
  case round =>
    obtain ⟨k, h, hk, hh, rfl, rfl, hf, rfl⟩ := hrel
    by_cases h4 : k < 4
    · by_cases hkn : k < n
      · obtain ⟨b, off, rfl, hb, hc⟩ := HR.out.2 (by omega)
        have hc1 := hc k hkn
        have hx := bt_lt l k
        have hk4 := hex_none (bt l k) hx
        have hs4 := hex_some (bt l k) hx
        have HN := Lib.hid hk4
        have HS := Lib.hid hs4
        clear hk4 hs4
        go_wp2_with (go_at_call 24; refine (K1.out _ _).mono ?_)
        rintro e w1 ⟨rfl, rfl⟩
        have hI : Lib.indexByte hexB (bits BinOp.or IntKind.u8 (bt l k : Int) 32).toNat.toUInt8 = hexI (bt l k) := rfl
        have hff : fourF (4 - k) l k h = match hexV (bt l k) with | none => (h, k) | some d => fourF (3 - k) l (k + 1) (16 * h + d) := by
          rw [show 4 - k = (3 - k) + 1 by omega]
          show (if l.length ≤ k then (h, k) else _) = _
          rw [if_neg (by rw [hl.out]; omega)]
          cases hexV (bt l k) <;> rfl
        have HF := Lib.hid hff
        clear hff
        cases hv : hexV (bt l k) with
        | none =>
          have hn' := HN.out hv
          rw [hv] at HF
          go_wp2
          all_goals first
            | (exfalso; omega)
            | (go_ret2; refine ⟨?_, rfl⟩; refine ret_four (p := (h, k)) ?_; rw [hf.out, HF.out])
        | some d =>
          obtain ⟨hd, he, h48, h57⟩ := HS.out d hv
          rw [hv] at HF
          have hh4 : h < 65536 := Nat.lt_of_lt_of_le hh (Nat.pow_le_pow_right (n := 16) (j := 4) (by decide) (by omega))
          have e2 := or16 h d hh4 hd
          go_wp2
          all_goals first
            | (exfalso; omega)
            | skip
          all_goals (
            refine ⟨⟨k + 1, 16 * h + d, by omega, by rw [Nat.pow_succ]; omega, ?_, rfl, ?_, trivial⟩, ?_⟩
            · rw [show (h : Int) * 16 = 16 * (h : Int) by omega, e2]
            · exact Lib.hid (by rw [hf.out, HF.out, show 4 - (k + 1) = 3 - k by omega])
            · simp [intOf]; omega)
      · go_wp2
        go_ret2
        refine ⟨?_, rfl⟩
        refine ret_four (p := (h, k)) ?_
        rw [hf.out, show 4 - k = (3 - k) + 1 by omega]
        show _ = (if l.length ≤ k then (h, k) else _)
        rw [if_pos (by rw [hl.out]; omega)]
    · obtain rfl : k = 4 := by omega
      go_wp2
      go_ret2
      refine ⟨?_, rfl⟩
      exact ret_four (p := (h, 4)) hf.out.symm

end Go.Proofs.YtnbfikfngekfoaaDoor
