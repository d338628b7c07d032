/-
  The walks of the statements of chapter 4.
-/
import Derived.Test.YthhbpfejfolbiaaDoorUtfL
import Derived.Test.YthhbpfejfolbiaaDoorUtfI
namespace Go.Proofs.YthhbpfejfolbiaaDoor
open Go.RowKit

theorem shown_enc : encVal 8364 = .tuple #[.string ⟨#[226, 130, 172]⟩, .int .i64 0] := by kernel_rfl
theorem shown_dec : decVal [226, 130] = .tuple #[.int .i64 65533, .int .i64 1, .bool false] := by kernel_rfl
theorem shown_valid : valid [97, 192, 128] = 1 := by decide
theorem shown_clean : clean [97, 255] = [97, 239, 191, 189] := by decide
theorem shown_part : part [97, 195, 164, 98] 1 2 = [195, 164] := by decide

set_option maxHeartbeats 1000000 in
set_option maxRecDepth 100000 in
theorem shown_any (w : World) (hT : Tabs w) :
    Calls Tryd.prog 11 #[] w fun e w' => e = .returned (.bool true) ∧ Below w.heap.size w w' := by
  have k1 := fun w => utfEncode_any 8364 w
  rw [shown_enc] at k1
  have k2 := fun w h => utfDecode_any ⟨#[226, 130]⟩ w h
  have k3 := fun w h => utfValid_any ⟨#[97, 192, 128]⟩ w h (by simp [ByteArray.size, maxLen])
  have k4 := fun w h => utfClean_any ⟨#[97, 255]⟩ w h (by simp [ByteArray.size])
  have k5 := fun w => utfSlice_any ⟨#[97, 195, 164, 98]⟩ 1 2 w (by simp [ByteArray.size])
  simp only [shown_dec, shown_valid, shown_clean, shown_part] at k2 k3 k4 k5
  have K1 := Lib.hid k1
  have K2 := Lib.hid k2
  have K3 := Lib.hid k3
  have K4 := Lib.hid k4
  have K5 := Lib.hid k5
  clear k1 k2 k3 k4 k5
  go_enter Tryd.func11, Tryd.ntmps11
  go_wp2_with (go_at_call 14; refine (K1.out _).mono ?_)
  rintro e w1 ⟨rfl, hb1⟩
  go_wp2_with (go_at_call 12; refine (K2.out _ (hT.below hb1 (Nat.le_refl _))).mono ?_)
  rintro e w2 ⟨rfl, hb2⟩
  have hb12 := hb1.trans (hb2.mono hb1.size)
  go_wp2_with (go_at_call 19; refine (K3.out _ (hT.below hb12 (Nat.le_refl _))).mono ?_)
  rintro e w3 ⟨rfl, hb3⟩
  have hb13 := hb12.trans (hb3.mono hb12.size)
  go_wp2_with (go_at_call 21; refine (K4.out _ (hT.below hb13 (Nat.le_refl _))).mono ?_)
  rintro e w4 ⟨rfl, hb4⟩
  have hb14 := hb13.trans (hb4.mono hb13.size)
  go_wp2_with (go_at_call 23; refine (K5.out _).mono ?_)
  rintro e w5 ⟨rfl, hb5⟩
  have hb15 := hb14.trans (hb5.mono hb14.size)
  go_wp2
  go_ret
  exact ⟨rfl, hb15⟩

set_option maxHeartbeats 1000000 in
set_option maxRecDepth 100000 in
theorem utfDecodes_walk (s : ByteArray) (w : World) (hT : Tabs w) (hs : s.size ≤ maxLen) :
    Calls Tryd.prog 3 #[.string s] w fun e w' => e = .returned (.bool true) ∧ Below w.heap.size w w' := by
  have k1 := fun w h => utfDecode_any s w h
  have k2 := fun w => refDecode_any s w hs
  unfold decVal at k1 k2
  generalize (dec s.data.toList).1 = r at k1 k2
  generalize (dec s.data.toList).2 = n at k1 k2
  generalize decOk s.data.toList = ok at k1 k2
  have K1 := Lib.hid k1
  have K2 := Lib.hid k2
  clear k1 k2
  cases ok
  all_goals
    go_enter Tryd.func3, Tryd.ntmps3
    go_wp2_with (go_at_call 11; refine (shown_any _ hT).mono ?_)
    rintro e w1 ⟨rfl, hb1⟩
    go_wp2_with (go_at_call 12; refine (K1.out _ (hT.below hb1 (Nat.le_refl _))).mono ?_)
    rintro e w2 ⟨rfl, hb2⟩
    have hb12 := hb1.trans (hb2.mono hb1.size)
    go_wp2_with (go_at_call 13; refine (K2.out _).mono ?_)
    rintro e w3 ⟨rfl, hb3⟩
    have hb13 := hb12.trans (hb3.mono hb12.size)
    go_wp2
    go_ret
    exact ⟨rfl, hb13⟩

set_option maxHeartbeats 1000000 in
set_option maxRecDepth 100000 in
theorem utfEncodes_walk (p : Int) (w : World) (hT : Tabs w) :
    Calls Tryd.prog 4 #[.int .i64 p] w fun e w' => e = .returned (.bool true) ∧ Below w.heap.size w w' := by
  have k1 := fun w => utfEncode_any p w
  have k2 := fun w => refEncode_any p w
  unfold encVal at k1 k2
  generalize (if isPt p = true then strOfNums (ptBytes p) else ⟨#[]⟩) = s at k1 k2
  generalize (if isPt p = true then (0 : Int) else 1) = n at k1 k2
  have K1 := Lib.hid k1
  have K2 := Lib.hid k2
  clear k1 k2
  go_enter Tryd.func4, Tryd.ntmps4
  go_wp2_with (go_at_call 11; refine (shown_any _ hT).mono ?_)
  rintro e w1 ⟨rfl, hb1⟩
  go_wp2_with (go_at_call 14; refine (K1.out _).mono ?_)
  rintro e w2 ⟨rfl, hb2⟩
  have hb12 := hb1.trans (hb2.mono hb1.size)
  go_wp2_with (go_at_call 15; refine (K2.out _).mono ?_)
  rintro e w3 ⟨rfl, hb3⟩
  have hb13 := hb12.trans (hb3.mono hb12.size)
  go_wp2
  go_ret
  exact ⟨rfl, hb13⟩

end Go.Proofs.YthhbpfejfolbiaaDoor
