/-
  The walks of the laws of chapter 5: shown, QuoteWrites.
-/
import Derived.Lib.SlBytesConst
import Derived.Test.YtojapomkmfbciaaDoorQuoR
import Derived.Test.YtojapomkmfbciaaDoorQuoN
namespace Go.Proofs.YtojapomkmfbciaaDoor
open Go.RowKit

theorem rdB_new (w : World) (l : List UInt8) (T : TypeId) (fz : Nat × Nat) : RdB (w.alloc (.cells (Lib.byteCells l).toArray T fz)) (some ⟨w.heap.size, 0, none⟩) l.length l := by
  refine ⟨rfl, fun h0 => ⟨w.heap.size, 0, rfl, by simp, fun i hi => ?_⟩⟩
  have hh : (w.alloc (.cells (Lib.byteCells l).toArray T fz)).heap[w.heap.size]? = some (.cells (Lib.byteCells l).toArray T fz) := World.alloc_heap_new w _
  rw [Nat.zero_add]
  unfold World.cell?
  simp only [hh]
  unfold bt
  simp [Lib.byteCells, hi]

abbrev sh1 : List UInt8 := [34, 92, 117, 100, 56, 51, 52, 120, 34]
abbrev sh2 : List UInt8 := [34, 97]
abbrev sh3 : List UInt8 := [34, 92, 120, 34]
theorem shown_1 : readV sh1 = .tuple #[.string ⟨#[239, 191, 189, 120]⟩, .int .i64 9, .int .i64 0] := by
  rw [readV_of sh1 [239, 191, 189, 120] 9 0 (by decide +kernel)]; rfl
theorem shown_2 : readV sh2 = .tuple #[.string ⟨#[]⟩, .int .i64 2, .int .i64 5] := by
  rw [readV_of sh2 [] 2 5 (by decide +kernel)]; rfl
theorem shown_3 : readV sh3 = .tuple #[.string ⟨#[]⟩, .int .i64 2, .int .i64 2] := by
  rw [readV_of sh3 [] 2 2 (by decide +kernel)]; rfl
theorem shown_4 : writtenP false [97, 34, 10] = [34, 97, 92, 34, 92, 110, 34] := by decide +kernel
theorem shown_5 : writtenP true [240, 157, 132, 158] = [34, 92, 117, 100, 56, 51, 52, 92, 117, 100, 100, 49, 101, 34] := by decide +kernel

theorem read_lit (l : List UInt8) (hl : l.length ≤ 100) (W : World) (hT : Tabs W) (fz : Nat × Nat) :
    Calls Tryd.prog 15 #[.slice (some ⟨W.heap.size, 0, none⟩) l.length l.length] (W.alloc (.cells (Lib.byteCells l).toArray 5 fz)) fun e w' => e = .returned (readV l) ∧ Below W.heap.size W w' := by
  refine (quoRead_any (some ⟨W.heap.size, 0, none⟩) l.length l.length l (W.alloc (.cells (Lib.byteCells l).toArray 5 fz)) (hT.below ((Below.refl _ W).alloc (Nat.le_refl _) _) (Nat.le_refl _)) (rdB_new W l _ fz) (by omega) (Nat.le_refl _)).mono fun e w' h => ⟨h.1, ?_⟩
  exact ((Below.refl _ W).alloc (Nat.le_refl _) _).trans (h.2.mono (by simp))

set_option maxHeartbeats 4000000 in
set_option maxRecDepth 100000 in
theorem quoShown_any (w : World) (hT : Tabs w) :
    Calls Tryd.prog 11 #[] w fun e w' => e = .returned (.bool true) ∧ Below w.heap.size w w' := by
  have HT := Lib.hid hT
  have kc := fun (w : World) (C : Array Value) (n c : Nat) => Lib.run_convert_bytes_const (P := Tryd.prog) w 26 5 C n c Tryd.underlying26 Tryd.underlying5
  have k1 := fun (W : World) (h : Tabs W) => read_lit sh1 (by decide) W h (9, 10)
  have k2 := fun (W : World) (h : Tabs W) => read_lit sh2 (by decide) W h (2, 3)
  have k3 := fun (W : World) (h : Tabs W) => read_lit sh3 (by decide) W h (4, 5)
  rw [shown_1] at k1
  rw [shown_2] at k2
  rw [shown_3] at k3
  have k4 := fun (W : World) (h : Tabs W) => quoQuote_any ⟨#[97, 34, 10]⟩ W h (by decide)
  have k5 := fun (W : World) (h : Tabs W) => quoAscii_any ⟨#[240, 157, 132, 158]⟩ W h (by decide)
  rw [show (⟨#[97, 34, 10]⟩ : ByteArray).data.toList = [97, 34, 10] from rfl, shown_4] at k4
  rw [show (⟨#[240, 157, 132, 158]⟩ : ByteArray).data.toList = [240, 157, 132, 158] from rfl, shown_5] at k5
  have K1 := Lib.hid k1
  have K2 := Lib.hid k2
  have K3 := Lib.hid k3
  have K4 := Lib.hid k4
  have K5 := Lib.hid k5
  clear hT k1 k2 k3 k4 k5
  go_enter Tryd.func11, Tryd.ntmps11
  go_wp2_with fail
  refine (K1.out w HT.out).mono ?_
  rintro e w1 ⟨rfl, b1⟩
  go_wp2_with fail
  refine (K2.out w1 (HT.out.below b1 (Nat.le_refl _))).mono ?_
  rintro e w2 ⟨rfl, b2⟩
  have c2 := b1.trans (b2.mono b1.size)
  go_wp2_with fail
  refine (K3.out w2 (HT.out.below c2 (Nat.le_refl _))).mono ?_
  rintro e w3 ⟨rfl, b3⟩
  have c3 := c2.trans (b3.mono c2.size)
  go_wp2_with (go_at_call 12; refine (K4.out _ (HT.out.below c3 (Nat.le_refl _))).mono ?_)
  rintro e w4 ⟨rfl, b4⟩
  have c4 := c3.trans (b4.mono c3.size)
  go_wp2_with (go_at_call 14; refine (K5.out _ (HT.out.below c4 (Nat.le_refl _))).mono ?_)
  rintro e w5 ⟨rfl, b5⟩
  have c5 := c4.trans (b5.mono c4.size)
  go_wp2
  go_ret
  exact ⟨rfl, c5⟩

set_option maxHeartbeats 4000000 in
set_option maxRecDepth 100000 in
theorem quoteWrites_walk (s : ByteArray) (w : World) (hT : Tabs w) (hs : s.size ≤ 1048576) :
    Calls Tryd.prog 3 #[.string s] w fun e w' => e = .returned (.bool true) ∧ Below w.heap.size w w' := by
  have HT := Lib.hid hT
  have k0 := fun (W : World) (h : Tabs W) => quoShown_any W h
  have k1 := fun (W : World) (h : Tabs W) => quoQuote_any s W h (by omega)
  have k2 := fun (W : World) (h : Tabs W) => quoAscii_any s W h (by omega)
  have k3 := fun (W : World) => refWritten_any s false W (by omega)
  have k4 := fun (W : World) => refWritten_any s true W (by omega)
  generalize writtenP false s.data.toList = q at k1 k3
  generalize writtenP true s.data.toList = a at k2 k4
  have K0 := Lib.hid k0
  have K1 := Lib.hid k1
  have K2 := Lib.hid k2
  have K3 := Lib.hid k3
  have K4 := Lib.hid k4
  clear hT k0 k1 k2 k3 k4
  go_enter Tryd.func3, Tryd.ntmps3
  go_wp2_with (go_at_call 11; refine (K0.out _ HT.out).mono ?_)
  rintro e w1 ⟨rfl, c1⟩
  go_wp2_with (go_at_call 12; refine (K1.out _ (HT.out.below c1 (Nat.le_refl _))).mono ?_)
  rintro e w2 ⟨rfl, b2⟩
  have c2 := c1.trans (b2.mono c1.size)
  go_wp2_with (go_at_call 13; refine (K3.out _).mono ?_)
  rintro e w3 ⟨rfl, b3⟩
  have c3 := c2.trans (b3.mono c2.size)
  go_wp2_with (go_at_call 14; refine (K2.out _ (HT.out.below c3 (Nat.le_refl _))).mono ?_)
  rintro e w4 ⟨rfl, b4⟩
  have c4 := c3.trans (b4.mono c3.size)
  go_wp2_with (go_at_call 13; refine (K4.out _).mono ?_)
  rintro e w5 ⟨rfl, b5⟩
  have c5 := c4.trans (b5.mono c4.size)
  go_wp2
  go_ret
  exact ⟨by simp, c5⟩

end Go.Proofs.YtojapomkmfbciaaDoor
