/-
  The walk of the law QuoteSigns (chapter 5).
-/
import Derived.Test.YtojapomkmfbciaaDoorQuoV
import Derived.Test.YtojapomkmfbciaaDoorQuoU
namespace Go.Proofs.YtojapomkmfbciaaDoor
open Go.RowKit

set_option maxRecDepth 100000 in
theorem ix_str (q : List UInt8) (i : Nat) (hi : i < q.length) (W : World) : (Instr.index 9 (.string ⟨q.toArray⟩) (.int .i64 (i : Int))).run Tryd.prog W = .ok (.int .u8 ((bt q i : Nat) : Int)) W := by
  simp [go_sem, hi]
  unfold bt
  rw [List.getElem?_eq_getElem hi]
  rfl
theorem bodyP_len (all : Bool) (l : List Int) : (bodyP all l).length ≤ 12 * l.length := by
  induction l with
  | nil => exact Nat.le_refl _
  | cons p l ih =>
    rw [bodyP_cons, List.length_append, List.length_cons]
    have := writeP_len all p.toNat
    omega
theorem written_len (all : Bool) (s : ByteArray) : (writtenP all s.data.toList).length ≤ 2 + 12 * s.size := by
  have h1 := bodyP_len all (explode s.data.toList)
  have h2 := explode_len s.data.toList
  rw [← Lib.size_eq] at h2
  unfold writtenP
  simp
  omega

set_option maxHeartbeats 8000000 in
set_option maxRecDepth 100000 in
theorem quoteSigns_walk (s : ByteArray) (w : World) (hT : Tabs w) (hs : s.size ≤ 1048576) :
    Calls Tryd.prog 4 #[.string s] w fun e w' => e = .returned (.bool true) ∧ Below w.heap.size w w' := by
  have HT := Lib.hid hT
  have k0 := fun (W : World) (h : Tabs W) => quoShown_any W h
  have kq := fun (W : World) (h : Tabs W) => quoQuote_any s W h (by omega)
  have K0 := Lib.hid k0
  have KQ := Lib.hid kq
  clear hT k0 kq
  go_enter Tryd.func4, Tryd.ntmps4
  go_wp2_with (go_at_call 11; refine (K0.out _ HT.out).mono ?_)
  rintro e w1 ⟨rfl, c1⟩
  go_wp2
  go_loopw [4] (fun a wr => ∃ k : Nat, k ≤ 2 ∧ a = .int .i64 k ∧ Below w.heap.size w wr) (fun a _ => 2 - (intOf a).toNat)
  case atStart => exact ⟨0, by omega, rfl, c1⟩
  case round =>
    obtain ⟨k, hk, rfl, hb⟩ := hrel
    have hTr := HT.out.below hb (Nat.le_refl _)
    have HTR := Lib.hid hTr
    clear hTr
    obtain rfl | rfl | rfl : k = 0 ∨ k = 1 ∨ k = 2 := by omega
    · clear hk
      obtain ⟨bb, hsg, hqe⟩ := written_signs false s.data.toList
      have hwl := written_len false s
      have k1 := fun (W : World) (h : Tabs W) => quoQuote_any s W h (by omega)
      have hq1 : (writtenP false s.data.toList).drop 1 = bb ++ [34] := by rw [hqe]; rfl
      have hqn : 1 + bb.length + 1 = (writtenP false s.data.toList).length := by rw [hqe]; simp; omega
      have hx0 : ∀ W : World, (Instr.index 9 (.string ⟨(writtenP false s.data.toList).toArray⟩) (.int .i64 0)).run Tryd.prog W = .ok (.int .u8 ((bt (writtenP false s.data.toList) 0 : Nat) : Int)) W := fun W => ix_str (writtenP false s.data.toList) 0 (by omega) W
      have hx1 := fun W => ix_str (writtenP false s.data.toList) ((writtenP false s.data.toList).length - 1) (by omega) W
      have hb0 : bt (writtenP false s.data.toList) 0 = 34 := by rw [hqe]; rfl
      have hb1 : bt (writtenP false s.data.toList) ((writtenP false s.data.toList).length - 1) = 34 := by
        rw [hqe]
        unfold bt
        simp
      rw [hb0] at hx0
      rw [hb1] at hx1
      generalize writtenP false s.data.toList = q at k1 hwl hq1 hqn hx0 hx1
      have hz1 : ((q.length - 1 : Nat) : Int) = (q.length : Int) - 1 := by omega
      rw [hz1] at hx1
      have hl2 : decide ((q.length : Int) < 2) = false := decide_eq_false (by omega)
      have hqb : q.length ≤ 13000000 := by omega
      have hq2 : 2 ≤ q.length := by omega
      have K1 := Lib.hid k1
      clear k1 hqe hb0 hb1 hz1 hwl
      go_wp2_with (go_at_call 12; refine (K1.out _ HTR.out).mono ?_)
      rintro e w2 ⟨rfl, b2⟩
      have hB2 := hb.trans (b2.mono hb.size)
      go_wp2
      obtain ⟨wo, hwo⟩ : ∃ wo : World, wo = w2 := ⟨_, rfl⟩
      go_loop [6] (fun a => ∃ (i : Nat) (rest : List UInt8), a = .int .i64 i ∧ Hid (q.drop i = rest ++ [34]) ∧ Hid (Signs false rest) ∧ i + rest.length + 1 = q.length) (fun a => q.length - (intOf a).toNat)
      case atStart => exact ⟨1, bb, rfl, Lib.hid hq1, Lib.hid hsg, hqn⟩
      case round =>
        obtain ⟨i, rest, rfl, hdr, hsr, hil⟩ := hrel
        cases hsr.out with
        | nil =>
          have hi2 : ¬ (i : Int) < (q.length : Int) - 1 := by simp at hil; omega
          go_wp2
          go_roundw
          case rel => exact ⟨0 + 1, by omega, by go_num, hB2⟩
          case measure => simp [intOf]
        | esc x r hr =>
          have hi2 : (i : Int) < (q.length : Int) - 1 := by simp at hil; omega
          have hbt : bt q i = 92 := by rw [← Nat.add_zero i, ← bt_drop, hdr.out]; rfl
          have hix := ix_str q i (by simp at hil; omega) w2
          rw [hbt] at hix
          have d1 : ((i : Int) + 1 == (q.length : Int) - 1) = false := by simp at hil ⊢; omega
          have hd2 : q.drop (i + 2) = r ++ [34] := by rw [← List.drop_drop, hdr.out]; rfl
          have HD2 := Lib.hid hd2
          have HR := Lib.hid hr
          have hil2 : i + 2 + r.length + 1 = q.length := by simp at hil; omega
          have HIL := Lib.hid hil2
          have hi9 : i ≤ 13000000 := by simp at hil; omega
          clear hbt hd2 hil hil2 hsr hdr
          go_wp2
          go_round
          case rel => exact ⟨i + 2, r, by go_num, HD2, HR, HIL.out⟩
          case measure => have := HIL.out; simp [intOf]; omega
        | one c r h1 h2 h3 h4 h5 hr =>
          have hi2 : (i : Int) < (q.length : Int) - 1 := by simp at hil; omega
          have hbt : bt q i = c.toNat := by rw [← Nat.add_zero i, ← bt_drop, hdr.out]; rfl
          have hix := ix_str q i (by simp at hil; omega) w2
          rw [hbt] at hix
          have d1 : (((c.toNat : Nat) : Int) == 92) = false := by simp; omega
          have d2 : decide (((c.toNat : Nat) : Int) < 32) = false := decide_eq_false (by omega)
          have d3 : (((c.toNat : Nat) : Int) == 34) = false := by simp; omega
          have d5 : (((c.toNat : Nat) : Int) == 127) = false := by simp; omega
          have hd2 : q.drop (i + 1) = r ++ [34] := by rw [← List.drop_drop, hdr.out]; rfl
          have HD2 := Lib.hid hd2
          have HR := Lib.hid hr
          have hil2 : i + 1 + r.length + 1 = q.length := by simp at hil; omega
          have HIL := Lib.hid hil2
          have hi9 : i ≤ 13000000 := by simp at hil; omega
          clear hbt hd2 hil hil2 hsr hdr h1 h2 h3 h4 h5
          generalize ((c.toNat : Nat) : Int) = cc at hix d1 d2 d3 d5
          go_wp2
          go_round
          case rel => exact ⟨i + 1, r, by go_num, HD2, HR, HIL.out⟩
          case measure => have := HIL.out; simp [intOf]; omega
    · clear hk
      obtain ⟨bb, hsg, hqe⟩ := written_signs true s.data.toList
      have hwl := written_len true s
      have k1 := fun (W : World) (h : Tabs W) => quoAscii_any s W h (by omega)
      have hq1 : (writtenP true s.data.toList).drop 1 = bb ++ [34] := by rw [hqe]; rfl
      have hqn : 1 + bb.length + 1 = (writtenP true s.data.toList).length := by rw [hqe]; simp; omega
      have hx0 : ∀ W : World, (Instr.index 9 (.string ⟨(writtenP true s.data.toList).toArray⟩) (.int .i64 0)).run Tryd.prog W = .ok (.int .u8 ((bt (writtenP true s.data.toList) 0 : Nat) : Int)) W := fun W => ix_str (writtenP true s.data.toList) 0 (by omega) W
      have hx1 := fun W => ix_str (writtenP true s.data.toList) ((writtenP true s.data.toList).length - 1) (by omega) W
      have hb0 : bt (writtenP true s.data.toList) 0 = 34 := by rw [hqe]; rfl
      have hb1 : bt (writtenP true s.data.toList) ((writtenP true s.data.toList).length - 1) = 34 := by
        rw [hqe]
        unfold bt
        simp
      rw [hb0] at hx0
      rw [hb1] at hx1
      generalize writtenP true s.data.toList = q at k1 hwl hq1 hqn hx0 hx1
      have hz1 : ((q.length - 1 : Nat) : Int) = (q.length : Int) - 1 := by omega
      rw [hz1] at hx1
      have hl2 : decide ((q.length : Int) < 2) = false := decide_eq_false (by omega)
      have hqb : q.length ≤ 13000000 := by omega
      have hq2 : 2 ≤ q.length := by omega
      have K1 := Lib.hid k1
      clear k1 hqe hb0 hb1 hz1 hwl
      go_wp2_with (go_at_call 12; refine (KQ.out _ HTR.out).mono ?_)
      rintro e w3 ⟨rfl, b3⟩
      have hB3 := hb.trans (b3.mono hb.size)
      go_wp2_with (go_at_call 14; refine (K1.out _ (HT.out.below hB3 (Nat.le_refl _))).mono ?_)
      rintro e w2 ⟨rfl, b2⟩
      have hB2 := hB3.trans (b2.mono hB3.size)
      go_wp2
      obtain ⟨wo, hwo⟩ : ∃ wo : World, wo = w2 := ⟨_, rfl⟩
      go_loop [6] (fun a => ∃ (i : Nat) (rest : List UInt8), a = .int .i64 i ∧ Hid (q.drop i = rest ++ [34]) ∧ Hid (Signs true rest) ∧ i + rest.length + 1 = q.length) (fun a => q.length - (intOf a).toNat)
      case atStart => exact ⟨1, bb, rfl, Lib.hid hq1, Lib.hid hsg, hqn⟩
      case round =>
        obtain ⟨i, rest, rfl, hdr, hsr, hil⟩ := hrel
        cases hsr.out with
        | nil =>
          have hi2 : ¬ (i : Int) < (q.length : Int) - 1 := by simp at hil; omega
          go_wp2
          go_roundw
          case rel => exact ⟨1 + 1, by omega, by go_num, hB2⟩
          case measure => simp [intOf]
        | esc x r hr =>
          have hi2 : (i : Int) < (q.length : Int) - 1 := by simp at hil; omega
          have hbt : bt q i = 92 := by rw [← Nat.add_zero i, ← bt_drop, hdr.out]; rfl
          have hix := ix_str q i (by simp at hil; omega) w2
          rw [hbt] at hix
          have d1 : ((i : Int) + 1 == (q.length : Int) - 1) = false := by simp at hil ⊢; omega
          have hd2 : q.drop (i + 2) = r ++ [34] := by rw [← List.drop_drop, hdr.out]; rfl
          have HD2 := Lib.hid hd2
          have HR := Lib.hid hr
          have hil2 : i + 2 + r.length + 1 = q.length := by simp at hil; omega
          have HIL := Lib.hid hil2
          have hi9 : i ≤ 13000000 := by simp at hil; omega
          clear hbt hd2 hil hil2 hsr hdr
          go_wp2
          go_round
          case rel => exact ⟨i + 2, r, by go_num, HD2, HR, HIL.out⟩
          case measure => have := HIL.out; simp [intOf]; omega
        | one c r h1 h2 h3 h4 h5 hr =>
          have hi2 : (i : Int) < (q.length : Int) - 1 := by simp at hil; omega
          have hbt : bt q i = c.toNat := by rw [← Nat.add_zero i, ← bt_drop, hdr.out]; rfl
          have hix := ix_str q i (by simp at hil; omega) w2
          rw [hbt] at hix
          have d1 : (((c.toNat : Nat) : Int) == 92) = false := by simp; omega
          have d2 : decide (((c.toNat : Nat) : Int) < 32) = false := decide_eq_false (by omega)
          have d3 : (((c.toNat : Nat) : Int) == 34) = false := by simp; omega
          have d5 : (((c.toNat : Nat) : Int) == 127) = false := by simp; omega
          have d4 : decide ((127 : Int) < ((c.toNat : Nat) : Int)) = false := decide_eq_false (by have := h5 rfl; omega)
          have hd2 : q.drop (i + 1) = r ++ [34] := by rw [← List.drop_drop, hdr.out]; rfl
          have HD2 := Lib.hid hd2
          have HR := Lib.hid hr
          have hil2 : i + 1 + r.length + 1 = q.length := by simp at hil; omega
          have HIL := Lib.hid hil2
          have hi9 : i ≤ 13000000 := by simp at hil; omega
          clear hbt hd2 hil hil2 hsr hdr h1 h2 h3 h4 h5
          generalize ((c.toNat : Nat) : Int) = cc at hix d1 d2 d3 d5 d4
          go_wp2
          go_round
          case rel => exact ⟨i + 1, r, by go_num, HD2, HR, HIL.out⟩
          case measure => have := HIL.out; simp [intOf]; omega
    · go_wp2
      go_ret
      exact ⟨rfl, hb⟩

end Go.Proofs.YtojapomkmfbciaaDoor
