/-
  The walk of quote's numbered (chapter 5): a number, or two that are one code point.
-/
import Derived.Deep.Cut
import Derived.Test.YtnbfikfngekfoaaDoorQuoE
namespace Go.Proofs.YtnbfikfngekfoaaDoor
open Go.RowKit

set_option maxHeartbeats 2000000 in
set_option maxRecDepth 100000 in
theorem quoNumbered_0 (A : Option Addr) (l : List UInt8) (w : World) (hR : RdB w A 2 l) :
    Calls Tryd.prog 59 #[.slice A 2 2] w fun e w' => e = .returned (pcVal (numberedP l)) ∧ Below w.heap.size w w' := by
  have hl := Lib.hid hR.1
  have HR := Lib.hid hR
  obtain ⟨b, off, rfl, hb, hc⟩ := hR.2 (by omega)
  have hd : l.drop 2 = [] := List.drop_eq_nil_of_le (by rw [hR.1]; exact Nat.le_refl _)
  clear hR
  have hnp : numberedP l = faultP l 2 := by unfold numberedP; rw [hd]; rfl
  rw [hnp]
  clear hnp hd
  have k1 := fun (w' : World) => quoFour_any (some ⟨b, off, none⟩) 0 0 [] w' ⟨rfl, fun h => absurd h (by decide)⟩ (by decide)
  have K1 := Lib.hid k1
  clear k1
  have k3 := fun (w' : World) (hw : RdB w' (some ⟨b, off, none⟩) 2 l) => quoFault_any _ 2 2 _ 2 w' hw (by omega) (by omega)
  have K3 := Lib.hid k3
  clear k3
  generalize faultP l 2 = V at K3 ⊢
  go_enter Tryd.func59, Tryd.ntmps59
  go_wp2_with (go_at_call 60; refine (K1.out _).mono ?_)
  rintro e w1 ⟨rfl, rfl⟩
  simp only [show fourL [] = (0, 0) from rfl]
  have hb1 : Below w.heap.size w (w.alloc (.cells #[.int .i64 0, .int .i64 0, .int .i64 0] 73)) := (Below.refl _ w).alloc (Nat.le_refl _) _
  go_wp2_with (go_at_call 49; refine (K3.out _ (HR.out.below hb1)).mono ?_)
  rintro e w2 ⟨rfl, hb2⟩
  unfold pcVal
  have O := Lib.hid ((Own3.new 73 w (.int .i64 0) (.int .i64 0) (.int .i64 0)).below hb2)
  obtain ⟨c0, c1, c2, f0, f1, f2⟩ := O.out.cells
  go_wp2
  exact ret_piece rfl (OwnP.put O.out V) rfl rfl ⟨rfl, below_put3 (below_new hb2) (Nat.le_refl _) _ _ _⟩

set_option maxHeartbeats 2000000 in
set_option maxRecDepth 100000 in
theorem quoNumbered_1 (A : Option Addr) (n cap : Nat) (l : List UInt8) (w : World) (hR : RdB w A n l) (hn : n ≤ 17592186044416) (h2 : 2 ≤ n) (hc2 : 2 < cap) (h12 : n < 12) :
    Calls Tryd.prog 59 #[.slice A n cap] w fun e w' => e = .returned (pcVal (numberedP l)) ∧ Below w.heap.size w w' := by
  have hl := Lib.hid hR.1
  have HR := Lib.hid hR
  obtain ⟨b, off, rfl, hb, hc⟩ := hR.2 (by omega)
  have HC := Lib.hid (hR.cut' h2)
  clear hR
  have hnp : numberedP l = if (fourL (l.drop 2)).2 < 4 then faultP l (2 + (fourL (l.drop 2)).2)
    else if (fourL (l.drop 2)).1 < 55296 ∨ 57343 < (fourL (l.drop 2)).1 then ⟨(fourL (l.drop 2)).1, 6, 0⟩
    else ⟨65533, 6, 0⟩ := by
    unfold numberedP
    rw [if_neg (c := _ ∧ 12 ≤ l.length ∧ _) (fun h => by have := h.2.1; rw [hl.out] at this; omega)]
  have HP := Lib.hid hnp
  clear hnp
  have k1 := fun (w' : World) (hw : RdB w' (some ⟨b, off + 2, none⟩) (n - 2) (l.drop 2)) => quoFour_any _ (n - 2) (cap - 2) _ w' hw (by omega)
  have K1 := Lib.hid k1
  clear k1
  have k3 := fun (m : Nat) (w' : World) (hw : RdB w' (some ⟨b, off, none⟩) n l) (hm : m ≤ n) => quoFault_any _ n cap _ m w' hw hn hm
  have K3 := Lib.hid k3
  clear k3
  have hf := fourL_le (l.drop 2)
  have hlen : (l.drop 2).length = n - 2 := by rw [List.length_drop, hl.out]
  generalize numberedP l = V at HP ⊢
  generalize hF : fourL (l.drop 2) = F at HP hf K1
  obtain ⟨h, m⟩ := F
  simp only [] at HP hf
  obtain ⟨hf1, hf2, hf3⟩ := hf
  rw [hlen] at hf3
  clear hF hlen
  have hb1 : Below w.heap.size w (w.alloc (.cells #[.int .i64 0, .int .i64 0, .int .i64 0] 73)) := (Below.refl _ w).alloc (Nat.le_refl _) _
  clear hn
  go_enter Tryd.func59, Tryd.ntmps59
  go_wp2_with fail
  refine (K1.out _ (HC.out.below hb1)).mono ?_
  rintro e w1 ⟨rfl, rfl⟩
  by_cases hm : m < 4
  · go_wp2_with (go_at_call 49; refine (K3.out (2 + m) _ (HR.out.below hb1) (by omega)).mono ?_)
    rintro e w2 ⟨rfl, hb2⟩
    rw [if_pos hm] at HP
    rw [← HP.out]
    unfold pcVal
    have O := Lib.hid ((Own3.new 73 w (.int .i64 0) (.int .i64 0) (.int .i64 0)).below hb2)
    obtain ⟨c0, c1, c2, f0, f1, f2⟩ := O.out.cells
    go_wp2
    exact ret_piece rfl (OwnP.put O.out V) rfl rfl ⟨rfl, below_put3 (below_new hb2) (Nat.le_refl _) _ _ _⟩
  · rw [if_neg hm] at HP
    obtain rfl : m = 4 := by omega
    clear hm hf2 hf3
    by_cases hh : h < 55296 ∨ 57343 < h
    · rw [if_pos hh] at HP
      rcases hh with hh | hh
      all_goals
        go_wp2
        exact ret_piece (p := ⟨h, 6, 0⟩) rfl (Own3.new _ w _ _ _) rfl rfl ⟨by rw [HP.out], (Below.refl _ w).alloc (Nat.le_refl _) _⟩
    · rw [if_neg hh] at HP
      have h1 : (55296 : Int) ≤ (h : Int) := by omega
      have h2 : (h : Int) ≤ 57343 := by omega
      have d1 : decide ((h : Int) < 55296) = false := decide_eq_false (by omega)
      have d2 : decide ((57343 : Int) < (h : Int)) = false := decide_eq_false (by omega)
      clear hh hf1
      by_cases hx : h < 56320
      · have hx' : (h : Int) < 56320 := by omega
        have h12' : (n : Int) < 12 := by omega
        have d3 : decide ((h : Int) < 56320) = true := decide_eq_true hx'
        have d4 : decide ((12 : Int) ≤ (n : Int)) = false := decide_eq_false (by omega)
        clear h12 hx
        go_wp2
        exact ret_piece (p := ⟨65533, 6, 0⟩) rfl (Own3.new _ w _ _ _) rfl rfl ⟨by rw [HP.out], (Below.refl _ w).alloc (Nat.le_refl _) _⟩
      · have hx' : (56320 : Int) ≤ (h : Int) := by omega
        have d3 : decide ((h : Int) < 56320) = false := decide_eq_false (by omega)
        clear hx
        go_wp2
        exact ret_piece (p := ⟨65533, 6, 0⟩) rfl (Own3.new _ w _ _ _) rfl rfl ⟨by rw [HP.out], (Below.refl _ w).alloc (Nat.le_refl _) _⟩

end Go.Proofs.YtnbfikfngekfoaaDoor
