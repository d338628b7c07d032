/-
  The walk of quote's next (chapter 5): a piece.
-/
import Derived.Test.YtnbfikfngekfoaaDoorQuoD
namespace Go.Proofs.YtnbfikfngekfoaaDoor
open Go.RowKit

theorem nextP_eq (l : List UInt8) : nextP l = if l.length = 0 then faultP l 0
  else if bt l 0 = 34 then ⟨0, 0, 0⟩
  else if bt l 0 = 92 then escapedP l
  else if bt l 0 < 32 then faultP l 0
  else if decOk (l.take 4) then ⟨(dec (l.take 4)).1, (dec (l.take 4)).2, 0⟩
  else if beginsP l then faultP l l.length
  else faultP l 0 := rfl

set_option maxHeartbeats 4000000 in
set_option maxRecDepth 100000 in
theorem quoNext_any (A : Option Addr) (n cap : Nat) (l : List UInt8) (w : World) (hT : Tabs w) (hR : RdB w A n l) (hn : n ≤ 17592186044416) (hcap : n ≤ cap) :
    Calls Tryd.prog 54 #[.slice A n cap] w fun e w' => e = .returned (pcVal (nextP l)) ∧ Below w.heap.size w w' := by
  have hl := Lib.hid hR.1
  have HR := Lib.hid hR
  have HT := Lib.hid hT
  have hb1 : Below w.heap.size w (w.alloc (.cells #[.int .i64 0, .int .i64 0, .int .i64 0] 73)) := (Below.refl _ w).alloc (Nat.le_refl _) _
  have k3 := fun (m : Nat) (w' : World) (hw : RdB w' A n l) (hm : m ≤ n) => quoFault_any _ n cap _ m w' hw hn hm
  have K3 := Lib.hid k3
  clear k3
  have hep := nextP_eq l
  rw [hl.out] at hep
  have HP := Lib.hid hep
  clear hep
  generalize nextP l = V at HP ⊢
  by_cases h0 : n = 0
  · rw [if_pos h0] at HP
    subst h0
    clear hR hT hn hcap
    go_enter Tryd.func54, Tryd.ntmps54
    go_wp2_with (go_at_call 49; refine (K3.out 0 _ (HR.out.below hb1) (by omega)).mono ?_)
    rintro e w2 ⟨rfl, hb2⟩
    rw [← HP.out]
    unfold pcVal
    have O := Lib.hid ((Own3.new 73 w (.int .i64 0) (.int .i64 0) (.int .i64 0)).below hb2)
    obtain ⟨c0, c1, c2, f0, f1, f2⟩ := O.out.cells
    go_wp2
    exact ret_piece rfl (OwnP.put O.out V) rfl rfl ⟨rfl, below_put3 (below_new hb2) (Nat.le_refl _) _ _ _⟩
  rw [if_neg h0] at HP
  have h1 : 0 < n := by omega
  have k4 := fun (w' : World) (hw : RdB w' A n l) => quoEscaped_any _ n cap _ w' hw hn hcap h1
  have K4 := Lib.hid k4
  clear k4
  obtain ⟨b, off, rfl, hb, hc⟩ := hR.2 h1
  have hc0 := hc 0 h1
  rw [Nat.add_zero] at hc0
  have hx := bt_lt l 0
  generalize hC : bt l 0 = c at HP hc0 hx
  clear hC hc
  have d0 : ((n : Int) == 0) = false := by simp; omega
  by_cases q1 : c = 34
  · rw [if_pos q1] at HP
    subst q1
    clear hn hcap hR hT
    go_enter Tryd.func54, Tryd.ntmps54
    go_wp2
    exact ret_piece rfl (OwnP.mk' ⟨0, 0, 0⟩ rfl rfl rfl) rfl rfl ⟨by rw [HP.out], (Below.refl _ w).alloc (Nat.le_refl _) _⟩
  rw [if_neg q1] at HP
  have d1 : ((c : Int) == 34) = false := eq_false_of (k := 34) q1
  by_cases q2 : c = 92
  · rw [if_pos q2] at HP
    subst q2
    clear hn hcap hR hT q1
    go_enter Tryd.func54, Tryd.ntmps54
    go_wp2_with (go_at_call 56; refine (K4.out _ (HR.out.below hb1)).mono ?_)
    rintro e w2 ⟨rfl, hb2⟩
    rw [← HP.out]
    unfold pcVal
    have O := Lib.hid ((Own3.new 73 w (.int .i64 0) (.int .i64 0) (.int .i64 0)).below hb2)
    obtain ⟨c0, c1, c2, f0, f1, f2⟩ := O.out.cells
    go_wp2
    exact ret_piece rfl (OwnP.put O.out V) rfl rfl ⟨rfl, below_put3 (below_new hb2) (Nat.le_refl _) _ _ _⟩
  rw [if_neg q2] at HP
  have d2 : ((c : Int) == 92) = false := eq_false_of (k := 92) q2
  clear q1 q2
  by_cases q3 : c < 32
  · rw [if_pos q3] at HP
    have d3 : decide ((c : Int) < 32) = true := decide_eq_true (by omega)
    clear hn hcap hR hT
    go_enter Tryd.func54, Tryd.ntmps54
    go_wp2_with (go_at_call 49; refine (K3.out 0 _ (HR.out.below hb1) (by omega)).mono ?_)
    rintro e w2 ⟨rfl, hb2⟩
    rw [← HP.out]
    unfold pcVal
    have O := Lib.hid ((Own3.new 73 w (.int .i64 0) (.int .i64 0) (.int .i64 0)).below hb2)
    obtain ⟨c0, c1, c2, f0, f1, f2⟩ := O.out.cells
    go_wp2
    exact ret_piece rfl (OwnP.put O.out V) rfl rfl ⟨rfl, below_put3 (below_new hb2) (Nat.le_refl _) _ _ _⟩
  rw [if_neg q3] at HP
  have d3 : decide ((c : Int) < 32) = false := decide_eq_false (by omega)
  clear q3
  have k5 := fun (w' : World) (ht : Tabs w') (hw : RdB w' (some ⟨b, off, none⟩) n l) => quoBegins_any _ n cap _ w' ht hw h1 hn
  have K5 := Lib.hid k5
  clear k5
  have hdv : decVal (l.take 4) = .tuple #[.int .i64 ((dec (l.take 4)).1 : Int), .int .i64 ((dec (l.take 4)).2 : Int), .bool (decOk (l.take 4))] := rfl
  have k6 := fun (w' : World) (ht : Tabs w') => utfDecode_any ⟨(l.take 4).toArray⟩ w' ht
  rw [show (⟨(l.take 4).toArray⟩ : ByteArray).data.toList = l.take 4 from rfl, hdv] at k6
  clear hdv
  have K6 := Lib.hid k6
  clear k6
  have HT4 := Lib.hid (hR.take (m := min 4 n) (Nat.min_le_right _ _))
  have ht4 : l.take (min 4 n) = l.take 4 := by
    by_cases h : 4 ≤ n
    · rw [Nat.min_eq_left h]
    · rw [Nat.min_eq_right (by omega), List.take_of_length_le (by rw [hl.out]; exact Nat.le_refl _), List.take_of_length_le (by rw [hl.out]; omega)]
  rw [ht4] at HT4
  clear ht4
  have hcv := fun (w' : World) (hw : RdB w' (some ⟨b, off, none⟩) (min 4 n) (l.take 4)) => hw.conv (cap := cap) Tryd.underlying52 Tryd.underlying5 Tryd.underlying9 (by omega)
  have hcv1 := hcv _ (HT4.out.below hb1)
  clear hcv hn hR hT
  have hmin : min (4 : Int) (n : Int) = ((min 4 n : Nat) : Int) := by omega
  go_enter Tryd.func54, Tryd.ntmps54
  generalize dec (l.take 4) = D at K6 HP
  generalize decOk (l.take 4) = Q at K6 HP
  generalize beginsP l = G at K5 HP
  obtain ⟨p, q⟩ := D
  simp only [] at K6 HP
  clear h0
  go_wp2_with fail
  refine (K6.out _ (HT.out.below hb1 (Nat.le_refl _))).mono ?_
  rintro e w3 ⟨rfl, hb3⟩
  have hB3 : Below w.heap.size w w3 := below_new hb3
  cases Q with
  | true =>
    rw [if_pos rfl] at HP
    have O := Lib.hid ((Own3.new 73 w (.int .i64 0) (.int .i64 0) (.int .i64 0)).below hb3)
    obtain ⟨c0, c1, c2, f0, f1, f2⟩ := O.out.cells
    go_wp2
    exact ret_piece rfl (OwnP.put O.out ⟨p, q, 0⟩) rfl rfl ⟨by rw [HP.out], below_put3 hB3 (Nat.le_refl _) _ _ _⟩
  | false =>
    rw [if_neg (by decide)] at HP
    go_wp2_with (go_at_call 57; refine (K5.out _ (HT.out.below hB3 (Nat.le_refl _)) (HR.out.below hB3)).mono ?_)
    rintro e w4 ⟨rfl, hb4⟩
    have hb34 := hb3.trans (hb4.mono hb3.size)
    clear hb3 hb4 hB3
    have hb3 := hb34
    clear hb34
    have hB3 : Below w.heap.size w w4 := below_new hb3
    cases G with
    | true =>
      rw [if_pos rfl] at HP
      go_wp2_with (go_at_call 49; refine (K3.out n _ (HR.out.below hB3) (Nat.le_refl _)).mono ?_)
      rintro e w2 ⟨rfl, hb2⟩
      rw [← HP.out]
      unfold pcVal
      have O := Lib.hid (((Own3.new 73 w (.int .i64 0) (.int .i64 0) (.int .i64 0)).below hb3).below hb2)
      obtain ⟨c0, c1, c2, f0, f1, f2⟩ := O.out.cells
      go_wp2
      exact ret_piece rfl (OwnP.put O.out V) rfl rfl ⟨rfl, below_put3 (below_new (hb3.trans (hb2.mono hb3.size))) (Nat.le_refl _) _ _ _⟩
    | false =>
      rw [if_neg (by decide)] at HP
      go_wp2_with (go_at_call 49; refine (K3.out 0 _ (HR.out.below hB3) (Nat.zero_le _)).mono ?_)
      rintro e w2 ⟨rfl, hb2⟩
      rw [← HP.out]
      unfold pcVal
      have O := Lib.hid (((Own3.new 73 w (.int .i64 0) (.int .i64 0) (.int .i64 0)).below hb3).below hb2)
      obtain ⟨c0, c1, c2, f0, f1, f2⟩ := O.out.cells
      go_wp2
      exact ret_piece rfl (OwnP.put O.out V) rfl rfl ⟨rfl, below_put3 (below_new (hb3.trans (hb2.mono hb3.size))) (Nat.le_refl _) _ _ _⟩

end Go.Proofs.YtnbfikfngekfoaaDoor
