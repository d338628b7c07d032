/-
  The walk of quote's escaped (chapter 5): what begins with a backslash.
-/
import Derived.Test.YtnbfikfngekfoaaDoorQuoF
namespace Go.Proofs.YtnbfikfngekfoaaDoor
open Go.RowKit

theorem quoNumbered_any (A : Option Addr) (n cap : Nat) (l : List UInt8) (w : World) (hR : RdB w A n l) (hn : n ≤ 17592186044416) (hcap : n ≤ cap) (h2 : 2 ≤ n) :
    Calls Tryd.prog 59 #[.slice A n cap] w fun e w' => e = .returned (pcVal (numberedP l)) ∧ Below w.heap.size w w' := by
  by_cases h12 : 12 ≤ n
  · exact quoNumbered_2 A n cap l w hR hn hcap h12
  · by_cases hc : cap = 2
    · obtain rfl : n = 2 := by omega
      subst hc
      exact quoNumbered_0 A l w hR
    · exact quoNumbered_1 A n cap l w hR hn h2 (by omega) (by omega)

set_option maxHeartbeats 4000000 in
set_option maxRecDepth 100000 in
theorem quoEscaped_any (A : Option Addr) (n cap : Nat) (l : List UInt8) (w : World) (hR : RdB w A n l) (hn : n ≤ 17592186044416) (hcap : n ≤ cap) (h1 : 1 ≤ n) :
    Calls Tryd.prog 56 #[.slice A n cap] w fun e w' => e = .returned (pcVal (escapedP l)) ∧ Below w.heap.size w w' := by
  have hl := Lib.hid hR.1
  have HR := Lib.hid hR
  obtain ⟨b, off, rfl, hb, hc⟩ := hR.2 (by omega)
  clear hR
  have hb1 : Below w.heap.size w (w.alloc (.cells #[.int .i64 0, .int .i64 0, .int .i64 0] 73)) := (Below.refl _ w).alloc (Nat.le_refl _) _
  have k3 := fun (w' : World) (hw : RdB w' (some ⟨b, off, none⟩) n l) => quoFault_any _ n cap _ 1 w' hw hn h1
  have K3 := Lib.hid k3
  clear k3
  have hep : escapedP l = if n < 2 then faultP l 1
    else if bt l 1 = 34 ∨ bt l 1 = 92 ∨ bt l 1 = 47 then ⟨bt l 1, 2, 0⟩
    else if bt l 1 = 98 then ⟨8, 2, 0⟩
    else if bt l 1 = 102 then ⟨12, 2, 0⟩
    else if bt l 1 = 110 then ⟨10, 2, 0⟩
    else if bt l 1 = 114 then ⟨13, 2, 0⟩
    else if bt l 1 = 116 then ⟨9, 2, 0⟩
    else if bt l 1 = 117 then numberedP l
    else faultP l 1 := by unfold escapedP; rw [hl.out]
  have HP := Lib.hid hep
  clear hep
  generalize escapedP l = V at HP ⊢
  by_cases h2 : n < 2
  · rw [if_pos h2] at HP
    rw [← HP.out] at K3
    clear hc hn hcap
    go_enter Tryd.func56, Tryd.ntmps56
    go_wp2_with (go_at_call 49; refine (K3.out _ (HR.out.below hb1)).mono ?_)
    rintro e w2 ⟨rfl, hb2⟩
    unfold pcVal
    have O := Lib.hid ((Own3.new 73 w (.int .i64 0) (.int .i64 0) (.int .i64 0)).below hb2)
    obtain ⟨c0, c1, c2, f0, f1, f2⟩ := O.out.cells
    go_wp2
    exact ret_piece rfl (OwnP.put O.out V) rfl rfl ⟨rfl, below_put3 (below_new hb2) (Nat.le_refl _) _ _ _⟩
  rw [if_neg h2] at HP
  have h2' : 1 < n := by omega
  have hc1 := hc 1 h2'
  have k4 := fun (w' : World) (hw : RdB w' (some ⟨b, off, none⟩) n l) => quoNumbered_any _ n cap _ w' hw hn hcap h2'
  have K4 := Lib.hid k4
  clear k4
  have hx := bt_lt l 1
  generalize hC : bt l 1 = c at HP hc1 hx
  clear hc hC h2 hn hcap h1
  by_cases q1 : c = 34 ∨ c = 92 ∨ c = 47
  · rw [if_pos q1] at HP
    rcases q1 with rfl | rfl | rfl
    · go_enter Tryd.func56, Tryd.ntmps56
      go_wp2
      exact ret_piece rfl (OwnP.mk' ⟨34, 2, 0⟩ rfl rfl rfl) rfl rfl ⟨by rw [HP.out], (Below.refl _ w).alloc (Nat.le_refl _) _⟩
    · go_enter Tryd.func56, Tryd.ntmps56
      go_wp2
      exact ret_piece rfl (OwnP.mk' ⟨92, 2, 0⟩ rfl rfl rfl) rfl rfl ⟨by rw [HP.out], (Below.refl _ w).alloc (Nat.le_refl _) _⟩
    · go_enter Tryd.func56, Tryd.ntmps56
      go_wp2
      exact ret_piece rfl (OwnP.mk' ⟨47, 2, 0⟩ rfl rfl rfl) rfl rfl ⟨by rw [HP.out], (Below.refl _ w).alloc (Nat.le_refl _) _⟩
  rw [if_neg q1] at HP
  by_cases q2 : c = 98
  · rw [if_pos q2] at HP
    subst q2
    clear q1 
    go_enter Tryd.func56, Tryd.ntmps56
    go_wp2
    exact ret_piece rfl (OwnP.mk' ⟨8, 2, 0⟩ rfl rfl rfl) rfl rfl ⟨by rw [HP.out], (Below.refl _ w).alloc (Nat.le_refl _) _⟩
  rw [if_neg q2] at HP
  by_cases q3 : c = 102
  · rw [if_pos q3] at HP
    subst q3
    clear q1 q2
    go_enter Tryd.func56, Tryd.ntmps56
    go_wp2
    exact ret_piece rfl (OwnP.mk' ⟨12, 2, 0⟩ rfl rfl rfl) rfl rfl ⟨by rw [HP.out], (Below.refl _ w).alloc (Nat.le_refl _) _⟩
  rw [if_neg q3] at HP
  by_cases q4 : c = 110
  · rw [if_pos q4] at HP
    subst q4
    clear q1 q2 q3
    go_enter Tryd.func56, Tryd.ntmps56
    go_wp2
    exact ret_piece rfl (OwnP.mk' ⟨10, 2, 0⟩ rfl rfl rfl) rfl rfl ⟨by rw [HP.out], (Below.refl _ w).alloc (Nat.le_refl _) _⟩
  rw [if_neg q4] at HP
  by_cases q5 : c = 114
  · rw [if_pos q5] at HP
    subst q5
    clear q1 q2 q3 q4
    go_enter Tryd.func56, Tryd.ntmps56
    go_wp2
    exact ret_piece rfl (OwnP.mk' ⟨13, 2, 0⟩ rfl rfl rfl) rfl rfl ⟨by rw [HP.out], (Below.refl _ w).alloc (Nat.le_refl _) _⟩
  rw [if_neg q5] at HP
  by_cases q6 : c = 116
  · rw [if_pos q6] at HP
    subst q6
    clear q1 q2 q3 q4 q5
    go_enter Tryd.func56, Tryd.ntmps56
    go_wp2
    exact ret_piece rfl (OwnP.mk' ⟨9, 2, 0⟩ rfl rfl rfl) rfl rfl ⟨by rw [HP.out], (Below.refl _ w).alloc (Nat.le_refl _) _⟩
  rw [if_neg q6] at HP
  by_cases q8 : c = 117
  · rw [if_pos q8] at HP
    subst q8
    rw [← HP.out] at K4
    clear q1 q2 q3 q4 q5 q6
    go_enter Tryd.func56, Tryd.ntmps56
    go_wp2_with (go_at_call 59; refine (K4.out _ (HR.out.below hb1)).mono ?_)
    rintro e w2 ⟨rfl, hb2⟩
    unfold pcVal
    have O := Lib.hid ((Own3.new 73 w (.int .i64 0) (.int .i64 0) (.int .i64 0)).below hb2)
    obtain ⟨c0, c1, c2, f0, f1, f2⟩ := O.out.cells
    go_wp2
    exact ret_piece rfl (OwnP.put O.out V) rfl rfl ⟨rfl, below_put3 (below_new hb2) (Nat.le_refl _) _ _ _⟩
  rw [if_neg q8] at HP
  rw [← HP.out] at K3
  have e34 : ((c : Int) == 34) = false := eq_false_of (k := 34) (by omega)
  have e92 : ((c : Int) == 92) = false := eq_false_of (k := 92) (by omega)
  have e47 : ((c : Int) == 47) = false := eq_false_of (k := 47) (by omega)
  have e98 : ((c : Int) == 98) = false := eq_false_of (k := 98) (by omega)
  have e102 : ((c : Int) == 102) = false := eq_false_of (k := 102) (by omega)
  have e110 : ((c : Int) == 110) = false := eq_false_of (k := 110) (by omega)
  have e114 : ((c : Int) == 114) = false := eq_false_of (k := 114) (by omega)
  have e116 : ((c : Int) == 116) = false := eq_false_of (k := 116) (by omega)
  have e117 : ((c : Int) == 117) = false := eq_false_of (k := 117) (by omega)
  clear q1 q2 q3 q4 q5 q6 q8
  go_enter Tryd.func56, Tryd.ntmps56
  go_wp2_with (go_at_call 49; refine (K3.out _ (HR.out.below hb1)).mono ?_)
  rintro e w2 ⟨rfl, hb2⟩
  unfold pcVal
  have O := Lib.hid ((Own3.new 73 w (.int .i64 0) (.int .i64 0) (.int .i64 0)).below hb2)
  obtain ⟨c0, c1, c2, f0, f1, f2⟩ := O.out.cells
  go_wp2
  exact ret_piece rfl (OwnP.put O.out V) rfl rfl ⟨rfl, below_put3 (below_new hb2) (Nat.le_refl _) _ _ _⟩

end Go.Proofs.YtnbfikfngekfoaaDoor
