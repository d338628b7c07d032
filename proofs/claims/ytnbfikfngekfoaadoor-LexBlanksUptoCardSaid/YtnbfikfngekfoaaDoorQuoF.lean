/-
  The walk of quote's numbered where there is room for two (chapter 5).
-/
import Derived.Test.YtnbfikfngekfoaaDoorQuoC
namespace Go.Proofs.YtnbfikfngekfoaaDoor
open Go.RowKit

theorem eq_true_of {c k : Nat} (h : c = k) : (((c : Nat) : Int) == (k : Int)) = true := by simp [h]
theorem eq_false_of {c k : Nat} (h : ¬ c = k) : (((c : Nat) : Int) == (k : Int)) = false := by simp; omega

set_option maxHeartbeats 4000000 in
set_option maxRecDepth 100000 in
theorem quoNumbered_2 (A : Option Addr) (n cap : Nat) (l : List UInt8) (w : World) (hR : RdB w A n l) (hn : n ≤ 17592186044416) (hcap : n ≤ cap) (h12 : 12 ≤ n) :
    Calls Tryd.prog 59 #[.slice A n cap] w fun e w' => e = .returned (pcVal (numberedP l)) ∧ Below w.heap.size w w' := by
  have hl := Lib.hid hR.1
  have HR := Lib.hid hR
  obtain ⟨b, off, rfl, hb, hc⟩ := hR.2 (by omega)
  have HC := Lib.hid (hR.cut' (i := 2) (by omega))
  have HC8 := Lib.hid (hR.cut' (i := 8) (by omega))
  clear hR
  have hc6 := hc 6 (by omega)
  have hc7 := hc 7 (by omega)
  clear hc
  have hnp : numberedP l = if (fourL (l.drop 2)).2 < 4 then faultP l (2 + (fourL (l.drop 2)).2)
    else if (fourL (l.drop 2)).1 < 55296 ∨ 57343 < (fourL (l.drop 2)).1 then ⟨(fourL (l.drop 2)).1, 6, 0⟩
    else if (fourL (l.drop 2)).1 < 56320 ∧ bt l 6 = 92 ∧ bt l 7 = 117 ∧ (fourL (l.drop 8)).2 = 4 ∧ 56320 ≤ (fourL (l.drop 8)).1 ∧ (fourL (l.drop 8)).1 ≤ 57343 then ⟨65536 + ((fourL (l.drop 2)).1 - 55296) * 1024 + (fourL (l.drop 8)).1 - 56320, 12, 0⟩
    else ⟨65533, 6, 0⟩ := by
    unfold numberedP
    have : 12 ≤ l.length := by rw [hl.out]; exact h12
    simp only [this, true_and]
  have HP := Lib.hid hnp
  clear hnp
  have k1 := fun (w' : World) (hw : RdB w' (some ⟨b, off + 2, none⟩) (n - 2) (l.drop 2)) => quoFour_any _ (n - 2) (cap - 2) _ w' hw (by omega)
  have K1 := Lib.hid k1
  clear k1
  have k2 := fun (w' : World) (hw : RdB w' (some ⟨b, off + 8, none⟩) (n - 8) (l.drop 8)) => quoFour_any _ (n - 8) (cap - 8) _ w' hw (by omega)
  have K2 := Lib.hid k2
  clear k2
  have k3 := fun (m : Nat) (w' : World) (hw : RdB w' (some ⟨b, off, none⟩) n l) (hm : m ≤ n) => quoFault_any _ n cap _ m w' hw hn hm
  have K3 := Lib.hid k3
  clear k3
  have hf := fourL_le (l.drop 2)
  have hg := fourL_le (l.drop 8)
  have hx6 := bt_lt l 6
  have hx7 := bt_lt l 7
  generalize numberedP l = V at HP ⊢
  generalize hF : fourL (l.drop 2) = F at HP hf K1
  generalize hG : fourL (l.drop 8) = G at HP hg K2
  obtain ⟨h, m⟩ := F
  obtain ⟨k, m'⟩ := G
  simp only [] at HP hf hg
  obtain ⟨hf1, hf2, _⟩ := hf
  obtain ⟨hg1, hg2, _⟩ := hg
  clear hF hG
  generalize bt l 6 = c6 at HP hc6 hx6
  generalize bt l 7 = c7 at HP hc7 hx7
  have hb1 : Below w.heap.size w (w.alloc (.cells #[.int .i64 0, .int .i64 0, .int .i64 0] 73)) := (Below.refl _ w).alloc (Nat.le_refl _) _
  have d4 : decide ((12 : Int) ≤ (n : Int)) = true := decide_eq_true (by omega)
  have hcap2 : 8 < cap := by omega
  have hm2 : m ≤ n - 2 := by omega
  clear hn
  go_enter Tryd.func59, Tryd.ntmps59
  go_wp2_with fail
  refine (K1.out _ (HC.out.below hb1)).mono ?_
  rintro e w1 ⟨rfl, rfl⟩
  by_cases hm : m < 4
  · go_wp2_with (go_at_call 49; refine (K3.out (2 + m) _ (HR.out.below hb1) (by omega)).mono ?_)
    rintro e w2 ⟨rfl, hb2⟩
    rw [if_pos hm] at HP
    rw [← HP.out]
    unfold pcVal
    have O := Lib.hid ((Own3.new 73 w (.int .i64 0) (.int .i64 0) (.int .i64 0)).below hb2)
    obtain ⟨c0, c1, c2, f0, f1, f2⟩ := O.out.cells
    go_wp2
    exact ret_piece rfl (OwnP.put O.out V) rfl rfl ⟨rfl, below_put3 (below_new hb2) (Nat.le_refl _) _ _ _⟩
  · rw [if_neg hm] at HP
    obtain rfl : m = 4 := by omega
    clear hm hf2 hm2
    by_cases hh : h < 55296 ∨ 57343 < h
    · rw [if_pos hh] at HP
      rcases hh with hh | hh
      all_goals
        go_wp2
        exact ret_piece (p := ⟨h, 6, 0⟩) rfl (Own3.new _ w _ _ _) rfl rfl ⟨by rw [HP.out], (Below.refl _ w).alloc (Nat.le_refl _) _⟩
    · rw [if_neg hh] at HP
      have h1 : (55296 : Int) ≤ (h : Int) := by omega
      have h2 : (h : Int) ≤ 57343 := by omega
      have d1 : decide ((h : Int) < 55296) = false := decide_eq_false (by omega)
      have d2 : decide ((57343 : Int) < (h : Int)) = false := decide_eq_false (by omega)
      clear hh hf1
      by_cases ha : h < 56320 ∧ c6 = 92 ∧ c7 = 117
      · obtain ⟨hx, rfl, rfl⟩ := ha
        have d3 : decide ((h : Int) < 56320) = true := decide_eq_true (by omega)
        simp only [hx, true_and] at HP
        clear hx hx6 hx7
        go_wp2_with fail
        refine (K2.out _ (HC8.out.below hb1)).mono ?_
        rintro e w1 ⟨rfl, rfl⟩
        by_cases hy : m' = 4 ∧ 56320 ≤ k ∧ k ≤ 57343
        · obtain ⟨rfl, hk1, hk2⟩ := hy
          have e1 : decide ((56320 : Int) ≤ (k : Int)) = true := decide_eq_true (by omega)
          have e2 : decide ((k : Int) ≤ 57343) = true := decide_eq_true (by omega)
          simp only [hk1, hk2, true_and, if_true] at HP
          have hk1' : (56320 : Int) ≤ (k : Int) := by omega
          have hk2' : (k : Int) ≤ 57343 := by omega
          clear hk1 hk2 hg1 hg2
          go_wp2
          exact ret_piece rfl (OwnP.mk' ⟨65536 + (h - 55296) * 1024 + k - 56320, 12, 0⟩ (by show _ = ((65536 + (h - 55296) * 1024 + k - 56320 : Nat) : Int); omega) rfl rfl) rfl rfl ⟨by rw [HP.out], (Below.refl _ w).alloc (Nat.le_refl _) _⟩
        · rw [if_neg hy] at HP
          by_cases q1 : m' = 4
          · subst q1
            by_cases q2 : k < 56320
            · have e1 : decide ((56320 : Int) ≤ (k : Int)) = false := decide_eq_false (by omega)
              clear hy q2 hg1 hg2
              go_wp2
              exact ret_piece (p := ⟨65533, 6, 0⟩) rfl (Own3.new _ w _ _ _) rfl rfl ⟨by rw [HP.out], (Below.refl _ w).alloc (Nat.le_refl _) _⟩
            · have e1 : decide ((56320 : Int) ≤ (k : Int)) = true := decide_eq_true (by omega)
              have e2 : decide ((k : Int) ≤ 57343) = false := decide_eq_false (by omega)
              clear hy q2 hg1 hg2
              go_wp2
              exact ret_piece (p := ⟨65533, 6, 0⟩) rfl (Own3.new _ w _ _ _) rfl rfl ⟨by rw [HP.out], (Below.refl _ w).alloc (Nat.le_refl _) _⟩
          · have e0 : ((m' : Int) == 4) = false := eq_false_of q1
            clear hy q1 hg1 hg2
            go_wp2
            exact ret_piece (p := ⟨65533, 6, 0⟩) rfl (Own3.new _ w _ _ _) rfl rfl ⟨by rw [HP.out], (Below.refl _ w).alloc (Nat.le_refl _) _⟩
      · rw [if_neg (fun hq => ha ⟨hq.1, hq.2.1, hq.2.2.1⟩)] at HP
        by_cases q1 : h < 56320
        · have d3 : decide ((h : Int) < 56320) = true := decide_eq_true (by omega)
          by_cases q2 : c6 = 92
          · have q3 : ¬ c7 = 117 := fun e => ha ⟨q1, q2, e⟩
            have d5 : ((c6 : Int) == 92) = true := eq_true_of q2
            have d6 : ((c7 : Int) == 117) = false := eq_false_of q3
            clear ha q1 q2 q3 hx6 hx7
            go_wp2
            exact ret_piece (p := ⟨65533, 6, 0⟩) rfl (Own3.new _ w _ _ _) rfl rfl ⟨by rw [HP.out], (Below.refl _ w).alloc (Nat.le_refl _) _⟩
          · have d5 : ((c6 : Int) == 92) = false := eq_false_of q2
            clear ha q1 q2 hx6 hx7
            go_wp2
            exact ret_piece (p := ⟨65533, 6, 0⟩) rfl (Own3.new _ w _ _ _) rfl rfl ⟨by rw [HP.out], (Below.refl _ w).alloc (Nat.le_refl _) _⟩
        · have d3 : decide ((h : Int) < 56320) = false := decide_eq_false (by omega)
          clear ha q1 hx6 hx7
          go_wp2
          exact ret_piece (p := ⟨65533, 6, 0⟩) rfl (Own3.new _ w _ _ _) rfl rfl ⟨by rw [HP.out], (Below.refl _ w).alloc (Nat.le_refl _) _⟩

end Go.Proofs.YtnbfikfngekfoaaDoor
