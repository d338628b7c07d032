/-
  The contract of quote's Read (chapter 5).
-/
import Derived.Test.YtnbfikfngekfoaaDoorQuoK
namespace Go.Proofs.YtnbfikfngekfoaaDoor
open Go.RowKit Go.Shelf

theorem readP_no (l : List UInt8) (h : l.length = 0 ∨ bt l 0 ≠ 34) : readP l = ([], 0, (faultP l 0).err) := by unfold readP; rw [if_pos h]

theorem res3 {w w1 : World} (h : Below (((w.alloc (.cells #[.string ⟨#[]⟩] 9)).alloc (.cells #[.int .i64 0] 3)).alloc (.cells #[.int .i64 0] 25)).heap.size (((w.alloc (.cells #[.string ⟨#[]⟩] 9)).alloc (.cells #[.int .i64 0] 3)).alloc (.cells #[.int .i64 0] 25)) w1) :
    w1.heap[w.heap.size]? = some (.cells #[.string ⟨#[]⟩] 9 (0, 0)) ∧ w1.heap[w.heap.size + 1]? = some (.cells #[.int .i64 0] 3 (0, 0)) ∧ w1.heap[w.heap.size + 1 + 1]? = some (.cells #[.int .i64 0] 25 (0, 0)) ∧ w.heap.size + 1 + 1 < w1.heap.size := by
  have hs := h.size
  simp only [World.size_alloc] at hs
  refine ⟨(h.block _ (by simp; omega)).trans (heap_al _ (heap_al _ (heap_nw _ rfl))), (h.block _ (by simp)).trans (heap_al _ (heap_nw _ (by simp))), (h.block _ (by simp)).trans (heap_nw _ (by simp)), by omega⟩

set_option maxHeartbeats 4000000 in
set_option maxRecDepth 100000 in
theorem quoRead_no (A : Option Addr) (n cap : Nat) (l : List UInt8) (w : World) (hR : RdB w A n l) (hn : n ≤ 17592186044416) (hq : n = 0 ∨ bt l 0 ≠ 34) :
    Calls Tryd.prog 46 #[.slice A n cap] w fun e w' => e = .returned (readV l) ∧ Below w.heap.size w w' := by
  have hl := Lib.hid hR.1
  have HR := Lib.hid hR
  have hrv := readV_of l _ _ _ (readP_no l (by rw [hl.out]; exact hq))
  have HRV := Lib.hid hrv
  have k3 := fun (w' : World) (hw : RdB w' A n l) => quoFault_any _ n cap _ 0 w' hw hn (Nat.zero_le _)
  have K3 := Lib.hid k3
  have hB3 : Below w.heap.size w (((w.alloc (.cells #[.string ⟨#[]⟩] 9)).alloc (.cells #[.int .i64 0] 3)).alloc (.cells #[.int .i64 0] 25)) :=
    (((Below.refl _ w).alloc (Nat.le_refl _) _).alloc (by simp) _).alloc (by simp; omega) _
  clear k3 hrv
  generalize faultP l 0 = p at K3 HRV
  by_cases h0 : n = 0
  · subst h0
    clear hn hq hR
    go_enter Tryd.func46, Tryd.ntmps46
    go_wp2_with (go_at_call 49; refine (K3.out _ (HR.out.below hB3)).mono ?_)
    rintro e w1 ⟨rfl, hb1⟩
    obtain ⟨j2, j3, j4, hz⟩ := res3 hb1
    unfold pcVal
    obtain ⟨W2, hW2⟩ : ∃ W2, w1.alloc (.cells #[.int .i64 (p.point : Int), .int .i64 (p.size : Int), .int .i64 (p.err : Int)] 73) = W2 := ⟨_, rfl⟩
    have j2 : W2.heap[w.heap.size]? = some (.cells #[.string ⟨#[]⟩] 9 (0, 0)) := by rw [← hW2]; exact heap_al _ j2
    have j3 : W2.heap[w.heap.size + 1]? = some (.cells #[.int .i64 0] 3 (0, 0)) := by rw [← hW2]; exact heap_al _ j3
    have j4 : W2.heap[w.heap.size + 1 + 1]? = some (.cells #[.int .i64 0] 25 (0, 0)) := by rw [← hW2]; exact heap_al _ j4
    have jp : OwnP W2 w1.heap.size p := by rw [← hW2]; exact Own3.new _ w1 _ _ _
    have hB2 : Below w.heap.size w W2 := by rw [← hW2]; exact (hB3.trans (hb1.mono hB3.size)).alloc (by omega) _
    obtain ⟨_, _, e2, _, _, _⟩ := Own3.cells jp
    have J2 := Lib.hid j2
    have J3 := Lib.hid j3
    have J4 := Lib.hid j4
    have HB2 := Lib.hid hB2
    have d2 : W2.cell? ⟨w.heap.size, 0, none⟩ = some (.string ⟨#[]⟩) := by rw [Lib.cell_of_heap j2]; rfl
    have d3 : W2.cell? ⟨w.heap.size + 1, 0, none⟩ = some (.int .i64 0) := by rw [Lib.cell_of_heap j3]; rfl
    have d4 : W2.cell? ⟨w.heap.size + 1 + 1, 0, none⟩ = some (.int .i64 0) := by rw [Lib.cell_of_heap j4]; rfl
    have g2 : W2.frozen? ⟨w.heap.size, 0, none⟩ = false := Lib.frozen_of_heap j2 0
    have g3 : W2.frozen? ⟨w.heap.size + 1, 0, none⟩ = false := Lib.frozen_of_heap j3 0
    have g4 : W2.frozen? ⟨w.heap.size + 1 + 1, 0, none⟩ = false := Lib.frozen_of_heap j4 0
    clear j2 j3 j4 jp hB2
    go_wp2
    clear hW2
    go_region
    all_goals go_wp2
    all_goals
      have hr := put3_heap J2.out J3.out J4.out (.string ⟨#[]⟩) (.int .i64 0) (.int .i64 (p.err : Int))
      refine bodyPost_ret (read_results rfl rfl rfl (x := .string ⟨#[]⟩) (y := .int .i64 0) (z := .int .i64 (p.err : Int)) ((Lib.cell_of_heap (w := World.drew _) hr.1 0).trans rfl) ((Lib.cell_of_heap (w := World.drew _) hr.2.1 0).trans rfl) ((Lib.cell_of_heap (w := World.drew _) hr.2.2 0).trans rfl)) rfl ⟨by rw [HRV.out]; rfl, ?_⟩
      exact (((HB2.out.setCell (p := ⟨w.heap.size, 0, none⟩) (Nat.le_refl _) _).setCell (p := ⟨w.heap.size + 1, 0, none⟩) (by simp) _).setCell (p := ⟨w.heap.size + 1 + 1, 0, none⟩) (by simp; omega) _).drew
  · have h0' : 0 < n := by omega
    have hq' : bt l 0 ≠ 34 := hq.resolve_left h0
    obtain ⟨b, off, rfl, hb, hc⟩ := hR.2 h0'
    have hc0 := hc 0 h0'
    rw [Nat.add_zero] at hc0
    have hx := bt_lt l 0
    generalize bt l 0 = c at hc0 hq' hx
    have d0 : ((n : Int) == 0) = false := by simp; omega
    have d1 : ((c : Int) != 34) = true := by simp; omega
    have hc3 := cell_al (.cells #[.int .i64 0] 25) (cell_al (.cells #[.int .i64 0] 3) (cell_al (.cells #[.string ⟨#[]⟩] 9) hc0))
    clear hn hq hR hc hq' h0
    go_enter Tryd.func46, Tryd.ntmps46
    go_wp2_with (go_at_call 49; refine (K3.out _ (HR.out.below hB3)).mono ?_)
    rintro e w1 ⟨rfl, hb1⟩
    obtain ⟨j2, j3, j4, hz⟩ := res3 hb1
    unfold pcVal
    obtain ⟨W2, hW2⟩ : ∃ W2, w1.alloc (.cells #[.int .i64 (p.point : Int), .int .i64 (p.size : Int), .int .i64 (p.err : Int)] 73) = W2 := ⟨_, rfl⟩
    have j2 : W2.heap[w.heap.size]? = some (.cells #[.string ⟨#[]⟩] 9 (0, 0)) := by rw [← hW2]; exact heap_al _ j2
    have j3 : W2.heap[w.heap.size + 1]? = some (.cells #[.int .i64 0] 3 (0, 0)) := by rw [← hW2]; exact heap_al _ j3
    have j4 : W2.heap[w.heap.size + 1 + 1]? = some (.cells #[.int .i64 0] 25 (0, 0)) := by rw [← hW2]; exact heap_al _ j4
    have jp : OwnP W2 w1.heap.size p := by rw [← hW2]; exact Own3.new _ w1 _ _ _
    have hB2 : Below w.heap.size w W2 := by rw [← hW2]; exact (hB3.trans (hb1.mono hB3.size)).alloc (by omega) _
    obtain ⟨_, _, e2, _, _, _⟩ := Own3.cells jp
    have J2 := Lib.hid j2
    have J3 := Lib.hid j3
    have J4 := Lib.hid j4
    have HB2 := Lib.hid hB2
    have d2 : W2.cell? ⟨w.heap.size, 0, none⟩ = some (.string ⟨#[]⟩) := by rw [Lib.cell_of_heap j2]; rfl
    have d3 : W2.cell? ⟨w.heap.size + 1, 0, none⟩ = some (.int .i64 0) := by rw [Lib.cell_of_heap j3]; rfl
    have d4 : W2.cell? ⟨w.heap.size + 1 + 1, 0, none⟩ = some (.int .i64 0) := by rw [Lib.cell_of_heap j4]; rfl
    have g2 : W2.frozen? ⟨w.heap.size, 0, none⟩ = false := Lib.frozen_of_heap j2 0
    have g3 : W2.frozen? ⟨w.heap.size + 1, 0, none⟩ = false := Lib.frozen_of_heap j3 0
    have g4 : W2.frozen? ⟨w.heap.size + 1 + 1, 0, none⟩ = false := Lib.frozen_of_heap j4 0
    clear j2 j3 j4 jp hB2
    go_wp2
    clear hW2
    go_region
    all_goals go_wp2
    all_goals
      have hr := put3_heap J2.out J3.out J4.out (.string ⟨#[]⟩) (.int .i64 0) (.int .i64 (p.err : Int))
      refine bodyPost_ret (read_results rfl rfl rfl (x := .string ⟨#[]⟩) (y := .int .i64 0) (z := .int .i64 (p.err : Int)) ((Lib.cell_of_heap (w := World.drew _) hr.1 0).trans rfl) ((Lib.cell_of_heap (w := World.drew _) hr.2.1 0).trans rfl) ((Lib.cell_of_heap (w := World.drew _) hr.2.2 0).trans rfl)) rfl ⟨by rw [HRV.out]; rfl, ?_⟩
      exact (((HB2.out.setCell (p := ⟨w.heap.size, 0, none⟩) (Nat.le_refl _) _).setCell (p := ⟨w.heap.size + 1, 0, none⟩) (by simp) _).setCell (p := ⟨w.heap.size + 1 + 1, 0, none⟩) (by simp; omega) _).drew

theorem quoRead_any (A : Option Addr) (n cap : Nat) (l : List UInt8) (w : World) (hT : Tabs w) (hR : RdB w A n l) (hn : n ≤ 17592186044416) (hcap : n ≤ cap) :
    Calls Tryd.prog 46 #[.slice A n cap] w fun e w' => e = .returned (readV l) ∧ Below w.heap.size w w' := by
  by_cases h : n = 0 ∨ bt l 0 ≠ 34
  · exact quoRead_no A n cap l w hR hn h
  · exact quoRead_yes A n cap l w hT hR hn hcap (by omega) (by omega)

end Go.Proofs.YtnbfikfngekfoaaDoor
