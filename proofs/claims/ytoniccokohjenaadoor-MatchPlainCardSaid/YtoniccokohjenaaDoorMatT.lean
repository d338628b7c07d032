/-
  The matcher in memory; the walk of its test (chapter 19).
-/
import Derived.Test.YtoniccokohjenaaDoorMatD
import Derived.StillTailTactics
namespace Go.Proofs.YtoniccokohjenaaDoor
open Go.RowKit

abbrev TMt : TypeId := 59
/-- the matcher's flags and signs, to be read -/
structure MtR (W : World) (g : Nat) (m : Md) (l : List Int) (sv tv kv : Value) : Prop where
  heap : ∃ A c, W.heap[g]? = some (.cells #[.bool m.all, .bool m.fold, .bool m.free, .bool m.dot, .bool m.some, sv, .slice A l.length c, tv, kv] TMt (0, 0)) ∧ RdI W A l.length l
  pts : ∀ c ∈ l, 0 ≤ c ∧ c ≤ 1114111
  len : l.length ≤ 100000
theorem MtR.below {W W' : World} {g : Nat} {m : Md} {l : List Int} {sv tv kv : Value} (h : MtR W g m l sv tv kv) (hb : Below W.heap.size W W') : MtR W' g m l sv tv kv := by
  obtain ⟨A, c, h1, h2⟩ := h.heap
  exact ⟨⟨A, c, heap_call h1 hb, h2.below hb⟩, h.pts, h.len⟩
theorem wordly_quiet (c : Int) (w : World) (h0 : 0 ≤ c) (h1 : c ≤ 1114111) (n : Nat) :
    Calls Tryd.prog 35 #[.int .i64 c] (w.drewN n) fun e w' => e = .returned (.bool (wrdI c)) ∧ ∃ m, w' = w.drewN m :=
  (mtWordly_any c (w.drewN n) h0 h1).mono fun _ _ h => ⟨h.1, n, h.2.symm⟩
/-- where a test leads, as the program tells it -/
def optI (o : Option Nat) : Int := match o with | some j => (j : Int) | none => -1

set_option maxHeartbeats 4000000 in
set_option maxRecDepth 100000 in
theorem mtTest_any (g : Nat) (m : Md) (l : List Int) (sv tv kv : Value) (x : Rx) (A : Option Addr) (c i : Nat) (w : World) (h : MtR w g m l sv tv kv) (hi : i ≤ l.length) (hT : KT w x A c)
    (hx : (x.kids = [] ∧ (x.kind = 1 ∨ x.kind = 2 ∨ x.kind = 4 ∨ x.kind = 5 ∨ x.kind = 10 ∨ x.kind = 11 ∨ x.kind = 12)) ∨ (x.kind = 3 ∧ (∀ k ∈ x.kids, LfS k) ∧ x.kids.length ≤ 1000000)) :
    Calls Tryd.prog 28 #[.pointer (some ⟨g, 0, none⟩), rxAgg x (.slice A x.kids.length c), .int .i64 (i : Int)] w (RetE (.int .i64 (optI (testR m l x i))) fun w' => Below w.heap.size w w') := by
  have hb1 : ∀ o, Below w.heap.size w (w.alloc o) := fun o => (Below.refl _ w).alloc (Nat.le_refl _) o
  obtain ⟨LA, Lc, hg, hR⟩ := h.heap
  have hpts := h.pts
  have hll := h.len
  obtain ⟨W1, hW1⟩ : ∃ W1, W1 = w.alloc (.cells (rxCells x (.slice A x.kids.length c)).toArray TRx) := ⟨_, rfl⟩
  have hbw : Below w.heap.size w W1 := by rw [hW1]; exact hb1 _
  have hg1 := heap_call hg hbw
  have hx1 : W1.heap[w.heap.size]? = some (.cells (rxCells x (.slice A x.kids.length c)).toArray TRx (0, 0)) := by rw [hW1]; exact Go.heap_alloc_new w _
  have hR1 := hR.below hbw
  have HBW := Lib.hid hbw
  obtain ⟨N, hN⟩ : ∃ N, N = l.length := ⟨_, rfl⟩
  have c6 : W1.cell? ⟨g, 6, none⟩ = some (.slice LA N Lc) := by rw [Lib.cell_of_heap hg1, hN]; rfl
  have d0 : W1.cell? ⟨w.heap.size, 0, none⟩ = some (.int .i64 (x.kind : Int)) := by rw [Lib.cell_of_heap hx1]; rfl
  have d7 : W1.cell? ⟨w.heap.size, 7, none⟩ = some (.bool x.not) := by rw [Lib.cell_of_heap hx1]; rfl
  simp only [rxCells] at hW1
  simp only [rxAgg]
  by_cases k10 : x.kind = 10
  · have ht : testR m l x i = if i = 0 then some i else none := by unfold testR; rw [if_pos k10]
    rw [ht]
    rw [k10] at d0
    clear hg hg1 hR hR1 hx1 hx hT h ht k10
    by_cases h0 : i = 0
    · subst h0
      rw [if_pos rfl]
      go_enter Tryd.func28, Tryd.ntmps28
      go_upto_region 1 with fail
      rw [← hW1]
      clear hW1
      go_wp2
      go_ret
      exact ⟨rfl, HBW.out⟩
    · rw [if_neg h0]
      have z : ((i : Int) == 0) = false := beq_false_of_ne (by omega)
      go_enter Tryd.func28, Tryd.ntmps28
      go_upto_region 1 with fail
      rw [← hW1]
      clear hW1
      go_wp2
      go_ret
      exact ⟨rfl, HBW.out⟩
  by_cases k11 : x.kind = 11
  · have ht : testR m l x i = if i = N then some i else none := by unfold testR; rw [if_neg k10, if_pos k11, hN]
    rw [ht]
    rw [k11] at d0
    clear hg hg1 hR hR1 hx1 hx hT h ht k10 k11
    by_cases h0 : i = N
    · rw [if_pos h0]
      subst h0
      go_enter Tryd.func28, Tryd.ntmps28
      go_upto_region 1 with fail
      rw [← hW1]
      clear hW1
      go_wp2
      go_ret
      exact ⟨rfl, HBW.out⟩
    · rw [if_neg h0]
      have z : ((i : Int) == (N : Int)) = false := beq_false_of_ne (by omega)
      go_enter Tryd.func28, Tryd.ntmps28
      go_upto_region 1 with fail
      rw [← hW1]
      clear hW1
      go_wp2
      go_ret
      exact ⟨rfl, HBW.out⟩
  have y10 : ((x.kind : Int) == 10) = false := beq_false_of_ne (by omega)
  have y11 : ((x.kind : Int) == 11) = false := beq_false_of_ne (by omega)
  have cat : ∀ j, j < N → ∃ b off, LA = some ⟨b, off, none⟩ ∧ W1.cell? ⟨b, off + j, none⟩ = some (.int .i64 (l.getD j 0)) ∧ 0 ≤ l.getD j 0 ∧ l.getD j 0 ≤ 1114111 := fun j hj => by
    obtain ⟨b, off, e, _, hat⟩ := hR1.2 (by omega)
    have hm : l.getD j 0 ∈ l := by rw [List.getD_eq_getElem?_getD, List.getElem?_eq_getElem (by omega)]; exact List.getElem_mem _
    exact ⟨b, off, e, hat j (by omega), hpts _ hm⟩
  by_cases k12 : x.kind = 12
  · have ht : testR m l x i = if ((wrdBe l i != wrdAt l i) != x.not) then some i else none := by unfold testR; rw [if_neg k10, if_neg k11, if_pos k12]
    rw [ht]
    rw [k12] at d0
    have HTS := Lib.hid ht
    have nb : N ≤ 100000 := by omega
    clear hg hg1 hR hR1 hx1 hx hT h ht hll k10 k11 k12 y10 y11
    obtain ⟨nt, hnt⟩ : ∃ b, b = x.not := ⟨_, rfl⟩
    rw [← hnt] at d7 hW1 ⊢
    by_cases h1 : 0 < i
    · obtain ⟨j, rfl⟩ : ∃ j, i = j + 1 := ⟨i - 1, by omega⟩
      obtain ⟨b, off, rfl, ca, ca0, ca1⟩ := cat j (by omega)
      have kwa := wordly_quiet (l.getD j 0) W1 ca0 ca1
      have hbe : wrdBe l (j + 1) = wrdI (l.getD j 0) := by unfold wrdBe; rw [decide_eq_true h1, Bool.true_and]; rfl
      rw [hbe]
      generalize l.getD j 0 = va at *
      generalize wrdI va = ra at *
      obtain ⟨vi, hvi⟩ : ∃ vi : Int, ((j + 1 : Nat) : Int) = vi := ⟨_, rfl⟩
      have HV := Lib.hid hvi
      have zj : decide ((0 : Int) < vi) = true := decide_eq_true (by omega)
      have tn : vi.toNat = j + 1 := by omega
      have e1 : vi - 1 = (j : Int) := by omega
      have v0 : 0 ≤ vi := by omega
      have j0 : (0 : Int) ≤ (j : Int) := by omega
      have j1 : (j : Int) < (N : Int) := by omega
      rw [hvi]
      by_cases h2 : j + 1 < N
      · obtain ⟨b', off', e', cb, cb0, cb1⟩ := cat (j + 1) h2
        injection e' with e'
        injection e' with e1 e2 _
        subst e1 e2
        have kwb := wordly_quiet (l.getD (j + 1) 0) W1 cb0 cb1
        have hat : wrdAt l (j + 1) = wrdI (l.getD (j + 1) 0) := by unfold wrdAt; rw [← hN, decide_eq_true h2, Bool.true_and]
        rw [hat]
        generalize l.getD (j + 1) 0 = vb at *
        generalize wrdI vb = rb at *
        have zn : decide (vi < (N : Int)) = true := decide_eq_true (by omega)
        have vn : vi < (N : Int) := by omega
        have KA := Lib.hid kwa
        have KB := Lib.hid kwb
        clear kwa kwb cat hbe hat hpts HTS hnt hvi h1 hi h2 hN
        cases ra <;> cases rb <;> cases nt <;>
        · go_enter Tryd.func28, Tryd.ntmps28
          go_upto_region 1 with fail
          rw [← hW1]
          clear hW1
          go_upto_region 11 with fail
          go_quiet (first | (go_at_call 35; with_reducible exact KA.out _) | (go_at_call 35; with_reducible exact KB.out _))
          go_wp2
          go_ret
          exact ⟨by first | rfl | (rw [← HV.out]; rfl), HBW.out.trans ⟨rfl, rfl, rfl, Nat.le_refl _, fun _ _ => rfl⟩⟩
      · have hat : wrdAt l (j + 1) = false := by unfold wrdAt; rw [← hN, decide_eq_false h2, Bool.false_and]
        rw [hat]
        have zn : decide (vi < (N : Int)) = false := decide_eq_false (by omega)
        have KA := Lib.hid kwa
        clear kwa cat hbe hat hpts HTS hnt hvi h1 hi h2 hN
        cases ra <;> cases nt <;>
        · go_enter Tryd.func28, Tryd.ntmps28
          go_upto_region 1 with fail
          rw [← hW1]
          clear hW1
          go_upto_region 11 with fail
          go_quiet ((go_at_call 35; with_reducible exact KA.out _))
          go_wp2
          go_ret
          exact ⟨by first | rfl | (rw [← HV.out]; rfl), HBW.out.trans ⟨rfl, rfl, rfl, Nat.le_refl _, fun _ _ => rfl⟩⟩
    · obtain rfl : i = 0 := by omega
      have hbe : wrdBe l 0 = false := by unfold wrdBe; rw [decide_eq_false h1, Bool.false_and]
      rw [hbe]
      obtain ⟨vi, hvi⟩ : ∃ vi : Int, ((0 : Nat) : Int) = vi := ⟨_, rfl⟩
      have HV := Lib.hid hvi
      have zj : decide ((0 : Int) < vi) = false := decide_eq_false (by omega)
      have tn : vi.toNat = 0 := by omega
      have v0 : 0 ≤ vi := by omega
      rw [hvi]
      by_cases h2 : 0 < N
      · obtain ⟨b, off, rfl, cb, cb0, cb1⟩ := cat 0 h2
        rw [Nat.add_zero] at cb
        have kwb := wordly_quiet (l.getD 0 0) W1 cb0 cb1
        have hat : wrdAt l 0 = wrdI (l.getD 0 0) := by unfold wrdAt; rw [← hN, decide_eq_true h2, Bool.true_and]
        rw [hat]
        generalize l.getD 0 0 = vb at *
        generalize wrdI vb = rb at *
        have zn : decide (vi < (N : Int)) = true := decide_eq_true (by omega)
        have vn : vi < (N : Int) := by omega
        have KB := Lib.hid kwb
        clear kwb cat hbe hat hpts HTS hnt hvi h1 hi h2 hN
        cases rb <;> cases nt <;>
        · go_enter Tryd.func28, Tryd.ntmps28
          go_upto_region 1 with fail
          rw [← hW1]
          clear hW1
          go_upto_region 11 with fail
          go_quiet ((go_at_call 35; with_reducible exact KB.out _))
          go_wp2
          go_ret
          exact ⟨by first | rfl | (rw [← HV.out]; rfl), HBW.out.trans ⟨rfl, rfl, rfl, Nat.le_refl _, fun _ _ => rfl⟩⟩
      · have hat : wrdAt l 0 = false := by unfold wrdAt; rw [← hN, decide_eq_false h2, Bool.false_and]
        rw [hat]
        have zn : decide (vi < (N : Int)) = false := decide_eq_false (by omega)
        clear cat hbe hat hpts HTS hnt hvi h1 hi h2 hN
        cases nt <;>
        · go_enter Tryd.func28, Tryd.ntmps28
          go_upto_region 1 with fail
          rw [← hW1]
          clear hW1
          go_upto_region 11 with fail
          go_quiet (fail)
          go_wp2
          go_ret
          exact ⟨by first | rfl | (rw [← HV.out]; rfl), HBW.out.trans ⟨rfl, rfl, rfl, Nat.le_refl _, fun _ _ => rfl⟩⟩
  · have y12 : ((x.kind : Int) == 12) = false := beq_false_of_ne (by omega)
    have ht : testR m l x i = if i < N ∧ hasR m x (l.getD i 0) = true then some (i + 1) else none := by unfold testR; rw [if_neg k10, if_neg k11, if_neg k12, hN]
    rw [ht]
    have nb : N ≤ 100000 := by omega
    obtain ⟨vi, hvi⟩ : ∃ vi : Int, (i : Int) = vi := ⟨_, rfl⟩
    have v0 : 0 ≤ vi := by omega
    by_cases h2 : i < N
    · obtain ⟨b, off, rfl, ci, ci0, ci1⟩ := cat i h2
      have kh : ∀ n : Nat, Calls Tryd.prog 36 #[mdAgg m, rxAgg x (.slice A x.kids.length c), .int .i64 (l.getD i 0)] (W1.drewN n) (RetE (.bool (hasR m x (l.getD i 0))) fun w' => Below (W1.drewN n).heap.size (W1.drewN n) w') := fun n => by
        rcases hx with ⟨_, hk⟩ | ⟨h3, hk, hkl⟩
        · have e : hasR m x (l.getD i 0) = hasL m x (l.getD i 0) := by unfold hasR; rw [if_neg (by omega)]
          rw [e]
          exact mtHasL_any m x _ _ _ ci0 ci1 (by omega)
        · exact mtHasS_any m x A c _ _ ci0 ci1 h3 hk hkl (KX.below hT (hbw.trans ⟨rfl, rfl, rfl, Nat.le_refl _, fun _ _ => rfl⟩))
      have KH := Lib.hid kh
      have c0 : W1.cell? ⟨g, 0, none⟩ = some (.bool m.all) := by rw [Lib.cell_of_heap hg1]; rfl
      have c1 : W1.cell? ⟨g, 1, none⟩ = some (.bool m.fold) := by rw [Lib.cell_of_heap hg1]; rfl
      have c2 : W1.cell? ⟨g, 2, none⟩ = some (.bool m.free) := by rw [Lib.cell_of_heap hg1]; rfl
      have c3 : W1.cell? ⟨g, 3, none⟩ = some (.bool m.dot) := by rw [Lib.cell_of_heap hg1]; rfl
      have c4 : W1.cell? ⟨g, 4, none⟩ = some (.bool m.some) := by rw [Lib.cell_of_heap hg1]; rfl
      have d1 : W1.cell? ⟨w.heap.size, 1, none⟩ = some (.int .i64 x.rune) := by rw [Lib.cell_of_heap hx1]; rfl
      have d2 : W1.cell? ⟨w.heap.size, 2, none⟩ = some (.int .i64 x.to) := by rw [Lib.cell_of_heap hx1]; rfl
      have d3 : W1.cell? ⟨w.heap.size, 3, none⟩ = some (.slice A x.kids.length c) := by rw [Lib.cell_of_heap hx1]; rfl
      have d4 : W1.cell? ⟨w.heap.size, 4, none⟩ = some (.int .i64 x.min) := by rw [Lib.cell_of_heap hx1]; rfl
      have d5 : W1.cell? ⟨w.heap.size, 5, none⟩ = some (.int .i64 x.max) := by rw [Lib.cell_of_heap hx1]; rfl
      have d6 : W1.cell? ⟨w.heap.size, 6, none⟩ = some (.bool x.lazy) := by rw [Lib.cell_of_heap hx1]; rfl
      have d8 : W1.cell? ⟨w.heap.size, 8, none⟩ = some (.int .i64 (x.group : Int)) := by rw [Lib.cell_of_heap hx1]; rfl
      have d9 : W1.cell? ⟨w.heap.size, 9, none⟩ = some (.string ⟨x.name.toArray⟩) := by rw [Lib.cell_of_heap hx1]; rfl
      have zn : decide (vi < (N : Int)) = true := decide_eq_true (by omega)
      have vn : vi < (N : Int) := by omega
      have tn : vi.toNat = i := by omega
      have HV := Lib.hid hvi
      have o1 : optI (if i < N ∧ true = true then some (i + 1) else none) = vi + 1 := by
        rw [if_pos ⟨h2, rfl⟩]; show ((i + 1 : Nat) : Int) = vi + 1; omega
      have o0 : optI (if i < N ∧ false = true then some (i + 1) else none) = -1 := by rw [if_neg (fun h => by cases h.2)]; rfl
      have O1 := Lib.hid o1
      have O0 := Lib.hid o0
      generalize hasR m x (l.getD i 0) = ra at *
      generalize l.getD i 0 = va at *
      rw [hvi]
      simp only [mdAgg, rxAgg] at KH
      clear hg hg1 hR hR1 hx1 hx hT h ht hll hvi h2 cat hpts hN hi k10 k11 k12 kh
      clear o1 o0
      cases ra <;>
      · first | rw [O1.out] | rw [O0.out]
        go_enter Tryd.func28, Tryd.ntmps28
        go_upto_region 1 with fail
        rw [← hW1]
        clear hW1
        go_upto_region 3 with fail
        go_still_tail 20, (by kernel_rfl)
        go_wp2_with (go_at_call 36; refine (KH.out _).mono ?_)
        rintro e w3 ⟨rfl, hb3⟩
        have HB3 := Lib.hid ((show Below w.heap.size w (W1.drewN 1) from HBW.out.trans ⟨rfl, rfl, rfl, Nat.le_refl _, fun _ _ => rfl⟩).trans (hb3.mono HBW.out.size))
        clear hb3
        go_wp2
        go_ret
        exact ⟨rfl, HB3.out⟩
    · have zn : decide (vi < (N : Int)) = false := decide_eq_false (by omega)
      rw [if_neg (fun h => h2 h.1), hvi]
      clear hg hg1 hR hR1 hx1 hx hT h ht hll hvi h2 cat hpts hN hi k10 k11 k12
      go_enter Tryd.func28, Tryd.ntmps28
      go_upto_region 1 with fail
      rw [← hW1]
      clear hW1
      go_upto_region 3 with fail
      go_quiet (fail)
      go_wp2
      go_ret
      exact ⟨rfl, HBW.out.trans ⟨rfl, rfl, rfl, Nat.le_refl _, fun _ _ => rfl⟩⟩

end Go.Proofs.YtoniccokohjenaaDoor
