/-
  The walk of match's read (chapter 19).
-/
import Derived.Test.YtoniccokohjenaaDoorMatD
import Derived.Test.YtoniccokohjenaaDoorUtfH
import Derived.Test.YtoniccokohjenaaDoorRegU
namespace Go.Proofs.YtoniccokohjenaaDoor
open Go.RowKit

/-- what is read so far: the results' variable, the flags, the iterator -/
structure RdM (w W : World) (s : ByteArray) (k : Nat) (m : Md) : Prop where
  below : Below w.heap.size w W
  res : W.heap[w.heap.size]? = some (.cells (mdCells md0).toArray TMd (0, 0))
  md : W.heap[w.heap.size + 1]? = some (.cells (mdCells m).toArray TMd (0, 0))
  it : W.heap[w.heap.size + 1 + 1]? = some (.stringIter s k)
theorem RdM.next {w W : World} {s : ByteArray} {k : Nat} {m : Md} (h : RdM w W s k m) (k' : Nat) : RdM w (W.iterAt (w.heap.size + 1 + 1) s k') s k' m :=
  ⟨Lib.below_iterAt h.below (by omega) s k', (Lib.iterAt_other W _ _ s k' (by omega)).trans h.res, (Lib.iterAt_other W _ _ s k' (by omega)).trans h.md, Lib.iterAt_heap W _ s k k' h.it⟩
theorem RdM.set {w W : World} {s : ByteArray} {k j : Nat} {m m' : Md} (h : RdM w W s k m) (e : (mdCells m).set j (.bool true) = mdCells m') : RdM w (W.setCell ⟨w.heap.size + 1, j, none⟩ (.bool true)) s k m' :=
  ⟨h.below.setCell (p := ⟨w.heap.size + 1, j, none⟩) (by show w.heap.size ≤ w.heap.size + 1; omega) _, (rheap_far (p := ⟨w.heap.size + 1, j, none⟩) (by show w.heap.size + 1 ≠ w.heap.size; omega)).trans h.res, lheap_set h.md e, (rheap_far (p := ⟨w.heap.size + 1, j, none⟩) (by show w.heap.size + 1 ≠ w.heap.size + 1 + 1; omega)).trans h.it⟩
theorem RdM.cell {w W : World} {s : ByteArray} {k : Nat} {m : Md} (h : RdM w W s k m) {j : Nat} {v : Value} (hj : (mdCells m)[j]? = some v) : W.cell? ⟨w.heap.size + 1, j, none⟩ = some v := by
  rw [Lib.cell_of_heap h.md]; simpa using hj
theorem RdM.rcell {w W : World} {s : ByteArray} {k : Nat} {m : Md} (h : RdM w W s k m) {j : Nat} {v : Value} (hj : (mdCells md0)[j]? = some v) : W.cell? ⟨w.heap.size, j, none⟩ = some v := by
  rw [Lib.cell_of_heap h.res]; simpa using hj
theorem readF_no {m : Md} {c : UInt8} {r : List UInt8} (h1 : c ≠ 103) (h2 : c ≠ 105) (h3 : c ≠ 120) (h4 : c ≠ 115) (h5 : c ≠ 110) : readF m (c :: r) = none := by
  rw [readF, if_neg h1, if_neg h2, if_neg h3, if_neg h4, if_neg h5]
/-- what read answers -/
def IsRead (l : List UInt8) (w : World) (e : Ending) (w' : World) : Prop :=
  ∃ m, e = .returned (.tuple #[mdAgg m, .bool (readF md0 l).isSome]) ∧ (∀ m', readF md0 l = some m' → m' = m) ∧ Below w.heap.size w w'

theorem dec_high (c : UInt8) (R : List UInt8) (h : ¬ c.toNat < 128) : 128 ≤ (dec (c :: R)).1 := by
  have e : dec (c :: R) = Lib.decodeN (c :: R).length (bt (c :: R) 0) (bt (c :: R) 1) (bt (c :: R) 2) (bt (c :: R) 3) := by unfold dec; rw [if_neg (by simp)]
  have h0 : bt (c :: R) 0 = c.toNat := rfl
  rw [e]
  rcases decodeN_cases (c :: R).length (bt (c :: R) 0) (bt (c :: R) 1) (bt (c :: R) 2) (bt (c :: R) 3) (bt_lt _ 0) (bt_lt _ 1) (bt_lt _ 2) (bt_lt _ 3) with ⟨a1, e⟩ | ⟨a1, a2, a3, a4, a5, a6, e⟩ | ⟨a1, a2, a3, a4, a5, a6, a7, a8, a9, e⟩ | ⟨a1, a2, a3, a4, a5, a6, a7, a8, a9, a10, a11, e⟩ | ⟨a1, e⟩
  · omega
  · rw [e]; simp only; omega
  · rw [e]; simp only; omega
  · rw [e]; simp only; omega
  · rw [e]; decide
/-- the results' variable is written -/
theorem md_five {w W : World} {B r : Nat} (h : W.heap[r]? = some (.cells (mdCells md0).toArray TMd (0, 0))) (hb : Below B w W) (hB : B ≤ r) (m : Md) :
    (((((W.setCell ⟨r, 0, none⟩ (.bool m.all)).setCell ⟨r, 1, none⟩ (.bool m.fold)).setCell ⟨r, 2, none⟩ (.bool m.free)).setCell ⟨r, 3, none⟩ (.bool m.dot)).setCell ⟨r, 4, none⟩ (.bool m.some)).heap[r]? = some (.cells (mdCells m).toArray TMd (0, 0)) ∧
    Below B w (((((W.setCell ⟨r, 0, none⟩ (.bool m.all)).setCell ⟨r, 1, none⟩ (.bool m.fold)).setCell ⟨r, 2, none⟩ (.bool m.free)).setCell ⟨r, 3, none⟩ (.bool m.dot)).setCell ⟨r, 4, none⟩ (.bool m.some)) := by
  have h0 := lheap_set (k := 0) (v := .bool m.all) h rfl
  have h1 := lheap_set (k := 1) (v := .bool m.fold) h0 rfl
  have h2 := lheap_set (k := 2) (v := .bool m.free) h1 rfl
  have h3 := lheap_set (k := 3) (v := .bool m.dot) h2 rfl
  have h4 := lheap_set (k := 4) (v := .bool m.some) h3 rfl
  exact ⟨h4, ((((hb.setCell (p := ⟨r, 0, none⟩) hB _).setCell (p := ⟨r, 1, none⟩) hB _).setCell (p := ⟨r, 2, none⟩) hB _).setCell (p := ⟨r, 3, none⟩) hB _).setCell (p := ⟨r, 4, none⟩) hB _⟩
theorem ret_md2 {fn : Func} (hr : fn.results = #[.cell 2 TMd, .tmp 3]) {a : Act} {W : World} {r : Nat} {m : Md} {v : Value} (hh : W.heap[r]? = some (.cells (mdCells m).toArray TMd (0, 0)))
    (ht : a.tmps.getD 2 undef = .pointer (some ⟨r, 0, none⟩)) (h3 : a.tmps.getD 3 undef = v) (hd : a.defers = []) {R : Ending → World → Prop} (hR : R (.returned (.tuple #[mdAgg m, v])) W) : bodyPost Tryd.prog fn R .ret a W := by
  have ht' : a.tmps[2]?.getD undef = .pointer (some ⟨r, 0, none⟩) := by simpa using ht
  have h3' : a.tmps[3]?.getD undef = v := by simpa using h3
  refine bodyPost_ret (v := .tuple #[mdAgg m, v]) ?_ hd hR
  obtain ⟨d, hd, hrow⟩ := underMd
  have l0 := run_loadVar_mid W r 0 TMd (mdCells m) d (range_of hh) hd hrow (by rw [sizeMd]; rfl)
  simp [results, hr, ht', h3', asAddr, l0, Result.andThen, md_agg]

set_option maxHeartbeats 4000000 in
set_option maxRecDepth 100000 in
theorem mtRead_any (s : ByteArray) (w : World) :
    Calls Tryd.prog 10 #[.string s] w (IsRead s.data.toList w) := by
  have HSZ := Lib.hid (Lib.size_eq s)
  have hb0 : RdM w (((w.alloc (.cells (mdCells md0).toArray TMd)).alloc (.cells (mdCells md0).toArray TMd)).iter s 0) s 0 md0 := by
    have s1 := World.size_alloc w (.cells (mdCells md0).toArray TMd)
    have s2 := World.size_alloc (w.alloc (.cells (mdCells md0).toArray TMd)) (.cells (mdCells md0).toArray TMd)
    have e : ((w.alloc (.cells (mdCells md0).toArray TMd)).alloc (.cells (mdCells md0).toArray TMd)).iter s 0 = ((w.alloc (.cells (mdCells md0).toArray TMd)).alloc (.cells (mdCells md0).toArray TMd)).alloc (.stringIter s 0) := rfl
    rw [e]
    refine ⟨(((Below.refl _ w).alloc (Nat.le_refl _) _).alloc (by omega) _).alloc (by omega) _, ?_, ?_, ?_⟩
    · rw [Below.heap_alloc _ _ _ (by omega), Below.heap_alloc _ _ _ (by omega)]; exact Go.heap_alloc_new w _
    · rw [Below.heap_alloc _ _ _ (by omega), show w.heap.size + 1 = (w.alloc (.cells (mdCells md0).toArray TMd)).heap.size by omega]; exact Go.heap_alloc_new _ _
    · rw [show w.heap.size + 1 + 1 = ((w.alloc (.cells (mdCells md0).toArray TMd)).alloc (.cells (mdCells md0).toArray TMd)).heap.size by omega]; exact Go.heap_alloc_new _ _
  have HB0 := Lib.hid hb0
  clear hb0
  go_enter Tryd.func10, Tryd.ntmps10
  go_wp2
  go_loopw [] (fun wr => ∃ (k : Nat) (m : Md), k ≤ s.size ∧ RdM w wr s k m ∧ Hid (readF md0 s.data.toList = readF m (s.data.toList.drop k))) (fun wr => s.size - wr.iterPos (w.heap.size + 1 + 1))
  case atStart => exact ⟨0, md0, Nat.zero_le _, HB0.out, rfl⟩
  case round =>
    obtain ⟨k, m, hk, hr, hv⟩ := hrel
    have HR := Lib.hid hr
    have HV := Lib.hid hv.out
    by_cases hlt : k < s.size
    · have hne : (s.data.toList.drop k).length ≠ 0 := by rw [List.length_drop, ← HSZ.out]; omega
      have hn := dec_n _ hne
      have hl : (s.data.toList.drop k).length = s.size - k := by rw [List.length_drop, ← HSZ.out]
      have hn3 : (dec (s.data.toList.drop k)).2 ≤ s.size - k := by rw [← hl]; exact hn.2.2
      have hnx : ∀ ty, (Instr.next (.pointer (some ⟨w.heap.size + 1 + 1, 0, none⟩)) true ty).run Tryd.prog wr = _ := fun ty => next_at wr (w.heap.size + 1 + 1) s k ty hr.it hlt
      obtain ⟨c, R, hcr⟩ : ∃ c R, s.data.toList.drop k = c :: R := by
        cases h : s.data.toList.drop k with
        | nil => rw [h] at hne; exact absurd rfl hne
        | cons c R => exact ⟨c, R, rfl⟩
      have hR : R = s.data.toList.drop (k + 1) := by rw [← List.drop_drop, hcr]; rfl
      rw [hcr] at hnx hn hn3
      have HV2 := Lib.hid (show readF md0 s.data.toList = readF m (c :: R) by rw [HV.out, hcr])
      have hle := dec_le (c :: R)
      have hasc : c.toNat < 128 → (dec (c :: R)).1 = c.toNat ∧ (dec (c :: R)).2 = 1 := fun h => by rw [dec_one c R h]; exact ⟨rfl, rfl⟩
      have hhi : ¬ c.toNat < 128 → 128 ≤ (dec (c :: R)).1 := fun h => dec_high c R h
      have HIT := Lib.hid hr.it
      clear hv hr hne hl hcr
      generalize (dec (c :: R)).1 = r at *
      generalize (dec (c :: R)).2 = n at *
      have hr : (r : Int) ≤ 1114111 := by omega
      by_cases h103 : c = 103
      · subst h103
        obtain ⟨rfl, rfl⟩ := hasc (by decide)
        have HN := Lib.hid (show readF md0 s.data.toList = readF { m with all := true } (s.data.toList.drop (k + 1)) by rw [HV2.out, readF, if_pos rfl, hR])
        have HR1 := Lib.hid (HR.out.next (k + 1))
        have cX := HR1.out.cell (j := 0) rfl
        have fX := Lib.frozen_of_heap HR1.out.md 0
        have HR2 := Lib.hid (HR1.out.set (j := 0) (m' := { m with all := true }) rfl)
        clear hasc hhi hR
        go_wp2_with fail
        go_roundw
        case rel => exact ⟨k + 1, _, by omega, HR2.out, HN.out⟩
        case measure => rw [iterPos_of HR2.out.it, iterPos_of HIT.out]; omega
      by_cases h105 : c = 105
      · subst h105
        obtain ⟨rfl, rfl⟩ := hasc (by decide)
        have HN := Lib.hid (show readF md0 s.data.toList = readF { m with fold := true } (s.data.toList.drop (k + 1)) by rw [HV2.out, readF, if_neg (by decide), if_pos rfl, hR])
        have HR1 := Lib.hid (HR.out.next (k + 1))
        have cX := HR1.out.cell (j := 1) rfl
        have fX := Lib.frozen_of_heap HR1.out.md 1
        have HR2 := Lib.hid (HR1.out.set (j := 1) (m' := { m with fold := true }) rfl)
        clear hasc hhi hR
        go_wp2_with fail
        go_roundw
        case rel => exact ⟨k + 1, _, by omega, HR2.out, HN.out⟩
        case measure => rw [iterPos_of HR2.out.it, iterPos_of HIT.out]; omega
      by_cases h120 : c = 120
      · subst h120
        obtain ⟨rfl, rfl⟩ := hasc (by decide)
        have HN := Lib.hid (show readF md0 s.data.toList = readF { m with free := true } (s.data.toList.drop (k + 1)) by rw [HV2.out, readF, if_neg (by decide), if_neg (by decide), if_pos rfl, hR])
        have HR1 := Lib.hid (HR.out.next (k + 1))
        have cX := HR1.out.cell (j := 2) rfl
        have fX := Lib.frozen_of_heap HR1.out.md 2
        have HR2 := Lib.hid (HR1.out.set (j := 2) (m' := { m with free := true }) rfl)
        clear hasc hhi hR
        go_wp2_with fail
        go_roundw
        case rel => exact ⟨k + 1, _, by omega, HR2.out, HN.out⟩
        case measure => rw [iterPos_of HR2.out.it, iterPos_of HIT.out]; omega
      by_cases h115 : c = 115
      · subst h115
        obtain ⟨rfl, rfl⟩ := hasc (by decide)
        have HN := Lib.hid (show readF md0 s.data.toList = readF { m with dot := true } (s.data.toList.drop (k + 1)) by rw [HV2.out, readF, if_neg (by decide), if_neg (by decide), if_neg (by decide), if_pos rfl, hR])
        have HR1 := Lib.hid (HR.out.next (k + 1))
        have cX := HR1.out.cell (j := 3) rfl
        have fX := Lib.frozen_of_heap HR1.out.md 3
        have HR2 := Lib.hid (HR1.out.set (j := 3) (m' := { m with dot := true }) rfl)
        clear hasc hhi hR
        go_wp2_with fail
        go_roundw
        case rel => exact ⟨k + 1, _, by omega, HR2.out, HN.out⟩
        case measure => rw [iterPos_of HR2.out.it, iterPos_of HIT.out]; omega
      by_cases h110 : c = 110
      · subst h110
        obtain ⟨rfl, rfl⟩ := hasc (by decide)
        have HN := Lib.hid (show readF md0 s.data.toList = readF { m with some := true } (s.data.toList.drop (k + 1)) by rw [HV2.out, readF, if_neg (by decide), if_neg (by decide), if_neg (by decide), if_neg (by decide), if_pos rfl, hR])
        have HR1 := Lib.hid (HR.out.next (k + 1))
        have cX := HR1.out.cell (j := 4) rfl
        have fX := Lib.frozen_of_heap HR1.out.md 4
        have HR2 := Lib.hid (HR1.out.set (j := 4) (m' := { m with some := true }) rfl)
        clear hasc hhi hR
        go_wp2_with fail
        go_roundw
        case rel => exact ⟨k + 1, _, by omega, HR2.out, HN.out⟩
        case measure => rw [iterPos_of HR2.out.it, iterPos_of HIT.out]; omega
      have HN := Lib.hid (show readF md0 s.data.toList = none by rw [HV2.out]; exact readF_no h103 h105 h120 h115 h110)
      have hr5 : r ≠ 103 ∧ r ≠ 105 ∧ r ≠ 120 ∧ r ≠ 115 ∧ r ≠ 110 := by
        by_cases h : c.toNat < 128
        · rw [(hasc h).1]
          refine ⟨fun e => h103 ?_, fun e => h105 ?_, fun e => h120 ?_, fun e => h115 ?_, fun e => h110 ?_⟩ <;> (apply UInt8.toNat_inj.1; rw [e]; rfl)
        · have := hhi h; omega
      have q1 : ((r : Int) == 103) = false := beq_false_of_ne (by omega)
      have q2 : ((r : Int) == 105) = false := beq_false_of_ne (by omega)
      have q3 : ((r : Int) == 120) = false := beq_false_of_ne (by omega)
      have q4 : ((r : Int) == 115) = false := beq_false_of_ne (by omega)
      have q5 : ((r : Int) == 110) = false := beq_false_of_ne (by omega)
      have HR1 := Lib.hid (HR.out.next (k + n))
      have c0 := HR1.out.cell (j := 0) rfl
      have c1 := HR1.out.cell (j := 1) rfl
      have c2 := HR1.out.cell (j := 2) rfl
      have c3 := HR1.out.cell (j := 3) rfl
      have c4 := HR1.out.cell (j := 4) rfl
      have d0 := HR1.out.rcell (j := 0) rfl
      have d1 := HR1.out.rcell (j := 1) rfl
      have d2 := HR1.out.rcell (j := 2) rfl
      have d3 := HR1.out.rcell (j := 3) rfl
      have d4 := HR1.out.rcell (j := 4) rfl
      have f0 := Lib.frozen_of_heap HR1.out.res 0
      have f1 := Lib.frozen_of_heap HR1.out.res 1
      have f2 := Lib.frozen_of_heap HR1.out.res 2
      have f3 := Lib.frozen_of_heap HR1.out.res 3
      have f4 := Lib.frozen_of_heap HR1.out.res 4
      clear hasc hhi hR h103 h105 h120 h115 h110 hr5
      go_wp2
      obtain ⟨g1, g2⟩ := md_five HR1.out.res HR1.out.below (Nat.le_refl _) m
      refine ret_md2 Tryd.results10 g1 (by simp) (by simp; rfl) rfl ?_
      refine ⟨m, by rw [HN.out]; rfl, ?_, g2⟩
      intro m' h
      rw [HN.out] at h
      cases h
    · have hnx : ∀ ty, (Instr.next (.pointer (some ⟨w.heap.size + 1 + 1, 0, none⟩)) true ty).run Tryd.prog wr = _ := fun ty => Lib.run_next_end_at wr (w.heap.size + 1 + 1) s k ty hr.it hlt
      have HN := Lib.hid (show readF md0 s.data.toList = some m by rw [HV.out, List.drop_eq_nil_of_le (by rw [← HSZ.out]; omega)]; rfl)
      have c0 := HR.out.cell (j := 0) rfl
      have c1 := HR.out.cell (j := 1) rfl
      have c2 := HR.out.cell (j := 2) rfl
      have c3 := HR.out.cell (j := 3) rfl
      have c4 := HR.out.cell (j := 4) rfl
      have d0 := HR.out.rcell (j := 0) rfl
      have d1 := HR.out.rcell (j := 1) rfl
      have d2 := HR.out.rcell (j := 2) rfl
      have d3 := HR.out.rcell (j := 3) rfl
      have d4 := HR.out.rcell (j := 4) rfl
      have f0 := Lib.frozen_of_heap HR.out.res 0
      have f1 := Lib.frozen_of_heap HR.out.res 1
      have f2 := Lib.frozen_of_heap HR.out.res 2
      have f3 := Lib.frozen_of_heap HR.out.res 3
      have f4 := Lib.frozen_of_heap HR.out.res 4
      clear hr hv
      go_wp2
      obtain ⟨g1, g2⟩ := md_five HR.out.res HR.out.below (Nat.le_refl _) m
      refine ret_md2 Tryd.results10 g1 (by simp) (by simp; rfl) rfl ?_
      refine ⟨m, by rw [HN.out]; rfl, ?_, g2⟩
      intro m' h
      rw [HN.out] at h
      injection h with h
      exact h.symm

end Go.Proofs.YtoniccokohjenaaDoor
