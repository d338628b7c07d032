/-
  append behind a row of bytes of the call's own, again and again; a new row; a part from the beginning on (as in the texts of chapter 5, with less beneath).
-/
import Derived.Test.YtojapomkmfbciaaDoorQuoVj
import Derived.Test.YtojapomkmfbciaaDoorQuoN
import Derived.Lib.ConvBytes
import Derived.BigFrame
import Derived.Lib.SlBytesConst
namespace Go.Proofs.YtojapomkmfbciaaDoor
open Go.RowKit

section
variable {P : Program}
theorem storeRow (g o : Nat) (t : TypeId) (fz : Nat × Nat) : ∀ (vs : List Value) (i : Nat) (cur : Array Value) (w : World), w.heap[g]? = some (.cells cur t fz) → (∀ k, k < cur.size → (decide (fz.1 ≤ k) && decide (k < fz.2)) = false) → o + i + vs.length ≤ cur.size → (∀ v ∈ vs, v.oneCell' = true) →
    ∃ w' cur', (storeCells ⟨g, o, none⟩ vs i).run P w = .ok () w' ∧ w'.heap[g]? = some (.cells cur' t fz) ∧ cur'.size = cur.size ∧ (∀ k, cur'[k]? = if o + i ≤ k ∧ k < o + i + vs.length then vs[k - (o + i)]? else cur[k]?) ∧ w.grownBy w' (some g)
  | [], i, cur, w, hg, _, _, _ => ⟨w, cur, rfl, hg, rfl, fun k => by rw [if_neg (by simp)], World.grownBy.refl w _⟩
  | v :: rest, i, cur, w, hg, hfz, hl, h1 => by
    have hi : o + i < cur.size := by simp at hl; omega
    have hadd : (⟨g, o, none⟩ : Addr).add i = ⟨g, o + i, none⟩ := add_flat g o i
    have hcell : w.cell? ⟨g, o + i, none⟩ = some cur[o + i] := by simp [World.cell?, hg, hi]
    have hfro : w.frozen? ⟨g, o + i, none⟩ = false := by
      simp only [World.frozen?, hg]
      exact hfz _ hi
    have hst : (store ((⟨g, o, none⟩ : Addr).add i) v).run P w = .ok () (w.setCell ⟨g, o + i, none⟩ v) := by
      rw [hadd, run_store P w _ v _ (h1 v (by simp)), hcell]
      simp [hfro]
    have hg2 : (w.setCell ⟨g, o + i, none⟩ v).heap[g]? = some (.cells (cur.setIfInBounds (o + i) v) t fz) := by
      show (w.heap.modify g _)[g]? = _
      rw [Array.getElem?_modify, if_pos rfl, hg]
      rfl
    obtain ⟨w', cur', r1, r2, r3, r4, r5⟩ := storeRow g o t fz rest (i + 1) (cur.setIfInBounds (o + i) v) (w.setCell ⟨g, o + i, none⟩ v) hg2 (by rw [Array.size_setIfInBounds]; exact hfz) (by rw [Array.size_setIfInBounds]; simp at hl; omega) (fun x hx => h1 x (List.mem_cons_of_mem _ hx))
    refine ⟨w', cur', ?_, r2, by rw [r3, Array.size_setIfInBounds], fun k => ?_, ?_⟩
    · simp only [storeCells, Sem.run_bind, hst, Result.andThen_ok, r1]
    · rw [r4 k]
      by_cases h2 : o + (i + 1) ≤ k ∧ k < o + (i + 1) + rest.length
      · rw [if_pos h2, if_pos (by simp; omega), show k - (o + i) = (k - (o + (i + 1))) + 1 by omega, List.getElem?_cons_succ]
      · rw [if_neg h2]
        by_cases h3 : k = o + i
        · subst h3
          rw [if_pos (by simp), Array.getElem?_setIfInBounds_self, if_pos hi, Nat.sub_self]; rfl
        · rw [if_neg (by simp; omega), Array.getElem?_setIfInBounds_ne (by omega)]
    · have h0 : w.grownBy (w.setCell ⟨g, o + i, none⟩ v) (some g) := ⟨rfl, rfl, rfl, by simp, fun k _ hk => Below.heap_setCell w _ v k (fun e => hk (by rw [e]))⟩
      exact h0.trans r5

/-- the bytes of a converted string, at a block from base on: n of them -/
def Conv (base : Nat) (e : TypeId) (w : World) (v : Value) (l : List UInt8) : Prop :=
  ∃ g cap cur fz, v = .slice (some ⟨g, 0, none⟩) l.length cap ∧ base ≤ g ∧ g < w.heap.size ∧ l.length ≤ cap ∧ cap ≤ maxLen ∧ w.heap[g]? = some (.cells cur e fz) ∧ cur.size = cap ∧ (∀ k, k < cap → (decide (fz.1 ≤ k) && decide (k < fz.2)) = false) ∧
    ∀ i, i < l.length → cur[i]? = some (.int .u8 (bt l i : Nat))

theorem Conv.rd {base : Nat} {e : TypeId} {w : World} {v : Value} {l : List UInt8} (h : Conv base e w v l) : ∃ g cap, v = .slice (some ⟨g, 0, none⟩) l.length cap ∧ l.length ≤ cap ∧ RdB w (some ⟨g, 0, none⟩) l.length l := by
  obtain ⟨g, cap, cur, fz, hv, _, hlt, hle, _, hh, _, _, hc⟩ := h
  refine ⟨g, cap, hv, hle, rfl, fun _ => ⟨g, 0, rfl, hlt, fun i hi => ?_⟩⟩
  rw [Nat.zero_add]
  unfold World.cell?
  simp only [hh]
  exact hc i hi

theorem run_append_conv2 (w : World) (t ty e : TypeId) (i : TypeInfo) (z : Value) (base : Nat) (ht : P.underlying t = some (.slice e)) (hi : P.info? e = some i) (hz : i.zero = some z) (hs1 : i.size = 1) (hby : i.bytes = 1) (hzs : z.cells.size = 1)
    (v : Value) (l m : List UInt8) (A : Option Addr) (cap2 : Nat) (hv : Conv base e w v l) (hR : RdB w A m.length m) (h63 : l.length + m.length ≤ 140737488355328) (hbase : base ≤ w.heap.size) :
    ∃ v' w', (Builtin.append_ #[t, t] ty #[v, .slice A m.length cap2]).run P w = .ok v' w' ∧ Conv base e w' v' (l ++ m) ∧ Below base w w' := by
  obtain ⟨g, cap, cur, fz, rfl, hbg, hgl, hle, hcm, hh, hcs, hfz, hc⟩ := hv
  have hml : m.length = m.length * i.size := by rw [hs1, Nat.mul_one]
  have hone : ∀ u ∈ Lib.byteCells m, u.oneCell' = true := fun u hu => by
    unfold Lib.byteCells at hu
    obtain ⟨x, _, rfl⟩ := List.mem_map.1 hu
    rfl
  have hbl : (Lib.byteCells m).length = m.length := Lib.byteCells_length m
  have hf : ∀ W : World, (∀ i, i < m.length → ∀ b off, A = some ⟨b, off, none⟩ → W.cell? ⟨b, off + i, none⟩ = some (.int .u8 (bt m i : Nat))) → (Builtin.firstCells i.size m.length (.slice A m.length cap2)).run P W = .ok (Lib.byteCells m).toArray W := fun W hW => by
    by_cases h0 : m.length = 0
    · have : m = [] := List.eq_nil_of_length_eq_zero h0
      subst this
      cases A with
      | none => simp [Builtin.firstCells, Lib.byteCells]
      | some a => exact run_firstCells_some W i.size 0 a 0 cap2 [] (by simp) (fun j v h => by simp at h)
    · obtain ⟨b, off, rfl, _, _⟩ := hR.2 (by omega)
      refine run_firstCells_some W i.size m.length ⟨b, off, none⟩ m.length cap2 (Lib.byteCells m) (by rw [hbl]; exact hml) (fun j u hu => ?_)
      have hj : j < m.length := by have := (List.getElem?_eq_some_iff.1 hu).1; rwa [hbl] at this
      rw [add_flat, hW j hj b off rfl]
      rw [← hu]
      unfold bt
      simp [Lib.byteCells, hj]
  have hcellA : ∀ i, i < m.length → ∀ b off, A = some ⟨b, off, none⟩ → w.cell? ⟨b, off + i, none⟩ = some (.int .u8 (bt m i : Nat)) := fun j hj b off e => by
    obtain ⟨b', off', e', _, h⟩ := hR.2 (by omega)
    rw [e] at e'
    injection e' with e'; injection e' with e1 e2
    subst e1; subst e2
    exact h j hj
  have hbt : ∀ j, j < l.length + m.length → (Value.int .u8 (bt (l ++ m) j : Nat)) = if j < l.length then .int .u8 (bt l j : Nat) else .int .u8 (bt m (j - l.length) : Nat) := fun j hj => by
    by_cases h : j < l.length
    · rw [if_pos h]; unfold bt; rw [List.getElem?_append_left h]
    · rw [if_neg h]; unfold bt; rw [List.getElem?_append_right (by omega)]
  have hmc : ∀ j, j < m.length → (Lib.byteCells m)[j]? = some (.int .u8 (bt m j : Nat)) := fun j hj => by
    unfold bt; simp [Lib.byteCells, hj]
  by_cases hroom : l.length + m.length ≤ cap
  · obtain ⟨w', cur', r1, r2, r3, r4, r5⟩ := storeRow (P := P) g l.length e fz (Lib.byteCells m) 0 cur w hh (by rw [hcs]; exact hfz) (by rw [hbl, hcs]; omega) hone
    have hff := hf w hcellA
    rw [hs1] at hff
    have hB : Below base w w' := (Below.refl base w).grown r5 (by omega) (fun k e => by cases e; exact hbg)
    refine ⟨.slice (some ⟨g, 0, none⟩) (l ++ m).length cap, w', ?_, ⟨g, cap, cur', fz, rfl, hbg, (Array.getElem?_eq_some_iff.1 r2).1, by rw [List.length_append]; exact hroom, hcm, r2, by rw [r3, hcs], hfz, fun j hj => ?_⟩, hB⟩
    · rw [List.length_append]; simp [Builtin.append_, run_underlying ht, sizeOf, typeInfo, hi, hs1, Builtin.lenOf, hroom, hff, Addr.add_lit, r1]
    · rw [List.length_append] at hj
      rw [hbl] at r4
      simp only [Nat.add_zero] at r4
      have hr4 := r4 j
      by_cases h : j < l.length
      · rw [if_neg (fun hq => absurd hq.1 (by omega)), hc j h] at hr4
        rw [hr4, hbt j hj, if_pos h]
      · rw [if_pos ⟨by omega, by omega⟩, hmc _ (by omega)] at hr4
        rw [hr4, hbt j hj, if_neg h]
  · have holds : ∀ j u, (Lib.byteCells l)[j]? = some u → w.cell? ((⟨g, 0, none⟩ : Addr).add j) = some u := fun j u hu => by
      have hj : j < l.length := by have := (List.getElem?_eq_some_iff.1 hu).1; rwa [Lib.byteCells_length] at this
      rw [add_flat, Nat.zero_add]
      unfold World.cell?
      simp only [hh]
      rw [hc j hj, ← hu]
      unfold bt
      simp [Lib.byteCells, hj]
    have hm0 : m.length ≠ 0 := by omega
    obtain ⟨b, off, rfl, _, hcA⟩ := hR.2 (by omega)
    have hnews : ∀ j u, (Lib.byteCells m)[j]? = some u → w.cell? ((⟨b, off, none⟩ : Addr).add j) = some u := fun j u hu => by
      have hj : j < m.length := by have := (List.getElem?_eq_some_iff.1 hu).1; rwa [hbl] at this
      rw [add_flat, hcA j hj, ← hu]
      unfold bt
      simp [Lib.byteCells, hj]
    have hr := run_append_grow (P := P) w t ty e i z ht hi hz ⟨g, 0, none⟩ l.length cap (Lib.byteCells l) (by rw [Lib.byteCells_length, hs1, Nat.mul_one]) holds ⟨b, off, none⟩ m.length cap2 (Lib.byteCells m) (by rw [hbl]; exact hml) hnews (by omega) (by unfold maxLen at hcm; omega) (by rw [hby]; exact growslice_fits (by omega) (by omega))
    have hge := grownCap_ge w (l.length + m.length) cap e
    have hcm2 : grownCap w (l.length + m.length) cap e ≤ maxLen := grownCap_le_maxLen w (l.length + m.length) cap e (by unfold maxLen; omega)
    refine ⟨_, _, hr, ⟨w.heap.size, _, _, _, by rw [List.length_append], hbase, ?_, by rw [List.length_append]; exact hge, hcm2, World.alloc_heap_new w.drew _, ?_, fun k _ => by simp, fun j hj => ?_⟩, ((Below.refl base w).drew).alloc hbase _⟩
    · show w.heap.size < (w.drew.alloc _).heap.size
      rw [World.size_alloc]; exact Nat.lt_succ_self _
    · simp only [Array.size_append, List.size_toArray, size_zeroCells, hzs, hbl, Lib.byteCells_length, Nat.mul_one]
      rw [hs1] at *
      omega
    · rw [List.length_append] at hj
      rw [hbt j hj]
      by_cases h : j < l.length
      · rw [if_pos h, Array.getElem?_append_left (by simp [Lib.byteCells]; omega), Array.getElem?_append_left (by simp [Lib.byteCells]; omega)]
        unfold bt; simp [Lib.byteCells, h]
      · rw [if_neg h, Array.getElem?_append_left (by simp [Lib.byteCells]; omega), Array.getElem?_append_right (by simp [Lib.byteCells]; omega)]
        have hj2 : j - l.length < m.length := by omega
        unfold bt; simp [Lib.byteCells, hj2]

theorem wpList_append_conv2 (w : World) {ops : Array Oper} {rest : List Oper} {o : Oper} {a : Act} {Q : Exit → Act → World → Prop} (hgd : o.guard = none) (s x : Operand) (t e : TypeId)
    (ho : o.op = .call { callee := .builtin .append, args := #[s, x], argTypes := #[t, t] }) (base : Nat) (i : TypeInfo) (z : Value) (ht : P.underlying t = some (.slice e)) (hi : P.info? e = some i) (hz : i.zero = some z) (hs1 : i.size = 1) (hby : i.bytes = 1) (hzs : z.cells.size = 1)
    (v : Value) (l m : List UInt8) (A : Option Addr) (n cap2 : Nat) (hs : a.eval s = v) (hx : a.eval x = .slice A n cap2) (hv : Conv base e w v l) (hR : RdB w A n m) (h63 : l.length + n ≤ 140737488355328) (hbase : base ≤ w.heap.size)
    (h : ∀ v' w', Conv base e w' v' (l ++ m) → Below base w w' → wpList P ops Q rest (a.put o.dst v') w') : wpList P ops Q (o :: rest) a w := by
  refine wpList_plain hgd fun K hK => ?_
  have hn := hR.1
  subst hn
  obtain ⟨v', w', hr, h2, h3⟩ := run_append_conv2 (P := P) w t o.type e i z base ht hi hz hs1 hby hzs v l m A cap2 hv hR h63 hbase
  unfold Oper.wp execOp
  simp only [ho, resolve, invoke, builtin, Sem.run_bind, Sem.run_pure, Result.andThen_ok, List.map_toArray, List.map_cons, List.map_nil, hs, hx, hr]
  exact hK _ _ (h v' w' h2 h3)
/-- .. where a guard says yes -/
theorem wpList_append_conv2w (w : World) {ops : Array Oper} {rest : List Oper} {o : Oper} {a : Act} {Q : Exit → Act → World → Prop} (hgd : Region.wanted o (yielded ops a.tmps) = true) (s x : Operand) (t e : TypeId)
    (ho : o.op = .call { callee := .builtin .append, args := #[s, x], argTypes := #[t, t] }) (base : Nat) (i : TypeInfo) (z : Value) (ht : P.underlying t = some (.slice e)) (hi : P.info? e = some i) (hz : i.zero = some z) (hs1 : i.size = 1) (hby : i.bytes = 1) (hzs : z.cells.size = 1)
    (v : Value) (l m : List UInt8) (A : Option Addr) (n cap2 : Nat) (hs : a.eval s = v) (hx : a.eval x = .slice A n cap2) (hv : Conv base e w v l) (hR : RdB w A n m) (h63 : l.length + n ≤ 140737488355328) (hbase : base ≤ w.heap.size)
    (h : ∀ v' w', Conv base e w' v' (l ++ m) → Below base w w' → wpList P ops Q rest (a.put o.dst v') w') : wpList P ops Q (o :: rest) a w := by
  refine BigFrame.wpList_want hgd fun K hK => ?_
  have hn := hR.1
  subst hn
  obtain ⟨v', w', hr, h2, h3⟩ := run_append_conv2 (P := P) w t o.type e i z base ht hi hz hs1 hby hzs v l m A cap2 hv hR h63 hbase
  unfold Oper.wp execOp
  simp only [ho, resolve, invoke, builtin, Sem.run_bind, Sem.run_pure, Result.andThen_ok, List.map_toArray, List.map_cons, List.map_nil, hs, hx, hr]
  exact hK _ _ (h v' w' h2 h3)
end

/-- an empty row that was just made -/
theorem conv_nil (w : World) : Conv w.heap.size 5 (w.alloc (.cells #[] 5)) (.slice (some ⟨w.heap.size, 0, none⟩) 0 0) [] :=
  ⟨w.heap.size, 0, #[], (0, 0), rfl, Nat.le_refl _, by rw [World.size_alloc]; exact Nat.lt_succ_self _, Nat.le_refl _, Nat.zero_le _, World.alloc_heap_new w _, rfl, fun k hk => by omega, fun i hi => by simp at hi⟩
theorem Conv.later {base : Nat} {e : TypeId} {w w' : World} {v : Value} {l : List UInt8} (h : Conv base e w v l) (hb : Below w.heap.size w w') : Conv base e w' v l := by
  obtain ⟨g, cap, cur, fz, hv, h1, h2, h3, h4, h5, h6⟩ := h
  exact ⟨g, cap, cur, fz, hv, h1, Nat.lt_of_lt_of_le h2 hb.size, h3, h4, (hb.block g h2).trans h5, h6⟩


theorem rdB_new (w : World) (l : List UInt8) (T : TypeId) (fz : Nat × Nat) : RdB (w.alloc (.cells (Lib.byteCells l).toArray T fz)) (some ⟨w.heap.size, 0, none⟩) l.length l := by
  refine ⟨rfl, fun h0 => ⟨w.heap.size, 0, rfl, by simp, fun i hi => ?_⟩⟩
  have hh : (w.alloc (.cells (Lib.byteCells l).toArray T fz)).heap[w.heap.size]? = some (.cells (Lib.byteCells l).toArray T fz) := World.alloc_heap_new w _
  rw [Nat.zero_add]
  unfold World.cell?
  simp only [hh]
  unfold bt
  simp [Lib.byteCells, hi]

/-- the address of a part from the beginning on -/
def hiA (A : Option Addr) (cap : Nat) : Option Addr := if cap = 0 then A else A.map (·.add 0)
theorem RdB.hi {w : World} {A : Option Addr} {n cap : Nat} {l : List UInt8} (h : RdB w A n l) {k : Nat} (hk : k ≤ n) (hc : n ≤ cap) : RdB w (hiA A cap) k (l.take k) := by
  refine ⟨by rw [List.length_take, h.1]; omega, fun h0 => ?_⟩
  obtain ⟨b, off, rfl, hlt, hcell⟩ := h.2 (by omega)
  refine ⟨b, off, ?_, hlt, fun i hi => ?_⟩
  · unfold hiA; rw [if_neg (by omega), Option.map_some, add_flat, Nat.add_zero]
  · rw [hcell i (by omega), bt_take _ _ _ hi]
set_option maxRecDepth 100000 in
theorem sl_hi (A : Option Addr) (n cap k : Nat) (hk : k ≤ n) (hc : n ≤ cap) (w : World) :
    (Instr.slice 26 (.slice A n cap) none (some (.int .i64 (k : Int))) none).run Tryd.prog w = .ok (.slice (hiA A cap) k cap) w := by
  rw [run_slice_h (P := Tryd.prog) w 26 A n cap Tryd.underlying26 .i64 (k : Int) (by omega) (by omega)]
  rw [show (sizeOf (Tryd.prog.elem 26)).run Tryd.prog w = .ok 1 w by kernel_rfl]
  simp [Result.andThen, sliced, hiA]
set_option maxRecDepth 100000 in
theorem sl_hiAt (A : Option Addr) (n cap k : Nat) (hk : k ≤ n) (hc : n ≤ cap) (w : World) :
    (Instr.sliceAt 26 (.slice A n cap) none (some (.int .i64 (k : Int))) none).run Tryd.prog w = .ok (.slice (hiA A cap) k cap) w := by
  rw [run_sliceAt_slice (P := Tryd.prog) _ _ _ _ _ _ Tryd.underlying26]
  exact sl_hi A n cap k hk hc w


set_option maxRecDepth 100000 in
theorem sl_mid (A : Option Addr) (n cap x y : Nat) (hxy : x ≤ y) (hy : y ≤ n) (hc : n ≤ cap) (w : World) :
    (Instr.slice 26 (.slice A n cap) (some (.int .i64 (x : Int))) (some (.int .i64 (y : Int))) none).run Tryd.prog w = .ok (.slice (cutA A x cap) (y - x) (cap - x)) w := by
  rw [run_slice_lh (P := Tryd.prog) w 26 A n cap Tryd.underlying26 .i64 .i64 (x : Int) (y : Int) (by omega) (by omega) (by omega)]
  rw [show (sizeOf (Tryd.prog.elem 26)).run Tryd.prog w = .ok 1 w by kernel_rfl]
  simp [Result.andThen, sliced, cutA]
set_option maxRecDepth 100000 in
theorem sl_midAt (A : Option Addr) (n cap x y : Nat) (hxy : x ≤ y) (hy : y ≤ n) (hc : n ≤ cap) (w : World) :
    (Instr.sliceAt 26 (.slice A n cap) (some (.int .i64 (x : Int))) (some (.int .i64 (y : Int))) none).run Tryd.prog w = .ok (.slice (cutA A x cap) (y - x) (cap - x)) w := by
  rw [run_sliceAt_slice (P := Tryd.prog) _ _ _ _ _ _ Tryd.underlying26]
  exact sl_mid A n cap x y hxy hy hc w

end Go.Proofs.YtojapomkmfbciaaDoor
