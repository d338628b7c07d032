/-
  append behind a row of bytes of the call's own, again and again.
-/
import Derived.Test.YtojapomkmfbciaaDoorQuoBb
import Derived.Test.YtojapomkmfbciaaDoorQuoVj
namespace Go.Proofs.YtojapomkmfbciaaDoor
open Go.RowKit

section
variable {P : Program}
theorem run_append_conv2 (w : World) (t ty e : TypeId) (i : TypeInfo) (z : Value) (base : Nat) (ht : P.underlying t = some (.slice e)) (hi : P.info? e = some i) (hz : i.zero = some z) (hs1 : i.size = 1) (hby : i.bytes = 1) (hzs : z.cells.size = 1)
    (v : Value) (l m : List UInt8) (A : Option Addr) (cap2 : Nat) (hv : Conv base e w v l) (hR : RdB w A m.length m) (h63 : l.length + m.length ≤ 140737488355328) (hbase : base ≤ w.heap.size) :
    ∃ v' w', (Builtin.append_ #[t, t] ty #[v, .slice A m.length cap2]).run P w = .ok v' w' ∧ Conv base e w' v' (l ++ m) ∧ Below base w w' := by
  obtain ⟨g, cap, cur, fz, rfl, hbg, hgl, hle, hcm, hh, hcs, hfz, hc⟩ := hv
  have hml : m.length = m.length * i.size := by rw [hs1, Nat.mul_one]
  have hone : ∀ u ∈ Lib.byteCells m, u.oneCell' = true := fun u hu => by
    unfold Lib.byteCells at hu
    obtain ⟨x, _, rfl⟩ := List.mem_map.1 hu
    rfl
  have hbl : (Lib.byteCells m).length = m.length := Lib.byteCells_length m
  have hf : ∀ W : World, (∀ i, i < m.length → ∀ b off, A = some ⟨b, off, none⟩ → W.cell? ⟨b, off + i, none⟩ = some (.int .u8 (bt m i : Nat))) → (Builtin.firstCells i.size m.length (.slice A m.length cap2)).run P W = .ok (Lib.byteCells m).toArray W := fun W hW => by
    by_cases h0 : m.length = 0
    · have : m = [] := List.eq_nil_of_length_eq_zero h0
      subst this
      cases A with
      | none => simp [Builtin.firstCells, Lib.byteCells]
      | some a => exact run_firstCells_some W i.size 0 a 0 cap2 [] (by simp) (fun j v h => by simp at h)
    · obtain ⟨b, off, rfl, _, _⟩ := hR.2 (by omega)
      refine run_firstCells_some W i.size m.length ⟨b, off, none⟩ m.length cap2 (Lib.byteCells m) (by rw [hbl]; exact hml) (fun j u hu => ?_)
      have hj : j < m.length := by have := (List.getElem?_eq_some_iff.1 hu).1; rwa [hbl] at this
      rw [add_flat, hW j hj b off rfl]
      rw [← hu]
      unfold bt
      simp [Lib.byteCells, hj]
  have hcellA : ∀ i, i < m.length → ∀ b off, A = some ⟨b, off, none⟩ → w.cell? ⟨b, off + i, none⟩ = some (.int .u8 (bt m i : Nat)) := fun j hj b off e => by
    obtain ⟨b', off', e', _, h⟩ := hR.2 (by omega)
    rw [e] at e'
    injection e' with e'; injection e' with e1 e2
    subst e1; subst e2
    exact h j hj
  have hbt : ∀ j, j < l.length + m.length → (Value.int .u8 (bt (l ++ m) j : Nat)) = if j < l.length then .int .u8 (bt l j : Nat) else .int .u8 (bt m (j - l.length) : Nat) := fun j hj => by
    by_cases h : j < l.length
    · rw [if_pos h]; unfold bt; rw [List.getElem?_append_left h]
    · rw [if_neg h]; unfold bt; rw [List.getElem?_append_right (by omega)]
  have hmc : ∀ j, j < m.length → (Lib.byteCells m)[j]? = some (.int .u8 (bt m j : Nat)) := fun j hj => by
    unfold bt; simp [Lib.byteCells, hj]
  by_cases hroom : l.length + m.length ≤ cap
  · obtain ⟨w', cur', r1, r2, r3, r4, r5⟩ := storeRow (P := P) g l.length e fz (Lib.byteCells m) 0 cur w hh (by rw [hcs]; exact hfz) (by rw [hbl, hcs]; omega) hone
    have hff := hf w hcellA
    rw [hs1] at hff
    have hB : Below base w w' := (Below.refl base w).grown r5 (by omega) (fun k e => by cases e; exact hbg)
    refine ⟨.slice (some ⟨g, 0, none⟩) (l ++ m).length cap, w', ?_, ⟨g, cap, cur', fz, rfl, hbg, (Array.getElem?_eq_some_iff.1 r2).1, by rw [List.length_append]; exact hroom, hcm, r2, by rw [r3, hcs], hfz, fun j hj => ?_⟩, hB⟩
    · rw [List.length_append]; simp [Builtin.append_, run_underlying ht, sizeOf, typeInfo, hi, hs1, Builtin.lenOf, hroom, hff, Addr.add_lit, r1]
    · rw [List.length_append] at hj
      rw [hbl] at r4
      simp only [Nat.add_zero] at r4
      have hr4 := r4 j
      by_cases h : j < l.length
      · rw [if_neg (fun hq => absurd hq.1 (by omega)), hc j h] at hr4
        rw [hr4, hbt j hj, if_pos h]
      · rw [if_pos ⟨by omega, by omega⟩, hmc _ (by omega)] at hr4
        rw [hr4, hbt j hj, if_neg h]
  · have holds : ∀ j u, (Lib.byteCells l)[j]? = some u → w.cell? ((⟨g, 0, none⟩ : Addr).add j) = some u := fun j u hu => by
      have hj : j < l.length := by have := (List.getElem?_eq_some_iff.1 hu).1; rwa [Lib.byteCells_length] at this
      rw [add_flat, Nat.zero_add]
      unfold World.cell?
      simp only [hh]
      rw [hc j hj, ← hu]
      unfold bt
      simp [Lib.byteCells, hj]
    have hm0 : m.length ≠ 0 := by omega
    obtain ⟨b, off, rfl, _, hcA⟩ := hR.2 (by omega)
    have hnews : ∀ j u, (Lib.byteCells m)[j]? = some u → w.cell? ((⟨b, off, none⟩ : Addr).add j) = some u := fun j u hu => by
      have hj : j < m.length := by have := (List.getElem?_eq_some_iff.1 hu).1; rwa [hbl] at this
      rw [add_flat, hcA j hj, ← hu]
      unfold bt
      simp [Lib.byteCells, hj]
    have hr := run_append_grow (P := P) w t ty e i z ht hi hz ⟨g, 0, none⟩ l.length cap (Lib.byteCells l) (by rw [Lib.byteCells_length, hs1, Nat.mul_one]) holds ⟨b, off, none⟩ m.length cap2 (Lib.byteCells m) (by rw [hbl]; exact hml) hnews (by omega) (by unfold maxLen at hcm; omega) (by rw [hby]; exact growslice_fits (by omega) (by omega))
    have hge := grownCap_ge w (l.length + m.length) cap e
    have hcm2 : grownCap w (l.length + m.length) cap e ≤ maxLen := grownCap_le_maxLen w (l.length + m.length) cap e (by unfold maxLen; omega)
    refine ⟨_, _, hr, ⟨w.heap.size, _, _, _, by rw [List.length_append], hbase, ?_, by rw [List.length_append]; exact hge, hcm2, World.alloc_heap_new w.drew _, ?_, fun k _ => by simp, fun j hj => ?_⟩, ((Below.refl base w).drew).alloc hbase _⟩
    · show w.heap.size < (w.drew.alloc _).heap.size
      rw [World.size_alloc]; exact Nat.lt_succ_self _
    · simp only [Array.size_append, List.size_toArray, size_zeroCells, hzs, hbl, Lib.byteCells_length, Nat.mul_one]
      rw [hs1] at *
      omega
    · rw [List.length_append] at hj
      rw [hbt j hj]
      by_cases h : j < l.length
      · rw [if_pos h, Array.getElem?_append_left (by simp [Lib.byteCells]; omega), Array.getElem?_append_left (by simp [Lib.byteCells]; omega)]
        unfold bt; simp [Lib.byteCells, h]
      · rw [if_neg h, Array.getElem?_append_left (by simp [Lib.byteCells]; omega), Array.getElem?_append_right (by simp [Lib.byteCells]; omega)]
        have hj2 : j - l.length < m.length := by omega
        unfold bt; simp [Lib.byteCells, hj2]

theorem wpList_append_conv2 (w : World) {ops : Array Oper} {rest : List Oper} {o : Oper} {a : Act} {Q : Exit → Act → World → Prop} (hgd : o.guard = none) (s x : Operand) (t e : TypeId)
    (ho : o.op = .call { callee := .builtin .append, args := #[s, x], argTypes := #[t, t] }) (base : Nat) (i : TypeInfo) (z : Value) (ht : P.underlying t = some (.slice e)) (hi : P.info? e = some i) (hz : i.zero = some z) (hs1 : i.size = 1) (hby : i.bytes = 1) (hzs : z.cells.size = 1)
    (v : Value) (l m : List UInt8) (A : Option Addr) (n cap2 : Nat) (hs : a.eval s = v) (hx : a.eval x = .slice A n cap2) (hv : Conv base e w v l) (hR : RdB w A n m) (h63 : l.length + n ≤ 140737488355328) (hbase : base ≤ w.heap.size)
    (h : ∀ v' w', Conv base e w' v' (l ++ m) → Below base w w' → wpList P ops Q rest (a.put o.dst v') w') : wpList P ops Q (o :: rest) a w := by
  refine wpList_plain hgd fun K hK => ?_
  have hn := hR.1
  subst hn
  obtain ⟨v', w', hr, h2, h3⟩ := run_append_conv2 (P := P) w t o.type e i z base ht hi hz hs1 hby hzs v l m A cap2 hv hR h63 hbase
  unfold Oper.wp execOp
  simp only [ho, resolve, invoke, builtin, Sem.run_bind, Sem.run_pure, Result.andThen_ok, List.map_toArray, List.map_cons, List.map_nil, hs, hx, hr]
  exact hK _ _ (h v' w' h2 h3)
end

/-- an empty row that was just made -/
theorem conv_nil (w : World) : Conv w.heap.size 5 (w.alloc (.cells #[] 5)) (.slice (some ⟨w.heap.size, 0, none⟩) 0 0) [] :=
  ⟨w.heap.size, 0, #[], (0, 0), rfl, Nat.le_refl _, by rw [World.size_alloc]; exact Nat.lt_succ_self _, Nat.le_refl _, Nat.zero_le _, World.alloc_heap_new w _, rfl, fun k hk => by omega, fun i hi => by simp at hi⟩
theorem Conv.later {base : Nat} {e : TypeId} {w w' : World} {v : Value} {l : List UInt8} (h : Conv base e w v l) (hb : Below w.heap.size w w') : Conv base e w' v l := by
  obtain ⟨g, cap, cur, fz, hv, h1, h2, h3, h4, h5, h6⟩ := h
  exact ⟨g, cap, cur, fz, hv, h1, Nat.lt_of_lt_of_le h2 hb.size, h3, h4, (hb.block g h2).trans h5, h6⟩

end Go.Proofs.YtojapomkmfbciaaDoor
