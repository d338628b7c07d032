/-
  The walk of Parse (chapter 18).
-/
import Derived.Test.YtoniccokohjenaaDoorRegAl
import Derived.Recover
import Derived.Carry
namespace Go.Proofs.YtoniccokohjenaaDoor
open Go.RowKit

abbrev TSt : TypeId := 80
set_option maxHeartbeats 4000000 in
set_option maxRecDepth 100000 in
theorem rxCatch_idle (p4 p5 p6 p7 : Addr) (w : World) :
    CallsD Tryd.prog 23 #[.pointer (some p4), .pointer (some p5), .pointer (some p6), .pointer (some p7)] .returning w fun e u' w' => e = .returned (.tuple #[]) ∧ u' = .returning ∧ w' = w := by
  refine callsD_of_wpS Tryd.func23 rfl fun c₀ cs hu => ?_
  apply wpS_seq
  apply wpS_region
  simp [wpOpsS, go_sem, recoverD, hu, Tryd.ntmps23, Exit.thenS]
  apply wpS_seq
  apply wpS_region
  simp [wpOpsS, go_sem, Exit.thenS]
  refine wpS_cond (t := false) (by simp [Act.eval]) ?_
  simp only [Bool.false_eq_true, if_false]
  refine wpS_of_wp (wp_skip ?_)
  cases c₀
  simp_all [bodyPostS, results, Tryd.results23]

theorem zrx_cells {W : World} {q : Nat} (h : W.heap[q]? = some (.cells zRx TRx (0, 0))) : W.cell? ⟨q, 0, none⟩ = some (.int .i64 0) ∧ W.cell? ⟨q, 1, none⟩ = some (.int .i64 0) ∧ W.cell? ⟨q, 2, none⟩ = some (.int .i64 0) ∧ W.cell? ⟨q, 3, none⟩ = some (.slice none 0 0) ∧ W.cell? ⟨q, 4, none⟩ = some (.int .i64 0) ∧ W.cell? ⟨q, 5, none⟩ = some (.int .i64 0) ∧ W.cell? ⟨q, 6, none⟩ = some (.bool false) ∧ W.cell? ⟨q, 7, none⟩ = some (.bool false) ∧ W.cell? ⟨q, 8, none⟩ = some (.int .i64 0) ∧ W.cell? ⟨q, 9, none⟩ = some (.string ⟨#[]⟩) := by
  refine ⟨?_, ?_, ?_, ?_, ?_, ?_, ?_, ?_, ?_, ?_⟩ <;> (rw [Lib.cell_of_heap h]; rfl)
theorem zrx_frozen {W : World} {q : Nat} (h : W.heap[q]? = some (.cells zRx TRx (0, 0))) : W.frozen? ⟨q, 0, none⟩ = false ∧ W.frozen? ⟨q, 1, none⟩ = false ∧ W.frozen? ⟨q, 2, none⟩ = false ∧ W.frozen? ⟨q, 3, none⟩ = false ∧ W.frozen? ⟨q, 4, none⟩ = false ∧ W.frozen? ⟨q, 5, none⟩ = false ∧ W.frozen? ⟨q, 6, none⟩ = false ∧ W.frozen? ⟨q, 7, none⟩ = false ∧ W.frozen? ⟨q, 8, none⟩ = false ∧ W.frozen? ⟨q, 9, none⟩ = false :=
  ⟨Lib.frozen_of_heap h 0, Lib.frozen_of_heap h 1, Lib.frozen_of_heap h 2, Lib.frozen_of_heap h 3, Lib.frozen_of_heap h 4, Lib.frozen_of_heap h 5, Lib.frozen_of_heap h 6, Lib.frozen_of_heap h 7, Lib.frozen_of_heap h 8, Lib.frozen_of_heap h 9⟩
/-- the results' cells from block q on: a part, names, two numbers -/
structure NR (q : Nat) (v : Array Value) (a b c : Value) (w : World) : Prop where
  h0 : w.heap[q]? = some (.cells v TRx (0, 0))
  h1 : w.heap[q + 1]? = some (.cells #[a] 31 (0, 0))
  h2 : w.heap[q + 2]? = some (.cells #[b] 3 (0, 0))
  h3 : w.heap[q + 3]? = some (.cells #[c] 27 (0, 0))
theorem NR.kept {q : Nat} {v : Array Value} {a b c : Value} {w w' : World} (h : NR q v a b c w) (hk : ∀ k, q ≤ k → k < q + 4 → w'.heap[k]? = w.heap[k]?) : NR q v a b c w' :=
  ⟨(hk _ (by omega) (by omega)).trans h.h0, (hk _ (by omega) (by omega)).trans h.h1, (hk _ (by omega) (by omega)).trans h.h2, (hk _ (by omega) (by omega)).trans h.h3⟩
theorem NR.below {q : Nat} {v : Array Value} {a b c : Value} {w w' : World} {B : Nat} (h : NR q v a b c w) (hb : Below B w w') (hB : q + 4 ≤ B) : NR q v a b c w' :=
  h.kept fun k _ h2 => hb.block k (by omega)
theorem NR.set0 {q : Nat} {v : Array Value} {a b c : Value} {w : World} (h : NR q v a b c w) (k : Nat) (x : Value) : NR q (v.setIfInBounds k x) a b c (w.setCell ⟨q, k, none⟩ x) :=
  ⟨rheap_set h.h0 x, (rheap_far (show q ≠ q + 1 by omega)).trans h.h1, (rheap_far (show q ≠ q + 2 by omega)).trans h.h2, (rheap_far (show q ≠ q + 3 by omega)).trans h.h3⟩
theorem NR.set1 {q : Nat} {v : Array Value} {a b c : Value} {w : World} (h : NR q v a b c w) (x : Value) : NR q v x b c (w.setCell ⟨q + 1, 0, none⟩ x) :=
  ⟨(rheap_far (show q + 1 ≠ q by omega)).trans h.h0, rheap_set (k := 0) h.h1 x, (rheap_far (show q + 1 ≠ q + 2 by omega)).trans h.h2, (rheap_far (show q + 1 ≠ q + 3 by omega)).trans h.h3⟩
theorem NR.set2 {q : Nat} {v : Array Value} {a b c : Value} {w : World} (h : NR q v a b c w) (x : Value) : NR q v a x c (w.setCell ⟨q + 2, 0, none⟩ x) :=
  ⟨(rheap_far (show q + 2 ≠ q by omega)).trans h.h0, (rheap_far (show q + 2 ≠ q + 1 by omega)).trans h.h1, rheap_set (k := 0) h.h2 x, (rheap_far (show q + 2 ≠ q + 3 by omega)).trans h.h3⟩
theorem NR.set3 {q : Nat} {v : Array Value} {a b c : Value} {w : World} (h : NR q v a b c w) (x : Value) : NR q v a b x (w.setCell ⟨q + 3, 0, none⟩ x) :=
  ⟨(rheap_far (show q + 3 ≠ q by omega)).trans h.h0, (rheap_far (show q + 3 ≠ q + 1 by omega)).trans h.h1, (rheap_far (show q + 3 ≠ q + 2 by omega)).trans h.h2, rheap_set (k := 0) h.h3 x⟩
theorem NR.drewN {q : Nat} {v : Array Value} {a b c : Value} {w : World} (h : NR q v a b c w) (n : Nat) : NR q v a b c (w.drewN n) := ⟨h.h0, h.h1, h.h2, h.h3⟩

set_option maxHeartbeats 4000000 in
set_option maxRecDepth 100000 in
theorem rxCatch (q a n : Nat) (w : World) (h : NR q zRx (.slice none 0 0) (.int .i64 0) (.int .i64 0) w) :
    CallsD Tryd.prog 23 #[.pointer (some ⟨q, 0, none⟩), .pointer (some ⟨q + 1, 0, none⟩), .pointer (some ⟨q + 2, 0, none⟩), .pointer (some ⟨q + 3, 0, none⟩)] (.panicking [{ v := .iface TSt (.agg #[.int .i64 (a : Int), .int .i64 (n : Int)]), recovered := false }]) w fun e u' w' =>
      e = .returned (.tuple #[]) ∧ u' = .panicking [{ v := .iface TSt (.agg #[.int .i64 (a : Int), .int .i64 (n : Int)]), recovered := true }] ∧ NR q zRx (.slice none 0 0) (.int .i64 (a : Int)) (.int .i64 (n : Int)) w' ∧ Below q w w' := by
  have hta : ∀ w, (Instr.typeAssert (.iface TSt (.agg #[.int .i64 (a : Int), .int .i64 (n : Int)])) 20 TSt true).run Tryd.prog w = .ok (.tuple #[.agg #[.int .i64 (a : Int), .int .i64 (n : Int)], .bool true]) w := fun w => by kernel_rfl
  have H := Lib.hid h
  have hw : q + 3 < w.heap.size := (Array.getElem?_eq_some_iff.1 h.h3).1
  clear h
  refine callsD_of_wpS Tryd.func23 rfl fun c₀ cs hu => ?_
  apply wpS_seq
  apply wpS_region
  simp [wpOpsS, go_sem, recoverD, hu, Tryd.ntmps23, Exit.thenS]
  apply wpS_seq
  apply wpS_region
  simp [wpOpsS, go_sem, Exit.thenS]
  simp only [Array.replicate_succ, Array.replicate_zero, List.push_toArray, List.append_toArray, List.nil_append, List.cons_append, List.setIfInBounds_toArray, List.set]
  refine wpS_cond (t := true) (by simp [Act.eval]) ?_
  simp only [if_true]
  refine wpS_of_wp ?_
  go_upto_region 5 with fail
  obtain ⟨W, hW⟩ : ∃ W, W = w.alloc (.cells #[.int .i64 (a : Int), .int .i64 (n : Int)] TSt) := ⟨_, rfl⟩
  rw [← hW]
  have hn1 : NR q zRx (.slice none 0 0) (.int .i64 0) (.int .i64 0) W := by rw [hW]; exact H.out.below ((Below.refl _ w).alloc (Nat.le_refl _) _) (by omega)
  have hb1 : Below q w W := by rw [hW]; exact (Below.refl _ w).alloc (by omega) _
  have hst : W.heap[w.heap.size]? = some (.cells #[.int .i64 (a : Int), .int .i64 (n : Int)] TSt (0, 0)) := by rw [hW]; exact Go.heap_alloc_new w _
  have ca : W.cell? ⟨w.heap.size, 0, none⟩ = some (.int .i64 (a : Int)) := by rw [Lib.cell_of_heap hst]; rfl
  have cb : W.cell? ⟨w.heap.size, 1, none⟩ = some (.int .i64 (n : Int)) := by rw [Lib.cell_of_heap hst]; rfl
  obtain ⟨c0, c1, c2, c3, c4, c5, c6, c7, c8, c9⟩ := zrx_cells hn1.h0
  obtain ⟨f0, f1, f2, f3, f4, f5, f6, f7, f8, f9⟩ := zrx_frozen hn1.h0
  have d1 : W.cell? ⟨q + 1, 0, none⟩ = some (.slice none 0 0) := by rw [Lib.cell_of_heap hn1.h1]; rfl
  have d2 : W.cell? ⟨q + 2, 0, none⟩ = some (.int .i64 0) := by rw [Lib.cell_of_heap hn1.h2]; rfl
  have d3 : W.cell? ⟨q + 3, 0, none⟩ = some (.int .i64 0) := by rw [Lib.cell_of_heap hn1.h3]; rfl
  have g1 := Lib.frozen_of_heap hn1.h1 0
  have g2 := Lib.frozen_of_heap hn1.h2 0
  have g3 := Lib.frozen_of_heap hn1.h3 0
  have n1 : ¬ q = w.heap.size := by omega
  have n2 : ¬ q + 1 = w.heap.size := by omega
  have n3 : ¬ q + 2 = w.heap.size := by omega
  have n4 : ¬ q + 3 = w.heap.size := by omega
  have HN := Lib.hid hn1
  have HB := Lib.hid hb1
  generalize w.heap.size = sp at *
  clear hn1 hb1 hst hW
  go_region
  all_goals go_wp2
  all_goals (refine ⟨rfl, _, rfl, .tuple #[], by simp [results, Tryd.results23], rfl, rfl, ?_, ?_⟩)
  · exact (((((((((((((HN.out.set0 0 (.int .i64 0)).set0 1 (.int .i64 0)).set0 2 (.int .i64 0)).set0 3 (.slice none 0 0)).set0 4 (.int .i64 0)).set0 5 (.int .i64 0)).set0 6 (.bool false)).set0 7 (.bool false)).set0 8 (.int .i64 0)).set0 9 (.string ⟨#[]⟩)).set1 (.slice none 0 0)).set2 (.int .i64 (a : Int))).set3 (.int .i64 (n : Int))).drewN 1
  · exact (((((((((((((HB.out.setCell (p := ⟨q, 0, none⟩) (Nat.le_refl q) (.int .i64 0)).setCell (p := ⟨q, 1, none⟩) (Nat.le_refl q) (.int .i64 0)).setCell (p := ⟨q, 2, none⟩) (Nat.le_refl q) (.int .i64 0)).setCell (p := ⟨q, 3, none⟩) (Nat.le_refl q) (.slice none 0 0)).setCell (p := ⟨q, 4, none⟩) (Nat.le_refl q) (.int .i64 0)).setCell (p := ⟨q, 5, none⟩) (Nat.le_refl q) (.int .i64 0)).setCell (p := ⟨q, 6, none⟩) (Nat.le_refl q) (.bool false)).setCell (p := ⟨q, 7, none⟩) (Nat.le_refl q) (.bool false)).setCell (p := ⟨q, 8, none⟩) (Nat.le_refl q) (.int .i64 0)).setCell (p := ⟨q, 9, none⟩) (Nat.le_refl q) (.string ⟨#[]⟩)).setCell (p := ⟨q + 1, 0, none⟩) (Nat.le_add_right q 1) (.slice none 0 0)).setCell (p := ⟨q + 2, 0, none⟩) (Nat.le_add_right q 2) (.int .i64 (a : Int))).setCell (p := ⟨q + 3, 0, none⟩) (Nat.le_add_right q 3) (.int .i64 (n : Int))).drew

/-- what Parse answers -/
def IsPrs (r : Rx × List (List UInt8) × Nat × Nat) (w w' : World) (e : Ending) : Prop :=
  ∃ kv nv, e = .returned (.tuple #[rxAgg r.1 kv, nv, .int .i64 (r.2.2.1 : Int), .int .i64 (r.2.2.2 : Int)]) ∧ KX (fun q => w.heap.size ≤ q) w' r.1 kv ∧ w'.ownsRow w.heap.size 9 1 nv r.2.1.length (strCells r.2.1) ∧ Below w.heap.size w w'

theorem underStrs : ∃ d, Tryd.prog.underlying 31 = some d := ⟨_, Tryd.underlying31⟩

set_option maxRecDepth 100000 in
/-- the results are read -/
theorem results_NR {q : Nat} {t : Rx} {kv a b c : Value} {W : World} {tm : Array Value} (h : NR q (rxCells t kv).toArray a b c W)
    (h4 : tm.getD 4 undef = .pointer (some ⟨q, 0, none⟩)) (h5 : tm.getD 5 undef = .pointer (some ⟨q + 1, 0, none⟩)) (h6 : tm.getD 6 undef = .pointer (some ⟨q + 2, 0, none⟩)) (h7 : tm.getD 7 undef = .pointer (some ⟨q + 3, 0, none⟩)) :
    (results Tryd.f11 tm).run Tryd.prog W = .ok (.tuple #[rxAgg t kv, a, b, c]) W := by
  have h4' : tm[4]?.getD undef = .pointer (some ⟨q, 0, none⟩) := by simpa using h4
  have h5' : tm[5]?.getD undef = .pointer (some ⟨q + 1, 0, none⟩) := by simpa using h5
  have h6' : tm[6]?.getD undef = .pointer (some ⟨q + 2, 0, none⟩) := by simpa using h6
  have h7' : tm[7]?.getD undef = .pointer (some ⟨q + 3, 0, none⟩) := by simpa using h7
  have l0 := load_rx h.h0 (rx_len t kv)
  have d1 : W.cell? ⟨q + 1, 0, none⟩ = some a := by rw [Lib.cell_of_heap h.h1]; rfl
  have d2 : W.cell? ⟨q + 2, 0, none⟩ = some b := by rw [Lib.cell_of_heap h.h2]; rfl
  have d3 : W.cell? ⟨q + 3, 0, none⟩ = some c := by rw [Lib.cell_of_heap h.h3]; rfl
  have l1 : (loadVar 31 ⟨q + 1, 0, none⟩).run Tryd.prog W = .ok a W := by simp [go_sem, d1]
  have l2 : (loadVar 3 ⟨q + 2, 0, none⟩).run Tryd.prog W = .ok b W := by simp [go_sem, d2]
  have l3 : (loadVar 27 ⟨q + 3, 0, none⟩).run Tryd.prog W = .ok c W := by simp [go_sem, d3]
  simp [results, Tryd.results11, h4', h5', h6', h7', asAddr, l0, l1, l2, l3, Result.andThen]
  rfl

theorem zrx_put (v0 v1 v2 v3 v4 v5 v6 v7 v8 v9 : Value) : ((((((((((zRx.setIfInBounds 0 v0).setIfInBounds 1 v1).setIfInBounds 2 v2).setIfInBounds 3 v3).setIfInBounds 4 v4).setIfInBounds 5 v5).setIfInBounds 6 v6).setIfInBounds 7 v7).setIfInBounds 8 v8).setIfInBounds 9 v9) = #[v0, v1, v2, v3, v4, v5, v6, v7, v8, v9] := by
  unfold zRx
  simp only [List.setIfInBounds_toArray, List.set]
theorem NR.put {q : Nat} {a b c : Value} {w : World} (h : NR q zRx a b c w) (v0 v1 v2 v3 v4 v5 v6 v7 v8 v9 a' b' c' : Value) : NR q #[v0, v1, v2, v3, v4, v5, v6, v7, v8, v9] a' b' c' (((((((((((((w.setCell ⟨q, 0, none⟩ v0).setCell ⟨q, 1, none⟩ v1).setCell ⟨q, 2, none⟩ v2).setCell ⟨q, 3, none⟩ v3).setCell ⟨q, 4, none⟩ v4).setCell ⟨q, 5, none⟩ v5).setCell ⟨q, 6, none⟩ v6).setCell ⟨q, 7, none⟩ v7).setCell ⟨q, 8, none⟩ v8).setCell ⟨q, 9, none⟩ v9).setCell ⟨q + 1, 0, none⟩ a').setCell ⟨q + 2, 0, none⟩ b').setCell ⟨q + 3, 0, none⟩ c') := by
  rw [← zrx_put v0 v1 v2 v3 v4 v5 v6 v7 v8 v9]
  exact ((((((((((((h.set0 0 v0).set0 1 v1).set0 2 v2).set0 3 v3).set0 4 v4).set0 5 v5).set0 6 v6).set0 7 v7).set0 8 v8).set0 9 v9).set1 a').set2 b').set3 c'
theorem nr_below {q B : Nat} {w0 w : World} (h : Below B w0 w) (hB : B ≤ q) (v0 v1 v2 v3 v4 v5 v6 v7 v8 v9 a' b' c' : Value) : Below B w0 (((((((((((((w.setCell ⟨q, 0, none⟩ v0).setCell ⟨q, 1, none⟩ v1).setCell ⟨q, 2, none⟩ v2).setCell ⟨q, 3, none⟩ v3).setCell ⟨q, 4, none⟩ v4).setCell ⟨q, 5, none⟩ v5).setCell ⟨q, 6, none⟩ v6).setCell ⟨q, 7, none⟩ v7).setCell ⟨q, 8, none⟩ v8).setCell ⟨q, 9, none⟩ v9).setCell ⟨q + 1, 0, none⟩ a').setCell ⟨q + 2, 0, none⟩ b').setCell ⟨q + 3, 0, none⟩ c') := (((((((((((((h.setCell (p := ⟨q, 0, none⟩) hB v0).setCell (p := ⟨q, 1, none⟩) hB v1).setCell (p := ⟨q, 2, none⟩) hB v2).setCell (p := ⟨q, 3, none⟩) hB v3).setCell (p := ⟨q, 4, none⟩) hB v4).setCell (p := ⟨q, 5, none⟩) hB v5).setCell (p := ⟨q, 6, none⟩) hB v6).setCell (p := ⟨q, 7, none⟩) hB v7).setCell (p := ⟨q, 8, none⟩) hB v8).setCell (p := ⟨q, 9, none⟩) hB v9).setCell (p := ⟨q + 1, 0, none⟩) (Nat.le_trans hB (Nat.le_add_right q 1)) a').setCell (p := ⟨q + 2, 0, none⟩) (Nat.le_trans hB (Nat.le_add_right q 2)) b').setCell (p := ⟨q + 3, 0, none⟩) (Nat.le_trans hB (Nat.le_add_right q 3)) c')
theorem nr_far {q k : Nat} (w : World) (hk : q + 4 ≤ k) (v0 v1 v2 v3 v4 v5 v6 v7 v8 v9 a' b' c' : Value) : (((((((((((((w.setCell ⟨q, 0, none⟩ v0).setCell ⟨q, 1, none⟩ v1).setCell ⟨q, 2, none⟩ v2).setCell ⟨q, 3, none⟩ v3).setCell ⟨q, 4, none⟩ v4).setCell ⟨q, 5, none⟩ v5).setCell ⟨q, 6, none⟩ v6).setCell ⟨q, 7, none⟩ v7).setCell ⟨q, 8, none⟩ v8).setCell ⟨q, 9, none⟩ v9).setCell ⟨q + 1, 0, none⟩ a').setCell ⟨q + 2, 0, none⟩ b').setCell ⟨q + 3, 0, none⟩ c').heap[k]? = w.heap[k]? := (rheap_far (p := ⟨q + 3, 0, none⟩) (show q + 3 ≠ k by omega)).trans ((rheap_far (p := ⟨q + 2, 0, none⟩) (show q + 2 ≠ k by omega)).trans ((rheap_far (p := ⟨q + 1, 0, none⟩) (show q + 1 ≠ k by omega)).trans ((rheap_far (p := ⟨q, 9, none⟩) (show q ≠ k by omega)).trans ((rheap_far (p := ⟨q, 8, none⟩) (show q ≠ k by omega)).trans ((rheap_far (p := ⟨q, 7, none⟩) (show q ≠ k by omega)).trans ((rheap_far (p := ⟨q, 6, none⟩) (show q ≠ k by omega)).trans ((rheap_far (p := ⟨q, 5, none⟩) (show q ≠ k by omega)).trans ((rheap_far (p := ⟨q, 4, none⟩) (show q ≠ k by omega)).trans ((rheap_far (p := ⟨q, 3, none⟩) (show q ≠ k by omega)).trans ((rheap_far (p := ⟨q, 2, none⟩) (show q ≠ k by omega)).trans ((rheap_far (p := ⟨q, 1, none⟩) (show q ≠ k by omega)).trans ((rheap_far (p := ⟨q, 0, none⟩) (show q ≠ k by omega)).trans (rfl)))))))))))))
theorem rowns_low {w : World} {B B' : Nat} {E : TypeId} {size : Nat} {v : Value} {m : Nat} {xs : List Value} (h : w.ownsRow B E size v m xs) (hB : B' ≤ B) : w.ownsRow B' E size v m xs := by
  refine ⟨h.1, ?_⟩
  rcases h.2 with h2 | ⟨g, cap, cur, hv, hg, r2⟩
  · exact .inl h2
  · exact .inr ⟨g, cap, cur, hv, Nat.le_trans hB hg, r2⟩
theorem nr_all {q : Nat} {a b c : Value} {w0 w : World} (h : NR q zRx a b c w) (hb : Below q w0 w) (v0 v1 v2 v3 v4 v5 v6 v7 v8 v9 a' b' c' : Value) : ∃ W9, NR q #[v0, v1, v2, v3, v4, v5, v6, v7, v8, v9] a' b' c' W9 ∧ Below q w0 W9 ∧ (∀ k, q + 4 ≤ k → W9.heap[k]? = w.heap[k]?) ∧ (((((((((((((w.setCell ⟨q, 0, none⟩ v0).setCell ⟨q, 1, none⟩ v1).setCell ⟨q, 2, none⟩ v2).setCell ⟨q, 3, none⟩ v3).setCell ⟨q, 4, none⟩ v4).setCell ⟨q, 5, none⟩ v5).setCell ⟨q, 6, none⟩ v6).setCell ⟨q, 7, none⟩ v7).setCell ⟨q, 8, none⟩ v8).setCell ⟨q, 9, none⟩ v9).setCell ⟨q + 1, 0, none⟩ a').setCell ⟨q + 1 + 1, 0, none⟩ b').setCell ⟨q + 1 + 1 + 1, 0, none⟩ c') = W9 := by
  have h1 := (NR.put h v0 v1 v2 v3 v4 v5 v6 v7 v8 v9 a' b' c')
  have h2 := (nr_below hb (Nat.le_refl _) v0 v1 v2 v3 v4 v5 v6 v7 v8 v9 a' b' c')
  have h3 := fun k hk => nr_far (q := q) (k := k) w hk v0 v1 v2 v3 v4 v5 v6 v7 v8 v9 a' b' c'
  exact ⟨_, h1, h2, h3, rfl⟩
/-- the four results' variables are made -/
theorem NR.made (w : World) : NR w.heap.size zRx (.slice none 0 0) (.int .i64 0) (.int .i64 0) ((((w.alloc (.cells zRx TRx)).alloc (.cells #[.slice none 0 0] 31)).alloc (.cells #[.int .i64 0] 3)).alloc (.cells #[.int .i64 0] 27)) := by
  have s1 := World.size_alloc w (.cells zRx TRx)
  have s2 := World.size_alloc (w.alloc (.cells zRx TRx)) (.cells #[.slice none 0 0] 31)
  have s3 := World.size_alloc ((w.alloc (.cells zRx TRx)).alloc (.cells #[.slice none 0 0] 31)) (.cells #[.int .i64 0] 3)
  refine ⟨?_, ?_, ?_, ?_⟩
  · rw [Below.heap_alloc _ _ _ (by omega), Below.heap_alloc _ _ _ (by omega), Below.heap_alloc _ _ _ (by omega)]
    exact Go.heap_alloc_new w _
  · rw [Below.heap_alloc _ _ _ (by omega), Below.heap_alloc _ _ _ (by omega), ← s1]
    exact Go.heap_alloc_new _ _
  · rw [Below.heap_alloc _ _ _ (by omega), show w.heap.size + 2 = ((w.alloc (.cells zRx TRx)).alloc (.cells #[.slice none 0 0] 31)).heap.size by omega]
    exact Go.heap_alloc_new _ _
  · rw [show w.heap.size + 3 = (((w.alloc (.cells zRx TRx)).alloc (.cells #[.slice none 0 0] 31)).alloc (.cells #[.int .i64 0] 3)).heap.size by omega]
    exact Go.heap_alloc_new _ _
/-- a new parser -/
theorem PrV.made {w0 w : World} {l : List Int} {free : Bool} {A : Option Addr} {cap : Nat} (hb : Below w0.heap.size w0 w) (hL : OwnInts w0.heap.size w (.slice A l.length cap) l) :
    PrV w0 (w.heap.size + 1) l free ⟨0, 0, []⟩ ((w.alloc (.map #[] 0)).alloc (.cells #[.slice A l.length cap, .int .i64 0, .bool free, .int .i64 0, .slice none 0 0, .map (some w.heap.size)] PrsT)) := by
  have s1 := World.size_alloc w (.map #[] 0)
  have hs := hb.size
  have hb1 := (Below.refl _ w).alloc (Nat.le_refl _) (.map #[] 0)
  have hb2 := hb1.alloc (by omega) (.cells #[.slice A l.length cap, .int .i64 0, .bool free, .int .i64 0, .slice none 0 0, .map (some w.heap.size)] PrsT)
  refine ⟨hb.trans (hb2.mono hs), by omega, _, _, w.heap.size, _, ?_, rowns_below hL hb2, World.ownsRow_nil _ _ _ _, hs, (World.ownsMap_made w _ _ _).alloc _, Go.Maps.isMap_empty, fun x hx => rfl⟩
  rw [← s1]; exact Go.heap_alloc_new _ _

set_option maxHeartbeats 4000000 in
set_option maxRecDepth 100000 in
theorem rxParse_any (s : ByteArray) (free : Bool) (w : World) (hs : s.size ≤ 17592186044416) :
    Calls Tryd.prog 11 #[.string s, .bool free] w fun e w' => IsPrs (parseV s.data.toList free) w w' e := by
  have hmf : ∀ (fn : Fn) (first cap : Array Value) (w : World), (Instr.makeFunc fn first cap).run Tryd.prog w = .ok (.func fn first cap) w := fun _ _ _ _ => rfl
  have hmm := @run_makeMap Tryd.prog
  have KE := Lib.hid (fun W => utfExplode_any s W hs)
  have hpts : ∀ c ∈ explode s.data.toList, 0 ≤ c ∧ c ≤ 1114111 := fun c hc => by have := (isPt_iff c).1 (explode_pt _ c hc); exact ⟨this.1, this.2.1⟩
  have hll : (explode s.data.toList).length ≤ 17592186044416 := by have := explode_len s.data.toList; have := Lib.size_eq s; omega
  rw [show parseV s.data.toList free = parseL free (explode s.data.toList) from rfl]
  generalize explode s.data.toList = l at *
  go_enter_defers Tryd.func11, Tryd.ntmps11
  go_wp2_with (go_at_call 6; refine (KE.out _).mono ?_)
  rintro e w1 ⟨Lv, rfl, hL, hb1⟩
  obtain ⟨LA, Lc, rfl⟩ := rowns_slice hL
  obtain ⟨W0, hW0⟩ : ∃ W0, W0 = ((((w.alloc (.cells zRx TRx)).alloc (.cells #[.slice none 0 0] 31)).alloc (.cells #[.int .i64 0] 3)).alloc (.cells #[.int .i64 0] 27)) := ⟨_, rfl⟩
  have hL0 : OwnInts W0.heap.size w1 (.slice LA l.length Lc) l := by rw [hW0]; exact hL
  have hb0 : Below W0.heap.size W0 w1 := by rw [hW0]; exact hb1
  have hn0 : NR w.heap.size zRx (.slice none 0 0) (.int .i64 0) (.int .i64 0) W0 := by rw [hW0]; exact NR.made w
  have hs0 : W0.heap.size = w.heap.size + 4 := by rw [hW0]; simp [World.size_alloc]
  have hbw : Below w.heap.size w W0 := by
    rw [hW0]
    exact ((((Below.refl _ w).alloc (Nat.le_refl _) _).alloc (by rw [World.size_alloc]; omega) _).alloc (by rw [World.size_alloc, World.size_alloc]; omega) _).alloc (by rw [World.size_alloc, World.size_alloc, World.size_alloc]; omega) _
  have hp0 := PrV.made (free := free) hb0 hL0
  have hs1 := hb0.size
  clear hL hb1 hW0 hL0 hb0
  have HP0 := Lib.hid hp0
  have HN0 := Lib.hid hn0
  have HBW := Lib.hid hbw
  clear hp0 hn0 hbw
  go_upto_region 2 with fail
  obtain ⟨W2, hW2⟩ : ∃ W2, W2 = (w1.alloc (.map #[] 0)).alloc (.cells #[.slice LA l.length Lc, .int .i64 0, .bool free, .int .i64 0, .slice none 0 0, .map (some w1.heap.size)] PrsT) := ⟨_, rfl⟩
  rw [← hW2]
  obtain ⟨g, hg⟩ : ∃ g, g = w1.heap.size + 1 := ⟨_, rfl⟩
  rw [← hg]
  have hv2 : PrV W0 g l free ⟨0, 0, []⟩ W2 := by rw [hW2, hg]; exact HP0.out
  clear HP0 hW2
  have hgl : W0.heap.size ≤ g := by omega
  clear hg
  have hn2 : NR w.heap.size zRx (.slice none 0 0) (.int .i64 0) (.int .i64 0) W2 := HN0.out.below hv2.1 (by omega)
  have hb2 : Below w.heap.size w W2 := HBW.out.trans (hv2.1.mono (by omega))
  obtain ⟨A0, cap0, k0, hRd⟩ := hv2.c0
  have HV2 := Lib.hid hv2
  have HB2 := Lib.hid hb2
  have HN2 := Lib.hid hn2
  clear hv2 hRd hb2
  by_cases hbig : 1000 < l.length
  · have z1 : decide ((1000 : Int) < (l.length : Int)) = true := decide_eq_true (by omega)
    have HT := Lib.hid (show parseL free l = (rxNone, [], 0, 10) by unfold parseL; rw [if_pos hbig])
    obtain ⟨c0, c1, c2, c3, c4, c5, c6, c7, c8, c9⟩ := zrx_cells hn2.h0
    obtain ⟨f0, f1, f2, f3, f4, f5, f6, f7, f8, f9⟩ := zrx_frozen hn2.h0
    have d1 : W2.cell? ⟨w.heap.size + 1, 0, none⟩ = some (.slice none 0 0) := by rw [Lib.cell_of_heap hn2.h1]; rfl
    have d2 : W2.cell? ⟨w.heap.size + 1 + 1, 0, none⟩ = some (.int .i64 0) := by rw [Lib.cell_of_heap hn2.h2]; rfl
    have d3 : W2.cell? ⟨w.heap.size + 1 + 1 + 1, 0, none⟩ = some (.int .i64 0) := by rw [Lib.cell_of_heap hn2.h3]; rfl
    have g1 := Lib.frozen_of_heap hn2.h1 0
    have g2 : W2.frozen? ⟨w.heap.size + 1 + 1, 0, none⟩ = false := Lib.frozen_of_heap hn2.h2 0
    have g3 : W2.frozen? ⟨w.heap.size + 1 + 1 + 1, 0, none⟩ = false := Lib.frozen_of_heap hn2.h3 0
    clear hn2 hbig
    go_wp2
    refine ⟨_, results_NR (t := rxNone) (kv := .slice none 0 0) (NR.put HN2.out (.int .i64 0) (.int .i64 0) (.int .i64 0) (.slice none 0 0) (.int .i64 0) (.int .i64 0) (.bool false) (.bool false) (.int .i64 0) (.string ⟨#[]⟩) (.slice none 0 0) (.int .i64 0) (.int .i64 10)) rfl rfl rfl rfl, ?_⟩
    rw [HT.out]
    exact ⟨.slice none 0 0, .slice none 0 0, rfl, KX.leaf rfl, World.ownsRow_nil _ _ _ _, nr_below HB2.out (Nat.le_refl _) _ _ _ _ _ _ _ _ _ _ _ _ _⟩
  have z1 : decide ((1000 : Int) < (l.length : Int)) = false := decide_eq_false (by omega)
  have hf : Fin1 l ⟨0, 0, []⟩ := ⟨Nat.zero_le _, Nat.le_refl _, by omega, by decide, hpts⟩
  have KA0 := rxAltF W0 g l free 51 0 rfl ⟨0, 0, []⟩ W2 hf rfl HV2.out
  cases hal : altF free l 51 ⟨0, 0, []⟩ with
  | bad a n =>
    rw [hal] at KA0
    have HT := Lib.hid (show parseL free l = (rxNone, [], a, n) by unfold parseL; rw [if_neg hbig, hal])
    have KA := Lib.hid (show Calls Tryd.prog 24 #[.pointer (some ⟨g, 0, none⟩)] W2 (BdP W0 a n) from KA0)
    clear KA0 hal hn2 hf
    go_wp2_with (go_at_call 24; refine KA.out.mono ?_)
    rintro e w3 ⟨rfl, hb3⟩
    have hn3 := HN0.out.below hb3 (by omega)
    have HB3 := Lib.hid (HBW.out.trans (hb3.mono (by omega)))
    unfold stopE
    go_wp2
    refine leaves_cons (f := 23) (args := #[.pointer (some ⟨w.heap.size, 0, none⟩), .pointer (some ⟨w.heap.size + 1, 0, none⟩), .pointer (some ⟨w.heap.size + 1 + 1, 0, none⟩), .pointer (some ⟨w.heap.size + 1 + 1 + 1, 0, none⟩)]) (by simp) (by simp [go_sem]) ?_
    refine (rxCatch w.heap.size a n w3 hn3).mono ?_
    rintro e u' w'' ⟨rfl, rfl, hn, hbb⟩
    refine ⟨_, results_NR (t := rxNone) (kv := .slice none 0 0) hn rfl rfl rfl rfl, ?_⟩
    rw [HT.out]
    exact ⟨.slice none 0 0, .slice none 0 0, rfl, KX.leaf rfl, World.ownsRow_nil _ _ _ _, (HB3.out).trans hbb⟩
  | ok x s3 =>
    rw [hal] at KA0
    have had := altF_adv 51 _ _ _ hal
    have hf3 := hf.adv had
    have hp3 := hf3.pos
    have hl3 := hf3.len
    have KA := Lib.hid (show Calls Tryd.prog 24 #[.pointer (some ⟨g, 0, none⟩)] W2 (OkT W0 g l free s3 W2 x) from KA0)
    clear KA0 hn2
    go_wp2_with (go_at_call 24; refine KA.out.mono ?_)
    rintro e w3 ⟨kv, rfl, hx3, h3, k3⟩
    obtain ⟨A3, cap3, rfl⟩ := hx3.slice
    simp only [rxAgg]
    have h30 := h3.1
    obtain ⟨W4, hW4⟩ : ∃ W4, W4 = w3.alloc (.cells (rxCells x (.slice A3 x.kids.length cap3)).toArray TRx) := ⟨_, rfl⟩
    have h4 : PrV W0 g l free s3 W4 := by rw [hW4]; exact h3.alloc _
    have hX : W4.heap[w3.heap.size]? = some (.cells (rxCells x (.slice A3 x.kids.length cap3)).toArray TRx (0, 0)) := by rw [hW4]; exact Go.heap_alloc_new w3 _
    have hkx : KX (fun q => W2.heap.size ≤ q) W4 x (.slice A3 x.kids.length cap3) := by rw [hW4]; exact hx3.kept fun q c z hq hh => ⟨(Below.heap_alloc w3 _ q (Array.getElem?_eq_some_iff.1 hh).1).trans hh, hq⟩
    have hn4 : NR w.heap.size zRx (.slice none 0 0) (.int .i64 0) (.int .i64 0) W4 := HN0.out.below h4.1 (by omega)
    have hb4 : Below w.heap.size w W4 := HBW.out.trans (h4.1.mono (by omega))
    have h2s := HV2.out.size
    have h3s := h3.size
    go_upto_region 6 with fail
    have e4 : W4 = w3.alloc (.cells #[.int .i64 (x.kind : Int), .int .i64 x.rune, .int .i64 x.to, .slice A3 x.kids.length cap3, .int .i64 x.min, .int .i64 x.max, .bool x.lazy, .bool x.not, .int .i64 (x.group : Int), .string ⟨x.name.toArray⟩] TRx) := hW4
    rw [← e4]
    clear e4 hW4 h3 k3 hx3 h30
    have c14 := h4.c1
    obtain ⟨A4, cap4, c04, hRd⟩ := h4.c0
    have HV4 := Lib.hid h4
    have HX4 := Lib.hid hX
    have HKX := Lib.hid hkx
    have HN4 := Lib.hid hn4
    have HB4 := Lib.hid hb4
    have hsp : w.heap.size + 4 ≤ w3.heap.size := by omega
    clear h4 hX hkx hn4 hb4 hRd
    by_cases hlt : s3.pos < l.length
    · have z2 : decide ((s3.pos : Int) < (l.length : Int)) = true := decide_eq_true (by omega)
      have HT := Lib.hid (show parseL free l = (rxNone, [], s3.pos, 2) by unfold parseL; rw [if_neg hbig, hal]; simp only; rw [if_pos hlt])
      have KF := Lib.hid (fun (W : World) (h : PrV W0 g l free s3 W) => (rxFail_any W0 g l free s3 s3.names W s3.pos h).mono (R' := fun e w' => e = stopE s3.pos 2 ∧ W = w') (by rintro e w' ⟨rfl, h⟩; exact ⟨by rw [if_neg (by omega), if_neg (by omega)], h⟩))
      clear hal
      go_quiet (fail)
      go_upto_region 7 with fail
      obtain ⟨W5, hW5⟩ : ∃ W5, W5 = W4.drewN nq := ⟨_, rfl⟩
      rw [← hW5]
      have h5 : PrV W0 g l free s3 W5 := by rw [hW5]; exact HV4.out.drewN nq
      have hn5 : NR w.heap.size zRx (.slice none 0 0) (.int .i64 0) (.int .i64 0) W5 := by rw [hW5]; exact HN4.out.drewN nq
      have hb5 : Below w.heap.size w W5 := by rw [hW5]; exact HB4.out.trans ⟨rfl, rfl, rfl, Nat.le_refl _, fun _ _ => rfl⟩
      have c15 := h5.c1
      have H5 := Lib.hid h5
      have HN5 := Lib.hid hn5
      have HB5 := Lib.hid hb5
      clear h5 hn5 hb5 hW5
      go_wp2_with (go_at_call 25; refine (KF.out W5 H5.out).mono ?_)
      rintro e w6 ⟨rfl, rfl⟩
      unfold stopE
      go_wp2
      refine leaves_cons (f := 23) (args := #[.pointer (some ⟨w.heap.size, 0, none⟩), .pointer (some ⟨w.heap.size + 1, 0, none⟩), .pointer (some ⟨w.heap.size + 1 + 1, 0, none⟩), .pointer (some ⟨w.heap.size + 1 + 1 + 1, 0, none⟩)]) (by simp) (by simp [go_sem]) ?_
      refine (rxCatch w.heap.size s3.pos 2 W5 HN5.out).mono ?_
      rintro e u' w'' ⟨rfl, rfl, hn, hbb⟩
      refine ⟨_, results_NR (t := rxNone) (kv := .slice none 0 0) hn rfl rfl rfl rfl, ?_⟩
      rw [HT.out]
      exact ⟨.slice none 0 0, .slice none 0 0, rfl, KX.leaf rfl, World.ownsRow_nil _ _ _ _, HB5.out.trans hbb⟩
    · have z2 : decide ((s3.pos : Int) < (l.length : Int)) = false := decide_eq_false (by omega)
      have HT := Lib.hid (show parseL free l = (x, s3.names, 0, 0) by unfold parseL; rw [if_neg hbig, hal]; simp only; rw [if_neg hlt])
      clear hal
      go_quiet (fail)
      go_upto_region 8 with fail
      obtain ⟨W5, hW5⟩ : ∃ W5, W5 = W4.drewN nq := ⟨_, rfl⟩
      rw [← hW5]
      have h5 : PrV W0 g l free s3 W5 := by rw [hW5]; exact HV4.out.drewN nq
      have hX5 : W5.heap[w3.heap.size]? = some (.cells (rxCells x (.slice A3 x.kids.length cap3)).toArray TRx (0, 0)) := by rw [hW5]; exact HX4.out
      have hkx5 : KX (fun q => W2.heap.size ≤ q) W5 x (.slice A3 x.kids.length cap3) := by rw [hW5]; exact HKX.out.kept (w := W4) (w' := W4.drewN nq) (G := fun q => W2.heap.size ≤ q) fun _ _ _ hq hh => ⟨hh, hq⟩
      have hn5 : NR w.heap.size zRx (.slice none 0 0) (.int .i64 0) (.int .i64 0) W5 := by rw [hW5]; exact HN4.out.drewN nq
      have hb5 : Below w.heap.size w W5 := by rw [hW5]; exact HB4.out.trans ⟨rfl, rfl, rfl, Nat.le_refl _, fun _ _ => rfl⟩
      clear hW5 c14 c04
      obtain ⟨e0, e1, e2, e3, e4, e5, e6, e7, e8, e9⟩ : W5.cell? ⟨w3.heap.size, 0, none⟩ = some (.int .i64 (x.kind : Int)) ∧ W5.cell? ⟨w3.heap.size, 1, none⟩ = some (.int .i64 x.rune) ∧ W5.cell? ⟨w3.heap.size, 2, none⟩ = some (.int .i64 x.to) ∧ W5.cell? ⟨w3.heap.size, 3, none⟩ = some (.slice A3 x.kids.length cap3) ∧ W5.cell? ⟨w3.heap.size, 4, none⟩ = some (.int .i64 x.min) ∧ W5.cell? ⟨w3.heap.size, 5, none⟩ = some (.int .i64 x.max) ∧ W5.cell? ⟨w3.heap.size, 6, none⟩ = some (.bool x.lazy) ∧ W5.cell? ⟨w3.heap.size, 7, none⟩ = some (.bool x.not) ∧ W5.cell? ⟨w3.heap.size, 8, none⟩ = some (.int .i64 (x.group : Int)) ∧ W5.cell? ⟨w3.heap.size, 9, none⟩ = some (.string ⟨x.name.toArray⟩) := by
        refine ⟨?_, ?_, ?_, ?_, ?_, ?_, ?_, ?_, ?_, ?_⟩ <;> (rw [Lib.cell_of_heap hX5]; rfl)
      obtain ⟨nv, hnv, hown⟩ : ∃ nv, W5.cell? ⟨g, 4, none⟩ = some nv ∧ W5.ownsRow W0.heap.size 9 1 nv s3.names.length (strCells s3.names) := by
        obtain ⟨_, _, Lv, nv, mb, D, hh, _, hn, _⟩ := h5
        exact ⟨nv, by rw [Lib.cell_of_heap hh]; rfl, hn⟩
      obtain ⟨NA, ncap, rfl⟩ := rowns_slice hown
      obtain ⟨c0, c1, c2, c3, c4, c5, c6, c7, c8, c9⟩ := zrx_cells hn5.h0
      obtain ⟨f0, f1, f2, f3, f4, f5, f6, f7, f8, f9⟩ := zrx_frozen hn5.h0
      have d1 : W5.cell? ⟨w.heap.size + 1, 0, none⟩ = some (.slice none 0 0) := by rw [Lib.cell_of_heap hn5.h1]; rfl
      have d2 : W5.cell? ⟨w.heap.size + 1 + 1, 0, none⟩ = some (.int .i64 0) := by rw [Lib.cell_of_heap hn5.h2]; rfl
      have d3 : W5.cell? ⟨w.heap.size + 1 + 1 + 1, 0, none⟩ = some (.int .i64 0) := by rw [Lib.cell_of_heap hn5.h3]; rfl
      have g1 := Lib.frozen_of_heap hn5.h1 0
      have g2 : W5.frozen? ⟨w.heap.size + 1 + 1, 0, none⟩ = false := Lib.frozen_of_heap hn5.h2 0
      have g3 : W5.frozen? ⟨w.heap.size + 1 + 1 + 1, 0, none⟩ = false := Lib.frozen_of_heap hn5.h3 0
      have n1 : ¬ w.heap.size = w3.heap.size := by omega
      have n2 : ¬ w.heap.size + 1 = w3.heap.size := by omega
      have n3 : ¬ w.heap.size + 1 + 1 = w3.heap.size := by omega
      have n4 : ¬ w.heap.size + 1 + 1 + 1 = w3.heap.size := by omega
      have m1 : ¬ w.heap.size = g := by omega
      have m2 : ¬ w.heap.size + 1 = g := by omega
      have m3 : ¬ w.heap.size + 1 + 1 = g := by omega
      have m4 : ¬ w.heap.size + 1 + 1 + 1 = g := by omega
      have HN5 := Lib.hid hn5
      have HB5 := Lib.hid hb5
      have HOW := Lib.hid hown
      have HKX5 := Lib.hid hkx5
      clear hn5 hb5 hown hkx5 h5 hX5 HV4 HX4 HKX HN4 HB4
      go_region
      all_goals go_wp2
      obtain ⟨W9, hn9, hb9, hfar, hW9⟩ := nr_all HN5.out HB5.out (.int .i64 (x.kind : Int)) (.int .i64 x.rune) (.int .i64 x.to) (.slice A3 x.kids.length cap3) (.int .i64 x.min) (.int .i64 x.max) (.bool x.lazy) (.bool x.not) (.int .i64 (x.group : Int)) (.string ⟨x.name.toArray⟩) (.slice NA s3.names.length ncap) (.int .i64 0) (.int .i64 0)
      rw [hW9]
      clear hW9
      have hn9 : NR w.heap.size (rxCells x (.slice A3 x.kids.length cap3)).toArray (.slice NA s3.names.length ncap) (.int .i64 0) (.int .i64 0) W9.drew := hn9.drewN 1
      have hb9 : Below w.heap.size w W9.drew := hb9.drew
      have hfar : ∀ k, w.heap.size + 4 ≤ k → W9.drew.heap[k]? = W5.heap[k]? := hfar
      generalize W9.drew = W9 at *
      refine leaves_cons (f := 23) (args := #[.pointer (some ⟨w.heap.size, 0, none⟩), .pointer (some ⟨w.heap.size + 1, 0, none⟩), .pointer (some ⟨w.heap.size + 1 + 1, 0, none⟩), .pointer (some ⟨w.heap.size + 1 + 1 + 1, 0, none⟩)]) (by simp) (by simp [go_sem]) ?_
      refine (rxCatch_idle _ _ _ _ _).mono ?_
      rintro e u' w'' ⟨rfl, rfl, rfl⟩
      refine ⟨_, results_NR (t := x) (kv := .slice A3 x.kids.length cap3) hn9 rfl rfl rfl rfl, ?_⟩
      rw [HT.out]
      refine ⟨.slice A3 x.kids.length cap3, .slice NA s3.names.length ncap, rfl, ?_, ?_, hb9⟩
      · exact HKX5.out.kept (w := W5) (G := fun q => w.heap.size ≤ q) fun q c z hq hh => ⟨(hfar q (by have hq : W2.heap.size ≤ q := hq; omega)).trans hh, by have hq : W2.heap.size ≤ q := hq; omega⟩
      · refine rowns_low (B := W0.heap.size) (rowns_block (w := W5) HOW.out fun k c z e hh => ?_) (by omega)
        exact (hfar k (by have := (rrow_kind HOW.out k e).1; omega)).trans hh

end Go.Proofs.YtoniccokohjenaaDoor
