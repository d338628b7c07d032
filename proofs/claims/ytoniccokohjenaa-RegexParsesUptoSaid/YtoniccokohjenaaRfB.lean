/-
  The walks of the reference's on, told, stop, sign (chapter 18).
-/
import Derived.Test.YtoniccokohjenaaRfA
namespace Go.Proofs.Ytoniccokohjenaa
open Go.RowKit

set_option maxHeartbeats 4000000 in
set_option maxRecDepth 100000 in
theorem rfOn (L : LX) (p : PX) (n : Int) (w : World) :
    Calls Try.prog 56 #[pAgg L p, .int .i64 n] w (RetE (pAgg L { p with i := wrap64 (p.i + n) }) fun w' => Below w.heap.size w w') := by
  go_enter Try.func56, Try.ntmps56
  go_wp2_with (with_reducible refine box_p (by with_reducible rfl) _ (by with_reducible rfl) (L := L) (p := p) (by simp [Act.eval]) ?_)
  intro V hV bV sV
  go_wp2_with (with_reducible refine room_p (by with_reducible rfl) (by with_reducible rfl) hV ?_)
  intro W hW bW sW
  have c1 := hW.i
  have f1 := hW.frozen 1
  have h4 := hW.set (j := 1) (v := .int .i64 (wrap64 (p.i + n))) (p' := { p with i := wrap64 (p.i + n) }) rfl
  go_wp2_with (first
    | (with_reducible refine load_p (by with_reducible rfl) _ (by with_reducible rfl) w.heap.size (by simp [Act.eval]) h4 ?_)
    | (with_reducible refine store_r (by with_reducible rfl) _ _ (by with_reducible rfl) (w.heap.size + 1) (p' := { p with i := wrap64 (p.i + n) }) (by first | (simp [Act.eval]; done) | simp [Act.eval, Act.put]) (by first | (simp [Act.eval]; done) | simp [Act.eval, Act.put]) h4 ?_))
  intro W2 h2 b2 _
  go_wp2
  refine ret_p (k := 4) Try.results56 h2 (by simp) rfl ?_
  exact ⟨rfl, b2⟩

set_option maxHeartbeats 4000000 in
set_option maxRecDepth 100000 in
theorem rfToldA (L : LX) (p : PX) (x : Rx) (A : Option Addr) (n c : Nat) (w : World) (h : p.bad = 0) :
    Calls Try.prog 57 #[pAgg L p, rxAgg x (.slice A n c)] w (RetE (pAgg L { p with x := x, xa := A, xn := n, xc := c }) fun w' => Below w.heap.size w w') := by
  simp only [rxAgg]
  go_enter Try.func57, Try.ntmps57
  go_wp2_with (with_reducible refine box_p (by with_reducible rfl) _ (by with_reducible rfl) (L := L) (p := p) (by simp [Act.eval]) ?_)
  intro V hV bV sV
  have hV2 := hV.alloc (.cells (rxCells x (.slice A n c)).toArray TRx)
  have xV := Go.heap_alloc_new V (.cells (rxCells x (.slice A n c)).toArray TRx)
  simp only [rxCells] at hV2 xV
  go_wp2_with (with_reducible refine room_p (by with_reducible rfl) (by with_reducible rfl) hV2 ?_)
  intro W hW bW sW
  have c16 := hW.bad
  rw [h] at c16
  clear h
  have hx : W.heap[w.heap.size + 1]? = some (.cells (rxCells x (.slice A n c)).toArray TRx (0, 0)) := by rw [← sV]; exact (bW.block V.heap.size (by omega)).trans xV
  go_wp2_with (first
    | (with_reducible refine load_rxL (by with_reducible rfl) _ (by with_reducible rfl) (w.heap.size + 1) (rxCells x (.slice A n c)) (by simp [Act.eval]) ⟨_, hx⟩ (rx_len _ _) ?_)
    | (with_reducible refine store_px (by with_reducible rfl) _ _ (by with_reducible rfl) w.heap.size (X := x) (A := A) (n := n) (c := c) (by first | (simp [Act.eval]; done) | simp [Act.eval, Act.put]) (by first | (simp [Act.eval]; done) | simp [Act.eval, Act.put]) hW ?_))
  intro W1 hW1
  go_wp2_with (first
    | (with_reducible refine load_p (by with_reducible rfl) _ (by with_reducible rfl) w.heap.size (by simp [Act.eval]) hW1 ?_)
    | (with_reducible refine store_r (by with_reducible rfl) _ _ (by with_reducible rfl) (w.heap.size + 1 + 1) (p' := { p with x := x, xa := A, xn := n, xc := c }) (by first | (simp [Act.eval]; done) | simp [Act.eval, Act.put]) (by first | (simp [Act.eval]; done) | simp [Act.eval, Act.put]) hW1 ?_))
  intro W2 h2 b2 _
  go_wp2
  refine ret_p (k := 4) Try.results57 h2 (by simp) rfl ?_
  exact ⟨rfl, b2⟩

set_option maxHeartbeats 4000000 in
set_option maxRecDepth 100000 in
theorem rfToldB (L : LX) (p : PX) (x : Rx) (A : Option Addr) (n c : Nat) (w : World) (h : p.bad ≠ 0) :
    Calls Try.prog 57 #[pAgg L p, rxAgg x (.slice A n c)] w (RetE (pAgg L p) fun w' => Below w.heap.size w w') := by
  have z : (p.bad == 0) = false := by simp [h]
  simp only [rxAgg]
  go_enter Try.func57, Try.ntmps57
  go_wp2_with (with_reducible refine box_p (by with_reducible rfl) _ (by with_reducible rfl) (L := L) (p := p) (by simp [Act.eval]) ?_)
  intro V hV bV sV
  have hV2 := hV.alloc (.cells (rxCells x (.slice A n c)).toArray TRx)
  have xV := Go.heap_alloc_new V (.cells (rxCells x (.slice A n c)).toArray TRx)
  simp only [rxCells] at hV2 xV
  go_wp2_with (with_reducible refine room_p (by with_reducible rfl) (by with_reducible rfl) hV2 ?_)
  intro W hW bW sW
  have c16 := hW.bad
  clear h xV
  go_wp2_with (first
    | (with_reducible refine load_p (by with_reducible rfl) _ (by with_reducible rfl) w.heap.size (by simp [Act.eval]) hW ?_)
    | (with_reducible refine store_r (by with_reducible rfl) _ _ (by with_reducible rfl) (w.heap.size + 1 + 1) (p' := p) (by first | (simp [Act.eval]; done) | simp [Act.eval, Act.put]) (by first | (simp [Act.eval]; done) | simp [Act.eval, Act.put]) hW ?_))
  intro W2 h2 b2 _
  go_wp2
  refine ret_p (k := 4) Try.results57 h2 (by simp) rfl ?_
  exact ⟨rfl, b2⟩

/-- told: a tree, where nothing went wrong -/
def toldX (p : PX) (x : Rx) (A : Option Addr) (n c : Nat) : PX := if p.bad = 0 then { p with x := x, xa := A, xn := n, xc := c } else p
theorem rfTold (L : LX) (p : PX) (x : Rx) (A : Option Addr) (n c : Nat) (w : World) :
    Calls Try.prog 57 #[pAgg L p, rxAgg x (.slice A n c)] w (RetE (pAgg L (toldX p x A n c)) fun w' => Below w.heap.size w w') := by
  unfold toldX
  by_cases h : p.bad = 0
  · rw [if_pos h]; exact rfToldA L p x A n c w h
  · rw [if_neg h]; exact rfToldB L p x A n c w h

set_option maxHeartbeats 4000000 in
set_option maxRecDepth 100000 in
theorem rfStopA (L : LX) (p : PX) (n : Int) (w : World) (h : (L.n : Int) ≤ n) :
    Calls Try.prog 32 #[pAgg L p, .int .i64 n] w (RetE (pAgg L { p with at' := L.n, bad := 5 }) fun w' => Below w.heap.size w w') := by
  have z : decide ((L.n : Int) ≤ n) = true := decide_eq_true h
  go_enter Try.func32, Try.ntmps32
  go_wp2_with (with_reducible refine box_p (by with_reducible rfl) _ (by with_reducible rfl) (L := L) (p := p) (by simp [Act.eval]) ?_)
  intro V hV bV sV
  go_wp2_with (with_reducible refine room_p (by with_reducible rfl) (by with_reducible rfl) hV ?_)
  intro W hW bW sW
  have c0 := hW.pat
  have f15 := hW.frozen 15
  have f16 := hW.frozen 16
  have c15 := hW.at
  have c16 := hW.bad
  have h4 := (((hW.set (j := 15) (v := .int .i64 n) (p' := { p with at' := n }) rfl).set (j := 16) (v := .int .i64 2) (p' := { p with at' := n, bad := 2 }) rfl).set (j := 15) (v := .int .i64 L.n) (p' := { p with at' := L.n, bad := 2 }) rfl).set (j := 16) (v := .int .i64 5) (p' := { p with at' := L.n, bad := 5 }) rfl
  go_wp2_with (first
    | (with_reducible refine load_p (by with_reducible rfl) _ (by with_reducible rfl) w.heap.size (by simp [Act.eval]) h4 ?_)
    | (with_reducible refine store_r (by with_reducible rfl) _ _ (by with_reducible rfl) (w.heap.size + 1) (p' := { p with at' := L.n, bad := 5 }) (by first | (simp [Act.eval]; done) | simp [Act.eval, Act.put]) (by first | (simp [Act.eval]; done) | simp [Act.eval, Act.put]) h4 ?_))
  intro W2 h2 b2 _
  go_wp2
  refine ret_p (k := 4) Try.results32 h2 (by simp) rfl ?_
  exact ⟨rfl, b2⟩

set_option maxHeartbeats 4000000 in
set_option maxRecDepth 100000 in
theorem rfStopB (L : LX) (p : PX) (n : Int) (w : World) (h : n < (L.n : Int)) :
    Calls Try.prog 32 #[pAgg L p, .int .i64 n] w (RetE (pAgg L { p with at' := n, bad := 2 }) fun w' => Below w.heap.size w w') := by
  have z : decide ((L.n : Int) ≤ n) = false := decide_eq_false (by omega)
  go_enter Try.func32, Try.ntmps32
  go_wp2_with (with_reducible refine box_p (by with_reducible rfl) _ (by with_reducible rfl) (L := L) (p := p) (by simp [Act.eval]) ?_)
  intro V hV bV sV
  go_wp2_with (with_reducible refine room_p (by with_reducible rfl) (by with_reducible rfl) hV ?_)
  intro W hW bW sW
  have c0 := hW.pat
  have f15 := hW.frozen 15
  have f16 := hW.frozen 16
  have c15 := hW.at
  have c16 := hW.bad
  have h4 := (hW.set (j := 15) (v := .int .i64 n) (p' := { p with at' := n }) rfl).set (j := 16) (v := .int .i64 2) (p' := { p with at' := n, bad := 2 }) rfl
  go_wp2_with (first
    | (with_reducible refine load_p (by with_reducible rfl) _ (by with_reducible rfl) w.heap.size (by simp [Act.eval]) h4 ?_)
    | (with_reducible refine store_r (by with_reducible rfl) _ _ (by with_reducible rfl) (w.heap.size + 1) (p' := { p with at' := n, bad := 2 }) (by first | (simp [Act.eval]; done) | simp [Act.eval, Act.put]) (by first | (simp [Act.eval]; done) | simp [Act.eval, Act.put]) h4 ?_))
  intro W2 h2 b2 _
  go_wp2
  refine ret_p (k := 4) Try.results32 h2 (by simp) rfl ?_
  exact ⟨rfl, b2⟩

/-- stop: the place, and how it ends -/
def stopX (L : LX) (p : PX) (n : Int) : PX := if (L.n : Int) ≤ n then { p with at' := L.n, bad := 5 } else { p with at' := n, bad := 2 }
theorem rfStop (L : LX) (p : PX) (n : Int) (w : World) :
    Calls Try.prog 32 #[pAgg L p, .int .i64 n] w (RetE (pAgg L (stopX L p n)) fun w' => Below w.heap.size w w') := by
  unfold stopX
  by_cases h : (L.n : Int) ≤ n
  · rw [if_pos h]; exact rfStopA L p n w h
  · rw [if_neg h]; exact rfStopB L p n w (by omega)

set_option maxHeartbeats 4000000 in
set_option maxRecDepth 100000 in
theorem rfSign (L : LX) (p : PX) (l : List Int) (i n : Nat) (w : World) (hL : LRd w L l) (hi : p.i = i) (hn : l.length ≤ 1000) (hi2 : i ≤ 4000) (hn2 : n ≤ 4000) :
    Calls Try.prog 55 #[pAgg L p, .int .i64 (n : Int)] w (RetE (.int .i64 (due l (i + n))) fun w' => Below w.heap.size w w') := by
  obtain ⟨hl, hat⟩ := hL
  obtain ⟨La, Ln, Lc, Lf⟩ := L
  simp only at hat hl
  subst hl
  by_cases h : i + n < l.length
  · obtain ⟨b, off, rfl, hlt, hc⟩ := hat (by omega)
    have cc := hc (i + n) h
    have z : decide (((i : Int) + (n : Int)) < (l.length : Int)) = true := decide_eq_true (by omega)
    have hd : due l (i + n) = l.getD (i + n) 0 := by simp [due, List.getD, List.getElem?_eq_getElem h]
    rw [hd]
    clear hat hc hd
    generalize l.getD (i + n) 0 = d at *
    generalize l.length = m at *
    have a1 : (0 : Int) ≤ (i : Int) + (n : Int) := by omega
    have a2 : (i : Int) + (n : Int) < (m : Int) := by omega
    go_enter Try.func55, Try.ntmps55
    go_wp2_with (with_reducible refine box_p (by with_reducible rfl) _ (by with_reducible rfl) (L := ⟨some ⟨b, off, none⟩, m, Lc, Lf⟩) (p := p) (by simp [Act.eval]) ?_)
    intro V hV bV sV
    have c1 := hV.i
    have c0 := hV.pat
    have cx := (bV.cell (p := ⟨b, off + (i + n), none⟩) hlt).trans cc
    rw [hi] at c1
    have BV := Lib.hid bV
    clear hV cc bV h hi
    simp only at c0
    generalize hk : i + n = k at *
    have e : (i : Int) + (n : Int) = (k : Int) := by omega
    rw [e] at a1 a2 z
    have hk2 : ((i : Int) + (n : Int)) = (k : Int) := e
    go_wp2
    go_ret
    exact ⟨rfl, BV.out⟩
  · have z : decide (((i : Int) + (n : Int)) < (l.length : Int)) = false := decide_eq_false (by omega)
    have hd : due l (i + n) = -1 := by simp [due, List.getD, List.getElem?_eq_none (show l.length ≤ i + n by omega)]
    rw [hd]
    clear hat hd
    go_enter Try.func55, Try.ntmps55
    go_wp2_with (with_reducible refine box_p (by with_reducible rfl) _ (by with_reducible rfl) (L := ⟨La, l.length, Lc, Lf⟩) (p := p) (by simp [Act.eval]) ?_)
    intro V hV bV sV
    have c1 := hV.i
    have c0 := hV.pat
    rw [hi] at c1
    have BV := Lib.hid bV
    clear hV bV h hi
    go_wp2
    go_ret
    exact ⟨rfl, BV.out⟩

end Go.Proofs.Ytoniccokohjenaa
