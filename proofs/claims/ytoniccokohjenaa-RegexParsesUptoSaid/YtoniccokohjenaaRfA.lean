/-
  The reference's parser (chapter 18): its state as a value, and where it lies in a walk.
-/
import Derived.Test.YtoniccokohjenaaRegQ
import Derived.Test.YtoniccokohjenaaUtfF
namespace Go.Proofs.Ytoniccokohjenaa
open Go.RowKit

abbrev TP : TypeId := 71
/-- the pattern where it lies -/
structure LX where
  a : Option Addr
  n : Nat
  c : Nat
  free : Bool
/-- the reference's parse but for the pattern -/
structure PX where
  i : Int
  deep : Int
  na : Option Addr
  nn : Nat
  nc : Nat
  x : Rx
  xa : Option Addr
  xn : Nat
  xc : Nat
  at' : Int
  bad : Int
def pCells (L : LX) (p : PX) : List Value := [.slice L.a L.n L.c, .int .i64 p.i, .bool L.free, .int .i64 p.deep, .slice p.na p.nn p.nc, .int .i64 (p.x.kind : Int), .int .i64 p.x.rune, .int .i64 p.x.to, .slice p.xa p.xn p.xc, .int .i64 p.x.min, .int .i64 p.x.max, .bool p.x.lazy, .bool p.x.not, .int .i64 (p.x.group : Int), .string ⟨p.x.name.toArray⟩, .int .i64 p.at', .int .i64 p.bad]
def pAgg (L : LX) (p : PX) : Value := .agg #[.slice L.a L.n L.c, .int .i64 p.i, .bool L.free, .int .i64 p.deep, .slice p.na p.nn p.nc, .int .i64 (p.x.kind : Int), .int .i64 p.x.rune, .int .i64 p.x.to, .slice p.xa p.xn p.xc, .int .i64 p.x.min, .int .i64 p.x.max, .bool p.x.lazy, .bool p.x.not, .int .i64 (p.x.group : Int), .string ⟨p.x.name.toArray⟩, .int .i64 p.at', .int .i64 p.bad]
def pZero : Array Value := #[.slice none 0 0, .int .i64 0, .bool false, .int .i64 0, .slice none 0 0, .int .i64 0, .int .i64 0, .int .i64 0, .slice none 0 0, .int .i64 0, .int .i64 0, .bool false, .bool false, .int .i64 0, .string ⟨#[]⟩, .int .i64 0, .int .i64 0]
theorem sizeP : (Try.prog.info? TP).map (·.size) = some 17 := by kernel_rfl
theorem underP : ∃ d, Try.prog.underlying TP = some d ∧ d.isRow = true := ⟨_, Try.underlying71, rfl⟩
theorem p_len (L : LX) (p : PX) : (pCells L p).length = 17 := rfl
theorem p_agg (L : LX) (p : PX) : pAgg L p = .agg (pCells L p).toArray := rfl
theorem p_one (L : LX) (p : PX) : ∀ v ∈ pCells L p, v.oneCell' = true := fun v h => by
  simp only [pCells, List.mem_cons, List.not_mem_nil, or_false] at h
  rcases h with rfl | rfl | rfl | rfl | rfl | rfl | rfl | rfl | rfl | rfl | rfl | rfl | rfl | rfl | rfl | rfl | rfl <;> rfl

/-- blocks of other kinds are as they were -/
def OffP (w w' : World) : Prop := ∀ (q : Nat) (c : Array Value) (T : TypeId) (z : Nat × Nat), T ≠ TP → w.heap[q]? = some (.cells c T z) → w'.heap[q]? = some (.cells c T z)
theorem OffP.refl (w : World) : OffP w w := fun _ _ _ _ _ h => h
theorem OffP.trans {a b c : World} (h : OffP a b) (k : OffP b c) : OffP a c := fun q cs T z hT hq => k q cs T z hT (h q cs T z hT hq)
theorem OffP.call {w w' : World} (hb : Below w.heap.size w w') : OffP w w' := fun q _ _ _ _ hq => (hb.block q (Array.getElem?_eq_some_iff.1 hq).1).trans hq
theorem OffP.of {w w' : World} {r : Nat} {c : Array Value} {z : Nat × Nat} (hr : w.heap[r]? = some (.cells c TP z)) (e : ∀ q, q ≠ r → w'.heap[q]? = w.heap[q]?) : OffP w w' := fun q cs T z' hT hq => (e q (fun e => by
  subst e; rw [hr] at hq; injection hq with hq; injection hq with _ hq _; exact hT hq.symm)).trans hq
/-- the state p in the block b, room for the answer in r -/
structure PF (w0 W : World) (b r : Nat) (L : LX) (p : PX) : Prop where
  heap : W.heap[b]? = some (.cells (pCells L p).toArray TP (0, 0))
  res : ∃ c, W.heap[r]? = some (.cells c TP (0, 0)) ∧ c.size = 17
  ne : b ≠ r
  lo : w0.heap.size ≤ b
  lor : w0.heap.size ≤ r
  below : Below w0.heap.size w0 W
section
variable {w0 W W' : World} {b r : Nat} {L : LX} {p : PX}
theorem PF.lt (h : PF w0 W b r L p) : b < W.heap.size := (Array.getElem?_eq_some_iff.1 h.heap).1
theorem PF.ltr (h : PF w0 W b r L p) : r < W.heap.size := by obtain ⟨c, hc, _⟩ := h.res; exact (Array.getElem?_eq_some_iff.1 hc).1
theorem PF.size (h : PF w0 W b r L p) : w0.heap.size ≤ W.heap.size := h.below.size
theorem PF.call (h : PF w0 W b r L p) (hb : Below W.heap.size W W') : PF w0 W' b r L p where
  heap := (hb.block b h.lt).trans h.heap
  res := by obtain ⟨c, hc, hs⟩ := h.res; exact ⟨c, (hb.block r (Array.getElem?_eq_some_iff.1 hc).1).trans hc, hs⟩
  ne := h.ne
  lo := h.lo
  lor := h.lor
  below := h.below.trans (hb.mono h.size)
theorem PF.alloc (h : PF w0 W b r L p) (o : Obj) : PF w0 (W.alloc o) b r L p := h.call ((Below.refl _ W).alloc (Nat.le_refl _) o)
theorem PF.cell (h : PF w0 W b r L p) {j : Nat} {v : Value} (hj : (pCells L p)[j]? = some v) : W.cell? ⟨b, j, none⟩ = some v := by
  rw [Lib.cell_of_heap h.heap]; simpa using hj
theorem PF.frozen (h : PF w0 W b r L p) (j : Nat) : W.frozen? ⟨b, j, none⟩ = false := Lib.frozen_of_heap h.heap j
/-- a store beside -/
theorem PF.set_far (h : PF w0 W b r L p) {a : Addr} (h0 : w0.heap.size ≤ a.block) (h1 : a.block ≠ b) (h2 : a.block ≠ r) (v : Value) : PF w0 (W.setCell a v) b r L p where
  heap := (rheap_far h1).trans h.heap
  res := by obtain ⟨c, hc, hs⟩ := h.res; exact ⟨c, (rheap_far h2).trans hc, hs⟩
  ne := h.ne
  lo := h.lo
  lor := h.lor
  below := h.below.setCell (p := a) h0 v
theorem lheap_set {w : World} {r k : Nat} {l l' : List Value} {T : TypeId} {z : Nat × Nat} {v : Value} (h : w.heap[r]? = some (.cells l.toArray T z)) (e : l.set k v = l') : (w.setCell ⟨r, k, none⟩ v).heap[r]? = some (.cells l'.toArray T z) := by
  rw [rheap_set h, List.setIfInBounds_toArray, e]
/-- a field is stored -/
theorem PF.set (h : PF w0 W b r L p) {p' : PX} {j : Nat} {v : Value} (hv : (pCells L p).set j v = pCells L p') : PF w0 (W.setCell ⟨b, j, none⟩ v) b r L p' where
  heap := lheap_set h.heap hv
  res := by obtain ⟨c, hc, hs⟩ := h.res; exact ⟨c, (rheap_far h.ne).trans hc, hs⟩
  ne := h.ne
  lo := h.lo
  lor := h.lor
  below := h.below.setCell (p := ⟨b, j, none⟩) h.lo v
/-- a tree is stored in it -/
theorem PF.setX (h : PF w0 W b r L p) (x : Rx) (A : Option Addr) (n c : Nat) : PF w0 (W.setCells b 5 (rxCells x (.slice A n c))) b r L { p with x := x, xa := A, xn := n, xc := c } where
  heap := by
    have h1 := lheap_set (k := 5) (v := (.int .i64 (x.kind : Int))) h.heap rfl
    have h2 := lheap_set (k := 6) (v := (.int .i64 x.rune)) h1 rfl
    have h3 := lheap_set (k := 7) (v := (.int .i64 x.to)) h2 rfl
    have h4 := lheap_set (k := 8) (v := (.slice A n c)) h3 rfl
    have h5 := lheap_set (k := 9) (v := (.int .i64 x.min)) h4 rfl
    have h6 := lheap_set (k := 10) (v := (.int .i64 x.max)) h5 rfl
    have h7 := lheap_set (k := 11) (v := (.bool x.lazy)) h6 rfl
    have h8 := lheap_set (k := 12) (v := (.bool x.not)) h7 rfl
    have h9 := lheap_set (k := 13) (v := (.int .i64 (x.group : Int))) h8 rfl
    have h10 := lheap_set (k := 14) (v := (.string ⟨x.name.toArray⟩)) h9 rfl
    exact h10
  res := by obtain ⟨c, hc, hs⟩ := h.res; exact ⟨c, (setCells_far b _ 5 W r (fun e => h.ne e.symm)).trans hc, hs⟩
  ne := h.ne
  lo := h.lo
  lor := h.lor
  below := setCells_below b h.lo _ 5 W h.below
/-- all of it is stored -/
theorem PF.store (h : PF w0 W b r L p) (p' : PX) : PF w0 (W.setCells b 0 (pCells L p')) b r L p' where
  heap := setCells_whole h.heap rfl
  res := by obtain ⟨c, hc, hs⟩ := h.res; exact ⟨c, (setCells_far b _ 0 W r (fun e => h.ne e.symm)).trans hc, hs⟩
  ne := h.ne
  lo := h.lo
  lor := h.lor
  below := setCells_below b h.lo _ 0 W h.below
theorem PF.answer (h : PF w0 W b r L p) (p' : PX) : (W.setCells r 0 (pCells L p')).heap[r]? = some (.cells (pCells L p').toArray TP (0, 0)) := by
  obtain ⟨c, hc, hs⟩ := h.res
  exact setCells_whole hc (by rw [hs]; rfl)
theorem PF.ansBelow (h : PF w0 W b r L p) (p' : PX) : Below w0.heap.size w0 (W.setCells r 0 (pCells L p')) := setCells_below r h.lor _ 0 W h.below
theorem PF.setOff (h : PF w0 W b r L p) (j : Nat) (v : Value) : OffP W (W.setCell ⟨b, j, none⟩ v) := OffP.of h.heap fun _ hq => rheap_far (fun e => hq e.symm)
theorem PF.pat (h : PF w0 W b r L p) : W.cell? ⟨b, 0, none⟩ = some (.slice L.a L.n L.c) := h.cell rfl
theorem PF.at (h : PF w0 W b r L p) : W.cell? ⟨b, 15, none⟩ = some (.int .i64 p.at') := h.cell rfl
theorem PF.i (h : PF w0 W b r L p) : W.cell? ⟨b, 1, none⟩ = some (.int .i64 p.i) := h.cell rfl
theorem PF.free (h : PF w0 W b r L p) : W.cell? ⟨b, 2, none⟩ = some (.bool L.free) := h.cell rfl
theorem PF.deep (h : PF w0 W b r L p) : W.cell? ⟨b, 3, none⟩ = some (.int .i64 p.deep) := h.cell rfl
theorem PF.names (h : PF w0 W b r L p) : W.cell? ⟨b, 4, none⟩ = some (.slice p.na p.nn p.nc) := h.cell rfl
theorem PF.bad (h : PF w0 W b r L p) : W.cell? ⟨b, 16, none⟩ = some (.int .i64 p.bad) := h.cell rfl
theorem PF.xrange (h : PF w0 W b r L p) : W.rangeAt b 5 (rxCells p.x (.slice p.xa p.xn p.xc)) := fun j v hj => by
  rw [Lib.cell_of_heap h.heap]
  have hl : j < 10 := (List.getElem?_eq_some_iff.1 hj).1
  have e : (pCells L p).toArray[5 + j]? = (rxCells p.x (.slice p.xa p.xn p.xc))[j]? := by
    have : j = 0 ∨ j = 1 ∨ j = 2 ∨ j = 3 ∨ j = 4 ∨ j = 5 ∨ j = 6 ∨ j = 7 ∨ j = 8 ∨ j = 9 := by omega
    rcases this with rfl | rfl | rfl | rfl | rfl | rfl | rfl | rfl | rfl | rfl <;> rfl
  rw [e]; exact hj
/-- a parameter in its variable, no room yet -/
structure PB (w0 W : World) (b : Nat) (L : LX) (p : PX) : Prop where
  heap : W.heap[b]? = some (.cells (pCells L p).toArray TP (0, 0))
  lo : w0.heap.size ≤ b
  below : Below w0.heap.size w0 W
theorem PB.call (h : PB w0 W b L p) (hb : Below W.heap.size W W') : PB w0 W' b L p :=
  ⟨(hb.block b (Array.getElem?_eq_some_iff.1 h.heap).1).trans h.heap, h.lo, h.below.trans (hb.mono h.below.size)⟩
theorem PB.alloc (h : PB w0 W b L p) (o : Obj) : PB w0 (W.alloc o) b L p := h.call ((Below.refl _ W).alloc (Nat.le_refl _) o)
theorem PB.pat (h : PB w0 W b L p) : W.cell? ⟨b, 0, none⟩ = some (.slice L.a L.n L.c) := by rw [Lib.cell_of_heap h.heap]; rfl
theorem PB.i (h : PB w0 W b L p) : W.cell? ⟨b, 1, none⟩ = some (.int .i64 p.i) := by rw [Lib.cell_of_heap h.heap]; rfl
theorem PB.room (h : PB w0 W b L p) : PF w0 (W.alloc (.cells pZero TP)) b W.heap.size L p where
  heap := (h.alloc _).heap
  res := ⟨pZero, Go.heap_alloc_new W _, rfl⟩
  ne := by have := (Array.getElem?_eq_some_iff.1 h.heap).1; omega
  lo := h.lo
  lor := h.below.size
  below := (h.alloc _).below

section
variable {ops : Array Oper} {rest : List Oper} {op : Oper} {a : Act} {w : World} {Q : Exit → Act → World → Prop}
theorem box_p (hgd : op.guard = none) (x : Operand) (ho : op.op = .box TP x) (hx : a.eval x = pAgg L p)
    (h : ∀ V, PB w V w.heap.size L p → Below w.heap.size w V → V.heap.size = w.heap.size + 1 → wpList Try.prog ops Q rest (a.put op.dst (.pointer (some ⟨w.heap.size, 0, none⟩))) V) : wpList Try.prog ops Q (op :: rest) a w :=
  wpList_plain hgd fun _ hK => by
    have hb := (Below.refl w.heap.size w).alloc (Nat.le_refl _) (.cells (pCells L p).toArray TP)
    have h2 := hK _ _ (h (w.alloc (.cells (pCells L p).toArray TP)) ⟨Go.heap_alloc_new w _, Nat.le_refl _, hb⟩ hb (World.size_alloc ..))
    unfold Oper.wp execOp
    rw [p_agg] at hx
    simp only [ho, hx]
    exact h2
theorem zeroP : (Try.prog.info? TP).map (·.zero) = some (some (.agg pZero)) := by kernel_rfl
/-- a room for the answer -/
theorem room_p {b' : Nat} (hgd : op.guard = none) (ho : op.op = .alloc TP) (hb : PB w0 w b' L p)
    (h : ∀ V, PF w0 V b' w.heap.size L p → Below w.heap.size w V → V.heap.size = w.heap.size + 1 → wpList Try.prog ops Q rest (a.put op.dst (.pointer (some ⟨w.heap.size, 0, none⟩))) V) : wpList Try.prog ops Q (op :: rest) a w :=
  wpList_plain hgd fun _ hK => by
    have h2 := hK _ _ (h (w.alloc (.cells pZero TP)) (hb.room) ((Below.refl _ w).alloc (Nat.le_refl _) _) (World.size_alloc ..))
    unfold Oper.wp execOp
    obtain ⟨i, hi, hz⟩ := Option.map_eq_some_iff.1 zeroP
    have hr : (zeroValue TP).run Try.prog w = .ok (.agg pZero) w := by simp [zeroValue, typeInfo, hi, hz]
    simp only [ho, Instr.alloc, Sem.run_bind, hr, Result.andThen_ok]
    exact h2
theorem load_p (hgd : op.guard = none) (x : Operand) (ho : op.op = .load TP x) (b' : Nat) (hx : a.eval x = .pointer (some ⟨b', 0, none⟩)) (hb : PF w0 W b' r L p)
    (h : wpList Try.prog ops Q rest (a.put op.dst (pAgg L p)) W) : wpList Try.prog ops Q (op :: rest) a W := by
  obtain ⟨d, hd, hrow⟩ := underP
  rw [p_agg] at h
  exact wpList_load_mid hgd TP x ho b' 0 hx (pCells L p) d (range_of hb.heap) hd hrow (by rw [sizeP, p_len]) h
theorem load_pG (hw : Region.wanted op (yielded ops a.tmps) = true) (x : Operand) (ho : op.op = .load TP x) (b' : Nat) (hx : a.eval x = .pointer (some ⟨b', 0, none⟩)) (hb : PF w0 W b' r L p)
    (h : wpList Try.prog ops Q rest (a.put op.dst (pAgg L p)) W) : wpList Try.prog ops Q (op :: rest) a W := by
  obtain ⟨d, hd, hrow⟩ := underP
  rw [p_agg] at h
  exact BigFrame.wpList_want hw fun _ hK => wp_load_mid TP x ho b' 0 hx (pCells L p) d (range_of hb.heap) hd hrow (by rw [sizeP, p_len]) (hK _ _ h)
theorem load_px (hgd : op.guard = none) (x : Operand) (ho : op.op = .load TRx x) (b' : Nat) (hx : a.eval x = .pointer (some ⟨b', 5, none⟩)) (hb : PF w0 W b' r L p)
    (h : wpList Try.prog ops Q rest (a.put op.dst (rxAgg p.x (.slice p.xa p.xn p.xc))) W) : wpList Try.prog ops Q (op :: rest) a W := by
  obtain ⟨d, hd, hrow⟩ := underRx
  exact wpList_load_mid hgd TRx x ho b' 5 hx (rxCells p.x (.slice p.xa p.xn p.xc)) d hb.xrange hd hrow (by rw [sizeRx, rx_len]) h
/-- a tree is stored in the state -/
theorem store_px (hgd : op.guard = none) (x y : Operand) (ho : op.op = .store TRx x y) (b' : Nat) {X : Rx} {A : Option Addr} {n c : Nat} (hx : a.eval x = .pointer (some ⟨b', 5, none⟩)) (hy : a.eval y = .agg (rxCells X (.slice A n c)).toArray) (hb : PF w0 W b' r L p)
    (h : ∀ V, PF w0 V b' r L { p with x := X, xa := A, xn := n, xc := c } → wpList Try.prog ops Q rest (a.put op.dst undef) V) : wpList Try.prog ops Q (op :: rest) a W :=
  wpList_store_mid hgd TRx x y ho b' 5 (rxCells X (.slice A n c)).toArray hx hy (fun j hj => by
    have hj' : j < 10 := hj
    refine ⟨?_, hb.frozen _⟩
    rw [Lib.cell_of_heap hb.heap]
    have hl : 5 + j < (pCells L p).toArray.size := by show 5 + j < 17; omega
    rw [Array.getElem?_eq_getElem hl]; rfl) (by rw [sizeRx]; rfl) (all_oneCell_toArray (rx_one X A n c)) (by simpa using h _ (hb.setX X A n c))
/-- the state is stored, whole -/
theorem store_p (hgd : op.guard = none) (x y : Operand) (ho : op.op = .store TP x y) (b' : Nat) {p' : PX} (hx : a.eval x = .pointer (some ⟨b', 0, none⟩)) (hy : a.eval y = pAgg L p') (hb : PF w0 W b' r L p)
    (h : ∀ V, PF w0 V b' r L p' → OffP W V → wpList Try.prog ops Q rest (a.put op.dst undef) V) : wpList Try.prog ops Q (op :: rest) a W := by
  rw [p_agg] at hy
  exact wpList_store_mid hgd TP x y ho b' 0 (pCells L p').toArray hx hy (there_of hb.heap rfl) (by rw [sizeP]; rfl) (all_oneCell_toArray (p_one L p')) (by simpa using h _ (hb.store p') (OffP.of hb.heap fun q hq => setCells_far b' _ 0 W q hq))
/-- the answer is stored -/
theorem store_r (hgd : op.guard = none) (x y : Operand) (ho : op.op = .store TP x y) (r' : Nat) {p' : PX} (hx : a.eval x = .pointer (some ⟨r', 0, none⟩)) (hy : a.eval y = pAgg L p') (hb : PF w0 W b r' L p)
    (h : ∀ V, V.heap[r']? = some (.cells (pCells L p').toArray TP (0, 0)) → Below w0.heap.size w0 V → OffP W V → wpList Try.prog ops Q rest (a.put op.dst undef) V) : wpList Try.prog ops Q (op :: rest) a W := by
  rw [p_agg] at hy
  obtain ⟨c, hc, hs⟩ := hb.res
  exact wpList_store_mid hgd TP x y ho r' 0 (pCells L p').toArray hx hy (there_of hc (by rw [hs]; rfl)) (by rw [sizeP]; rfl) (all_oneCell_toArray (p_one L p')) (by simpa using h _ (hb.answer p') (hb.ansBelow p') (OffP.of hc fun q hq => setCells_far r' _ 0 W q hq))
end
end

/-- the state in seventeen cells is handed back -/
theorem ret_p {fn : Func} {k : Nat} (hr : fn.results = #[.cell k TP]) {a : Act} {W : World} {r : Nat} {L : LX} {p : PX} {z : Nat × Nat} (hh : W.heap[r]? = some (.cells (pCells L p).toArray TP z))
    (ht : a.tmps.getD k undef = .pointer (some ⟨r, 0, none⟩)) (hd : a.defers = []) {R : Ending → World → Prop} (hR : R (.returned (pAgg L p)) W) : bodyPost Try.prog fn R .ret a W := by
  have ht' : a.tmps[k]?.getD undef = .pointer (some ⟨r, 0, none⟩) := by simpa using ht
  refine bodyPost_ret (v := pAgg L p) ?_ hd hR
  obtain ⟨d, hd, hrow⟩ := underP
  have := run_loadVar_mid W r 0 TP (pCells L p) d (range_of hh) hd hrow (by rw [sizeP, p_len])
  simp [results, hr, ht', asAddr, this, p_agg]

/-- the pattern's signs where they lie -/
def LRd (w : World) (L : LX) (l : List Int) : Prop := RdI w L.a L.n l
theorem LRd.below {w w' : World} {L : LX} {l : List Int} (h : LRd w L l) (hb : Below w.heap.size w w') : LRd w' L l := RdI.below h hb

end Go.Proofs.Ytoniccokohjenaa
