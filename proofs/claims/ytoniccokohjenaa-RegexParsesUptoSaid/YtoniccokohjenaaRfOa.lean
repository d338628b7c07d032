/-
  What the walk of the reference's set (chapter 18) carries: the set and its item in their blocks, what is known of one item.
-/
import Derived.Test.YtoniccokohjenaaRfI
import Derived.Test.YtoniccokohjenaaRegY
namespace Go.Proofs.Ytoniccokohjenaa
open Go.RowKit

/-- the set that is read, in its block -/
structure SetB (w0 W : World) (b r q : Nat) (nt : Bool) (kv : Value) : Prop where
  heap : W.heap[q]? = some (.cells (rxCells (rxSet nt []) kv).toArray TRx (0, 0))
  lo : w0.heap.size ≤ q
  nb : q ≠ b
  nr : q ≠ r
section
variable {w0 W W' : World} {b r q : Nat} {nt : Bool} {kv : Value} {L : LX} {p : PX}
theorem SetB.call (h : SetB w0 W b r q nt kv) (hb : Below W.heap.size W W') : SetB w0 W' b r q nt kv := ⟨heap_call h.heap hb, h.lo, h.nb, h.nr⟩
theorem SetB.off (h : SetB w0 W b r q nt kv) (ho : OffP W W') : SetB w0 W' b r q nt kv := ⟨ho _ _ _ _ (by decide) h.heap, h.lo, h.nb, h.nr⟩
theorem SetB.cell (h : SetB w0 W b r q nt kv) {j : Nat} {v : Value} (hj : (rxCells (rxSet nt []) kv)[j]? = some v) : W.cell? ⟨q, j, none⟩ = some v := by
  rw [Lib.cell_of_heap h.heap]; simpa using hj
theorem SetB.frozen (h : SetB w0 W b r q nt kv) (j : Nat) : W.frozen? ⟨q, j, none⟩ = false := Lib.frozen_of_heap h.heap j
theorem SetB.lt (h : SetB w0 W b r q nt kv) : q < W.heap.size := (Array.getElem?_eq_some_iff.1 h.heap).1
theorem SetB.not (h : SetB w0 W b r q nt kv) (y : Bool) : SetB w0 (W.setCell ⟨q, 7, none⟩ (.bool y)) b r q y kv := ⟨lheap_set h.heap rfl, h.lo, h.nb, h.nr⟩
theorem SetB.kids (h : SetB w0 W b r q nt kv) (kv' : Value) : SetB w0 (W.setCell ⟨q, 3, none⟩ kv') b r q nt kv' := ⟨lheap_set h.heap rfl, h.lo, h.nb, h.nr⟩
theorem PF.setB (h : PF w0 W b r L p) (hq : SetB w0 W b r q nt kv) (j : Nat) (v : Value) : PF w0 (W.setCell ⟨q, j, none⟩ v) b r L p := h.set_far (a := ⟨q, j, none⟩) hq.lo hq.nb hq.nr v
end
/-- one item, in its block -/
structure ItB (w0 W : World) (b r q : Nat) (X : Rx) (kv : Value) : Prop where
  heap : W.heap[q]? = some (.cells (rxCells X kv).toArray TRx (0, 0))
  lo : w0.heap.size ≤ q
  nb : q ≠ b
  nr : q ≠ r
section
variable {w0 W W' : World} {b r q : Nat} {X : Rx} {kv : Value} {L : LX} {p : PX}
theorem ItB.call (h : ItB w0 W b r q X kv) (hb : Below W.heap.size W W') : ItB w0 W' b r q X kv := ⟨heap_call h.heap hb, h.lo, h.nb, h.nr⟩
theorem ItB.off (h : ItB w0 W b r q X kv) (ho : OffP W W') : ItB w0 W' b r q X kv := ⟨ho _ _ _ _ (by decide) h.heap, h.lo, h.nb, h.nr⟩
theorem ItB.cell (h : ItB w0 W b r q X kv) {j : Nat} {v : Value} (hj : (rxCells X kv)[j]? = some v) : W.cell? ⟨q, j, none⟩ = some v := by
  rw [Lib.cell_of_heap h.heap]; simpa using hj
theorem ItB.frozen (h : ItB w0 W b r q X kv) (j : Nat) : W.frozen? ⟨q, j, none⟩ = false := Lib.frozen_of_heap h.heap j
/-- an item is stored, whole -/
theorem store_xb {ops : Array Oper} {rest : List Oper} {op : Oper} {a : Act} {Q : Exit → Act → World → Prop} {Y : Rx} {A : Option Addr} {n c : Nat} (hgd : op.guard = none) (x y : Operand) (ho : op.op = .store TRx x y) (hx : a.eval x = .pointer (some ⟨q, 0, none⟩)) (hy : a.eval y = .agg (rxCells Y (.slice A n c)).toArray) (hI : ItB w0 W b r q X kv) (hP : PF w0 W b r L p)
    (h : ∀ V, ItB w0 V b r q Y (.slice A n c) → PF w0 V b r L p → (∀ k, k ≠ q → V.heap[k]? = W.heap[k]?) → wpList Try.prog ops Q rest (a.put op.dst undef) V) : wpList Try.prog ops Q (op :: rest) a W :=
  wpList_store_mid hgd TRx x y ho q 0 (rxCells Y (.slice A n c)).toArray hx hy (there_of hI.heap rfl) (by rw [sizeRx]; rfl) (all_oneCell_toArray (rx_one Y A n c)) (by
    have hb : PF w0 (W.setCells q 0 (rxCells Y (.slice A n c))) b r L p :=
      ⟨(setCells_far q _ 0 W b (fun e => hI.nb e.symm)).trans hP.heap, by obtain ⟨c, hc, hs⟩ := hP.res; exact ⟨c, (setCells_far q _ 0 W r (fun e => hI.nr e.symm)).trans hc, hs⟩, hP.ne, hP.lo, hP.lor, setCells_below q hI.lo _ 0 W hP.below⟩
    simpa using h _ ⟨setCells_whole hI.heap rfl, hI.lo, hI.nb, hI.nr⟩ hb (fun k hk => setCells_far q _ 0 W k hk))
end
/-- a block that the world has not, but for a state -/
def NewQ (w : World) (q : Nat) : Prop := ∀ (c : Array Value) (T : TypeId) (z : Nat × Nat), T ≠ TP → w.heap[q]? = some (.cells c T z) → False
theorem NewQ.of {w V : World} (ho : OffP w V) : NewQ w V.heap.size := fun c T z hT hh => by
  have := (Array.getElem?_eq_some_iff.1 (ho _ _ _ _ hT hh)).1
  omega
theorem OffP.new {w W V : World} {q : Nat} (ho : OffP w W) (hn : NewQ w q) (e : ∀ k, k ≠ q → V.heap[k]? = W.heap[k]?) : OffP w V := fun k c T z hT hh =>
  (e k (fun h => hn c T z hT (h ▸ hh))).trans (ho _ _ _ _ hT hh)
/-- items: leaves, that lie anywhere -/
def Leaves (zs : List (Rx × Value)) : Prop := ∀ z ∈ zs, z.1.kids = [] ∧ ∃ A c, z.2 = .slice A 0 c
theorem Leaves.tr {zs : List (Rx × Value)} (h : Leaves zs) (B : Nat) (w : World) : TrZ B w zs := fun z hz => by
  obtain ⟨h1, A, c, h2⟩ := h z hz
  rw [h2]; exact ⟨0, h1, A, c, rfl⟩
theorem Leaves.snoc {zs : List (Rx × Value)} (h : Leaves zs) {X : Rx} {A : Option Addr} {c : Nat} (hx : X.kids = []) : Leaves (zs ++ [(X, .slice A 0 c)]) := fun z hz => by
  rcases List.mem_append.1 hz with hz | hz
  · exact h z hz
  · obtain rfl := List.mem_singleton.1 hz; exact ⟨hx, A, c, rfl⟩
theorem rowns_one {w : World} {B : Nat} {E : TypeId} {size : Nat} {v : Value} {m : Nat} {xs : List Value} (h : w.ownsRow B E size v m xs) : v.oneCell' = true := by
  obtain ⟨A, c, rfl⟩ := rowns_slice h; rfl
theorem RowC.mono {B B' : Nat} {w : World} {v : Value} {zs : List (Rx × Value)} (h : RowC B w v zs) (hB : B' ≤ B) : RowC B' w v zs := by
  refine ⟨⟨h.own.1, ?_⟩, h.form⟩
  rcases h.own.2 with h2 | ⟨g, cap, cur, hv, hg, r⟩
  · exact .inl h2
  · exact .inr ⟨g, cap, cur, hv, Nat.le_trans hB hg, r⟩
theorem RowC.setAt {w : World} {q j : Nat} {u v : Value} {zs : List (Rx × Value)} (h : RowC (q + 1) w v zs) : RowC (q + 1) (w.setCell ⟨q, j, none⟩ u) v zs :=
  ⟨rowns_block h.own fun k c z hk hh => (rheap_far (p := ⟨q, j, none⟩) (fun e => by have := (rrow_kind h.own k hk).1; have e' : q = k := e; omega)).trans hh, h.form⟩
theorem Lv.setS {w : World} {q j : Nat} {v : Value} {L : LX} {l : List Int} {s : PS} {p : PX} {c : Array Value} {z : Nat × Nat} (h : Lv w L l s p) (hq : w.heap[q]? = some (.cells c TRx z)) (hp : LRd (w.setCell ⟨q, j, none⟩ v) L l) : Lv (w.setCell ⟨q, j, none⟩ v) L l s p :=
  ⟨h.i, h.bad, h.deep, h.nn, hp, rowns_far h.names hq (by decide) v, h.fin⟩

/-- what one answers -/
def OneG (L : LX) (l : List Int) (w : World) (s : PS) (p : PX) : Prop :=
  (∃ x fl s1, oneR l s = .ok (x, fl) s1 ∧ Lv w L l s1 p ∧ p.x = x ∧ p.xn = 0) ∨ ∃ a m, oneR l s = .bad a m ∧ BadX p a m
/-- a range is due behind the sign -/
def ItT (L : LX) (l : List Int) (w : World) (s : PS) (p : PX) : Prop := ∃ s1, oneR l s = .ok (p.x, true) s1 ∧ Lv w L l s1 p ∧ due l s1.pos = 45 ∧ s1.pos + 1 < l.length ∧ due l (s1.pos + 1) ≠ 93
/-- where one item ends: X, with n parts -/
def ItE (L : LX) (l : List Int) (w : World) (s : PS) (p : PX) (X : Rx) (n : Nat) : Prop :=
  (∃ s2, itemR l s = .ok X s2 ∧ Lv w L l s2 p ∧ X.kids = [] ∧ n = 0) ∨ ∃ a m, itemR l s = .bad a m ∧ BadX p a m
def ItC (L : LX) (l : List Int) (w : World) (s : PS) (p : PX) (c : Bool) : Prop := (c = true ∧ ItT L l w s p) ∨ (c = false ∧ ItE L l w s p p.x p.xn)
/-- the second sign is read: is the range wrong? -/
def ItD (L : LX) (l : List Int) (w : World) (s : PS) (p : PX) (x : Rx) (c : Bool) : Prop :=
  (c = true ∧ ∃ s2, itemR l s = failR l (s2.pos - 1) ∧ Lv w L l s2 p ∧ 1 ≤ s2.pos) ∨ (c = false ∧ ItE L l w s p (rxRange x.rune p.x.rune) 0)
section
variable {L : LX} {l : List Int} {w w' : World} {s : PS} {p : PX} {X x : Rx} {n : Nat} {c : Bool}
theorem OneG.off (h : OneG L l w s p) (ho : OffP w w') (hp : LRd w' L l) : OneG L l w' s p := by
  rcases h with ⟨x, fl, s1, h1, h2, h3⟩ | h
  · exact .inl ⟨x, fl, s1, h1, h2.off ho hp, h3⟩
  · exact .inr h
theorem OneG.below (h : OneG L l w s p) (hb : Below w.heap.size w w') : OneG L l w' s p := by
  rcases h with ⟨x, fl, s1, h1, h2, h3⟩ | h
  · exact .inl ⟨x, fl, s1, h1, h2.below hb, h3⟩
  · exact .inr h
theorem ItT.below (h : ItT L l w s p) (hb : Below w.heap.size w w') : ItT L l w' s p := by
  obtain ⟨s1, h1, h2, h3⟩ := h
  exact ⟨s1, h1, h2.below hb, h3⟩
theorem ItE.below (h : ItE L l w s p X n) (hb : Below w.heap.size w w') : ItE L l w' s p X n := by
  rcases h with ⟨s2, h1, h2, h3⟩ | h
  · exact .inl ⟨s2, h1, h2.below hb, h3⟩
  · exact .inr h
theorem ItE.off (h : ItE L l w s p X n) (ho : OffP w w') (hp : LRd w' L l) : ItE L l w' s p X n := by
  rcases h with ⟨s2, h1, h2, h3⟩ | h
  · exact .inl ⟨s2, h1, h2.off ho hp, h3⟩
  · exact .inr h
theorem ItE.setS {q j : Nat} {v : Value} {c : Array Value} {z : Nat × Nat} (h : ItE L l w s p X n) (hq : w.heap[q]? = some (.cells c TRx z)) (hp : LRd (w.setCell ⟨q, j, none⟩ v) L l) : ItE L l (w.setCell ⟨q, j, none⟩ v) s p X n := by
  rcases h with ⟨s2, h1, h2, h3⟩ | h
  · exact .inl ⟨s2, h1, h2.setS hq hp, h3⟩
  · exact .inr h
/-- a store into a block that is new -/
theorem Lv.new {W V : World} {q : Nat} (h : Lv W L l s p) (c0 : Array Value) (z0 : Nat × Nat) (h0 : W.heap[q]? = some (.cells c0 TRx z0)) (e : ∀ k, k ≠ q → V.heap[k]? = W.heap[k]?) (hp : LRd V L l) : Lv V L l s p :=
  ⟨h.i, h.bad, h.deep, h.nn, hp, rowns_block h.names (fun k c z _ hh => (e k (fun e => by
    subst e; rw [h0] at hh; injection hh with hh; injection hh with _ hh _; exact absurd hh (by decide))).trans hh), h.fin⟩
theorem ItE.new {W V : World} {q : Nat} (h : ItE L l W s p X n) (c0 : Array Value) (z0 : Nat × Nat) (h0 : W.heap[q]? = some (.cells c0 TRx z0)) (e : ∀ k, k ≠ q → V.heap[k]? = W.heap[k]?) (hp : LRd V L l) : ItE L l V s p X n := by
  rcases h with ⟨s2, h1, h2, h3⟩ | h
  · exact .inl ⟨s2, h1, h2.new c0 z0 h0 e hp, h3⟩
  · exact .inr h
theorem ItC.below (h : ItC L l w s p c) (hb : Below w.heap.size w w') : ItC L l w' s p c := by
  rcases h with ⟨h1, h2⟩ | ⟨h1, h2⟩
  · exact .inl ⟨h1, h2.below hb⟩
  · exact .inr ⟨h1, h2.below hb⟩
end
section
variable {l : List Int} {s s1 : PS} {x : Rx} {fl : Bool}
theorem item_no (h : oneR l s = .ok (x, fl) s1) (hc : ¬(fl = true ∧ due l s1.pos = 45 ∧ s1.pos + 1 < l.length ∧ due l (s1.pos + 1) ≠ 93)) : itemR l s = .ok x s1 := by
  unfold itemR; rw [h]; simp only [PR.bind]; rw [if_neg hc]
theorem item_yes (h : oneR l s = .ok (x, true) s1) (h1 : due l s1.pos = 45) (h2 : s1.pos + 1 < l.length) (h3 : due l (s1.pos + 1) ≠ 93) : itemR l s = (oneR l { s1 with pos := s1.pos + 1 }).bind fun y s =>
    if y.2 = false ∨ y.1.rune < x.rune then failR l (s.pos - 1) else .ok (rxRange x.rune y.1.rune) s := by
  unfold itemR; rw [h]; simp only [PR.bind]; rw [if_pos ⟨trivial, h1, h2, h3⟩]
theorem item_bad0 {a m : Nat} (h : oneR l s = .bad a m) : itemR l s = .bad a m := by
  unfold itemR; rw [h]; rfl
/-- the set, behind its last item -/
theorem set_last {l : List Int} {nt : Bool} {f : Nat} {R : PR Rx} {ks : List Rx} {s s2 : PS} {x : Rx} (h : R = (itemsR l (f + 1) s).bind fun xs s => .ok (rxSet nt (ks ++ xs)) s) (hx : itemR l s = .ok x s2) (hd : due l s2.pos = 93) : R = .ok (rxSet nt (ks ++ [x])) { s2 with pos := s2.pos + 1 } := by
  rw [h]; simp only [itemsR, hx, PR.bind]; rw [if_pos hd]
theorem set_next {l : List Int} {nt : Bool} {f : Nat} {R : PR Rx} {ks : List Rx} {s s2 : PS} {x : Rx} (h : R = (itemsR l (f + 1) s).bind fun xs s => .ok (rxSet nt (ks ++ xs)) s) (hx : itemR l s = .ok x s2) (hd : due l s2.pos ≠ 93) : R = (itemsR l f s2).bind fun xs s => .ok (rxSet nt ((ks ++ [x]) ++ xs)) s := by
  rw [h]; simp only [itemsR, hx, PR.bind]; rw [if_neg hd]
  cases itemsR l f s2 with
  | ok v s => simp
  | bad a n => rfl
theorem setI_bad {l : List Int} {nt : Bool} {f a m : Nat} {R : PR Rx} {ks : List Rx} {s : PS} (h : R = (itemsR l (f + 1) s).bind fun xs s => .ok (rxSet nt (ks ++ xs)) s) (hx : itemR l s = .bad a m) : R = .bad a m := by
  rw [h]; simp only [itemsR, hx, PR.bind]
end
theorem rfOneG (L : LX) (l : List Int) (s : PS) (p : PX) (w : World) (h : Lv w L l s p) :
    Calls Try.prog 109 #[pAgg L p] w (fun e w' => ∃ p', e = .returned (pAgg L p') ∧ OneG L l w' s p' ∧ Below w.heap.size w w') := by
  refine (rfOne_any L l s p w h).mono ?_
  intro e w' he
  cases h1 : oneR l s with
  | bad a m =>
    rw [h1] at he
    obtain ⟨p', h2, h3, h4⟩ := he
    exact ⟨p', h2, .inr ⟨a, m, h1, h3⟩, h4⟩
  | ok v s1 =>
    obtain ⟨x, fl⟩ := v
    rw [h1] at he
    obtain ⟨p', h2, h3, h4, h5, h6⟩ := he
    refine ⟨p', h2, .inl ⟨x, fl, s1, h1, h3, h4, ?_⟩, h6⟩
    rw [h5.1, h4, (one_kind h1).2]; rfl
theorem rfOneG_out {L : LX} {l : List Int} {w : World} {s : PS} {p : PX} (h : OneG L l w s p) : p.bad = 0 ∨ p.bad ≠ 0 := by
  rcases h with ⟨_, _, _, _, h, _⟩ | ⟨_, _, _, h⟩
  · exact .inl h.bad
  · exact .inr h.ne0

end Go.Proofs.Ytoniccokohjenaa
