/-
  The reader of streams where it lies: 210 cells of one block, and the row of its spans (chapter 9).
  The walks of the reader's small functions: fail, wrong, blank, done, opens, shuts (chapter 9).
-/
import Derived.Test.YtojapomkmfbciaaDoorValS
import Derived.Laws.AppendOwn
import Derived.Laws.OwnMore
import Derived.Laws.NewBlocks
import Derived.Lib.Builder
import Derived.Deep.Draws
import Derived.Test.YtojapomkmfbciaaDoorRows
import Derived.WalkKit
import Derived.WalkSpells
import Derived.WalkLawsBesides
import Derived.Handy
import Derived.Lib.Hide
import Derived.Deep.RegionLaw
import Derived.Deep.QuietTactic
import Derived.BigQuiet
namespace Go.Proofs.YtojapomkmfbciaaDoor
open Go.RowKit

/-- spans as cells -/
def spanCells (l : List (Nat × Nat)) : List Value := l.flatMap fun p => [Value.int .i64 (p.1 : Int), .int .i64 (p.2 : Int)]
theorem spanCells_len (l : List (Nat × Nat)) : (spanCells l).length = l.length * 2 := by
  unfold spanCells; induction l with
  | nil => rfl
  | cons a l ih => rw [List.flatMap_cons, List.length_append, ih, List.length_cons]; simp only [List.length_cons, List.length_nil]; omega
theorem spanCells_snoc (l : List (Nat × Nat)) (p : Nat × Nat) : spanCells l ++ [Value.int .i64 (p.1 : Int), .int .i64 (p.2 : Int)] = spanCells (l ++ [p]) := by
  unfold spanCells; simp [List.flatMap_append]

theorem set_ne (c : Array Value) (v : Value) {k i : Nat} (h : k ≠ i) : (c.setIfInBounds k v)[i]? = c[i]? := by
  rw [Array.getElem?_setIfInBounds, if_neg h]
theorem set_eq (c : Array Value) (v : Value) {k : Nat} (h : k < c.size) : (c.setIfInBounds k v)[k]? = some v := by
  rw [Array.getElem?_setIfInBounds, if_pos rfl, if_pos h]

/-- the reader's cells -/
structure RdC (c : Array Value) (A : Option Addr) (n cap d : Nat) (s : VS) (sp : Value) : Prop where
  size : c.size = 210
  b : c[0]? = some (.slice A n cap)
  pos : c[1]? = some (.int .i64 (s.pos : Int))
  st : c[2]? = some (.int .i64 (s.st : Int))
  d : c[3]? = some (.int .i64 (d : Int))
  bits : ∀ i, i < 200 → ∃ x, c[4 + i]? = some (.bool x) ∧ (i < s.stack.length → x = s.stack.reverse.getD i false)
  many : c[204]? = some (.int .i64 (s.stack.length : Int))
  beg : c[205]? = some (.int .i64 (s.beg : Int))
  sp : c[206]? = some sp
  fat : c[207]? = some (.int .i64 ((s.fault.getD (0, 0)).1 : Int))
  why : c[208]? = some (.int .i64 ((s.fault.getD (0, 0)).2 : Int))
  failed : c[209]? = some (.bool s.fault.isSome)

section
variable {c : Array Value} {A : Option Addr} {n cap d : Nat} {s : VS} {sp : Value}
theorem RdC.put_pos (h : RdC c A n cap d s sp) (p : Nat) : RdC (c.setIfInBounds 1 (.int .i64 (p : Int))) A n cap d { s with pos := p } sp :=
  ⟨by rw [Array.size_setIfInBounds]; exact h.size, by rw [set_ne _ _ (by omega)]; exact h.b, set_eq _ _ (by rw [h.size]; omega), by rw [set_ne _ _ (by omega)]; exact h.st, by rw [set_ne _ _ (by omega)]; exact h.d,
   fun i hi => by rw [set_ne _ _ (by omega)]; exact h.bits i hi, by rw [set_ne _ _ (by omega)]; exact h.many, by rw [set_ne _ _ (by omega)]; exact h.beg, by rw [set_ne _ _ (by omega)]; exact h.sp, by rw [set_ne _ _ (by omega)]; exact h.fat, by rw [set_ne _ _ (by omega)]; exact h.why, by rw [set_ne _ _ (by omega)]; exact h.failed⟩
theorem RdC.put_st (h : RdC c A n cap d s sp) (p : Nat) : RdC (c.setIfInBounds 2 (.int .i64 (p : Int))) A n cap d { s with st := p } sp :=
  ⟨by rw [Array.size_setIfInBounds]; exact h.size, by rw [set_ne _ _ (by omega)]; exact h.b, by rw [set_ne _ _ (by omega)]; exact h.pos, set_eq _ _ (by rw [h.size]; omega), by rw [set_ne _ _ (by omega)]; exact h.d,
   fun i hi => by rw [set_ne _ _ (by omega)]; exact h.bits i hi, by rw [set_ne _ _ (by omega)]; exact h.many, by rw [set_ne _ _ (by omega)]; exact h.beg, by rw [set_ne _ _ (by omega)]; exact h.sp, by rw [set_ne _ _ (by omega)]; exact h.fat, by rw [set_ne _ _ (by omega)]; exact h.why, by rw [set_ne _ _ (by omega)]; exact h.failed⟩
theorem RdC.put_beg (h : RdC c A n cap d s sp) (p : Nat) : RdC (c.setIfInBounds 205 (.int .i64 (p : Int))) A n cap d { s with beg := p } sp :=
  ⟨by rw [Array.size_setIfInBounds]; exact h.size, by rw [set_ne _ _ (by omega)]; exact h.b, by rw [set_ne _ _ (by omega)]; exact h.pos, by rw [set_ne _ _ (by omega)]; exact h.st, by rw [set_ne _ _ (by omega)]; exact h.d,
   fun i hi => by rw [set_ne _ _ (by omega)]; exact h.bits i hi, by rw [set_ne _ _ (by omega)]; exact h.many, set_eq _ _ (by rw [h.size]; omega), by rw [set_ne _ _ (by omega)]; exact h.sp, by rw [set_ne _ _ (by omega)]; exact h.fat, by rw [set_ne _ _ (by omega)]; exact h.why, by rw [set_ne _ _ (by omega)]; exact h.failed⟩
theorem RdC.put_sp (h : RdC c A n cap d s sp) (q : Value) (l : List (Nat × Nat)) : RdC (c.setIfInBounds 206 q) A n cap d { s with spans := l } q :=
  ⟨by rw [Array.size_setIfInBounds]; exact h.size, by rw [set_ne _ _ (by omega)]; exact h.b, by rw [set_ne _ _ (by omega)]; exact h.pos, by rw [set_ne _ _ (by omega)]; exact h.st, by rw [set_ne _ _ (by omega)]; exact h.d,
   fun i hi => by rw [set_ne _ _ (by omega)]; exact h.bits i hi, by rw [set_ne _ _ (by omega)]; exact h.many, by rw [set_ne _ _ (by omega)]; exact h.beg, set_eq _ _ (by rw [h.size]; omega), by rw [set_ne _ _ (by omega)]; exact h.fat, by rw [set_ne _ _ (by omega)]; exact h.why, by rw [set_ne _ _ (by omega)]; exact h.failed⟩
theorem RdC.put_fault (h : RdC c A n cap d s sp) (p q : Nat) : RdC (((c.setIfInBounds 207 (.int .i64 (p : Int))).setIfInBounds 208 (.int .i64 (q : Int))).setIfInBounds 209 (.bool true)) A n cap d { s with fault := some (p, q) } sp := by
  have e : ∀ i, i < 207 → (((c.setIfInBounds 207 (.int .i64 (p : Int))).setIfInBounds 208 (.int .i64 (q : Int))).setIfInBounds 209 (.bool true))[i]? = c[i]? := fun i hi => by
    rw [set_ne _ _ (by omega), set_ne _ _ (by omega), set_ne _ _ (by omega)]
  exact ⟨by rw [Array.size_setIfInBounds, Array.size_setIfInBounds, Array.size_setIfInBounds]; exact h.size, (e _ (by omega)).trans h.b, (e _ (by omega)).trans h.pos, (e _ (by omega)).trans h.st, (e _ (by omega)).trans h.d,
    fun i hi => by rw [e _ (by omega)]; exact h.bits i hi, (e _ (by omega)).trans h.many, (e _ (by omega)).trans h.beg, (e _ (by omega)).trans h.sp,
    by rw [set_ne _ _ (by omega), set_ne _ _ (by omega), set_eq _ _ (by rw [h.size]; omega)]; rfl, by rw [set_ne _ _ (by omega), set_eq _ _ (by rw [Array.size_setIfInBounds, h.size]; omega)]; rfl, by rw [set_eq _ _ (by rw [Array.size_setIfInBounds, Array.size_setIfInBounds, h.size]; omega)]; rfl⟩
theorem rev_cons (x : Bool) (l : List Bool) (i : Nat) (h : i < l.length + 1) : (x :: l).reverse.getD i false = if i = l.length then x else l.reverse.getD i false := by
  rw [List.reverse_cons]
  by_cases hi : i = l.length
  · rw [if_pos hi, List.getD, List.getElem?_append_right (by rw [List.length_reverse]; omega)]; simp [hi]
  · rw [if_neg hi, List.getD, List.getD, List.getElem?_append_left (by rw [List.length_reverse]; omega)]
theorem RdC.push (h : RdC c A n cap d s sp) (x : Bool) (hl : s.stack.length < 200) :
    RdC ((c.setIfInBounds (4 + s.stack.length) (.bool x)).setIfInBounds 204 (.int .i64 ((s.stack.length : Int) + 1))) A n cap d { s with stack := x :: s.stack } sp := by
  have e : ∀ i, i ≠ 204 → i ≠ 4 + s.stack.length → ((c.setIfInBounds (4 + s.stack.length) (.bool x)).setIfInBounds 204 (.int .i64 ((s.stack.length : Int) + 1)))[i]? = c[i]? := fun i h1 h2 => by
    rw [set_ne _ _ (by omega), set_ne _ _ (by omega)]
  refine ⟨by rw [Array.size_setIfInBounds, Array.size_setIfInBounds]; exact h.size, (e _ (by omega) (by omega)).trans h.b, (e _ (by omega) (by omega)).trans h.pos, (e _ (by omega) (by omega)).trans h.st, (e _ (by omega) (by omega)).trans h.d, fun i hi => ?_, ?_, (e _ (by omega) (by omega)).trans h.beg, (e _ (by omega) (by omega)).trans h.sp, (e _ (by omega) (by omega)).trans h.fat, (e _ (by omega) (by omega)).trans h.why, (e _ (by omega) (by omega)).trans h.failed⟩
  · by_cases hie : i = s.stack.length
    · refine ⟨x, ?_, fun _ => ?_⟩
      · rw [set_ne _ _ (by omega), hie, set_eq _ _ (by rw [h.size]; omega)]
      · show x = (x :: s.stack).reverse.getD i false
        rw [rev_cons _ _ _ (by omega), if_pos hie]
    · obtain ⟨y, h1, h2⟩ := h.bits i hi
      refine ⟨y, (e _ (by omega) (by omega)).trans h1, fun hl2 => ?_⟩
      show y = (x :: s.stack).reverse.getD i false
      have hl3 : i < s.stack.length + 1 := hl2
      rw [rev_cons _ _ _ hl3, if_neg hie]
      exact h2 (by omega)
  · rw [set_eq _ _ (by rw [Array.size_setIfInBounds, h.size]; omega)]
    show _ = some (Value.int .i64 ((s.stack.length + 1 : Nat) : Int))
    rw [Int.natCast_add]; rfl
theorem RdC.pop (h : RdC c A n cap d s sp) (hl : s.stack ≠ []) : RdC (c.setIfInBounds 204 (.int .i64 ((s.stack.length : Int) - 1))) A n cap d { s with stack := s.stack.tail } sp := by
  obtain ⟨x, t, ht⟩ : ∃ x t, s.stack = x :: t := by cases hs : s.stack with
    | nil => exact absurd hs hl
    | cons x t => exact ⟨x, t, rfl⟩
  refine ⟨by rw [Array.size_setIfInBounds]; exact h.size, by rw [set_ne _ _ (by omega)]; exact h.b, by rw [set_ne _ _ (by omega)]; exact h.pos, by rw [set_ne _ _ (by omega)]; exact h.st, by rw [set_ne _ _ (by omega)]; exact h.d, fun i hi => ?_, ?_, by rw [set_ne _ _ (by omega)]; exact h.beg, by rw [set_ne _ _ (by omega)]; exact h.sp, by rw [set_ne _ _ (by omega)]; exact h.fat, by rw [set_ne _ _ (by omega)]; exact h.why, by rw [set_ne _ _ (by omega)]; exact h.failed⟩
  · obtain ⟨y, h1, h2⟩ := h.bits i hi
    refine ⟨y, by rw [set_ne _ _ (by omega)]; exact h1, fun hl2 => ?_⟩
    rw [ht] at hl2 h2 ⊢
    have hl3 : i < t.length := hl2
    rw [h2 (by rw [List.length_cons]; omega), rev_cons _ _ _ (by omega), if_neg (by omega)]; rfl
  · rw [set_eq _ _ (by rw [h.size]; omega), ht]
    show _ = some (Value.int .i64 ((t.length : Nat) : Int))
    rw [List.length_cons, Int.natCast_add]
    congr 2; omega
end

theorem heap_set {w : World} {r k : Nat} {c : Array Value} {T : TypeId} {z : Nat × Nat} (h : w.heap[r]? = some (.cells c T z)) (v : Value) : (w.setCell ⟨r, k, none⟩ v).heap[r]? = some (.cells (c.setIfInBounds k v) T z) := by
  simp [World.setCell, Array.getElem?_modify, h]
theorem heap_far {w : World} {p : Addr} {r : Nat} {v : Value} (h : p.block ≠ r) : (w.setCell p v).heap[r]? = w.heap[r]? := by
  simp only [World.setCell, Array.getElem?_modify]
  rw [if_neg h]
theorem owns_far {w : World} {B : Nat} {E : TypeId} {size : Nat} {v : Value} {m : Nat} {xs : List Value} (h : w.ownsRow B E size v m xs) {r k : Nat} {c : Array Value} {T : TypeId} {z : Nat × Nat} (hr : w.heap[r]? = some (.cells c T z)) (hT : T ≠ E) (x : Value) :
    (w.setCell ⟨r, k, none⟩ x).ownsRow B E size v m xs := by
  refine ⟨h.1, ?_⟩
  rcases h.2 with h2 | ⟨g, cap, cur, hv, hg, hh, r2⟩
  · exact .inl h2
  · refine .inr ⟨g, cap, cur, hv, hg, ?_, r2⟩
    rw [heap_far (fun e => ?_)]
    · exact hh
    · have e : r = g := e
      subst e; rw [hr] at hh; injection hh with hh; injection hh with _ hh _; exact hT hh
theorem owns_below {w w' : World} {B : Nat} {E : TypeId} {size : Nat} {v : Value} {m : Nat} {xs : List Value} (h : w.ownsRow B E size v m xs) (hb : Below w.heap.size w w') : w'.ownsRow B E size v m xs := by
  refine ⟨h.1, ?_⟩
  rcases h.2 with h2 | ⟨g, cap, cur, hv, hg, hh, r⟩
  · exact .inl h2
  · exact .inr ⟨g, cap, cur, hv, hg, by rw [hb.block g (Array.getElem?_eq_some_iff.1 hh).1]; exact hh, r⟩
theorem owns_grown {w w' : World} {B : Nat} {E : TypeId} {size : Nat} {v : Value} {m : Nat} {xs : List Value} (h : w.ownsRow B E size v m xs) {row : Option Nat} (hg : w.grownBy w' row) (hr : ∀ k, row = some k → k < B ∨ ∃ c T z, w.heap[k]? = some (.cells c T z) ∧ T ≠ E) : w'.ownsRow B E size v m xs := by
  refine ⟨h.1, ?_⟩
  rcases h.2 with h2 | ⟨g, cap, cur, hv, hb, hh, r⟩
  · exact .inl h2
  · refine .inr ⟨g, cap, cur, hv, hb, ?_, r⟩
    rw [hg.block g (Array.getElem?_eq_some_iff.1 hh).1 (fun e => ?_)]
    · exact hh
    · rcases hr g e.symm with h3 | ⟨c, T, z, h3, h4⟩
      · omega
      · rw [h3] at hh; injection hh with hh; injection hh with _ hh _; exact h4 hh

theorem owns_slice {w : World} {B : Nat} {E : TypeId} {size : Nat} {v : Value} {m : Nat} {xs : List Value} (h : w.ownsRow B E size v m xs) : ∃ A cap, v = .slice A m cap := by
  rcases h.2 with ⟨hv, h0⟩ | ⟨g, cap, cur, hv, _⟩
  · exact ⟨none, 0, by rw [hv, h0]⟩
  · exact ⟨_, cap, hv⟩

/-- the reader in block r, of the state s -/
def Rdr (h0 : Nat) (w : World) (r : Nat) (A : Option Addr) (n cap d : Nat) (s : VS) : Prop :=
  h0 ≤ r ∧ ∃ c sp, w.heap[r]? = some (.cells c 71 (0, 0)) ∧ RdC c A n cap d s sp ∧ w.ownsRow h0 42 2 sp s.spans.length (spanCells s.spans)
/-- the reader of a call that began in w0 -/
def RdV (w0 : World) (A : Option Addr) (n cap d r : Nat) (s : VS) (w : World) : Prop := Below w0.heap.size w0 w ∧ Rdr w0.heap.size w r A n cap d s

section
variable {w0 w : World} {A : Option Addr} {n cap d r : Nat} {s : VS}
theorem RdV.drew (h : RdV w0 A n cap d r s w) : RdV w0 A n cap d r s w.drew := ⟨h.1.drew, h.2⟩
theorem RdV.drewN (h : RdV w0 A n cap d r s w) (k : Nat) : RdV w0 A n cap d r s (w.drewN k) := ⟨h.1.trans ⟨rfl, rfl, rfl, Nat.le_refl _, fun _ _ => rfl⟩, h.2⟩
theorem RdV.size (h : RdV w0 A n cap d r s w) : w0.heap.size ≤ r ∧ r < w.heap.size ∧ w0.heap.size ≤ w.heap.size := by
  obtain ⟨hb, hr, c, sp, hh, _⟩ := h
  exact ⟨hr, (Array.getElem?_eq_some_iff.1 hh).1, hb.size⟩
theorem RdV.below (h : RdV w0 A n cap d r s w) {w' : World} (hb : Below w.heap.size w w') : RdV w0 A n cap d r s w' := by
  obtain ⟨h1, h2, c, sp, hh, hc, ho⟩ := h
  exact ⟨h1.trans (hb.mono h1.size), h2, c, sp, (hb.block r (Array.getElem?_eq_some_iff.1 hh).1).trans hh, hc, owns_below ho hb⟩
theorem RdV.put (h : RdV w0 A n cap d r s w) (k : Nat) (v : Value) (s' : VS) (hs : s'.spans = s.spans) (hc : ∀ c sp, RdC c A n cap d s sp → RdC (c.setIfInBounds k v) A n cap d s' sp) : RdV w0 A n cap d r s' (w.setCell ⟨r, k, none⟩ v) := by
  obtain ⟨h1, h2, c, sp, hh, hc2, ho⟩ := h
  exact ⟨h1.setCell (p := ⟨r, k, none⟩) h2 _, h2, _, sp, heap_set hh v, hc _ _ hc2, by rw [hs]; exact owns_far ho hh (by decide) _⟩
theorem RdV.put_pos (h : RdV w0 A n cap d r s w) (p : Nat) : RdV w0 A n cap d r { s with pos := p } (w.setCell ⟨r, 1, none⟩ (.int .i64 (p : Int))) := h.put 1 _ { s with pos := p } rfl fun _ _ h => h.put_pos p
theorem RdV.put_st (h : RdV w0 A n cap d r s w) (p : Nat) : RdV w0 A n cap d r { s with st := p } (w.setCell ⟨r, 2, none⟩ (.int .i64 (p : Int))) := h.put 2 _ { s with st := p } rfl fun _ _ h => h.put_st p
theorem RdV.put_beg (h : RdV w0 A n cap d r s w) (p : Nat) : RdV w0 A n cap d r { s with beg := p } (w.setCell ⟨r, 205, none⟩ (.int .i64 (p : Int))) := h.put 205 _ { s with beg := p } rfl fun _ _ h => h.put_beg p
theorem RdV.pop (h : RdV w0 A n cap d r s w) (hl : s.stack ≠ []) : RdV w0 A n cap d r { s with stack := s.stack.tail } (w.setCell ⟨r, 204, none⟩ (.int .i64 ((s.stack.length : Int) - 1))) := h.put 204 _ { s with stack := s.stack.tail } rfl fun _ _ h => h.pop hl
theorem RdV.push (h : RdV w0 A n cap d r s w) (x : Bool) (hl : s.stack.length < 200) : RdV w0 A n cap d r { s with stack := x :: s.stack } ((w.setCell ⟨r, 4 + s.stack.length, none⟩ (.bool x)).setCell ⟨r, 204, none⟩ (.int .i64 ((s.stack.length : Int) + 1))) := by
  obtain ⟨h1, h2, c, sp, hh, hc2, ho⟩ := h
  have hh2 := heap_set (k := 4 + s.stack.length) hh (.bool x)
  exact ⟨(h1.setCell (p := ⟨r, _, none⟩) h2 _).setCell (p := ⟨r, _, none⟩) h2 _, h2, _, sp, heap_set hh2 _, hc2.push x hl, owns_far (owns_far ho hh (by decide) _) hh2 (by decide) _⟩
theorem RdV.put_fault (h : RdV w0 A n cap d r s w) (p q : Nat) : RdV w0 A n cap d r { s with fault := some (p, q) } (((w.setCell ⟨r, 207, none⟩ (.int .i64 (p : Int))).setCell ⟨r, 208, none⟩ (.int .i64 (q : Int))).setCell ⟨r, 209, none⟩ (.bool true)) := by
  obtain ⟨h1, h2, c, sp, hh, hc2, ho⟩ := h
  have hh2 := heap_set (k := 207) hh (.int .i64 (p : Int))
  have hh3 := heap_set (k := 208) hh2 (.int .i64 (q : Int))
  exact ⟨((h1.setCell (p := ⟨r, _, none⟩) h2 _).setCell (p := ⟨r, _, none⟩) h2 _).setCell (p := ⟨r, _, none⟩) h2 _, h2, _, sp, heap_set hh3 _, hc2.put_fault p q, owns_far (owns_far (owns_far ho hh (by decide) _) hh2 (by decide) _) hh3 (by decide) _⟩
theorem RdV.frozen (h : RdV w0 A n cap d r s w) (k : Nat) : w.frozen? ⟨r, k, none⟩ = false := by
  obtain ⟨h1, h2, c, sp, hh, hc, ho⟩ := h
  exact Lib.frozen_of_heap hh k
theorem RdV.cb (h : RdV w0 A n cap d r s w) : w.cell? ⟨r, 0, none⟩ = some (.slice A n cap) := by
  obtain ⟨h1, h2, c, sp, hh, hc, ho⟩ := h
  rw [Lib.cell_of_heap hh]; exact hc.b
theorem RdV.cpos (h : RdV w0 A n cap d r s w) : w.cell? ⟨r, 1, none⟩ = some (.int .i64 (s.pos : Int)) := by
  obtain ⟨h1, h2, c, sp, hh, hc, ho⟩ := h
  rw [Lib.cell_of_heap hh]; exact hc.pos
theorem RdV.cst (h : RdV w0 A n cap d r s w) : w.cell? ⟨r, 2, none⟩ = some (.int .i64 (s.st : Int)) := by
  obtain ⟨h1, h2, c, sp, hh, hc, ho⟩ := h
  rw [Lib.cell_of_heap hh]; exact hc.st
theorem RdV.cd (h : RdV w0 A n cap d r s w) : w.cell? ⟨r, 3, none⟩ = some (.int .i64 (d : Int)) := by
  obtain ⟨h1, h2, c, sp, hh, hc, ho⟩ := h
  rw [Lib.cell_of_heap hh]; exact hc.d
theorem RdV.cmany (h : RdV w0 A n cap d r s w) : w.cell? ⟨r, 204, none⟩ = some (.int .i64 (s.stack.length : Int)) := by
  obtain ⟨h1, h2, c, sp, hh, hc, ho⟩ := h
  rw [Lib.cell_of_heap hh]; exact hc.many
theorem RdV.cbeg (h : RdV w0 A n cap d r s w) : w.cell? ⟨r, 205, none⟩ = some (.int .i64 (s.beg : Int)) := by
  obtain ⟨h1, h2, c, sp, hh, hc, ho⟩ := h
  rw [Lib.cell_of_heap hh]; exact hc.beg
theorem RdV.cfat (h : RdV w0 A n cap d r s w) : w.cell? ⟨r, 207, none⟩ = some (.int .i64 ((s.fault.getD (0, 0)).1 : Int)) := by
  obtain ⟨h1, h2, c, sp, hh, hc, ho⟩ := h
  rw [Lib.cell_of_heap hh]; exact hc.fat
theorem RdV.cwhy (h : RdV w0 A n cap d r s w) : w.cell? ⟨r, 208, none⟩ = some (.int .i64 ((s.fault.getD (0, 0)).2 : Int)) := by
  obtain ⟨h1, h2, c, sp, hh, hc, ho⟩ := h
  rw [Lib.cell_of_heap hh]; exact hc.why
theorem RdV.cfailed (h : RdV w0 A n cap d r s w) : w.cell? ⟨r, 209, none⟩ = some (.bool s.fault.isSome) := by
  obtain ⟨h1, h2, c, sp, hh, hc, ho⟩ := h
  rw [Lib.cell_of_heap hh]; exact hc.failed
/-- the cell of a bracket that may be opened -/
theorem RdV.cbit (h : RdV w0 A n cap d r s w) (i : Nat) (hi : i < 200) : ∃ x, w.cell? ⟨r, 4 + i, none⟩ = some (.bool x) ∧ (i < s.stack.length → x = s.stack.reverse.getD i false) := by
  obtain ⟨h1, h2, c, sp, hh, hc, ho⟩ := h
  rw [Lib.cell_of_heap hh]; exact hc.bits i hi
/-- the spans -/
theorem RdV.csp (h : RdV w0 A n cap d r s w) : ∃ sp, w.cell? ⟨r, 206, none⟩ = some sp ∧ w.ownsRow w0.heap.size 42 2 sp s.spans.length (spanCells s.spans) := by
  obtain ⟨h1, h2, c, sp, hh, hc, ho⟩ := h
  exact ⟨sp, by rw [Lib.cell_of_heap hh]; exact hc.sp, ho⟩
/-- the last one that was opened -/
theorem RdV.ctop (h : RdV w0 A n cap d r s w) (hl : s.stack ≠ []) (h2 : s.stack.length ≤ 200) : w.cell? ⟨r, 4 + (s.stack.length - 1), none⟩ = some (.bool (braceV s)) := by
  obtain ⟨x, t, ht⟩ : ∃ x t, s.stack = x :: t := by cases hs : s.stack with
    | nil => exact absurd hs hl
    | cons x t => exact ⟨x, t, rfl⟩
  have hlen : s.stack.length = t.length + 1 := by rw [ht]; rfl
  obtain ⟨y, h3, h4⟩ := h.cbit (s.stack.length - 1) (by omega)
  rw [h3]
  have h5 := h4 (by omega)
  rw [ht, rev_cons _ _ _ (by rw [List.length_cons]; omega), if_pos (by rw [List.length_cons]; omega)] at h5
  rw [h5, braceV, ht]; rfl
/-- behind the row's append -/
theorem RdV.heap (h : RdV w0 A n cap d r s w) {sp : Value} (hsp : w.cell? ⟨r, 206, none⟩ = some sp) : ∃ c, w.heap[r]? = some (.cells c 71 (0, 0)) ∧ RdC c A n cap d s sp ∧ w.ownsRow w0.heap.size 42 2 sp s.spans.length (spanCells s.spans) := by
  obtain ⟨h1, h2, c, sp', hh, hc, ho⟩ := h
  rw [Lib.cell_of_heap hh] at hsp
  have : sp' = sp := Option.some.inj (hc.sp.symm.trans hsp)
  subst this
  exact ⟨c, hh, hc, ho⟩
theorem RdV.grows (h : RdV w0 A n cap d r s w) {sp : Value} (hsp : w.cell? ⟨r, 206, none⟩ = some sp) {o : Obj} {w5 : World} (hg : (w.drew.alloc o).grownBy w5 sp.ownBlock) :
    w5.cell? ⟨r, 206, none⟩ = some sp ∧ w5.frozen? ⟨r, 206, none⟩ = false ∧ ∀ (v5 : Value) (p : Nat × Nat), w5.ownsRow w0.heap.size 42 2 v5 (s.spans.length + 1) (spanCells s.spans ++ [Value.int .i64 (p.1 : Int), .int .i64 (p.2 : Int)]) →
      RdV w0 A n cap d r { s with spans := s.spans ++ [p] } (w5.setCell ⟨r, 206, none⟩ v5) := by
  obtain ⟨c, hh, hc, ho⟩ := h.heap hsp
  obtain ⟨hb, h2, _⟩ := h
  have hlt : r < w.heap.size := (Array.getElem?_eq_some_iff.1 hh).1
  have hblk : ∀ k, sp.ownBlock = some k → w0.heap.size ≤ k ∧ k ≠ r := fun k hk => by
    rcases ho.2 with ⟨hv, _⟩ | ⟨g, cap', cur, hv, hg2, hh2, _⟩
    · rw [hv] at hk; cases hk
    · rw [hv] at hk
      have e : g = k := by simpa [Value.ownBlock] using hk
      subst e
      refine ⟨hg2, fun e => ?_⟩
      subst e
      rw [hh] at hh2; injection hh2 with hh2; injection hh2 with _ hh2 _; exact absurd hh2 (by decide)
  have hal : (w.drew.alloc o).heap[r]? = some (.cells c 71 (0, 0)) := by
    exact (Below.heap_alloc w.drew o r hlt).trans hh
  have h5 : w5.heap[r]? = some (.cells c 71 (0, 0)) := by
    rw [hg.block r (Array.getElem?_eq_some_iff.1 hal).1 (fun e => (hblk r e.symm).2 rfl)]; exact hal
  have hb5 : Below w0.heap.size w0 w5 := (hb.drew.alloc hb.size o).grown hg (by rw [World.size_alloc]; have := hb.size; exact Nat.le_succ_of_le this) (fun k hk => (hblk k hk).1)
  refine ⟨by rw [Lib.cell_of_heap h5]; exact hc.sp, Lib.frozen_of_heap h5 206, fun v5 p ho5 => ?_⟩
  refine ⟨hb5.setCell (p := ⟨r, 206, none⟩) h2 _, h2, _, v5, heap_set h5 v5, hc.put_sp v5 _, ?_⟩
  rw [spanCells_snoc] at ho5
  show World.ownsRow _ _ _ _ _ (s.spans ++ [p]).length _
  rw [List.length_append]
  exact owns_far ho5 h5 (by decide) _
end

end Go.Proofs.YtojapomkmfbciaaDoor

namespace Go.Proofs.YtojapomkmfbciaaDoor
open Go.RowKit

set_option maxHeartbeats 400000 in
set_option maxRecDepth 100000 in
theorem valFail_any (w0 : World) (A : Option Addr) (n cap d r : Nat) (s : VS) (w : World) (p q : Nat) (h : RdV w0 A n cap d r s w) :
    Calls Tryd.prog 50 #[.pointer (some ⟨r, 0, none⟩), .int .i64 (p : Int), .int .i64 (q : Int)] w fun e w' => e = .returned (.tuple #[]) ∧ RdV w0 A n cap d r { s with fault := some (p, q) } w' := by
  have H := Lib.hid h
  have g7 := h.frozen 207
  have g8 := h.frozen 208
  have g9 := h.frozen 209
  have c7 := h.cfat
  have c8 := h.cwhy
  have c9 := h.cfailed
  clear h
  go_enter Tryd.func50, Tryd.ntmps50
  go_wp2
  go_returns
  exact ⟨rfl, H.out.put_fault p q⟩

set_option maxHeartbeats 400000 in
set_option maxRecDepth 100000 in
theorem valWrong_any (w0 : World) (A : Option Addr) (n cap d r : Nat) (s : VS) (w : World) (l : List UInt8) (i : Nat) (hl : l.length = n) (h : RdV w0 A n cap d r s w) :
    Calls Tryd.prog 36 #[.pointer (some ⟨r, 0, none⟩), .int .i64 (i : Int)] w fun e w' => e = .returned (.tuple #[]) ∧ RdV w0 A n cap d r (wrongV l i s) w' := by
  have HL := Lib.hid hl
  have H := Lib.hid h
  have c0 := h.cb
  have k1 := fun q => valFail_any w0 A n cap d r s w n q h
  have k2 := fun q => valFail_any w0 A n cap d r s w i q h
  have K1 := Lib.hid (k1 2)
  have K2 := Lib.hid (k2 1)
  clear h hl k1 k2
  by_cases hin : n ≤ i
  · have e : wrongV l i s = { s with fault := some (n, 2) } := by unfold wrongV; rw [if_pos (by rw [HL.out]; exact hin), HL.out]
    rw [e]
    go_enter Tryd.func36, Tryd.ntmps36
    go_wp2_with (go_at_call 50; refine K1.out.mono ?_)
    rintro e w1 ⟨rfl, h1⟩
    go_wp2
    go_returns
    exact ⟨rfl, h1⟩
  · have e : wrongV l i s = { s with fault := some (i, 1) } := by unfold wrongV; rw [if_neg (by rw [HL.out]; exact hin)]
    rw [e]
    go_enter Tryd.func36, Tryd.ntmps36
    go_wp2_with (go_at_call 50; refine K2.out.mono ?_)
    rintro e w1 ⟨rfl, h1⟩
    go_wp2
    go_returns
    exact ⟨rfl, h1⟩

set_option maxHeartbeats 400000 in
theorem valBlank_any (c : Nat) (w : World) (hc : c < 256) : Calls Tryd.prog 34 #[.int .u8 (c : Int)] w fun e w' => e = .returned (.bool (blankB c)) ∧ w = w' := by
  have hb : ∀ b : Bool, b = blankB c → Ending.returned (.bool b) = .returned (.bool (blankB c)) := fun b h => by rw [h]
  go_enter Tryd.func34, Tryd.ntmps34
  go_wp2
  all_goals go_ret
  all_goals refine ⟨hb _ ?_, rfl⟩
  all_goals unfold blankB
  all_goals rw [Bool.eq_iff_iff]
  all_goals simp
  all_goals omega

section
variable {P : Program} (w : World)
theorem step_append_own {ops : Array Oper} {o : Oper} {a : Act} {K : Act → World → Prop} {Q : Exit → Act → World → Prop} {E : Prop} (hgd : o.guard = none) (s x : Operand) (t : TypeId)
    (ho : o.op = .call { callee := .builtin .append, args := #[s, x], argTypes := #[t, t] })
    (base : Nat) (e : TypeId) (i : TypeInfo) (z : Value) (size bytes : Nat) (ht : P.underlying t = some (.slice e)) (hi : P.info? e = some i) (hz : i.zero = some z)
    (hsize : i.size = size) (hby : i.bytes = bytes) (hzs : z.cells.size = size) (hsz : 0 < size)
    (v : Value) (n : Nat) (xs : List Value) (hs : a.eval s = v) (hown : w.ownsRow base e size v n xs)
    (ad : Addr) (m c : Nat) (news : List Value) (hx : a.eval x = .slice (some ad) m c) (hl : news.length = m * size) (hnews : ∀ j u, news[j]? = some u → w.cell? (ad.add j) = some u) (h1 : ∀ u ∈ news, u.oneCell' = true)
    (h63 : n + m ≤ maxLen) (hbytes : (n + m) * bytes ≤ 140737488355328) (hbase : base ≤ w.heap.size)
    (h : ∀ v' w', w'.ownsRow base e size v' (n + m) (xs ++ news) → w.grownBy w' v.ownBlock → K (a.put o.dst v') w') :
    if Region.wanted o (yielded ops a.tmps) = true then Oper.wp P o a w K Q else E := by
  have hw : Region.wanted o (yielded ops a.tmps) = true := by simp [Region.wanted, hgd]
  rw [if_pos hw]
  exact wp_append_own w s x t ho base e i z size bytes ht hi hz hsize hby hzs hsz v n xs hs hown ad m c news hx hl hnews h1 h63 hbytes hbase fun v' w' h2 h3 _ => h v' w' h2 h3
end

theorem news2 (W : World) (a b : Value) (T : TypeId) : ∀ (j : Nat) (u : Value), [a, b][j]? = some u → (W.drew.alloc (.cells #[a, b] T)).cell? ((⟨W.heap.size, 0, none⟩ : Addr).add j) = some u := fun j u h => by
  have hadd : (⟨W.heap.size, 0, none⟩ : Addr).add j = ⟨W.heap.size, 0 + j, none⟩ := by unfold Addr.add; split <;> simp_all
  rw [hadd, Nat.zero_add]
  refine (World.cell?_alloc_at (w := W.drew) _ _ _ _ rfl).trans ?_
  simpa using h
theorem one2 (k : IntKind) (a b : Int) : ∀ u ∈ [Value.int k a, .int k b], u.oneCell' = true := fun u h => by
  simp only [List.mem_cons, List.not_mem_nil, or_false] at h
  rcases h with rfl | rfl <;> rfl

theorem infoSpan : (Tryd.prog.info? 42).map (fun i => (i.zero, i.size, i.bytes)) = some (some (.agg #[.int .i64 0, .int .i64 0]), 2, 16) := by kernel_rfl

set_option maxHeartbeats 400000 in
set_option maxRecDepth 100000 in
theorem valDone_in (w0 : World) (A : Option Addr) (n cap d r : Nat) (s : VS) (w : World) (to : Nat) (hs : s.stack ≠ []) (h : RdV w0 A n cap d r s w) :
    Calls Tryd.prog 59 #[.pointer (some ⟨r, 0, none⟩), .int .i64 (to : Int)] w fun e w' => e = .returned (.tuple #[]) ∧ RdV w0 A n cap d r (doneV to s) w' := by
  have H := Lib.hid h
  have hlen : 0 < (s.stack.length : Int) := by have := List.length_pos_iff.2 hs; omega
  have e : doneV to s = { s with pos := to, st := 7 } := by unfold doneV; rw [if_neg hs]
  rw [e]
  have g1 := h.frozen 1
  have g2 := h.frozen 2
  have c1 := h.cpos
  have c2 := h.cst
  have c3 := h.cmany
  clear h hs e
  generalize (s.stack.length : Int) = m at *
  go_enter Tryd.func59, Tryd.ntmps59
  go_wp2
  go_returns
  exact ⟨rfl, (H.out.put_pos to).put_st 7⟩

set_option maxHeartbeats 1000000 in
set_option maxRecDepth 100000 in
theorem valDone_top (w0 : World) (A : Option Addr) (n cap d r : Nat) (s : VS) (w : World) (to : Nat) (hs : s.stack = []) (hsp : s.spans.length ≤ 1073741824) (h : RdV w0 A n cap d r s w) :
    Calls Tryd.prog 59 #[.pointer (some ⟨r, 0, none⟩), .int .i64 (to : Int)] w fun e w' => e = .returned (.tuple #[]) ∧ RdV w0 A n cap d r (doneV to s) w' := by
  have H := Lib.hid h
  have e : doneV to s = { s with pos := to, st := 1, spans := s.spans ++ [(s.beg, to)] } := by unfold doneV; rw [if_pos hs]
  rw [e]
  obtain ⟨i0, hi, hz0, hz1, hz2⟩ := info_parts infoSpan
  have g1 := h.frozen 1
  have g2 := h.frozen 2
  have g6 := h.frozen 206
  have c1 := h.cpos
  have c2 := h.cst
  have c3 := h.cmany
  rw [hs] at c3
  have c5 := h.cbeg
  obtain ⟨sp, c6, ho⟩ := h.csp
  have HO := Lib.hid ho
  have hsz := h.size.2.2
  rw [show ((List.length ([] : List Bool) : Nat) : Int) = 0 from rfl] at c3
  obtain ⟨W, hW⟩ : ∃ W, w.setCell ⟨r, 1, none⟩ (.int .i64 (to : Int)) = W := ⟨_, rfl⟩
  have h1 : RdV w0 A n cap d r { s with pos := to } W := hW ▸ h.put_pos to
  have d5 : W.cell? ⟨r, 205, none⟩ = some (.int .i64 (s.beg : Int)) := h1.cbeg
  have d6 : W.cell? ⟨r, 206, none⟩ = some sp := by rw [← hW]; exact (World.cell?_setCell_other w _ _ _ (fun e => by injection e with _ e _; omega)).trans c6
  have q6 := h1.frozen 206
  have d6' : (W.alloc (.cells #[.int .i64 (s.beg : Int), .int .i64 (to : Int)] 42)).cell? ⟨r, 206, none⟩ = some sp := by rw [World.cell?_alloc_past (hn := h1.size.2.1)]; exact d6
  obtain ⟨_, _, _, hoW⟩ := h1.heap d6
  have HG := Lib.hid (fun o w5 => h1.grows (o := o) (w5 := w5) d6)
  have HOW := Lib.hid hoW
  have hszW := h1.size.2.2
  have HW := Lib.hid hW
  clear h hs e ho hoW h1 hW
  go_enter Tryd.func59, Tryd.ntmps59
  go_wp2
  rw [HW.out]
  go_region_law (refine step_append_own _ rfl (.tmp 20) (.tmp 27) 35 rfl w0.heap.size 42 i0 (.agg #[.int .i64 0, .int .i64 0]) 2 16 Tryd.underlying35 hi hz0 hz1 hz2 rfl (by decide) sp s.spans.length (spanCells s.spans) (by simp [Act.eval]) (owns_below HOW.out ((Below.refl _ W).drew.alloc (Nat.le_refl _) _)) ⟨W.heap.size, 0, none⟩ 1 1 [.int .i64 (s.beg : Int), .int .i64 (to : Int)] (by simp [Act.eval]) rfl (news2 W _ _ _) (one2 _ _ _) (by unfold maxLen; omega) (by omega) (by simp; omega) ?_; intro v5 w5 hown5 hgrow5; obtain ⟨e6, e7, e8⟩ := HG.out _ _ hgrow5; have E8 := Lib.hid (e8 v5 (s.beg, to) hown5); clear e8; obtain ⟨A5, cap5, rfl⟩ := owns_slice hown5)
  all_goals
    have E9 := E8.out
    have q2 := E9.frozen 2
    have d2 := E9.cst
    clear E9
    go_wp2
    go_returns
    exact ⟨rfl, E8.out.put_st 1⟩

theorem valDone_any (w0 : World) (A : Option Addr) (n cap d r : Nat) (s : VS) (w : World) (to : Nat) (hsp : s.spans.length ≤ 1073741824) (h : RdV w0 A n cap d r s w) :
    Calls Tryd.prog 59 #[.pointer (some ⟨r, 0, none⟩), .int .i64 (to : Int)] w fun e w' => e = .returned (.tuple #[]) ∧ RdV w0 A n cap d r (doneV to s) w' := by
  by_cases hs : s.stack = []
  · exact valDone_top w0 A n cap d r s w to hs hsp h
  · exact valDone_in w0 A n cap d r s w to hs h

set_option maxHeartbeats 1000000 in
set_option maxRecDepth 100000 in
theorem valOpens_any (w0 : World) (A : Option Addr) (n cap d r : Nat) (s : VS) (w : World) (x : Bool) (hd : d ≤ 200) (hp : s.pos ≤ 1073741824) (h : RdV w0 A n cap d r s w) :
    Calls Tryd.prog 60 #[.pointer (some ⟨r, 0, none⟩), .bool x] w fun e w' => e = .returned (.tuple #[]) ∧ RdV w0 A n cap d r (opensV d x s) w' := by
  have c1 := h.cpos
  have c2 := h.cst
  have c3 := h.cd
  have c4 := h.cmany
  have g1 := h.frozen 1
  have g2 := h.frozen 2
  have g4 := h.frozen 204
  by_cases hdl : d ≤ s.stack.length
  · have e : opensV d x s = { s with fault := some (s.pos, 3) } := by unfold opensV; rw [if_pos hdl]
    rw [e]
    have K1 := Lib.hid (fun (W : World) (hW : RdV w0 A n cap d r s W) => valFail_any w0 A n cap d r s W s.pos 3 hW)
    have H := Lib.hid h
    have dd : decide ((d : Int) ≤ (s.stack.length : Int)) = true := decide_eq_true (by omega)
    clear h e g1 g2 g4
    generalize s.stack.length = m at *
    go_enter Tryd.func60, Tryd.ntmps60
    go_wp2
    go_quiet (fail)
    all_goals
      go_wp2_with (go_at_call 50; refine (K1.out _ (H.out.drewN _)).mono ?_)
      rintro e w1 ⟨rfl, h1⟩
      go_wp2
      go_returns
      exact ⟨rfl, h1⟩
  · have hl2 : s.stack.length < 200 := by omega
    have e : opensV d x s = { s with stack := x :: s.stack, pos := s.pos + 1, st := if x = true then 5 else 3 } := by unfold opensV; rw [if_neg hdl]
    rw [e]
    obtain ⟨y, c5, _⟩ := h.cbit s.stack.length hl2
    have g5 := h.frozen (4 + s.stack.length)
    have H := Lib.hid h
    have hm : s.stack.length < d := by omega
    have hmi : (s.stack.length : Int) < 200 := by omega
    have ha : (4 + s.stack.length = s.stack.length + 4) := by omega
    have dd : decide ((d : Int) ≤ (s.stack.length : Int)) = false := decide_eq_false (by omega)
    clear h e ha
    generalize hM : s.stack.length = m at *
    have HM := Lib.hid hM
    clear hM
    go_enter Tryd.func60, Tryd.ntmps60
    go_wp2
    go_quiet (fail)
    go_wp2
    go_region
    cases x
    · go_wp2
      go_returns
      have h1 := (H.out.drewN (nq + 1)).push false (by rw [HM.out]; exact hl2)
      rw [HM.out] at h1
      exact ⟨rfl, (h1.put_pos (s.pos + 1)).put_st 3⟩
    · go_wp2
      go_returns
      have h1 := (H.out.drewN (nq + 1)).push true (by rw [HM.out]; exact hl2)
      rw [HM.out] at h1
      first | exact ⟨rfl, ((h1.put_pos (s.pos + 1)).put_st 3).put_st 5⟩ | exact ⟨rfl, (h1.put_pos (s.pos + 1)).put_st 5⟩

set_option maxHeartbeats 1000000 in
set_option maxRecDepth 100000 in
theorem valShuts_any (w0 : World) (A : Option Addr) (n cap d r : Nat) (s : VS) (w : World) (hs : s.stack ≠ []) (hm : s.stack.length ≤ 200) (hp : s.pos ≤ 1073741824) (hsp : s.spans.length ≤ 1073741824) (h : RdV w0 A n cap d r s w) :
    Calls Tryd.prog 46 #[.pointer (some ⟨r, 0, none⟩)] w fun e w' => e = .returned (.tuple #[]) ∧ RdV w0 A n cap d r (shutsV s) w' := by
  have c1 := h.cpos
  have c4 := h.cmany
  have g4 := h.frozen 204
  have hl := List.length_pos_iff.2 hs
  have H := Lib.hid h
  have k1 := valDone_any w0 A n cap d r { s with stack := s.stack.tail } _ (s.pos + 1) hsp (h.pop hs)
  rw [show doneV (s.pos + 1) { s with stack := s.stack.tail } = shutsV s from rfl] at k1
  have K1 := Lib.hid k1
  have h1 : 1 ≤ (s.stack.length : Int) := by omega
  have h2 : (s.stack.length : Int) ≤ 200 := by omega
  clear h k1 hs hl hm
  generalize (s.stack.length : Int) = m at *
  go_enter Tryd.func46, Tryd.ntmps46
  go_wp2_with (go_at_call 59; refine K1.out.mono ?_)
  rintro e w1 ⟨rfl, h1⟩
  go_wp2
  go_returns
  exact ⟨rfl, h1⟩

end Go.Proofs.YtojapomkmfbciaaDoor
