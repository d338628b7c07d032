/-
  A function that hands back a piece: its cells, at the end.
-/
import Derived.Test.YtnbfikfngekfoaaDoorQuoB
namespace Go.Proofs.YtnbfikfngekfoaaDoor
open Go.RowKit

/-- a piece in three cells of the call's own -/
def OwnP (w : World) (g : Nat) (p : Pc) : Prop := Own3 73 w g (.int .i64 (p.point : Int)) (.int .i64 (p.size : Int)) (.int .i64 (p.err : Int))

theorem heap_setCell_self {w : World} {g i : Nat} {T : TypeId} {c : Array Value} (h : w.heap[g]? = some (.cells c T (0, 0))) (x : Value) :
    (w.setCell ⟨g, i, none⟩ x).heap[g]? = some (.cells (c.setIfInBounds i x) T (0, 0)) := by
  show (w.heap.modify g _)[g]? = _
  rw [Array.getElem?_modify, if_pos rfl, h]
  rfl

theorem OwnP.put {w : World} {g : Nat} {x y z : Value} (h : Own3 73 w g x y z) (p : Pc) :
    OwnP (((w.setCell ⟨g, 0, none⟩ (.int .i64 (p.point : Int))).setCell ⟨g, 1, none⟩ (.int .i64 (p.size : Int))).setCell ⟨g, 2, none⟩ (.int .i64 (p.err : Int))) g p :=
  heap_setCell_self (heap_setCell_self (heap_setCell_self h _) _) _

theorem OwnP.mk' {w : World} {x y z : Int} (p : Pc) (hx : x = (p.point : Int)) (hy : y = (p.size : Int)) (hz : z = (p.err : Int)) :
    OwnP (w.alloc (.cells #[.int .i64 x, .int .i64 y, .int .i64 z] 73)) w.heap.size p := by
  subst hx; subst hy; subst hz; exact Own3.new _ w _ _ _

theorem ret_piece {fn : Func} (hr : fn.results = #[.cell 2 73]) {a : Act} {W : World} {g : Nat} {p : Pc} (O : OwnP W g p)
    (ht : a.tmps.getD 2 undef = .pointer (some ⟨g, 0, none⟩)) (hd : a.defers = []) {R : Ending → World → Prop} (hR : R (.returned (pcVal p)) W) : bodyPost Tryd.prog fn R .ret a W := by
  obtain ⟨c0, c1, c2, _, _, _⟩ := Own3.cells O
  have ht' : a.tmps[2]?.getD undef = .pointer (some ⟨g, 0, none⟩) := by simpa using ht
  refine bodyPost_ret (v := pcVal p) ?_ hd hR
  simp [results, hr, ht', go_sem, c0, c1, c2, pcVal]

end Go.Proofs.YtnbfikfngekfoaaDoor
