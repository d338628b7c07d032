/-
  Small laws that the walks of chapters 18 and 19 share.
-/
import Derived.Test.YtoniccokohjenaaDoorRegSq
namespace Go.Proofs.YtoniccokohjenaaDoor
open Go.RowKit

theorem heap_call {w w' : World} {q : Nat} {o : Obj} (h : w.heap[q]? = some o) (hb : Below w.heap.size w w') : w'.heap[q]? = some o := (hb.block q (Array.getElem?_eq_some_iff.1 h).1).trans h
theorem lheap_set {w : World} {r k : Nat} {l l' : List Value} {T : TypeId} {z : Nat × Nat} {v : Value} (h : w.heap[r]? = some (.cells l.toArray T z)) (e : l.set k v = l') : (w.setCell ⟨r, k, none⟩ v).heap[r]? = some (.cells l'.toArray T z) := by
  rw [rheap_set h, List.setIfInBounds_toArray, e]
theorem yields_xr {S : World → Prop} {ops : Array Oper} {op : Oper} {a : Act} {q o : Nat} {x : Rx} {A : Option Addr} {n c : Nat} (hS : ∀ W, S W → W.rangeAt q o (rxCells x (.slice A n c))) (hw : Region.wanted op (yielded ops a.tmps) = true) (y : Operand) (ho : op.op = .load TRx y) (hx : a.eval y = .pointer (some ⟨q, o, none⟩)) : YieldsIf Tryd.prog ops S op (rxAgg x (.slice A n c)) a := by
  obtain ⟨d, hd, hrow⟩ := underRx
  exact yieldsIf_load_mid hw TRx y ho q o hx (rxCells x (.slice A n c)) d hS hd hrow (by rw [sizeRx, rx_len])
theorem wp_app {P : Program} {t : TypeId} {op : Oper} {a : Act} {Y Y' : World} {K : Act → World → Prop} {Q : Exit → Act → World → Prop} {v' v1 v2 : Value} (s x : Operand) (ho : op.op = .call { callee := .builtin .append, args := #[s, x], argTypes := #[t, t] }) (hs : a.eval s = v1) (hx : a.eval x = v2)
    (hr : (Builtin.append_ #[t, t] op.type #[v1, v2]).run P Y = .ok v' Y') (hK : K (a.put op.dst v') Y') : op.wp P a Y K Q := by
  unfold Oper.wp execOp
  simp only [ho, resolve, invoke, builtin, Sem.run_bind, Sem.run_pure, Result.andThen_ok, List.map_toArray, List.map_cons, List.map_nil, hs, hx, hr]
  exact hK

end Go.Proofs.YtoniccokohjenaaDoor
