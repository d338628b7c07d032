/-
  The walk of limb's carried, whatever function it is handed.
-/
import Derived.Test.YtmmlclgmehfmhaaDoorLimA
namespace Go.Proofs.YtmmlclgmehfmhaaDoor
open Go.RowKit

theorem make_u32 (n c : Nat) (hnc : n ≤ c) (hc : c ≤ 35184372088832) (u : World) : (Instr.makeSlice 22 (.int .i64 (n : Int)) (.int .i64 (c : Int))).run Tryd.prog u = .ok (.slice (some ⟨u.heap.size, 0, none⟩) n c) (u.alloc (.cells (madeCells #[.int .u32 0] c) 61)) := by
  obtain ⟨i0, hi, hz0, hz1, hz2⟩ := info_parts info_u32
  have h := run_make (P := Tryd.prog) u 22 61 i0 (.int .u32 0) Tryd.underlying22 hi hz0 .i64 .i64 (n : Int) (c : Int) (by omega) (by omega) (by rw [hz2]; omega) (by omega)
  simpa [hz1, Value.cells] using h

theorem madeSize (z : Value) (c : Nat) : (madeCells #[z] c).size = c := by simp [madeCells]

/-- a callee that leaves the world alone, met in a quiet region -/
theorem quiet_left {P : Program} {f : FuncId} {args : Array Value} {w : World} {n : Nat} {v : Value}
    (h : Calls P f args (w.drewN n) fun e w' => e = .returned v ∧ w.drewN n = w') : Calls P f args (w.drewN n) fun e w'' => e = .returned v ∧ ∃ m, w'' = w.drewN m :=
  h.mono fun _ _ ⟨he, hm⟩ => ⟨he, n, hm.symm⟩
theorem below_drew0 (w : World) (n : Nat) : Below w.heap.size w (w.drewN n) := ⟨rfl, rfl, rfl, Nat.le_refl _, fun _ _ => rfl⟩
theorem below_drewN {B : Nat} {a w : World} (h : Below B a w) (n : Nat) : Below B a (w.drewN n) := h.trans ⟨rfl, rfl, rfl, Nat.le_refl _, fun _ _ => rfl⟩
theorem cell_new (w : World) (v : Value) (E : TypeId) : (w.alloc (.cells #[v] E)).cell? ⟨w.heap.size, 0, none⟩ = some v := cell_one_new w v E 0 v rfl
theorem below_alloc0 (w : World) (o : Obj) : Below w.heap.size w (w.alloc o) := (Below.refl _ w).alloc (Nat.le_refl _) _
theorem IsNum.from_ {x : Nat} {w u w' : World} {e : Ending} (h : IsNum x u w' e) (hb : Below w.heap.size w u) : IsNum x w w' e := by
  obtain ⟨v, he, hown, hb'⟩ := h
  exact ⟨v, he, hown.more hb.size, hb.trans (hb'.mono hb.size)⟩
theorem RdN.drewN {k : IntKind} {w : World} {A : Option Addr} {n : Nat} {l : List Nat} (h : RdN k w A n l) (m : Nat) : RdN k (w.drewN m) A n l := h
theorem getD_lt {B : Nat} (hB : 0 < B) {l : List Nat} (h : ∀ x ∈ l, x < B) (i : Nat) : l.getD i 0 < B := by
  rw [List.getD]
  cases e : l[i]? with
  | none => exact hB
  | some x => exact h x (List.mem_of_getElem? e)

end Go.Proofs.YtmmlclgmehfmhaaDoor
