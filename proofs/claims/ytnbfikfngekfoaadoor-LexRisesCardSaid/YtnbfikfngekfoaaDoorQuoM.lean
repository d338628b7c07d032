/-
  Bytes that are read where they lie: a slice of bytes, its parts, the string of it.
-/
import Derived.Test.YtnbfikfngekfoaaDoorUtfI
import Derived.Test.YtnbfikfngekfoaaDoorQuoS
namespace Go.Proofs.YtnbfikfngekfoaaDoor
open Go.RowKit

/-- the slice of n bytes at A reads as l in w -/
def RdB (w : World) (A : Option Addr) (n : Nat) (l : List UInt8) : Prop :=
  l.length = n ∧ (0 < n → ∃ b off, A = some ⟨b, off, none⟩ ∧ b < w.heap.size ∧ ∀ i, i < n → w.cell? ⟨b, off + i, none⟩ = some (.int .u8 (bt l i : Nat)))

theorem RdB.below {w w' : World} {A : Option Addr} {n : Nat} {l : List UInt8} (h : RdB w A n l) (hb : Below w.heap.size w w') : RdB w' A n l := by
  refine ⟨h.1, fun hn => ?_⟩
  obtain ⟨b, off, e, hlt, hc⟩ := h.2 hn
  exact ⟨b, off, e, Nat.lt_of_lt_of_le hlt hb.size, fun i hi => (hb.cell (p := ⟨b, off + i, none⟩) hlt).trans (hc i hi)⟩

/-- a part from a place on -/
def cutA (A : Option Addr) (lo cap : Nat) : Option Addr := if cap = lo then A else A.map (·.add lo)

theorem add_flat (b off k : Nat) : (⟨b, off, none⟩ : Addr).add k = ⟨b, off + k, none⟩ := by unfold Addr.add; split <;> simp_all

theorem RdB.cut {w : World} {A : Option Addr} {n cap : Nat} {l : List UInt8} (h : RdB w A n l) {i : Nat} (hi : i ≤ n) (hc : n ≤ cap) : RdB w (cutA A i cap) (n - i) (l.drop i) := by
  refine ⟨by rw [List.length_drop, h.1], fun h0 => ?_⟩
  obtain ⟨b, off, e, hlt, hcell⟩ := h.2 (by omega)
  refine ⟨b, off + i, ?_, hlt, fun j hj => ?_⟩
  · unfold cutA
    rw [if_neg (by omega), e, Option.map_some, add_flat]
  · rw [Nat.add_assoc, hcell (i + j) (by omega), bt_drop]

theorem RdB.take {w : World} {A : Option Addr} {n : Nat} {l : List UInt8} (h : RdB w A n l) {m : Nat} (hm : m ≤ n) : RdB w A m (l.take m) := by
  refine ⟨by rw [List.length_take, h.1]; omega, fun h0 => ?_⟩
  obtain ⟨b, off, e, hlt, hc⟩ := h.2 (by omega)
  refine ⟨b, off, e, hlt, fun j hj => ?_⟩
  rw [hc j (by omega)]
  unfold bt
  rw [List.getElem?_take, if_pos hj]

theorem RdB.conv {P : Program} {w : World} {A : Option Addr} {n cap : Nat} {l : List UInt8} (h : RdB w A n l) {src e dst : TypeId} (hs : P.underlying src = some (.slice e)) (he : P.underlying e = some (.int .u8)) (hd : P.underlying dst = some .string) (h0 : 0 < n) :
    (convert src dst (.slice A n cap)).run P w = .ok (.string ⟨l.toArray⟩) w := by
  obtain ⟨b, off, rfl, _, hc⟩ := h.2 h0
  have := run_convert_bytes_back w src dst e ⟨b, off, none⟩ cap l hs he hd (fun j hj => by
    rw [add_flat, hc j (by rw [← h.1]; exact hj)]
    unfold bt
    rw [List.getElem?_eq_getElem hj]; rfl)
  rwa [h.1] at this

/-- a piece as a value -/
def pcVal (p : Pc) : Value := .agg #[.int .i64 (p.point : Int), .int .i64 (p.size : Int), .int .i64 (p.err : Int)]

theorem RdB.cut' {w : World} {b off n : Nat} {l : List UInt8} (h : RdB w (some ⟨b, off, none⟩) n l) {i : Nat} (hi : i ≤ n) : RdB w (some ⟨b, off + i, none⟩) (n - i) (l.drop i) := by
  refine ⟨by rw [List.length_drop, h.1], fun h0 => ?_⟩
  obtain ⟨b', off', e, hlt, hcell⟩ := h.2 (by omega)
  obtain ⟨rfl, rfl⟩ : b = b' ∧ off = off' := by simpa using e
  refine ⟨b, off + i, rfl, hlt, fun j hj => ?_⟩
  rw [Nat.add_assoc, hcell (i + j) (by omega), bt_drop]

theorem below_new {w w2 : World} {o : Obj} (h : Below (w.alloc o).heap.size (w.alloc o) w2) : Below w.heap.size w w2 := ((Below.refl _ w).alloc (Nat.le_refl _) o).trans (h.mono (by simp))
theorem below_put3 {B : Nat} {w w2 : World} (h : Below B w w2) {g : Nat} (hg : B ≤ g) (x y z : Value) : Below B w (((w2.setCell ⟨g, 0, none⟩ x).setCell ⟨g, 1, none⟩ y).setCell ⟨g, 2, none⟩ z) :=
  ((h.setCell (p := ⟨g, 0, none⟩) hg x).setCell (p := ⟨g, 1, none⟩) hg y).setCell (p := ⟨g, 2, none⟩) hg z

/-- three cells of a block of the call's own -/
def Own3 (T : TypeId) (w : World) (g : Nat) (x y z : Value) : Prop := w.heap[g]? = some (.cells #[x, y, z] T (0, 0))
theorem Own3.new (T : TypeId) (w : World) (x y z : Value) : Own3 T (w.alloc (.cells #[x, y, z] T)) w.heap.size x y z := by
  show (w.heap.push _)[w.heap.size]? = _
  simp
theorem Own3.lt {T : TypeId} {w : World} {g : Nat} {x y z : Value} (h : Own3 T w g x y z) : g < w.heap.size := (Array.getElem?_eq_some_iff.1 h).1
theorem Own3.below {T : TypeId} {w w' : World} {g : Nat} {x y z : Value} (h : Own3 T w g x y z) (hb : Below w.heap.size w w') : Own3 T w' g x y z := (hb.block g h.lt).trans h
theorem Own3.cells {T : TypeId} {w : World} {g : Nat} {x y z : Value} (h : Own3 T w g x y z) :
    w.cell? ⟨g, 0, none⟩ = some x ∧ w.cell? ⟨g, 1, none⟩ = some y ∧ w.cell? ⟨g, 2, none⟩ = some z ∧ w.frozen? ⟨g, 0, none⟩ = false ∧ w.frozen? ⟨g, 1, none⟩ = false ∧ w.frozen? ⟨g, 2, none⟩ = false :=
  ⟨by rw [Lib.cell_of_heap h]; rfl, by rw [Lib.cell_of_heap h]; rfl, by rw [Lib.cell_of_heap h]; rfl, Lib.frozen_of_heap h 0, Lib.frozen_of_heap h 1, Lib.frozen_of_heap h 2⟩

end Go.Proofs.YtnbfikfngekfoaaDoor
