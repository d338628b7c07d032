/-
  The laws of chapter 18: the examples at their head.
-/
import Derived.Test.YtoniccokohjenaaDoorRegPa
namespace Go.Proofs.YtoniccokohjenaaDoor
open Go.RowKit

theorem KX.below {F : Nat → Prop} {w w' : World} {t : Rx} {kv : Value} (h : KX F w t kv) (hb : Below w.heap.size w w') : KX F w' t kv :=
  h.kept fun q _ _ hq hh => ⟨by rw [hb.block q (Array.getElem?_eq_some_iff.1 hh).1]; exact hh, hq⟩
/-- the parts of a part where they lie -/
theorem KX.view {F : Nat → Prop} {w : World} {t : Rx} {kv : Value} (h : KX F w t kv) (hne : t.kids ≠ []) :
    ∃ q o cap, kv = .slice (some ⟨q, o, none⟩) t.kids.length cap ∧ F q ∧ q < w.heap.size ∧ ∀ i k, t.kids[i]? = some k → ∃ A n c, w.rangeAt q (o + i * 10) (rxCells k (.slice A n c)) ∧ n = k.kids.length ∧ KX F w k (.slice A n c) := by
  obtain ⟨n, h⟩ := h
  cases n with
  | zero => exact absurd h.1 hne
  | succ n =>
    obtain ⟨A, cap, e, _, h2⟩ := h
    obtain ⟨q, o, c, z, rfl, hF, hh, hk⟩ := h2 hne
    refine ⟨q, o, cap, e, hF, (Array.getElem?_eq_some_iff.1 hh).1, fun i k hi => ?_⟩
    obtain ⟨kw, hc, hkv⟩ := hk i k hi
    have hkx : KX F w k kw := ⟨n, hkv⟩
    obtain ⟨A', c', rfl⟩ := hkx.slice
    exact ⟨A', _, c', fun j v hj => by rw [Lib.cell_of_heap hh, Nat.add_assoc]; exact hc j v hj, rfl, hkx⟩

theorem pv1 : parseV [97, 124, 98, 42] false = (rxAlt [rxRune 97, rxRepeat (rxRune 98) 0 (-1) false], [], 0, 0) := by kernel_rfl
theorem pv2 : parseV [40, 63, 60, 120, 62, 46, 41, 92, 100, 123, 50, 125] false = (rxSeq [rxGroup (rxKind 2) 1 [120], rxRepeat (rxClass 100 false) 2 2 false], [[120]], 0, 0) := by kernel_rfl
theorem pv3 : parseV [97, 42, 42] false = (rxNone, [], 2, 2) := by kernel_rfl
theorem pv4 : parseV [91, 98, 45, 97, 93] false = (rxNone, [], 3, 2) := by kernel_rfl

/-- what Parse answers, in parts -/
def PrsL (r : Rx × List (List UInt8) × Nat × Nat) (w : World) (e : Ending) (w' : World) : Prop :=
  ∃ A c NA nc, e = .returned (.tuple #[rxAgg r.1 (.slice A r.1.kids.length c), .slice NA r.2.1.length nc, .int .i64 (r.2.2.1 : Int), .int .i64 (r.2.2.2 : Int)]) ∧
    KX (fun q => w.heap.size ≤ q) w' r.1 (.slice A r.1.kids.length c) ∧ w'.ownsRow w.heap.size 9 1 (.slice NA r.2.1.length nc) r.2.1.length (strCells r.2.1) ∧ Below w.heap.size w w'
/-- Parse of a text in the program -/
theorem parse_lit {s : ByteArray} {free : Bool} {r : Rx × List (List UInt8) × Nat × Nat} (h : parseV s.data.toList free = r) (hs : s.size ≤ 17592186044416) (w : World) :
    Calls Tryd.prog 11 #[.string s, .bool free] w (PrsL r w) :=
  (rxParse_any s free w hs).mono (by
    subst h
    rintro e w' ⟨kv, nv, rfl, hk, hn, hb⟩
    obtain ⟨A, c, rfl⟩ := hk.slice
    obtain ⟨NA, nc, rfl⟩ := rowns_slice hn
    exact ⟨A, c, NA, nc, rfl, hk, hn, hb⟩)

/-- a part in a variable of its own -/
structure PV (w : World) (b : Nat) (X : Rx) (A : Option Addr) (c : Nat) : Prop where
  heap : w.heap[b]? = some (.cells (rxCells X (.slice A X.kids.length c)).toArray TRx (0, 0))
  kids : KX (fun _ => True) w X (.slice A X.kids.length c)
theorem PV.made {F : Nat → Prop} {w : World} {X : Rx} {A : Option Addr} {c : Nat} (h : KX F w X (.slice A X.kids.length c)) : PV (w.alloc (.cells (rxCells X (.slice A X.kids.length c)).toArray TRx)) w.heap.size X A c :=
  ⟨Go.heap_alloc_new w _, h.kept fun q _ _ _ hh => ⟨(Below.heap_alloc w _ q (Array.getElem?_eq_some_iff.1 hh).1).trans hh, trivial⟩⟩
theorem PV.below {w w' : World} {b : Nat} {X : Rx} {A : Option Addr} {c : Nat} (h : PV w b X A c) (hb : Below w.heap.size w w') : PV w' b X A c :=
  ⟨(hb.block b (Array.getElem?_eq_some_iff.1 h.heap).1).trans h.heap, h.kids.below hb⟩
theorem PV.cell {w : World} {b : Nat} {X : Rx} {A : Option Addr} {c : Nat} (h : PV w b X A c) {j : Nat} {v : Value} (hj : (rxCells X (.slice A X.kids.length c))[j]? = some v) : w.cell? ⟨b, j, none⟩ = some v := by
  rw [Lib.cell_of_heap h.heap]; simpa using hj
theorem PV.kid {w : World} {b : Nat} {X : Rx} {A : Option Addr} {c : Nat} (h : PV w b X A c) (hne : X.kids ≠ []) : ∃ q o, A = some ⟨q, o, none⟩ ∧ ∀ i k, X.kids[i]? = some k → ∃ A' c', w.rangeAt q (o + i * 10) (rxCells k (.slice A' k.kids.length c')) ∧ KX (fun _ => True) w k (.slice A' k.kids.length c') := by
  obtain ⟨q, o, cap, e, _, _, hv⟩ := h.kids.view hne
  injection e with e _ _
  refine ⟨q, o, e, fun i k hi => ?_⟩
  obtain ⟨A', n, c', h1, rfl, h2⟩ := hv i k hi
  exact ⟨A', c', h1, h2⟩

end Go.Proofs.YtoniccokohjenaaDoor
