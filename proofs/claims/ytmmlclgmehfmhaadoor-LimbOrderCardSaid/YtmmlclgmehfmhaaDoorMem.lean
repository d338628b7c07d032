/-
  Memory: slices of integers that are read, rows of integers of the call's own.
-/
import Derived.Test.YtmmlclgmehfmhaaDoorNum
import Derived.Below
import Derived.Laws.AppendOwn
import Derived.Laws.OwnMore
import Derived.Laws.MakeOwn
import Derived.Laws.NewBlocks
import Derived.Lib.Hide
import Derived.Deep.Draws
namespace Go.Proofs.YtmmlclgmehfmhaaDoor
open Go.RowKit

/-- numbers as cells -/
def nums (k : IntKind) (l : List Nat) : List Value := l.map fun (x : Nat) => Value.int k (x : Int)
theorem nums_len (k : IntKind) (l : List Nat) : (nums k l).length = l.length := List.length_map ..
theorem nums_snoc (k : IntKind) (l : List Nat) (x : Nat) : nums k l ++ [.int k (x : Int)] = nums k (l ++ [x]) := by simp [nums]
theorem nums_append (k : IntKind) (l m : List Nat) : nums k l ++ nums k m = nums k (l ++ m) := by simp [nums]

/-- a row of the call's own holds just these numbers -/
def OwnN (k : IntKind) (E : TypeId) (base : Nat) (w : World) (v : Value) (l : List Nat) : Prop := w.ownsRow base E 1 v l.length (nums k l)

/-- the slice of n numbers at A reads as l in w -/
def RdN (k : IntKind) (w : World) (A : Option Addr) (n : Nat) (l : List Nat) : Prop :=
  l.length = n ∧ (0 < n → ∃ b off, A = some ⟨b, off, none⟩ ∧ b < w.heap.size ∧ ∀ i, i < n → w.cell? ⟨b, off + i, none⟩ = some (.int k (l.getD i 0 : Nat)))

theorem RdN.below {k : IntKind} {w w' : World} {A : Option Addr} {n : Nat} {l : List Nat} (h : RdN k w A n l) (hb : Below w.heap.size w w') : RdN k w' A n l := by
  refine ⟨h.1, fun hn => ?_⟩
  obtain ⟨b, off, e, hlt, hc⟩ := h.2 hn
  exact ⟨b, off, e, Nat.lt_of_lt_of_le hlt hb.size, fun i hi => (hb.cell (p := ⟨b, off + i, none⟩) hlt).trans (hc i hi)⟩

theorem RdN.cut {k : IntKind} {w : World} {A : Option Addr} {n : Nat} {l : List Nat} (h : RdN k w A n l) {i m : Nat} (him : i < m) (hm : m ≤ n) :
    ∃ b off, A = some ⟨b, off, none⟩ ∧ RdN k w (some ⟨b, off + i, none⟩) (m - i) ((l.drop i).take (m - i)) := by
  obtain ⟨b, off, e, hlt, hc⟩ := h.2 (by omega)
  refine ⟨b, off, e, by rw [List.length_take, List.length_drop, h.1]; omega, fun _ => ⟨b, off + i, rfl, hlt, fun j hj => ?_⟩⟩
  have := hc (i + j) (by omega)
  rw [← Nat.add_assoc] at this
  rw [this]
  simp only [List.getD, List.getElem?_take, List.getElem?_drop, if_pos hj]

theorem RdN.take {k : IntKind} {w : World} {A : Option Addr} {n : Nat} {l : List Nat} (h : RdN k w A n l) {m : Nat} (hm : m ≤ n) : RdN k w A m (l.take m) := by
  refine ⟨by rw [List.length_take, h.1]; omega, fun h0 => ?_⟩
  obtain ⟨b, off, e, hlt, hc⟩ := h.2 (by omega)
  refine ⟨b, off, e, hlt, fun j hj => ?_⟩
  rw [hc j (by omega)]
  simp only [List.getD, List.getElem?_take, if_pos hj]

theorem OwnN.nil (k : IntKind) (E : TypeId) (base : Nat) (w : World) : OwnN k E base w (.slice none 0 0) [] := World.ownsRow_nil _ _ _ _

theorem OwnN.rd {k : IntKind} {E : TypeId} {base : Nat} {w : World} {v : Value} {l : List Nat} (h : OwnN k E base w v l) : ∃ A cap, v = .slice A l.length cap ∧ l.length ≤ cap ∧ RdN k w A l.length l ∧ (∀ a, A = some a → base ≤ a.block) := by
  unfold OwnN at h
  rcases h.2 with ⟨hv, h0⟩ | ⟨g, cap, cur, hv, hg, hh, hnc, _⟩
  · exact ⟨none, 0, by rw [hv, h0], by omega, ⟨rfl, fun hn => by omega⟩, fun a h => by cases h⟩
  · refine ⟨_, cap, hv, hnc, ⟨rfl, fun _ => ⟨g, 0, rfl, (Array.getElem?_eq_some_iff.1 hh).1, fun i hi => ?_⟩⟩, fun a h => by cases h; exact hg⟩
    have := h.cells (g := g) (by rw [hv]; rfl) i (.int k (l.getD i 0 : Nat)) (by simp [nums, List.getElem?_eq_getElem hi])
    have hadd : (⟨g, 0, none⟩ : Addr).add i = ⟨g, 0 + i, none⟩ := by unfold Addr.add; split <;> simp_all
    rw [hadd] at this
    exact this

theorem OwnN.below {k : IntKind} {E : TypeId} {base : Nat} {w w' : World} {v : Value} {l : List Nat} (h : OwnN k E base w v l) (hb : Below w.heap.size w w') : OwnN k E base w' v l := by
  refine ⟨h.1, ?_⟩
  rcases h.2 with h2 | ⟨g, cap, cur, hv, hg, hh, r⟩
  · exact .inl h2
  · exact .inr ⟨g, cap, cur, hv, hg, by rw [hb.block g (Array.getElem?_eq_some_iff.1 hh).1]; exact hh, r⟩

theorem OwnN.more {k : IntKind} {E : TypeId} {base base' : Nat} {w : World} {v : Value} {l : List Nat} (h : OwnN k E base w v l) (hb : base' ≤ base) : OwnN k E base' w v l := by
  refine ⟨h.1, ?_⟩
  rcases h.2 with h2 | ⟨g, cap, cur, hv, hg, hh, r⟩
  · exact .inl h2
  · exact .inr ⟨g, cap, cur, hv, Nat.le_trans hb hg, hh, r⟩

theorem OwnN.drew {k : IntKind} {E : TypeId} {base : Nat} {w : World} {v : Value} {l : List Nat} (h : OwnN k E base w v l) : OwnN k E base w.drew v l := h
theorem OwnN.drewN {k : IntKind} {E : TypeId} {base : Nat} {w : World} {v : Value} {l : List Nat} (h : OwnN k E base w v l) (n : Nat) : OwnN k E base (w.drewN n) v l := h

/-- its block is another one than that of whatever else -/
theorem OwnN.block {k : IntKind} {E : TypeId} {base : Nat} {w : World} {v : Value} {l : List Nat} (h : OwnN k E base w v l) (h0 : 0 < l.length) : ∃ g cap cur, v = .slice (some ⟨g, 0, none⟩) l.length cap ∧ base ≤ g ∧ w.heap[g]? = some (.cells cur E (0, 0)) ∧ l.length ≤ cap ∧ cur.size = cap ∧ cur.toList.take l.length = nums k l := by
  unfold OwnN at h
  rcases h.2 with ⟨_, h1⟩ | ⟨g, cap, cur, hv, hg, hh, hnc, hcm, hcs, ht⟩
  · omega
  · exact ⟨g, cap, cur, hv, hg, hh, hnc, by simpa using hcs, by simpa using ht⟩

/-- a row cut at its end -/
theorem OwnN.cut {k : IntKind} {E : TypeId} {base : Nat} {w : World} {A : Option Addr} {n cap m : Nat} {l : List Nat} (h : OwnN k E base w (.slice A n cap) l) (hm : m ≤ l.length) : OwnN k E base w (.slice A m cap) (l.take m) := by
  have hlen : (l.take m).length = m := by rw [List.length_take]; omega
  unfold OwnN at h ⊢
  rw [hlen]
  refine ⟨by rw [nums_len, hlen]; omega, ?_⟩
  rcases h.2 with ⟨hv, h1⟩ | ⟨g, cap', cur, hv, hg, hh, hnc, hcm, hcs, ht⟩
  · injection hv with e1 e2 e3
    subst e1; subst e3
    exact .inl ⟨by rw [show m = 0 by omega], by omega⟩
  · injection hv with e1 e2 e3
    subst e1; subst e3
    refine .inr ⟨g, cap, cur, rfl, hg, hh, by omega, hcm, hcs, ?_⟩
    have : cur.toList.take (m * 1) = (cur.toList.take (l.length * 1)).take m := by rw [List.take_take]; congr 1; omega
    rw [this, ht]
    simp [nums, List.map_take]

/-- one of its cells is written -/
theorem OwnN.set {k : IntKind} {E : TypeId} {base : Nat} {w : World} {g n cap i x : Nat} {l : List Nat} (h : OwnN k E base w (.slice (some ⟨g, 0, none⟩) n cap) l) (hi : i < l.length) :
    OwnN k E base (w.setCell ⟨g, i, none⟩ (.int k (x : Int))) (.slice (some ⟨g, 0, none⟩) n cap) (l.set i x) := by
  unfold OwnN at h ⊢
  rw [List.length_set]
  refine ⟨by rw [nums_len, List.length_set]; omega, ?_⟩
  rcases h.2 with ⟨hv, h1⟩ | ⟨g', cap', cur, hv, hg, hh, hnc, hcm, hcs, ht⟩
  · omega
  · injection hv with e1 e2 e3
    obtain rfl : g = g' := by simpa using e1
    subst e3
    refine .inr ⟨g, cap, cur.setIfInBounds i (.int k (x : Int)), by rw [e2], hg, ?_, hnc, hcm, by simpa using hcs, ?_⟩
    · simp [World.setCell, Array.getElem?_modify, hh]
    · rw [Array.toList_setIfInBounds, Nat.mul_one, List.take_set]
      rw [Nat.mul_one] at ht
      rw [ht]
      simp [nums, List.map_set]

end Go.Proofs.YtmmlclgmehfmhaaDoor
