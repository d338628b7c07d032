/-
  The walk of the reference's set (chapter 18).
-/
import Derived.Test.YtoniccokohjenaaRfH
namespace Go.Proofs.Ytoniccokohjenaa
open Go.RowKit

theorem cells_ne {w : World} {g h : Nat} {ys : List Value} {T : TypeId} {z z' : Nat × Nat} {c : Array Value} (h5 : w.heap[h]? = some (.cells ys.toArray T z)) (h0 : w.heap[g]? = some (.cells #[] T z')) (hc : ys.toArray = c) (hy : c.size ≠ 0 := by simp) : h ≠ g := fun e => by
  subst e
  rw [h5] at h0
  injection h0 with h0
  injection h0 with h0
  rw [← hc, h0] at hy
  exact hy rfl
/-- a leaf that is told lies anywhere -/
theorem one_kind {l : List Int} {s s' : PS} {x : Rx} {b : Bool} (h : oneR l s = .ok (x, b) s') : (x.kind = 1 ↔ b = true) ∧ x.kids = [] := by
  unfold oneR at h
  simp only at h
  split at h
  · exact absurd h (fun h => failR_ok h)
  · split at h
    · split at h
      · injection h with h1 h2; injection h1 with h3 h4; subst h3 h4; exact ⟨⟨fun e => Nat.noConfusion (Nat.succ.inj e), fun e => Bool.noConfusion e⟩, rfl⟩
      · obtain ⟨u, s1, _, h2⟩ := bind_ok h
        injection h2 with h1 h2; injection h1 with h3 h4; subst h3 h4; exact ⟨⟨fun _ => rfl, fun _ => rfl⟩, rfl⟩
    · injection h with h1 h2; injection h1 with h3 h4; subst h3 h4; exact ⟨⟨fun _ => rfl, fun _ => rfl⟩, rfl⟩

/-- a row of trees, right or not -/
structure RowC (B : Nat) (w : World) (v : Value) (zs : List (Rx × Value)) : Prop where
  own : w.ownsRow B TRx 10 v zs.length (zCells zs)
  form : ∀ z ∈ zs, ∃ A n c, z.2 = .slice A n c
theorem RowC.slice {B : Nat} {w : World} {v : Value} {zs : List (Rx × Value)} (h : RowC B w v zs) : ∃ A cap, v = .slice A zs.length cap := rowns_slice h.own
theorem RowC.below {B : Nat} {w w' : World} {v : Value} {zs : List (Rx × Value)} (h : RowC B w v zs) (hb : Below w.heap.size w w') : RowC B w' v zs := ⟨rowns_below h.own hb, h.form⟩
theorem RowC.off {B : Nat} {w w' : World} {v : Value} {zs : List (Rx × Value)} (h : RowC B w v zs) (ho : OffP w w') : RowC B w' v zs := ⟨rowns_block h.own fun k c z _ hh => ho k c _ z (by decide) hh, h.form⟩
theorem RowC.nil (B : Nat) (w : World) : RowC B w (.slice none 0 0) [] := ⟨⟨rfl, .inl ⟨rfl, rfl⟩⟩, fun z hz => by cases hz⟩
theorem RowC.pushed {B : Nat} {W Y : World} {v v' : Value} {zs : List (Rx × Value)} {x : Rx} {A : Option Addr} {n c : Nat} (h : RowC B W v zs) (hBW : B ≤ W.heap.size)
    (ho : Y.ownsRow W.heap.size TRx 10 v' (zs.length + 1) (zCells zs ++ rxCells x (.slice A n c))) : RowC B Y v' (zs ++ [(x, .slice A n c)]) := by
  refine ⟨?_, fun z hz => ?_⟩
  · rw [List.length_append, List.length_singleton, ← zCells_snoc]
    refine ⟨ho.1, ?_⟩
    rcases ho.2 with h2 | ⟨g, cap, cur, hv, hg, r⟩
    · exact .inl h2
    · exact .inr ⟨g, cap, cur, hv, by omega, r⟩
  · rcases List.mem_append.1 hz with hz | hz
    · exact h.form z hz
    · obtain rfl := List.mem_singleton.1 hz; exact ⟨A, n, c, rfl⟩
/-- trees that lie, whatever the row's block -/
def TrZ (B : Nat) (w : World) (zs : List (Rx × Value)) : Prop := ZV (fun q => B ≤ q) w zs
theorem TrZ.below {B : Nat} {w w' : World} {zs : List (Rx × Value)} (h : TrZ B w zs) (hb : Below w.heap.size w w') : TrZ B w' zs := h.kept fun _ _ _ hq hh => ⟨heap_call hh hb, hq⟩
theorem TrZ.off {B : Nat} {w w' : World} {zs : List (Rx × Value)} (h : TrZ B w zs) (ho : OffP w w') : TrZ B w' zs := h.kept fun q c z hq hh => ⟨ho q c _ z (by decide) hh, hq⟩
theorem TrZ.kids {B : Nat} {w : World} {v : Value} {zs : List (Rx × Value)} (h : RowC B w v zs) (ht : TrZ B w zs) {t : Rx} (e : t.kids = zs.map Prod.fst) : KX (fun q => B ≤ q) w t v := by
  unfold KX
  rw [e]
  exact ZV.kids h.own ht (fun _ hq => hq) (fun q e => (rrow_kind h.own q e).1)

end Go.Proofs.Ytoniccokohjenaa
