/-
  append of one element behind a copy of a row, in a region that draws its order (chapter 18, the reference).
-/
import Derived.Test.YtoniccokohjenaaRfG
namespace Go.Proofs.Ytoniccokohjenaa
open Go.RowKit

section
variable {P : Program} {E t ty : TypeId} {i : TypeInfo} {z : Value} {size bytes : Nat}
/-- a row is copied behind an empty one -/
theorem copy_run (ht : P.underlying t = some (.slice E)) (hi : P.info? E = some i) (hz : i.zero = some z) (hsize : i.size = size) (hby : i.bytes = bytes) (hzs : z.cells.size = size) (hsz : 0 < size)
    {W Y : World} {B g n : Nat} {v : Value} {xs : List Value} (hB : Below W.heap.size W Y) (hown : W.ownsRow B E size v n xs) (h1 : ∀ u ∈ xs, u.oneCell' = true) (h0 : Y.heap[g]? = some (.cells #[] E (0, 0))) (hg : W.heap.size ≤ g)
    (h63 : n ≤ maxLen) (hbytes : n * bytes ≤ 140737488355328) :
    ∃ v' Y', (Builtin.append_ #[t, t] ty #[.slice (some ⟨g, 0, none⟩) 0 0, v]).run P Y = .ok v' Y' ∧ Y'.ownsRow W.heap.size E size v' n xs ∧ Below W.heap.size W Y' ∧ (∀ q o, Y.heap[q]? = some o → q ≠ g → Y'.heap[q]? = some o) ∧ (∀ k, v'.ownBlock = some k → k = g ∨ k = Y.heap.size) := by
  have hemp : Y.ownsRow W.heap.size E size (.slice (some ⟨g, 0, none⟩) 0 0) 0 [] := ⟨by simp, .inr ⟨g, 0, #[], rfl, hg, h0, Nat.le_refl _, Nat.zero_le _, by simp, by simp⟩⟩
  rcases rowns_below hown hB with ⟨hlen, ⟨rfl, rfl⟩ | ⟨g2, cap, cur, rfl, r⟩⟩
  · have hx : xs = [] := List.eq_nil_of_length_eq_zero (by rw [hlen]; simp)
    subst hx
    exact ⟨_, Y, run_append_owned_none Y W.heap.size t ty E i size ht hi _ 0 [] hemp, hemp, hB, fun _ _ h _ => h, fun k hk => .inl (by simpa [Value.ownBlock] using hk.symm)⟩
  · have hown2 : Y.ownsRow B E size (.slice (some ⟨g2, 0, none⟩) n cap) n xs := ⟨hlen, .inr ⟨g2, cap, cur, rfl, r⟩⟩
    obtain ⟨v', Y', hr, h2, h3, _, h5⟩ := run_append_own_at (P := P) Y W.heap.size t ty E i z size bytes ht hi hz hsize hby hzs hsz _ 0 [] hemp ⟨g2, 0, none⟩ n cap xs hlen (fun j u hu => hown2.cells (g := g2) rfl j u hu) h1 (by omega) (by rw [Nat.zero_add]; exact hbytes) hB.size
    rw [Nat.zero_add, List.nil_append] at h2
    have hob : (Value.slice (some ⟨g, 0, none⟩) 0 0).ownBlock = some g := rfl
    rw [hob] at h3 h5
    refine ⟨v', Y', hr, h2, hB.grown h3 hB.size (fun k e => by injection e with e; omega), fun q o hq hne => ?_, fun k hk => ?_⟩
    · rw [h3.block q (Array.getElem?_eq_some_iff.1 hq).1 (fun e => by injection e with e; exact hne e)]; exact hq
    · rcases h5 with h5 | h5
      · rw [h5] at hk; injection hk with hk; exact .inl hk.symm
      · rw [h5] at hk; injection hk with hk; exact .inr hk.symm
/-- one element is laid behind a row of the region's own -/
theorem push_run (ht : P.underlying t = some (.slice E)) (hi : P.info? E = some i) (hz : i.zero = some z) (hsize : i.size = size) (hby : i.bytes = bytes) (hzs : z.cells.size = size) (hsz : 0 < size)
    {W Y : World} {g n : Nat} {v : Value} {xs ys : List Value} (hB : Below W.heap.size W Y) (hown : Y.ownsRow W.heap.size E size v n xs) (h5 : Y.heap[g]? = some (.cells ys.toArray E (0, 0))) (hl : ys.length = size) (h1 : ∀ u ∈ ys, u.oneCell' = true)
    (h63 : n + 1 ≤ maxLen) (hbytes : (n + 1) * bytes ≤ 140737488355328) :
    ∃ v' Y', (Builtin.append_ #[t, t] ty #[v, .slice (some ⟨g, 0, none⟩) 1 1]).run P Y = .ok v' Y' ∧ Y'.ownsRow W.heap.size E size v' (n + 1) (xs ++ ys) ∧ Below W.heap.size W Y' := by
  obtain ⟨v', Y', hr, h2, h3, _, _⟩ := run_append_own_at (P := P) Y W.heap.size t ty E i z size bytes ht hi hz hsize hby hzs hsz v n xs hown ⟨g, 0, none⟩ 1 1 ys (by rw [hl, Nat.one_mul]) (fun j u hu => by
    have hadd : (⟨g, 0, none⟩ : Addr).add j = ⟨g, 0 + j, none⟩ := by unfold Addr.add; split <;> simp_all
    rw [hadd, Nat.zero_add, Lib.cell_of_heap h5]; simpa using hu) h1 h63 hbytes hB.size
  exact ⟨v', Y', hr, h2, hB.grown h3 hB.size (fun k e => (rrow_kind hown k e.symm.symm).1)⟩
theorem wp_app {op : Oper} {a : Act} {Y Y' : World} {K : Act → World → Prop} {Q : Exit → Act → World → Prop} {v' v1 v2 : Value} (s x : Operand) (ho : op.op = .call { callee := .builtin .append, args := #[s, x], argTypes := #[t, t] }) (hs : a.eval s = v1) (hx : a.eval x = v2)
    (hr : (Builtin.append_ #[t, t] op.type #[v1, v2]).run P Y = .ok v' Y') (hK : K (a.put op.dst v') Y') : op.wp P a Y K Q := by
  unfold Oper.wp execOp
  simp only [ho, resolve, invoke, builtin, Sem.run_bind, Sem.run_pure, Result.andThen_ok, List.map_toArray, List.map_cons, List.map_nil, hs, hx, hr]
  exact hK
end
theorem z_one (zs : List (Rx × Value)) (h : ∀ z ∈ zs, ∃ A n c, z.2 = .slice A n c) : ∀ u ∈ zCells zs, u.oneCell' = true := fun u hu => by
  unfold zCells at hu
  obtain ⟨y, hy, hu⟩ := List.mem_flatMap.1 hu
  obtain ⟨A, n, c, e⟩ := h y hy
  rw [e] at hu
  exact rx_one y.1 A n c u hu
theorem ZV.slices {F : Nat → Prop} {w : World} {zs : List (Rx × Value)} (h : ZV F w zs) : ∀ z ∈ zs, ∃ A n c, z.2 = .slice A n c := fun y hy => by
  obtain ⟨A, c, e⟩ := (h y hy).slice
  exact ⟨A, _, c, e⟩
/-- the row behind the region -/
theorem RowZ.pushed {B : Nat} {W Y : World} {v v' : Value} {zs : List (Rx × Value)} {x : Rx} {A : Option Addr} {n c : Nat} (h : RowZ B W v zs) (hx : KX (fun q => B ≤ q) W x (.slice A n c)) (hBW : B ≤ W.heap.size) (hb : Below W.heap.size W Y)
    (ho : Y.ownsRow W.heap.size TRx 10 v' (zs.length + 1) (zCells zs ++ rxCells x (.slice A n c))) : RowZ B Y v' (zs ++ [(x, .slice A n c)]) := by
  have hown : ∀ q, v'.ownBlock = some q → W.heap.size ≤ q := fun q e => (rrow_kind ho q e).1
  have hk : ∀ q c z, B ≤ q → W.heap[q]? = some (.cells c TRx z) → Y.heap[q]? = some (.cells c TRx z) ∧ B ≤ q ∧ v'.ownBlock ≠ some q := fun q c z hq hh => by
    have hl := (Array.getElem?_eq_some_iff.1 hh).1
    exact ⟨(hb.block q hl).trans hh, hq, fun e => by have := hown q e; omega⟩
  refine ⟨?_, ZV.snoc (h.trees.kept fun q c z hq hh => hk q c z hq.1 hh) (hx.kept hk)⟩
  rw [List.length_append, List.length_singleton, ← zCells_snoc]
  refine ⟨ho.1, ?_⟩
  rcases ho.2 with h2 | ⟨g, cap, cur, hv, hg, r⟩
  · exact .inl h2
  · exact .inr ⟨g, cap, cur, hv, by omega, r⟩

end Go.Proofs.Ytoniccokohjenaa
