/-
  Within a text (chapter 14): what the reader keeps while a text is read.
-/
import Derived.Test.YtnbfikfngekfoaaDoorLexF
import Derived.Test.YtnbfikfngekfoaaDoorBld
import Derived.Test.YtnbfikfngekfoaaDoorShelf
namespace Go.Proofs.YtnbfikfngekfoaaDoor
open Go.RowKit

section
variable {w0 w w' : World} {g : Nat} {S : ByteArray} {s : LS}
/-- the reader stands where all blocks of its types stand -/
theorem LxV.kept (h : LxV w0 g S s w) (hb : Below w0.heap.size w w')
    (hk : ∀ (k : Nat) (c : Array Value) (T : TypeId) (z : Nat × Nat), (T = 36 ∨ T = 30 ∨ T = 3) → w.heap[k]? = some (.cells c T z) → w'.heap[k]? = some (.cells c T z)) : LxV w0 g S s w' := by
  obtain ⟨h1, h2, tv, xv, hh, ht, hx⟩ := h
  refine ⟨h1.trans hb, h2, tv, xv, hk _ _ _ _ (.inl rfl) hh, ⟨ht.1, ?_⟩, ⟨hx.1, ?_⟩⟩
  · rcases ht.2 with h3 | ⟨q, cap, cur, hv, hg, hh2, r⟩
    · exact .inl h3
    · exact .inr ⟨q, cap, cur, hv, hg, hk _ _ _ _ (.inr (.inl rfl)) hh2, r⟩
  · rcases hx.2 with h3 | ⟨q, cap, cur, hv, hg, hh2, r⟩
    · exact .inl h3
    · exact .inr ⟨q, cap, cur, hv, hg, hk _ _ _ _ (.inr (.inr rfl)) hh2, r⟩

/-- within a text: the reader; the pointer to it, where the text began, the builder -/
def TxV (w0 : World) (g br bf bb : Nat) (S : ByteArray) (s : LS) (fr : Nat) (o : List UInt8) (w : World) : Prop :=
  LxV w0 g S s w ∧ w0.heap.size ≤ br ∧ w.heap[br]? = some (.cells #[.pointer (some ⟨g, 0, none⟩)] 34 (0, 0)) ∧ w.heap[bf]? = some (.cells #[.int .i64 (fr : Int)] 3 (0, 0)) ∧
    Lib.IsBuilderF 54 5 w0.heap.size bb (Lib.byteCells o) w

variable {br bf bb fr : Nat} {o : List UInt8}
theorem TxV.reader (h : TxV w0 g br bf bb S s fr o w) : LxV w0 g S s w := h.1
theorem TxV.bld (h : TxV w0 g br bf bb S s fr o w) : Lib.IsBuilderF 54 5 w0.heap.size bb (Lib.byteCells o) w := h.2.2.2.2
theorem lbld_block {T e : TypeId} {B b : Nat} {bs : List Value} (h : Lib.IsBuilderF T e B b bs w) : ∃ c z, w.heap[b]? = some (.cells c T z) := by
  rcases h with ⟨_, v, hb, _⟩ | ⟨_, v, hb, _⟩ <;> exact ⟨_, _, hb⟩
theorem TxV.drewN (h : TxV w0 g br bf bb S s fr o w) (k : Nat) : TxV w0 g br bf bb S s fr o (w.drewN k) := ⟨h.1.drewN k, h.2.1, h.2.2.1, h.2.2.2.1, h.2.2.2.2⟩
theorem TxV.below (h : TxV w0 g br bf bb S s fr o w) (hb : Below w.heap.size w w') : TxV w0 g br bf bb S s fr o w' :=
  ⟨h.1.below hb, h.2.1, (hb.block br (Array.getElem?_eq_some_iff.1 h.2.2.1).1).trans h.2.2.1, (hb.block bf (Array.getElem?_eq_some_iff.1 h.2.2.2.1).1).trans h.2.2.2.1, bld_below h.2.2.2.2 hb⟩
/-- behind a call of the builder's -/
theorem TxV.written (h : TxV w0 g br bf bb S s fr o w) {o' : List UInt8} (hb : Below w0.heap.size w w') (hk : Lib.OthersKept 5 (some bb) w w') (hB : Lib.IsBuilderF 54 5 w0.heap.size bb (Lib.byteCells o') w') : TxV w0 g br bf bb S s fr o' w' := by
  obtain ⟨c0, z0, hbb⟩ := lbld_block h.bld
  have hne : ∀ (k : Nat) (c : Array Value) (T : TypeId) (z : Nat × Nat), T ≠ 54 → T ≠ 5 → w.heap[k]? = some (.cells c T z) → w'.heap[k]? = some (.cells c T z) := fun k c T z h1 h2 h3 =>
    others_keep hk h2 (fun e => by subst e; rw [hbb] at h3; injection h3 with h3; injection h3 with _ h3 _; exact h1 h3.symm) h3
  exact ⟨h.1.kept hb (fun k c T z hT => hne k c T z (by rcases hT with rfl | rfl | rfl <;> decide) (by rcases hT with rfl | rfl | rfl <;> decide)), h.2.1, hne _ _ _ _ (by decide) (by decide) h.2.2.1, hne _ _ _ _ (by decide) (by decide) h.2.2.2.1, hB⟩
/-- the place is set -/
theorem TxV.put_pos (h : TxV w0 g br bf bb S s fr o w) (p : Nat) : TxV w0 g br bf bb S { s with pos := p } fr o (w.setCell ⟨g, 1, none⟩ (.int .i64 (p : Int))) := by
  have hne : ∀ (k : Nat) (c : Array Value) (T : TypeId) (z : Nat × Nat), T ≠ 36 → w.heap[k]? = some (.cells c T z) → (w.setCell ⟨g, 1, none⟩ (.int .i64 (p : Int))).heap[k]? = some (.cells c T z) := fun k c T z hT hk => by
    obtain ⟨_, _, tv, xv, hh, _⟩ := h.1
    rw [lheap_far (fun e => ?_)]
    · exact hk
    · have e : g = k := e
      subst e; rw [hh] at hk; injection hk with hk; injection hk with _ hk _; exact hT hk.symm
  exact ⟨h.1.put_pos p, h.2.1, hne _ _ _ _ (by decide) h.2.2.1, hne _ _ _ _ (by decide) h.2.2.2.1, bld_kept h.2.2.2.2 (fun k c T z hT => hne k c T z (by rcases hT with rfl | rfl <;> decide))⟩
theorem TxV.cr (h : TxV w0 g br bf bb S s fr o w) : w.cell? ⟨br, 0, none⟩ = some (.pointer (some ⟨g, 0, none⟩)) := by rw [Lib.cell_of_heap h.2.2.1]; rfl
theorem TxV.cf (h : TxV w0 g br bf bb S s fr o w) : w.cell? ⟨bf, 0, none⟩ = some (.int .i64 (fr : Int)) := by rw [Lib.cell_of_heap h.2.2.2.1]; rfl
end

theorem LxV.grows0 {w0 w : World} {g : Nat} {S : ByteArray} {s : LS} (h : LxV w0 g S s w) {tv : Value} (htv : w.cell? ⟨g, 2, none⟩ = some tv) {o : Obj} {w5 : World} (hg : (w.alloc o).grownBy w5 tv.ownBlock) :
    w5.cell? ⟨g, 2, none⟩ = some tv ∧ w5.frozen? ⟨g, 2, none⟩ = false ∧ ∀ (v5 : Value) (k : Tk), w5.ownsRow w0.heap.size 30 3 v5 (s.toks.length + 1) (tkCells s.toks ++ [Value.int .i64 (k.kind : Int), .string ⟨k.text.toArray⟩, .int .i64 (k.pos : Int)]) →
      LxV w0 g S { s with toks := s.toks ++ [k] } (w5.setCell ⟨g, 2, none⟩ v5) := by
  obtain ⟨hb, h2, tv', xv, hh, ho, hx⟩ := h
  have e : tv' = tv := by rw [Lib.cell_of_heap hh] at htv; exact Option.some.inj htv
  subst e
  have hlt : g < w.heap.size := (Array.getElem?_eq_some_iff.1 hh).1
  have hblk : ∀ k, tv'.ownBlock = some k → w0.heap.size ≤ k ∧ k < w.heap.size ∧ ∃ c z, w.heap[k]? = some (.cells c 30 z) := fun k hk => by
    rcases ho.2 with ⟨hv, _⟩ | ⟨q, cap', cur, hv, hg2, hh2, _⟩
    · rw [hv] at hk; cases hk
    · rw [hv] at hk
      have e : q = k := by simpa [Value.ownBlock] using hk
      subst e
      exact ⟨hg2, (Array.getElem?_eq_some_iff.1 hh2).1, _, _, hh2⟩
  have hal : (w.alloc o).heap[g]? = some (.cells #[.string S, .int .i64 (s.pos : Int), tv', xv, .int .i64 (s.err : Int)] 36 (0, 0)) := (Below.heap_alloc w o g hlt).trans hh
  have h5 : w5.heap[g]? = some (.cells #[.string S, .int .i64 (s.pos : Int), tv', xv, .int .i64 (s.err : Int)] 36 (0, 0)) := by
    rw [hg.block g (Array.getElem?_eq_some_iff.1 hal).1 (fun e => ?_)]
    · exact hal
    · obtain ⟨_, _, c, z, h3⟩ := hblk g e.symm
      rw [hh] at h3; injection h3 with h3; injection h3 with _ h3 _; exact absurd h3 (by decide)
  have hb5 : Below w0.heap.size w0 w5 := (hb.alloc hb.size o).grown hg (by rw [World.size_alloc]; have := hb.size; exact Nat.le_succ_of_le this) (fun k hk => (hblk k hk).1)
  have hx5 : w5.ownsRow w0.heap.size 3 1 xv s.texts.length (txCells s.texts) := by
    refine lowns_grown (lowns_below hx ((Below.refl _ w).alloc (Nat.le_refl _) o)) hg (fun k hk => .inr ?_)
    obtain ⟨_, hlt2, c, z, h3⟩ := hblk k hk
    exact ⟨c, _, z, (Below.heap_alloc w o k hlt2).trans h3, by decide⟩
  refine ⟨by rw [Lib.cell_of_heap h5]; rfl, Lib.frozen_of_heap h5 2, fun v5 k ho5 => ?_⟩
  rw [tkCells_snoc] at ho5
  refine ⟨hb5.setCell (p := ⟨g, 2, none⟩) h2 _, h2, v5, xv, lheap_set h5 v5, ?_, lowns_far hx5 h5 (by decide) _⟩
  show World.ownsRow _ _ _ _ _ (s.toks ++ [k]).length _
  rw [List.length_append]
  exact lowns_far ho5 h5 (by decide) _
theorem LxV.row_of {w0 w : World} {g : Nat} {S : ByteArray} {s : LS} (h : LxV w0 g S s w) {tv : Value} (htv : w.cell? ⟨g, 2, none⟩ = some tv) : w.ownsRow w0.heap.size 30 3 tv s.toks.length (tkCells s.toks) := by
  obtain ⟨hb, h2, tv', xv, hh, ho, hx⟩ := h
  have e : tv' = tv := by rw [Lib.cell_of_heap hh] at htv; exact Option.some.inj htv
  subst e
  exact ho
theorem LxV.grown_far {w0 w : World} {g : Nat} {S : ByteArray} {s : LS} (h : LxV w0 g S s w) {tv : Value} (htv : w.cell? ⟨g, 2, none⟩ = some tv) {ob : Obj} {w5 : World} (hg : (w.alloc ob).grownBy w5 tv.ownBlock) {k : Nat} {c : Array Value} {T : TypeId} {z : Nat × Nat} (hT : T ≠ 30) (hk : w.heap[k]? = some (.cells c T z)) : w5.heap[k]? = some (.cells c T z) := by
  have hlt := (Array.getElem?_eq_some_iff.1 hk).1
  have hal : (w.alloc ob).heap[k]? = some (.cells c T z) := (Below.heap_alloc w ob k hlt).trans hk
  rw [hg.block k (Array.getElem?_eq_some_iff.1 hal).1 (fun e => ?_)]
  · exact hal
  · obtain ⟨c', z', h3⟩ := lrow_kind (h.row_of htv) k e.symm
    rw [h3] at hk; injection hk with hk; injection hk with _ hk _; exact hT hk.symm
theorem lcell_far {w : World} {p a : Addr} {v x : Value} (h : p.block ≠ a.block) (hc : w.cell? a = some v) : (w.setCell p x).cell? a = some v := by
  unfold World.cell? at *
  rw [lheap_far h]; exact hc
theorem news3' (W : World) (a b c : Value) (T : TypeId) : ∀ (j : Nat) (u : Value), [a, b, c][j]? = some u → (W.alloc (.cells #[a, b, c] T)).cell? ((⟨W.heap.size, 0, none⟩ : Addr).add j) = some u := fun j u h => by
  have hadd : (⟨W.heap.size, 0, none⟩ : Addr).add j = ⟨W.heap.size, 0 + j, none⟩ := by unfold Addr.add; split <;> simp_all
  rw [hadd, Nat.zero_add]
  refine (World.cell?_alloc_at (w := W) _ _ _ _ rfl).trans ?_
  simpa using h

end Go.Proofs.YtnbfikfngekfoaaDoor
