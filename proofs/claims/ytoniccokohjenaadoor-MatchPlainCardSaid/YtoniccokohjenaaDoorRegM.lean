/-
  A pattern's tree where it lies, and the parser (chapter 18).
-/
import Derived.Test.YtoniccokohjenaaDoorRegP
import Derived.Test.YtoniccokohjenaaDoorUtfH
import Derived.Maps.Own
import Derived.Maps.OwnOps
import Derived.Maps.Views
import Derived.Laws.AppendOwn
import Derived.Laws.OwnMore
import Derived.Laws.NewBlocks
import Derived.Lib.Hide
import Derived.Lib.OthersKept
import Derived.WalkKit
import Derived.WalkSpells
import Derived.WalkLawsBesides
import Derived.Handy
import Derived.StillTailTactics
import Derived.Deep.QuietTactic
import Derived.BigQuiet
import Derived.Deep.RegionHeld3
import Derived.Deep.RegionLaw
import Derived.Deep.Draws
namespace Go.Proofs.YtoniccokohjenaaDoor
open Go.RowKit

/-- a post that the walk does not look into -/
def RetE (v : Value) (X : World → Prop) (e : Ending) (w' : World) : Prop := e = .returned v ∧ X w'
theorem RetE.of {P : Program} {f : FuncId} {args : Array Value} {w : World} {v : Value} {X : World → Prop} (h : Calls P f args w fun e w' => e = .returned v ∧ X w') : Calls P f args w (RetE v X) := h

/-! ### rows -/
theorem rheap_set {w : World} {r k : Nat} {c : Array Value} {T : TypeId} {z : Nat × Nat} (h : w.heap[r]? = some (.cells c T z)) (v : Value) : (w.setCell ⟨r, k, none⟩ v).heap[r]? = some (.cells (c.setIfInBounds k v) T z) := by
  simp [World.setCell, Array.getElem?_modify, h]
theorem rheap_far {w : World} {p : Addr} {r : Nat} {v : Value} (h : p.block ≠ r) : (w.setCell p v).heap[r]? = w.heap[r]? := by
  simp only [World.setCell, Array.getElem?_modify]
  rw [if_neg h]
theorem rowns_block {w w' : World} {B : Nat} {E : TypeId} {size : Nat} {v : Value} {m : Nat} {xs : List Value} (h : w.ownsRow B E size v m xs) (hk : ∀ (k : Nat) (c : Array Value) (z : Nat × Nat), v.ownBlock = some k → w.heap[k]? = some (.cells c E z) → w'.heap[k]? = some (.cells c E z)) : w'.ownsRow B E size v m xs := by
  refine ⟨h.1, ?_⟩
  rcases h.2 with h2 | ⟨g, cap, cur, hv, hg, hh, r2⟩
  · exact .inl h2
  · exact .inr ⟨g, cap, cur, hv, hg, hk g _ _ (by rw [hv]; rfl) hh, r2⟩
theorem rowns_far {w : World} {B : Nat} {E : TypeId} {size : Nat} {v : Value} {m : Nat} {xs : List Value} (h : w.ownsRow B E size v m xs) {r k : Nat} {c : Array Value} {T : TypeId} {z : Nat × Nat} (hr : w.heap[r]? = some (.cells c T z)) (hT : T ≠ E) (x : Value) :
    (w.setCell ⟨r, k, none⟩ x).ownsRow B E size v m xs := rowns_block h fun q c2 z2 _ hh => by
  rw [rheap_far (fun e => ?_)]
  · exact hh
  · have e : r = q := e
    subst e; rw [hr] at hh; injection hh with hh; injection hh with _ hh _; exact hT hh
theorem rowns_below {w w' : World} {B : Nat} {E : TypeId} {size : Nat} {v : Value} {m : Nat} {xs : List Value} (h : w.ownsRow B E size v m xs) (hb : Below w.heap.size w w') : w'.ownsRow B E size v m xs :=
  rowns_block h fun q c z _ hh => by rw [hb.block q (Array.getElem?_eq_some_iff.1 hh).1]; exact hh
theorem rrow_kind {w : World} {B : Nat} {E : TypeId} {size : Nat} {v : Value} {m : Nat} {xs : List Value} (h : w.ownsRow B E size v m xs) : ∀ g, v.ownBlock = some g → B ≤ g ∧ g < w.heap.size ∧ ∃ c fz, w.heap[g]? = some (.cells c E fz) := fun k hk => by
  rcases h.2 with ⟨hv, _⟩ | ⟨g, cap, cur, hv, hB, hh, _⟩
  · rw [hv] at hk; cases hk
  · rw [hv] at hk
    have e : g = k := by simpa [Value.ownBlock] using hk
    subst e
    exact ⟨hB, (Array.getElem?_eq_some_iff.1 hh).1, _, _, hh⟩
theorem rowns_slice {w : World} {B : Nat} {E : TypeId} {size : Nat} {v : Value} {m : Nat} {xs : List Value} (h : w.ownsRow B E size v m xs) : ∃ A cap, v = .slice A m cap := by
  rcases h.2 with ⟨hv, h0⟩ | ⟨g, cap, cur, hv, _⟩
  · exact ⟨none, 0, by rw [hv, h0]⟩
  · exact ⟨_, cap, hv⟩

/-! ### trees -/
abbrev TRx : TypeId := 45
/-- the cells of a part whose kids lie at kv -/
def rxCells (t : Rx) (kv : Value) : List Value := [.int .i64 (t.kind : Int), .int .i64 t.rune, .int .i64 t.to, kv, .int .i64 t.min, .int .i64 t.max, .bool t.lazy, .bool t.not, .int .i64 (t.group : Int), .string ⟨t.name.toArray⟩]
def rxAgg (t : Rx) (kv : Value) : Value := .agg #[.int .i64 (t.kind : Int), .int .i64 t.rune, .int .i64 t.to, kv, .int .i64 t.min, .int .i64 t.max, .bool t.lazy, .bool t.not, .int .i64 (t.group : Int), .string ⟨t.name.toArray⟩]
/-- parts that lie as kids at kv, within so many levels, in blocks of F -/
def KV (F : Nat → Prop) (w : World) : Nat → List Rx → Value → Prop
  | 0, ks, kv => ks = [] ∧ ∃ A cap, kv = .slice A 0 cap
  | n + 1, ks, kv => ∃ A cap, kv = .slice A ks.length cap ∧ (ks ≠ [] → ks.length ≤ cap ∧ cap ≤ maxLen) ∧ (ks ≠ [] → ∃ q o c z, A = some ⟨q, o, none⟩ ∧ F q ∧ w.heap[q]? = some (.cells c TRx z) ∧ ∀ i t, ks[i]? = some t → ∃ kw, (∀ j v, (rxCells t kw)[j]? = some v → c[o + (i * 10 + j)]? = some v) ∧ KV F w n t.kids kw)

section
variable {F G : Nat → Prop} {w w' : World}
theorem KV.mono : ∀ (n m : Nat) (ks : List Rx) (kv : Value), n ≤ m → KV F w n ks kv → KV F w m ks kv
  | 0, 0, _, _, _, h => h
  | 0, m + 1, ks, kv, _, ⟨h, A, cap, e⟩ => ⟨A, cap, by rw [h]; exact e, fun hn => absurd h hn, fun hn => absurd h hn⟩
  | n + 1, 0, _, _, h, _ => absurd h (by omega)
  | n + 1, m + 1, ks, kv, h, ⟨A, cap, e, hcp, h2⟩ => ⟨A, cap, e, hcp, fun hn => by
    obtain ⟨q, o, c, z, h3, h4, hh, h5⟩ := h2 hn
    refine ⟨q, o, c, z, h3, h4, hh, fun i t hi => ?_⟩
    obtain ⟨kw, h6, h7⟩ := h5 i t hi
    exact ⟨kw, h6, KV.mono n m t.kids kw (by omega) h7⟩⟩
theorem KV.kept (hF : ∀ q c z, F q → w.heap[q]? = some (.cells c TRx z) → w'.heap[q]? = some (.cells c TRx z) ∧ G q) : ∀ (n : Nat) (ks : List Rx) (kv : Value), KV F w n ks kv → KV G w' n ks kv
  | 0, _, _, h => h
  | n + 1, ks, kv, ⟨A, cap, e, hcp, h2⟩ => ⟨A, cap, e, hcp, fun hn => by
    obtain ⟨q, o, c, z, h3, h4, hh, h5⟩ := h2 hn
    have hq := hF q c z h4 hh
    refine ⟨q, o, c, z, h3, hq.2, hq.1, fun i t hi => ?_⟩
    obtain ⟨kw, h6, h7⟩ := h5 i t hi
    exact ⟨kw, h6, KV.kept hF n t.kids kw h7⟩⟩
/-- how a part's kids lie: within some levels -/
def KX (F : Nat → Prop) (w : World) (t : Rx) (kv : Value) : Prop := ∃ n, KV F w n t.kids kv
theorem KX.kept {t : Rx} {kv : Value} (hF : ∀ q c z, F q → w.heap[q]? = some (.cells c TRx z) → w'.heap[q]? = some (.cells c TRx z) ∧ G q) (h : KX F w t kv) : KX G w' t kv := by
  obtain ⟨n, h⟩ := h; exact ⟨n, KV.kept hF n _ _ h⟩
theorem KX.leaf {t : Rx} (h : t.kids = []) : KX F w t (.slice none 0 0) := ⟨0, h, none, 0, rfl⟩
theorem KX.slice {t : Rx} {kv : Value} (h : KX F w t kv) : ∃ A cap, kv = .slice A t.kids.length cap := by
  obtain ⟨n, h⟩ := h
  cases n with
  | zero => obtain ⟨h0, A, cap, e⟩ := h; exact ⟨A, cap, by rw [h0]; exact e⟩
  | succ n => obtain ⟨A, cap, e, _⟩ := h; exact ⟨A, cap, e⟩
/-- values that stand for trees, one for each -/
def ZV (F : Nat → Prop) (w : World) (zs : List (Rx × Value)) : Prop := ∀ z ∈ zs, KX F w z.1 z.2
def zCells (zs : List (Rx × Value)) : List Value := zs.flatMap fun z => rxCells z.1 z.2
theorem ZV.kept {zs : List (Rx × Value)} (hF : ∀ q c z, F q → w.heap[q]? = some (.cells c TRx z) → w'.heap[q]? = some (.cells c TRx z) ∧ G q) (h : ZV F w zs) : ZV G w' zs := fun z hz => (h z hz).kept hF
theorem ZV.snoc {zs : List (Rx × Value)} (h : ZV F w zs) {t : Rx} {v : Value} (k : KX F w t v) : ZV F w (zs ++ [(t, v)]) := fun z hz => by
  rcases List.mem_append.1 hz with hz | hz
  · exact h z hz
  · obtain rfl := List.mem_singleton.1 hz; exact k
theorem zCells_length (zs : List (Rx × Value)) : (zCells zs).length = zs.length * 10 := by
  unfold zCells
  induction zs with
  | nil => rfl
  | cons a r ih => rw [List.flatMap_cons, List.length_append, ih, List.length_cons]; simp [rxCells]; omega
theorem zCells_at : ∀ (zs : List (Rx × Value)) (i : Nat) (z : Rx × Value), zs[i]? = some z → ∀ j v, (rxCells z.1 z.2)[j]? = some v → (zCells zs)[i * 10 + j]? = some v
  | [], i, z, h, _, _, _ => by simp at h
  | a :: r, 0, z, h, j, v, hv => by
    obtain rfl : a = z := by simpa using h
    have hj := (List.getElem?_eq_some_iff.1 hv).1
    show (rxCells a.1 a.2 ++ zCells r)[0 * 10 + j]? = some v
    rw [Nat.zero_mul, Nat.zero_add, List.getElem?_append_left hj]; exact hv
  | a :: r, i + 1, z, h, j, v, hv => by
    have ih := zCells_at r i z (by simpa using h) j v hv
    show (rxCells a.1 a.2 ++ zCells r)[(i + 1) * 10 + j]? = some v
    have hl : (rxCells a.1 a.2).length = 10 := rfl
    rw [List.getElem?_append_right (by omega), ← ih]
    congr 1; omega
theorem zCells_snoc (zs : List (Rx × Value)) (t : Rx) (v : Value) : zCells zs ++ rxCells t v = zCells (zs ++ [(t, v)]) := by unfold zCells; simp [List.flatMap_append]
theorem ZV.depth : ∀ {zs : List (Rx × Value)}, ZV F w zs → ∃ n, ∀ z ∈ zs, KV F w n z.1.kids z.2
  | [], _ => ⟨0, fun z hz => by cases hz⟩
  | a :: r, h => by
    obtain ⟨n, hn⟩ := h a (List.mem_cons_self ..)
    obtain ⟨m, hm⟩ := ZV.depth (zs := r) (fun z hz => h z (List.mem_cons_of_mem _ hz))
    refine ⟨n + m, fun z hz => ?_⟩
    rcases List.mem_cons.1 hz with rfl | hz
    · exact KV.mono n _ _ _ (by omega) hn
    · exact KV.mono m _ _ _ (by omega) (hm z hz)
/-- a block of parts as kids -/
theorem ZV.kidsAt {zs : List (Rx × Value)} {g cap : Nat} {c : Array Value} {z : Nat × Nat} (hh : w.heap[g]? = some (.cells c TRx z)) (hc : ∀ (j : Nat) (v : Value), (zCells zs)[j]? = some v → c[j]? = some v) (hz : ZV F w zs) (hG : ∀ q, F q → G q) (hg : G g) (hcp : zs.length ≤ cap ∧ cap ≤ maxLen) :
    ∃ n, KV G w n (zs.map Prod.fst) (.slice (some ⟨g, 0, none⟩) zs.length cap) := by
  obtain ⟨n, hn⟩ := hz.depth
  refine ⟨n + 1, some ⟨g, 0, none⟩, cap, by rw [List.length_map], fun _ => by rw [List.length_map]; exact hcp, fun _ => ⟨g, 0, c, z, rfl, hg, hh, fun i t hi => ?_⟩⟩
  rw [List.getElem?_map] at hi
  cases hz2 : zs[i]? with
  | none => rw [hz2] at hi; cases hi
  | some y =>
    rw [hz2] at hi
    obtain rfl : y.1 = t := by simpa using hi
    exact ⟨y.2, fun j u hj => by rw [Nat.zero_add]; exact hc _ _ (zCells_at zs i y hz2 j u hj), KV.kept (w := w) (F := F) (fun q _ _ hq h => ⟨h, hG q hq⟩) n _ _ (hn y (List.mem_of_getElem? hz2))⟩
/-- a row of the call's own as kids -/
theorem ZV.kids {B : Nat} {v : Value} {zs : List (Rx × Value)} (h : w.ownsRow B TRx 10 v zs.length (zCells zs)) (hz : ZV F w zs) (hG : ∀ q, F q → G q) (hown : ∀ q, v.ownBlock = some q → G q) : ∃ n, KV G w n (zs.map Prod.fst) v := by
  rcases h.2 with ⟨hv, h0⟩ | ⟨g, cap, cur, hv, hg, hh, hrest⟩
  · have : zs = [] := List.length_eq_zero_iff.1 h0
    subst this
    exact ⟨0, rfl, none, 0, hv⟩
  · have := ZV.kidsAt (cap := cap) hh (fun j u hj => ?_) hz hG (hown g (by rw [hv]; rfl)) ⟨hrest.1, hrest.2.1⟩
    · rw [← hv] at this; exact this
    · have := h.cells (g := g) (by rw [hv]; rfl) j u hj
      have hadd : (⟨g, 0, none⟩ : Addr).add j = ⟨g, j, none⟩ := by unfold Addr.add; split <;> simp_all
      rw [hadd, Lib.cell_of_heap hh] at this
      exact this
end

/-! ### what a parser's method keeps -/
/-- the blocks of cells but the parser's and those of strings -/
def PK (g : Nat) (w w' : World) : Prop := w.heap.size ≤ w'.heap.size ∧ ∀ k c T z, w.heap[k]? = some (.cells c T z) → k ≠ g → T ≠ 9 → w'.heap[k]? = some (.cells c T z)
section
variable {g : Nat} {a w w' : World}
theorem PK.refl (g : Nat) (w : World) : PK g w w := ⟨Nat.le_refl _, fun _ _ _ _ h _ _ => h⟩
theorem PK.trans (h : PK g a w) (k : PK g w w') : PK g a w' := ⟨Nat.le_trans h.1 k.1, fun i c T z hi h1 h2 => k.2 i c T z (h.2 i c T z hi h1 h2) h1 h2⟩
theorem PK.below (h : PK g a w) (k : Below w.heap.size w w') : PK g a w' := h.trans ⟨k.size, fun i c T z hi _ _ => by rw [k.block i (Array.getElem?_eq_some_iff.1 hi).1]; exact hi⟩
theorem PK.drewN (h : PK g a w) (n : Nat) : PK g a (w.drewN n) := h
theorem PK.drew (h : PK g a w) : PK g a w.drew := h
theorem PK.alloc (h : PK g a w) (o : Obj) : PK g a (w.alloc o) := h.below ((Below.refl _ w).alloc (Nat.le_refl _) o)
theorem PK.setOwn (h : PK g a w) (k : Nat) (v : Value) : PK g a (w.setCell ⟨g, k, none⟩ v) := h.trans ⟨by simp [World.setCell], fun i c T z hi h1 _ => by rw [rheap_far (fun e => h1 e.symm)]; exact hi⟩
theorem PK.setNew (h : PK g a w) {q : Nat} (hq : a.heap.size ≤ q) (k : Nat) (v : Value) : PK g a (w.setCell ⟨q, k, none⟩ v) :=
  ⟨by have := h.1; simp [World.setCell]; exact this, fun i c T z hi h1 h2 => by
    have hl := (Array.getElem?_eq_some_iff.1 hi).1
    rw [rheap_far (fun e => by have e : q = i := e; omega)]; exact h.2 i c T z hi h1 h2⟩
theorem PK.grown (h : PK g a w) {row : Option Nat} (hg : w.grownBy w' row) (hr : ∀ k, row = some k → a.heap.size ≤ k ∨ ∃ c fz, w.heap[k]? = some (.cells c 9 fz)) : PK g a w' :=
  ⟨Nat.le_trans h.1 hg.size, fun i c T z hi h1 h2 => by
    have hl := (Array.getElem?_eq_some_iff.1 hi).1
    have h3 := h.2 i c T z hi h1 h2
    rw [hg.block i (Array.getElem?_eq_some_iff.1 h3).1 (fun e => ?_)]
    · exact h3
    · rcases hr i e.symm with h4 | ⟨c', z', h4⟩
      · omega
      · rw [h3] at h4; injection h4 with h4; injection h4 with _ h4 _; exact h2 h4⟩
end

end Go.Proofs.YtoniccokohjenaaDoor
