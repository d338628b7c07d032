/-
  What a text in quotes is read as, out of its pieces, and what the walk of Read keeps between two rounds (chapter 5).
-/
import Derived.Test.YtnbfikfngekfoaaDoorQuoI
namespace Go.Proofs.YtnbfikfngekfoaaDoor
open Go.RowKit Go.Shelf

def valsQ (ps : List Pq) : List Pc := ps.map (·.1)
theorem valsQ_snoc (ps : List Pq) (p : Pq) : valsQ (ps ++ [p]) = valsQ ps ++ [p.1] := by simp [valsQ]
theorem valsQ_all (l : List UInt8) : valsQ (piecesQ l) = piecesP l := piecesQ_val l
theorem sizeQ_le (ps : List Pq) : sizeP (valsQ ps) ≤ 12 * ps.length := by
  induction ps with
  | nil => exact Nat.le_refl _
  | cons p ps ih =>
    have := p.2.1
    show sizeP (p.1 :: valsQ ps) ≤ _
    rw [sizeP_cons, List.length_cons]
    omega
theorem textQ_le (ps : List Pq) : (textP (valsQ ps)).length ≤ 4 * ps.length := by
  induction ps with
  | nil => exact Nat.le_refl _
  | cons p ps ih =>
    show (textP (p.1 :: valsQ ps)).length ≤ _
    rw [textP_cons, List.length_append, List.length_cons]
    have := (enc_pos (p.1.point : Int)).2
    split
    · omega
    · simp only [List.length_nil]; omega

/-- a text in quotes: what it stands for, how many bytes it has, its error -/
def readP (l : List UInt8) : List UInt8 × Nat × Nat :=
  if l.length = 0 ∨ bt l 0 ≠ 34 then ([], 0, (faultP l 0).err)
  else if errP (piecesP (l.drop 1)) ≠ 0 then ([], 1 + sizeP (piecesP (l.drop 1)), errP (piecesP (l.drop 1)))
  else (textP (piecesP (l.drop 1)), 2 + sizeP (piecesP (l.drop 1)), 0)
/-- as the program's three results -/
def readV (l : List UInt8) : Value := .tuple #[.string ⟨(readP l).1.toArray⟩, .int .i64 ((readP l).2.1 : Int), .int .i64 ((readP l).2.2 : Int)]

theorem errP_none (ps : List Pc) (h : ∀ p ∈ ps, p.err = 0) : errP ps = 0 := by
  unfold errP
  rw [List.find?_eq_none.2 (fun p hp => by simp [h p hp])]; rfl
theorem errP_snoc (ps : List Pc) (p : Pc) (h : ∀ q ∈ ps, q.err = 0) (hp : p.err ≠ 0) : errP (ps ++ [p]) = p.err := by
  unfold errP
  rw [List.find?_append, List.find?_eq_none.2 (fun q hq => by simp [h q hq])]
  simp [hp]

/-- a piece that is a fault is the last one -/
theorem piecesP_stop : ∀ (k : Nat) (l : List UInt8), l.length ≤ k → ∀ (pre : List Pc) (p : Pc) (more : List Pc), piecesP l = pre ++ p :: more → p.err ≠ 0 → more = []
  | k, l, hk, pre, p, more, h, he => by
    by_cases hl : lastP (nextP l)
    · rw [piecesP_last l hl] at h
      cases pre with
      | nil => injection h with _ h; exact h.symm
      | cons q pre => injection h with _ h; simp at h
    · rw [piecesP_cons l hl] at h
      have h1 : (nextP l).err = 0 ∧ (nextP l).size ≠ 0 := by unfold lastP at hl; omega
      cases pre with
      | nil => injection h with h _; rw [h] at h1; exact absurd h1.1 he
      | cons q pre =>
        injection h with _ h
        have hs := nextP_size l h1.1
        cases k with
        | zero => omega
        | succ k => exact piecesP_stop k _ (by rw [List.length_drop]; omega) pre p more h he
theorem piecesQ_stop (l : List UInt8) (pre : List Pq) (p : Pq) (h : pre ++ [p] <+: piecesQ l) (he : p.1.err ≠ 0) : piecesP l = valsQ (pre ++ [p]) := by
  obtain ⟨more, hm⟩ := h
  have : piecesP l = valsQ pre ++ p.1 :: valsQ more := by
    rw [← valsQ_all, ← hm]; simp [valsQ]
  have hn := piecesP_stop l.length l (Nat.le_refl _) _ _ _ this he
  rw [this, hn, valsQ_snoc]

/-- blocks of cells stand where a block that is no cells turns -/
theorem grown_cells {W W' : World} {row : Option Nat} (hg : W.grownBy W' row) (hr : ∀ r, row = some r → ∃ o : Obj, W.heap[r]? = some o ∧ o.isCells = false) {k : Nat} {c : Array Value} {T : TypeId} {z : Nat × Nat} (h : W.heap[k]? = some (.cells c T z)) :
    W'.heap[k]? = some (.cells c T z) := by
  refine (hg.block k (Array.getElem?_eq_some_iff.1 h).1 (fun e => ?_)).trans h
  obtain ⟨o, ho, hc⟩ := hr k e.symm
  rw [h] at ho; injection ho with ho; subst ho; cases hc
theorem bld_kept {T e : TypeId} {B b : Nat} {bs : List Value} {w w' : World} (h : Lib.IsBuilderF T e B b bs w) (hk : ∀ (k : Nat) (c : Array Value) (S : TypeId) (z : Nat × Nat), (S = T ∨ S = e) → w.heap[k]? = some (Obj.cells c S z) → w'.heap[k]? = some (Obj.cells c S z)) : Lib.IsBuilderF T e B b bs w' := by
  rcases h with h | h
  · left
    obtain ⟨hB, v, hbk, hown, hne⟩ := h
    refine ⟨hB, v, hk _ _ _ _ (.inl rfl) hbk, ⟨hown.1, ?_⟩, hne⟩
    rcases hown.2 with h2 | ⟨g, cap, cur, fz, hv, hg, hh, r⟩
    · exact .inl h2
    · exact .inr ⟨g, cap, cur, fz, hv, hg, hk _ _ _ _ (.inr rfl) hh, r⟩
  · right
    obtain ⟨hB, v, hbk, hown, hne⟩ := h
    refine ⟨hB, v, hk _ _ _ _ (.inl rfl) hbk, ⟨hown.1, ?_⟩, hne⟩
    rcases hown.2 with h2 | ⟨g, cap, cur, fz, hv, hg, hh, r⟩
    · exact .inl h2
    · exact .inr ⟨g, cap, cur, fz, hv, hg, hk _ _ _ _ (.inr rfl) hh, r⟩
theorem bld_cells {T e : TypeId} {B b : Nat} {bs : List Value} {w w' : World} (h : Lib.IsBuilderF T e B b bs w) (hk : ∀ (k : Nat) (c : Array Value) (S : TypeId) (z : Nat × Nat), w.heap[k]? = some (Obj.cells c S z) → w'.heap[k]? = some (Obj.cells c S z)) : Lib.IsBuilderF T e B b bs w' :=
  bld_kept h (fun k c S z _ h => hk k c S z h)

/-- what stands between two rounds of Read: no fault has come; the results' cells are as they were made; the builder holds what the pieces stand for; how far -/
def ReadI (h0 : Nat) (w : World) (pre : List Pq) (W : World) : Prop :=
  (∀ x ∈ pre, x.1.err = 0) ∧ W.heap[h0]? = some (.cells #[.string ⟨#[]⟩] 9 (0, 0)) ∧ W.heap[h0 + 1]? = some (.cells #[.int .i64 0] 3 (0, 0)) ∧ W.heap[h0 + 1 + 1]? = some (.cells #[.int .i64 0] 25 (0, 0)) ∧
  Lib.IsBuilderF 54 5 (h0 + 1 + 1 + 1) (h0 + 1 + 1 + 1) (Lib.byteCells (textP (valsQ pre))) W ∧ W.heap[h0 + 1 + 1 + 1 + 1]? = some (.cells #[.int .i64 ((1 + sizeP (valsQ pre) : Nat) : Int)] 3 (0, 0)) ∧ Below h0 w W
/-- where a round has left: the results' cells -/
def ReadX (h0 : Nat) (w : World) (c : Code) (pre : List Pq) (W : World) : Prop :=
  c = .ret ∧ (∃ q p, pre = q ++ [p] ∧ (∀ x ∈ q, x.1.err = 0) ∧ p.1.err ≠ 0 ∧ W.heap[h0]? = some (.cells #[.string ⟨#[]⟩] 9 (0, 0)) ∧ W.heap[h0 + 1]? = some (.cells #[.int .i64 ((1 + sizeP (valsQ pre) : Nat) : Int)] 3 (0, 0)) ∧ W.heap[h0 + 1 + 1]? = some (.cells #[.int .i64 (p.1.err : Int)] 25 (0, 0))) ∧ Below h0 w W

theorem readI_own {B h0 : Nat} {w : World} (h1 : h0 ≤ w.heap.size) (h2 : h0 ≤ B) : OwnFrom B (ReadI h0 w) := fun s W W' row hs hg hr => by
  have hc := fun r e => (hr r e).2
  obtain ⟨a, b, c, d, e, f, g⟩ := hs
  exact ⟨a, grown_cells hg hc b, grown_cells hg hc c, grown_cells hg hc d, bld_cells e (fun k x S z h => grown_cells hg hc h), grown_cells hg hc f, g.grown hg (Nat.le_trans h1 g.size) (fun k e => Nat.le_trans h2 (hr k e).1)⟩
theorem readX_own {B h0 : Nat} {w : World} (h1 : h0 ≤ w.heap.size) (h2 : h0 ≤ B) (c : Code) : OwnFrom B (ReadX h0 w c) := fun s W W' row hs hg hr => by
  have hc := fun r e => (hr r e).2
  obtain ⟨rfl, ⟨q, p, e1, e2, e3, a, b, d⟩, g⟩ := hs
  exact ⟨rfl, ⟨q, p, e1, e2, e3, grown_cells hg hc a, grown_cells hg hc b, grown_cells hg hc d⟩, g.grown hg (Nat.le_trans h1 g.size) (fun k e => Nat.le_trans h2 (hr k e).1)⟩

/-- what a writer of the builder keeps -/
theorem others_keep {W W' : World} {b : Nat} {T : TypeId} {c : Array Value} {z : Nat × Nat} (h : Lib.OthersKept 5 (some b) W W') (hT : T ≠ 5) {k : Nat} (hk : k ≠ b) (h1 : W.heap[k]? = some (.cells c T z)) : W'.heap[k]? = some (.cells c T z) :=
  h k _ h1 (fun e => hk (by injection e)) (fun c' fz e => by injection e with _ e _; exact hT e)
theorem others_others {W W' : World} {b : Nat} (h : Lib.OthersKept 5 (some b) W W') (hs : W.heap.size ≤ W'.heap.size) {c : Array Value} {T : TypeId} {z : Nat × Nat} (hb : W.heap[b]? = some (.cells c T z)) : KeepsOthers W W' :=
  ⟨hs, fun k o hk ho => h k o hk (fun e => by injection e with e; subst e; rw [hb] at hk; injection hk with hk; subst hk; cases ho) (fun c fz e => by subst e; cases ho)⟩
theorem others_keepsP {n₀ : Nat} {W W' : World} {b B : Nat} (h : Lib.OthersKept 5 (some b) W W') (hB : Below B W W') (hn : n₀ ≤ B) {c : Array Value} {z : Nat × Nat} (hb : W.heap[b]? = some (.cells c 54 z)) : KeepsP n₀ W W' :=
  ⟨hB.mono hn, fun k c' T hT hk => others_keep h (by rcases hT with rfl | rfl <;> decide) (fun e => by
    subst e; rw [hb] at hk; injection hk with hk; injection hk with _ hk _; rcases hT with rfl | rfl <;> exact absurd hk (by decide)) hk⟩

end Go.Proofs.YtnbfikfngekfoaaDoor
