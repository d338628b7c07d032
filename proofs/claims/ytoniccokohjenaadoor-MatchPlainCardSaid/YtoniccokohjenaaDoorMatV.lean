/-
  Plain Lean: what was tried, as bits of words (chapter 19). No program in sight.
  The matcher in memory, while it runs (chapter 19).
-/
import Derived.Test.YtoniccokohjenaaDoorMatP
import Derived.Laws.BitsAllLaws
import Derived.Laws.Shifts
import Derived.Test.YtoniccokohjenaaDoorMatT
import Derived.Test.YtoniccokohjenaaDoorMatM
namespace Go.Proofs.YtoniccokohjenaaDoor
open Go.RowKit

/-- a bit of words of 64 bits -/
def wbit (ws : List Nat) (b : Nat) : Bool := (ws.getD (b / 64) 0).testBit (b % 64)
theorem getD_setN {ws : List Nat} {k j v : Nat} (hk : k < ws.length) : (ws.set k v).getD j 0 = if j = k then v else ws.getD j 0 := by
  rw [List.getD_eq_getElem?_getD, List.getD_eq_getElem?_getD, List.getElem?_set]
  by_cases h : k = j
  · subst h; rw [if_pos rfl, if_pos rfl, if_pos hk]; rfl
  · rw [if_neg h, if_neg (fun e => h e.symm)]
/-- a word with a bit more -/
def wset (ws : List Nat) (b : Nat) : List Nat := ws.set (b / 64) (ws.getD (b / 64) 0 ||| 2 ^ (b % 64))
theorem wbit_set {ws : List Nat} {b : Nat} (hb : b / 64 < ws.length) : wbit (wset ws b) = setT (wbit ws) b := by
  funext k
  unfold wbit wset setT
  rw [getD_setN hb]
  by_cases h : k / 64 = b / 64
  · rw [if_pos h, Nat.testBit_or, Nat.testBit_two_pow, ← h]
    by_cases e : k = b
    · subst e; rw [if_pos rfl]; simp
    · rw [if_neg e, decide_eq_false (show ¬ b % 64 = k % 64 by omega), Bool.or_false]
  · rw [if_neg h, if_neg (fun e => h (by rw [e]))]
theorem wbit_none (n : Nat) : wbit (List.replicate n 0) = fun _ => false := by
  funext k
  unfold wbit
  have : (List.replicate n 0).getD (k / 64) 0 = 0 := by
    rw [List.getD_eq_getElem?_getD, List.getElem?_replicate]; split <;> rfl
  rw [this, Nat.zero_testBit]
theorem wbit_and (v s : Nat) (hv : v < 18446744073709551616) (hs : s < 64) : (bits .and .u64 ((v : Int) / 2 ^ min ((s : Nat) : Int).toNat IntKind.u64.bits) 1 == 1) = v.testBit s := by
  have e : ((v : Int) / 2 ^ min ((s : Nat) : Int).toNat IntKind.u64.bits) = ((v / 2 ^ s : Nat) : Int) := by
    rw [show min ((s : Nat) : Int).toNat IntKind.u64.bits = s by simp [IntKind.bits]; omega]
    simp
  have hd : v / 2 ^ s ≤ v := Nat.div_le_self _ _
  rw [e, show (1 : Int) = ((1 : Nat) : Int) from rfl, u64_and_nat _ _ (by omega) (by decide), Nat.testBit_eq_decide_div_mod_eq, nat_mask1]
  rcases Nat.mod_two_eq_zero_or_one (v / 2 ^ s) with h | h <;> rw [h] <;> rfl
theorem wbit_or (v s : Nat) (hv : v < 18446744073709551616) (hs : s < 64) : bits .or .u64 (v : Int) (IntKind.u64.wrap (1 * 2 ^ min ((s : Nat) : Int).toNat IntKind.u64.bits)) = ((v ||| 2 ^ s : Nat) : Int) := by
  have hp : 2 ^ s < 18446744073709551616 := (Nat.pow_lt_pow_right (by decide) hs : 2 ^ s < 2 ^ 64)
  have e : IntKind.u64.wrap (1 * 2 ^ min ((s : Nat) : Int).toNat IntKind.u64.bits) = ((2 ^ s : Nat) : Int) := by
    rw [show min ((s : Nat) : Int).toNat IntKind.u64.bits = s by simp [IntKind.bits]; omega]
    have : (1 : Int) * 2 ^ s = ((2 ^ s : Nat) : Int) := by simp
    rw [this]
    simp only [IntKind.wrap, IntKind.bits, IntKind.signed]
    generalize 2 ^ s = q at *
    simp; omega
  rw [e, u64_or_nat _ _ hv hp]
theorem wor_lt (v s : Nat) (hv : v < 18446744073709551616) (hs : s < 64) : v ||| 2 ^ s < 18446744073709551616 := by
  have hp : 2 ^ s < 2 ^ 64 := Nat.pow_lt_pow_right (by decide) hs
  exact (Nat.or_lt_two_pow (n := 64) hv hp : _ < 2 ^ 64)
/-- words are words -/
def Wds (ws : List Nat) : Prop := ∀ v ∈ ws, v < 18446744073709551616
theorem Wds.get {ws : List Nat} (h : Wds ws) (k : Nat) : ws.getD k 0 < 18446744073709551616 := by
  rw [List.getD_eq_getElem?_getD]
  cases e : ws[k]? with
  | none => decide
  | some v => exact h v (List.mem_of_getElem? e)
theorem Wds.set {ws : List Nat} (h : Wds ws) (b : Nat) : Wds (wset ws b) := fun v hv => by
  unfold wset at hv
  rcases List.mem_or_eq_of_mem_set hv with hv | rfl
  · exact h v hv
  · exact wor_lt _ _ (h.get _) (Nat.mod_lt _ (by decide))
theorem wset_len (ws : List Nat) (b : Nat) : (wset ws b).length = ws.length := by unfold wset; rw [List.length_set]
theorem Wds.zeros (n : Nat) : Wds (List.replicate n 0) := fun v hv => by rw [(List.mem_replicate.1 hv).2]; decide

end Go.Proofs.YtoniccokohjenaaDoor

namespace Go.Proofs.YtoniccokohjenaaDoor
open Go.RowKit

abbrev TFr : TypeId := 87
abbrev TU : TypeId := 89
/-- a frame's cells -/
def frCells : Fr → List Value
  | .way pc i => [.int .i64 (pc : Int), .int .i64 (i : Int), .int .i64 (-1), .int .i64 0]
  | .mark k v => [.int .i64 0, .int .i64 0, .int .i64 (k : Int), .int .i64 v]
def frsCells : List Fr → List Value
  | [] => []
  | f :: st => frsCells st ++ frCells f
theorem fr_len (f : Fr) : (frCells f).length = 4 := by cases f <;> rfl
theorem frs_len : ∀ st : List Fr, (frsCells st).length = st.length * 4
  | [] => rfl
  | f :: st => by rw [frsCells, List.length_append, frs_len st, fr_len, List.length_cons]; omega
theorem fr_one (f : Fr) : ∀ u ∈ frCells f, u.oneCell' = true := fun u hu => by
  cases f <;> simp only [frCells, List.mem_cons, List.not_mem_nil, or_false] at hu <;> rcases hu with rfl | rfl | rfl | rfl <;> rfl
theorem infoFr : (Tryd.prog.info? TFr).map (fun i => (i.zero, i.size, i.bytes)) = some (some (.agg #[.int .i64 0, .int .i64 0, .int .i64 0, .int .i64 0]), 4, 32) := by kernel_rfl

theorem sts_at : ∀ (zs : List (Stp × Value)) (i : Nat) (z : Stp × Value), zs[i]? = some z → ∀ j v, (stCells z)[j]? = some v → (stsCells zs)[i * 13 + j]? = some v
  | [], i, z, h, _, _, _ => by simp at h
  | a :: r, 0, z, h, j, v, hv => by
    obtain rfl : a = z := by simpa using h
    have hj := (List.getElem?_eq_some_iff.1 hv).1
    show (stCells a ++ stsCells r)[0 * 13 + j]? = some v
    rw [Nat.zero_mul, Nat.zero_add, List.getElem?_append_left hj]; exact hv
  | a :: r, i + 1, z, h, j, v, hv => by
    have ih := sts_at r i z (by simpa using h) j v hv
    show (stCells a ++ stsCells r)[(i + 1) * 13 + j]? = some v
    have hl : (stCells a).length = 13 := rfl
    rw [List.getElem?_append_right (by omega), ← ih]
    congr 1; omega

/-- where the matcher's rows lie -/
structure MtL where
  g : Nat
  sb : Nat
  scap : Nat
  tb : Nat
  tcap : Nat
  mb : Nat
  mcap : Nat
  LA : Option Addr
  Lc : Nat
def mtCells (L : MtL) (m : Md) (n k nw nm : Nat) : Array Value := #[.bool m.all, .bool m.fold, .bool m.free, .bool m.dot, .bool m.some, .slice (some ⟨L.sb, 0, none⟩) n L.scap, .slice L.LA k L.Lc, .slice (some ⟨L.tb, 0, none⟩) nw L.tcap, .slice (some ⟨L.mb, 0, none⟩) nm L.mcap]
def wdCells (ws : List Nat) : List Value := ws.map fun (v : Nat) => Value.int .u64 (v : Int)
def mkCells (M : List Int) : List Value := M.map fun (v : Int) => Value.int .i64 v
/-- the matcher in memory: steps zs, what was tried ws, marks M -/
structure MtW (w0 W : World) (L : MtL) (m : Md) (l : List Int) (zs : List (Stp × Value)) (ws : List Nat) (M : List Int) : Prop where
  below : Below w0.heap.size w0 W
  log : w0.heap.size ≤ L.g
  los : w0.heap.size ≤ L.sb
  lot : w0.heap.size ≤ L.tb
  lom : w0.heap.size ≤ L.mb
  heap : W.heap[L.g]? = some (.cells (mtCells L m zs.length l.length ws.length M.length) TMt (0, 0))
  stp : ∃ cs : Array Value, W.heap[L.sb]? = some (.cells cs TS (0, 0)) ∧ ∀ (j : Nat) (v : Value), (stsCells zs)[j]? = some v → cs[j]? = some v
  tried : W.heap[L.tb]? = some (.cells (wdCells ws).toArray TU (0, 0))
  marks : W.heap[L.mb]? = some (.cells (mkCells M).toArray 3 (0, 0))
  sgn : RdI w0 L.LA l.length l
  pts : ∀ c ∈ l, 0 ≤ c ∧ c ≤ 1114111
  len : l.length ≤ 100000
  form : ∀ z ∈ zs, TzS w0 z
  wds : Wds ws
section
variable {w0 W W' : World} {L : MtL} {m : Md} {l : List Int} {zs : List (Stp × Value)} {ws : List Nat} {M : List Int}
theorem MtW.keep (h : MtW w0 W L m l zs ws M) (hb : Below w0.heap.size w0 W') (hk : ∀ (k : Nat) (c : Array Value) (T : TypeId) (z : Nat × Nat), W.heap[k]? = some (.cells c T z) → T ≠ TFr → W'.heap[k]? = some (.cells c T z)) : MtW w0 W' L m l zs ws M := by
  obtain ⟨cs, h1, h2⟩ := h.stp
  exact ⟨hb, h.log, h.los, h.lot, h.lom, hk _ _ _ _ h.heap (by decide), ⟨cs, hk _ _ _ _ h1 (by decide), h2⟩, hk _ _ _ _ h.tried (by decide), hk _ _ _ _ h.marks (by decide), h.sgn, h.pts, h.len, h.form, h.wds⟩
theorem MtW.call (h : MtW w0 W L m l zs ws M) (hb : Below W.heap.size W W') : MtW w0 W' L m l zs ws M :=
  h.keep (h.below.trans (hb.mono h.below.size)) fun _ _ _ _ hq _ => heap_call hq hb
theorem MtW.drew (h : MtW w0 W L m l zs ws M) : MtW w0 W.drew L m l zs ws M := h.keep h.below.drew fun _ _ _ _ hq _ => hq
theorem MtW.rd (h : MtW w0 W L m l zs ws M) : MtR W L.g m l (.slice (some ⟨L.sb, 0, none⟩) zs.length L.scap) (.slice (some ⟨L.tb, 0, none⟩) ws.length L.tcap) (.slice (some ⟨L.mb, 0, none⟩) M.length L.mcap) :=
  ⟨⟨L.LA, L.Lc, h.heap, h.sgn.below h.below⟩, h.pts, h.len⟩
theorem MtW.cell (h : MtW w0 W L m l zs ws M) {j : Nat} {v : Value} (hj : (mtCells L m zs.length l.length ws.length M.length)[j]? = some v) : W.cell? ⟨L.g, j, none⟩ = some v := by rw [Lib.cell_of_heap h.heap]; exact hj
theorem MtW.cs (h : MtW w0 W L m l zs ws M) : W.cell? ⟨L.g, 5, none⟩ = some (.slice (some ⟨L.sb, 0, none⟩) zs.length L.scap) := h.cell rfl
theorem MtW.cl (h : MtW w0 W L m l zs ws M) : W.cell? ⟨L.g, 6, none⟩ = some (.slice L.LA l.length L.Lc) := h.cell rfl
theorem MtW.ct (h : MtW w0 W L m l zs ws M) : W.cell? ⟨L.g, 7, none⟩ = some (.slice (some ⟨L.tb, 0, none⟩) ws.length L.tcap) := h.cell rfl
theorem MtW.cm (h : MtW w0 W L m l zs ws M) : W.cell? ⟨L.g, 8, none⟩ = some (.slice (some ⟨L.mb, 0, none⟩) M.length L.mcap) := h.cell rfl
/-- a step's cells -/
theorem MtW.step (h : MtW w0 W L m l zs ws M) {pc : Nat} {z : Stp × Value} (hz : zs[pc]? = some z) : W.rangeAt L.sb (pc * 13) (stCells z) := fun j v hj => by
  obtain ⟨cs, h1, h2⟩ := h.stp
  rw [Lib.cell_of_heap h1]
  exact h2 _ _ (sts_at zs pc z hz j v hj)
theorem MtW.word (h : MtW w0 W L m l zs ws M) {k : Nat} (hk : k < ws.length) : W.cell? ⟨L.tb, k, none⟩ = some (.int .u64 ((ws.getD k 0 : Nat) : Int)) := by
  rw [Lib.cell_of_heap h.tried]
  simp only [wdCells, List.getElem?_toArray, List.getElem?_map, List.getD_eq_getElem?_getD, List.getElem?_eq_getElem hk]
  rfl
theorem MtW.mark (h : MtW w0 W L m l zs ws M) {k : Nat} (hk : k < M.length) : W.cell? ⟨L.mb, k, none⟩ = some (.int .i64 (M.getD k 0)) := by
  rw [Lib.cell_of_heap h.marks]
  simp only [mkCells, List.getElem?_toArray, List.getElem?_map, List.getD_eq_getElem?_getD, List.getElem?_eq_getElem hk]
  rfl
theorem MtW.dist (h : MtW w0 W L m l zs ws M) : L.g ≠ L.tb ∧ L.g ≠ L.mb ∧ L.sb ≠ L.tb ∧ L.sb ≠ L.mb ∧ L.tb ≠ L.mb := by
  obtain ⟨cs, h1, _⟩ := h.stp
  have hh := h.heap
  have ht := h.tried
  have hm := h.marks
  refine ⟨fun e => ?_, fun e => ?_, fun e => ?_, fun e => ?_, fun e => ?_⟩
  · rw [e, ht] at hh; injection hh with hh; injection hh with _ hh _; exact absurd hh (by decide)
  · rw [e, hm] at hh; injection hh with hh; injection hh with _ hh _; exact absurd hh (by decide)
  · rw [e, ht] at h1; injection h1 with h1; injection h1 with _ h1 _; exact absurd h1 (by decide)
  · rw [e, hm] at h1; injection h1 with h1; injection h1 with _ h1 _; exact absurd h1 (by decide)
  · rw [e, hm] at ht; injection ht with ht; injection ht with _ ht _; exact absurd ht (by decide)
/-- a bit more is set -/
theorem MtW.put_word (h : MtW w0 W L m l zs ws M) (b : Nat) : MtW w0 (W.setCell ⟨L.tb, b / 64, none⟩ (.int .u64 ((ws.getD (b / 64) 0 ||| 2 ^ (b % 64) : Nat) : Int))) L m l zs (wset ws b) M := by
  obtain ⟨cs, h1, h2⟩ := h.stp
  obtain ⟨d1, d2, d3, d4, d5⟩ := h.dist
  refine ⟨h.below.setCell (p := ⟨L.tb, b / 64, none⟩) h.lot _, h.log, h.los, h.lot, h.lom, ?_, ⟨cs, ?_, h2⟩, ?_, ?_, h.sgn, h.pts, h.len, h.form, h.wds.set b⟩
  · rw [rheap_far (fun e => d1 e.symm), wset_len]; exact h.heap
  · rw [rheap_far (fun e => d3 e.symm)]; exact h1
  · have := rheap_set (k := b / 64) h.tried (.int .u64 ((ws.getD (b / 64) 0 ||| 2 ^ (b % 64) : Nat) : Int))
    rw [List.setIfInBounds_toArray] at this
    unfold wset wdCells
    rw [List.map_set]
    exact this
  · rw [rheap_far (fun e => d5 e)]; exact h.marks
/-- a mark is set -/
theorem MtW.put_mark (h : MtW w0 W L m l zs ws M) (k : Nat) (v : Int) : MtW w0 (W.setCell ⟨L.mb, k, none⟩ (.int .i64 v)) L m l zs ws (M.set k v) := by
  obtain ⟨cs, h1, h2⟩ := h.stp
  obtain ⟨d1, d2, d3, d4, d5⟩ := h.dist
  refine ⟨h.below.setCell (p := ⟨L.mb, k, none⟩) h.lom _, h.log, h.los, h.lot, h.lom, ?_, ⟨cs, ?_, h2⟩, ?_, ?_, h.sgn, h.pts, h.len, h.form, h.wds⟩
  · rw [rheap_far (fun e => d2 e.symm), List.length_set]; exact h.heap
  · rw [rheap_far (fun e => d4 e.symm)]; exact h1
  · rw [rheap_far (fun e => d5 e.symm)]; exact h.tried
  · have := rheap_set (k := k) h.marks (.int .i64 v)
    rw [List.setIfInBounds_toArray] at this
    unfold mkCells
    rw [List.map_set]
    exact this
theorem MtW.frozen_t (h : MtW w0 W L m l zs ws M) (k : Nat) : W.frozen? ⟨L.tb, k, none⟩ = false := Lib.frozen_of_heap h.tried k
theorem MtW.frozen_m (h : MtW w0 W L m l zs ws M) (k : Nat) : W.frozen? ⟨L.mb, k, none⟩ = false := Lib.frozen_of_heap h.marks k
end

/-- all blocks but the marks' and that of what was tried are as they were -/
def KeepR (t k : Nat) (w w' : World) : Prop := w.heap.size ≤ w'.heap.size ∧ ∀ j, j < w.heap.size → j ≠ t → j ≠ k → w'.heap[j]? = w.heap[j]?
theorem KeepR.refl (t k : Nat) (w : World) : KeepR t k w w := ⟨Nat.le_refl _, fun _ _ _ _ => rfl⟩
theorem KeepR.trans {t k : Nat} {a b c : World} (h : KeepR t k a b) (h2 : KeepR t k b c) : KeepR t k a c := ⟨Nat.le_trans h.1 h2.1, fun j hj h1 h3 => (h2.2 j (Nat.lt_of_lt_of_le hj h.1) h1 h3).trans (h.2 j hj h1 h3)⟩
theorem KeepR.call {t k : Nat} {w W : World} (hb : Below w.heap.size w W) : KeepR t k w W := ⟨hb.size, fun j hj _ _ => hb.block j hj⟩
/-- the run in memory: its stack st at sv -/
structure RunV (w0 w W : World) (L : MtL) (m : Md) (l : List Int) (zs : List (Stp × Value)) (ws : List Nat) (M : List Int) (sv : Value) (st : List Fr) : Prop where
  start : w0.heap.size ≤ w.heap.size
  mt : MtW w0 W L m l zs ws M
  keep : KeepR L.tb L.mb w W
  own : W.ownsRow w.heap.size TFr 4 sv st.length (frsCells st)
section
variable {w0 w W W' : World} {L : MtL} {m : Md} {l : List Int} {zs : List (Stp × Value)} {ws : List Nat} {M : List Int} {sv : Value} {st : List Fr}
theorem RunV.call (h : RunV w0 w W L m l zs ws M sv st) (hb : Below W.heap.size W W') : RunV w0 w W' L m l zs ws M sv st :=
  ⟨h.start, h.mt.call hb, h.keep.trans (.call hb), rowns_below h.own hb⟩
theorem RunV.drew (h : RunV w0 w W L m l zs ws M sv st) : RunV w0 w W.drew L m l zs ws M sv st := ⟨h.start, h.mt.drew, h.keep, h.own⟩
theorem RunV.put_word (h : RunV w0 w W L m l zs ws M sv st) (b : Nat) : RunV w0 w (W.setCell ⟨L.tb, b / 64, none⟩ (.int .u64 ((ws.getD (b / 64) 0 ||| 2 ^ (b % 64) : Nat) : Int))) L m l zs (wset ws b) M sv st :=
  ⟨h.start, h.mt.put_word b, h.keep.trans ⟨by simp [World.setCell], fun j _ h1 _ => rheap_far (fun e => h1 e.symm)⟩, rowns_far h.own h.mt.tried (by decide) _⟩
theorem RunV.put_mark (h : RunV w0 w W L m l zs ws M sv st) (k : Nat) (v : Int) : RunV w0 w (W.setCell ⟨L.mb, k, none⟩ (.int .i64 v)) L m l zs ws (M.set k v) sv st :=
  ⟨h.start, h.mt.put_mark k v, h.keep.trans ⟨by simp [World.setCell], fun j _ _ h1 => rheap_far (fun e => h1 e.symm)⟩, rowns_far h.own h.mt.marks (by decide) _⟩
theorem RunV.slice (h : RunV w0 w W L m l zs ws M sv st) : ∃ A cap, sv = .slice A st.length cap := rowns_slice h.own
/-- the last frame lies where it lies -/
theorem RunV.top {f : Fr} (h : RunV w0 w W L m l zs ws M sv (f :: st)) : ∃ q cap, sv = .slice (some ⟨q, 0, none⟩) (st.length + 1) cap ∧ st.length + 1 ≤ cap ∧ W.rangeAt q (st.length * 4) (frCells f) := by
  have ho := h.own
  rcases ho.2 with ⟨_, h0⟩ | ⟨q, cap, cur, hv, _, hh, h1, h2, h3, h4⟩
  · simp at h0
  · refine ⟨q, cap, hv, h1, fun j v hj => ?_⟩
    rw [Lib.cell_of_heap hh]
    have hl := (List.getElem?_eq_some_iff.1 hj).1
    rw [fr_len] at hl
    have h5 : (frsCells (f :: st))[st.length * 4 + j]? = some v := by
      rw [frsCells, List.getElem?_append_right (by rw [frs_len]; omega), frs_len, Nat.add_sub_cancel_left]; exact hj
    rw [← h4, List.getElem?_take] at h5
    split at h5
    · rw [← Array.getElem?_toList]; exact h5
    · cases h5
/-- it is taken off -/
theorem RunV.pop {f : Fr} {A : Option Addr} {n cap : Nat} (h : RunV w0 w W L m l zs ws M (.slice A n cap) (f :: st)) : RunV w0 w W L m l zs ws M (.slice A st.length cap) st := by
  refine ⟨h.start, h.mt, h.keep, frs_len st, .inr ?_⟩
  have ho := h.own
  rcases ho.2 with ⟨_, h0⟩ | ⟨q, cap', cur, hv, hB, hh, h1, h2, h3, h4⟩
  · simp at h0
  · injection hv with e1 e2 e3
    subst e1 e3
    rw [List.length_cons] at h1 h4
    refine ⟨q, cap, cur, rfl, hB, hh, by omega, h2, h3, ?_⟩
    have h5 := congrArg (List.take (st.length * 4)) h4
    rw [List.take_take, Nat.min_eq_left (by omega), frsCells, List.take_append_of_le_length (by rw [frs_len]; omega), List.take_of_length_le (l := frsCells st) (by rw [frs_len]; omega)] at h5
    exact h5
/-- a frame is laid upon it -/
theorem RunV.push {f : Fr} (h : RunV w0 w W L m l zs ws M sv st) {v' : Value} (hg : (W.alloc (.cells (frCells f).toArray TFr)).grownBy W' sv.ownBlock) (ho : W'.ownsRow w.heap.size TFr 4 v' (st.length + 1) (frsCells st ++ frCells f)) : RunV w0 w W' L m l zs ws M v' (f :: st) := by
  have hk := rrow_kind h.own
  have ha : Below W.heap.size W (W.alloc (.cells (frCells f).toArray TFr)) := (Below.refl _ W).alloc (Nat.le_refl _) _
  have hw := h.start
  have h1 := h.call ha
  refine ⟨hw, h1.mt.keep (h1.mt.below.grown hg h1.mt.below.size (fun j hj => by have := (hk j hj).1; omega)) (fun k c T z hq hT => ?_), ⟨Nat.le_trans h1.keep.1 hg.size, fun j hj a b => (hg.block j (Nat.lt_of_lt_of_le hj h1.keep.1) (fun e => by have := (hk j e.symm).1; omega)).trans (h1.keep.2 j hj a b)⟩, ho⟩
  · have hl := (Array.getElem?_eq_some_iff.1 hq).1
    rw [hg.block k hl (fun e => ?_)]
    · exact hq
    · obtain ⟨_, hlt, c', z', hc⟩ := hk k e.symm
      rw [heap_call hc ha] at hq; injection hq with hq; injection hq with _ hq _; exact hT hq.symm
end

end Go.Proofs.YtoniccokohjenaaDoor
