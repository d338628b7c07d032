/-
  The walk of quote's Is (chapter 5).
-/
import Derived.Test.YtojapomkmfbciaaDoorQuoX
import Derived.Test.YtojapomkmfbciaaDoorQuoN
namespace Go.Proofs.YtojapomkmfbciaaDoor
open Go.RowKit Go.Shelf
attribute [local go_sem] Oper.semAt_some

/-- does a text in quotes stand for a key? -/
def isP (b key : List UInt8) : Bool := decide (b.length ≠ 0) && decide (bt b 0 = 34) && decide (valid key = key.length) && decide (readP b = (key, b.length, 0))

/-- what stands between two rounds of Is -/
def IsI (h0 a : Nat) (w : World) (key : List UInt8) (pre : List Pq) (W : World) : Prop :=
  (∀ x ∈ pre, x.1.err = 0 ∧ 0 < x.1.size) ∧ (∃ rest : List UInt8, key = textP (valsQ pre) ++ rest ∧ valid rest = rest.length ∧ W.heap[h0]? = some (.cells #[.string ⟨rest.toArray⟩] 9 (0, 0))) ∧
  W.heap[h0 + 1]? = some (.cells #[.bool false] 4 (0, 0)) ∧ W.heap[a]? = some (.cells #[.int .i64 ((1 + sizeP (valsQ pre) : Nat) : Int)] 3 (0, 0)) ∧ Below h0 w W
/-- where a round has left -/
def IsX (h0 a : Nat) (w : World) (key : List UInt8) (c : Code) (pre : List Pq) (W : World) : Prop :=
  (∃ q p, pre = q ++ [p] ∧ (∀ x ∈ q, x.1.err = 0 ∧ 0 < x.1.size) ∧
    ((c = .ret ∧ (p.1.err ≠ 0 ∨ (0 < p.1.size ∧ ¬ ∃ r, key = textP (valsQ (q ++ [p])) ++ r)) ∧ W.heap[h0 + 1]? = some (.cells #[.bool false] 4 (0, 0))) ∨
     (c = .exit 0 ∧ p.1.err = 0 ∧ p.1.size = 0 ∧ (∃ rest : List UInt8, key = textP (valsQ q) ++ rest ∧ W.heap[h0]? = some (.cells #[.string ⟨rest.toArray⟩] 9 (0, 0))) ∧
       W.heap[h0 + 1]? = some (.cells #[.bool false] 4 (0, 0)) ∧ W.heap[a]? = some (.cells #[.int .i64 ((1 + sizeP (valsQ q) : Nat) : Int)] 3 (0, 0))))) ∧ Below h0 w W

theorem isI_own {B h0 a : Nat} {w : World} {key : List UInt8} (h1 : h0 ≤ w.heap.size) (h2 : h0 ≤ B) : OwnFrom B (IsI h0 a w key) := fun s W W' row hs hg hr => by
  have hc := fun r e => (hr r e).2
  obtain ⟨x, ⟨rest, e1, e2, e3⟩, y, z, g⟩ := hs
  exact ⟨x, ⟨rest, e1, e2, grown_cells hg hc e3⟩, grown_cells hg hc y, grown_cells hg hc z, g.grown hg (Nat.le_trans h1 g.size) (fun k e => Nat.le_trans h2 (hr k e).1)⟩
theorem isX_own {B h0 a : Nat} {w : World} {key : List UInt8} (h1 : h0 ≤ w.heap.size) (h2 : h0 ≤ B) (c : Code) : OwnFrom B (IsX h0 a w key c) := fun s W W' row hs hg hr => by
  have hc := fun r e => (hr r e).2
  obtain ⟨⟨q, p, e1, e2, e3⟩, g⟩ := hs
  refine ⟨⟨q, p, e1, e2, ?_⟩, g.grown hg (Nat.le_trans h1 g.size) (fun k e => Nat.le_trans h2 (hr k e).1)⟩
  rcases e3 with ⟨c1, c2, c3⟩ | ⟨c1, c2, c3, ⟨rest, c4, c5⟩, c6, c7⟩
  · exact .inl ⟨c1, c2, grown_cells hg hc c3⟩
  · exact .inr ⟨c1, c2, c3, ⟨rest, c4, grown_cells hg hc c5⟩, grown_cells hg hc c6, grown_cells hg hc c7⟩

theorem piecesP_ends : ∀ (k : Nat) (l : List UInt8), l.length ≤ k → ∃ p ∈ piecesP l, lastP p
  | k, l, hk => by
    by_cases hl : lastP (nextP l)
    · exact ⟨nextP l, by rw [piecesP_last l hl]; simp, hl⟩
    · have h1 : (nextP l).err = 0 ∧ (nextP l).size ≠ 0 := by unfold lastP at hl; omega
      have hs := nextP_size l h1.1
      cases k with
      | zero => omega
      | succ k =>
        obtain ⟨p, hp, h⟩ := piecesP_ends k (l.drop (nextP l).size) (by rw [List.length_drop]; omega)
        exact ⟨p, by rw [piecesP_cons l hl]; exact List.mem_cons_of_mem _ hp, h⟩
theorem piecesQ_ends (l : List UInt8) : ∃ p ∈ piecesQ l, lastP p.1 := by
  obtain ⟨p, hp, h⟩ := piecesP_ends l.length l (Nat.le_refl _)
  rw [← valsQ_all] at hp
  obtain ⟨q, hq, rfl⟩ := List.mem_map.1 hp
  exact ⟨q, hq, h⟩

theorem sl_str (s : List UInt8) (k : Nat) (hk : k ≤ s.length) (w : World) :
    (Instr.slice 9 (.string ⟨s.toArray⟩) (some (.int .i64 (k : Int))) none none).run Tryd.prog w = .ok (.string ⟨(s.drop k).toArray⟩) w := by
  have hz : (⟨s.toArray⟩ : ByteArray).size = s.length := rfl
  rw [run_slice_string_l (P := Tryd.prog) w 9 ⟨s.toArray⟩ Tryd.underlying9 .i64 (k : Int) (by omega) (by rw [hz]; omega)]
  congr 2
  have h := Lib.extract_data (⟨s.toArray⟩ : ByteArray) k s.length
  rw [Int.toNat_natCast, hz]
  refine ByteArray.ext (Array.toList_inj.1 ?_)
  rw [h]
  show ((s.drop k).take (s.length - k)) = _
  rw [List.take_of_length_le (by rw [List.length_drop]; exact Nat.le_refl _)]

/-- a sound text that is not empty begins with a code point -/
theorem valid_ok (l : List UInt8) (h : valid l = l.length) (h0 : l.length ≠ 0) : decOk l = true ∧ valid (l.drop (dec l).2) = (l.drop (dec l).2).length ∧ l = enc ((dec l).1 : Int) ++ l.drop (dec l).2 := by
  have ho : decOk l = true := by
    cases hd : decOk l with
    | true => rfl
    | false => rw [valid_stop l hd] at h; omega
  have hs := valid_step l h0 ho
  have hn := dec_n l h0
  refine ⟨ho, ?_, ?_⟩
  · rw [List.length_drop]; omega
  · rw [dec_enc l ho, List.take_append_drop]

theorem below_others {W W' : World} (h : Below W.heap.size W W') : KeepsOthers W W' := ⟨h.size, fun k o hk _ => (h.block k (Array.getElem?_eq_some_iff.1 hk).1).trans hk⟩
theorem keepsP_str {n₀ : Nat} {W : World} {a : Nat} {x : Value} (h : W.heap[a]? = some (.cells #[x] 9 (0, 0))) (hn : n₀ ≤ a) (y : Value) : KeepsP n₀ W (W.setCell ⟨a, 0, none⟩ y) :=
  ⟨(Below.refl _ W).setCell (p := ⟨a, 0, none⟩) hn _, fun q c T hT hq => (Below.heap_setCell W ⟨a, 0, none⟩ y q (fun e => by
    subst e; rw [h] at hq; injection hq with hq; injection hq with _ hq _; rcases hT with rfl | rfl <;> exact absurd hq (by decide))).trans hq⟩
theorem keepB {W : World} {a : Nat} {x y : Value} {S T : TypeId} (h1 : W.heap[a]? = some (.cells #[x] S (0, 0))) (h2 : W.heap[a + 1]? = some (.cells #[y] T (0, 0))) (w2 : World) (hb : Below W.heap.size W w2) :
    w2.cell? ⟨a, 0, none⟩ = some x ∧ w2.cell? ⟨a + 1, 0, none⟩ = some y ∧ w2.frozen? ⟨a, 0, none⟩ = false ∧ w2.frozen? ⟨a + 1, 0, none⟩ = false := by
  have j1 := (hb.block a (Array.getElem?_eq_some_iff.1 h1).1).trans h1
  have j2 := (hb.block (a + 1) (Array.getElem?_eq_some_iff.1 h2).1).trans h2
  exact ⟨by rw [Lib.cell_of_heap j1]; rfl, by rw [Lib.cell_of_heap j2]; rfl, Lib.frozen_of_heap j1 0, Lib.frozen_of_heap j2 0⟩

theorem piecesP_stopL : ∀ (k : Nat) (l : List UInt8), l.length ≤ k → ∀ (pre : List Pc) (p : Pc) (more : List Pc), piecesP l = pre ++ p :: more → lastP p → more = []
  | k, l, hk, pre, p, more, h, he => by
    by_cases hl : lastP (nextP l)
    · rw [piecesP_last l hl] at h
      cases pre with
      | nil => injection h with _ h; exact h.symm
      | cons q pre => injection h with _ h; simp at h
    · rw [piecesP_cons l hl] at h
      have h1 : (nextP l).err = 0 ∧ (nextP l).size ≠ 0 := by unfold lastP at hl; omega
      cases pre with
      | nil => injection h with h _; rw [h] at hl; exact absurd he hl
      | cons q pre =>
        injection h with _ h
        have hs := nextP_size l h1.1
        cases k with
        | zero => omega
        | succ k => exact piecesP_stopL k _ (by rw [List.length_drop]; omega) pre p more h he
theorem piecesQ_stopL (l : List UInt8) (pre : List Pq) (p : Pq) (h : pre ++ [p] <+: piecesQ l) (he : lastP p.1) : piecesP l = valsQ (pre ++ [p]) := by
  obtain ⟨more, hm⟩ := h
  have : piecesP l = valsQ pre ++ p.1 :: valsQ more := by rw [← valsQ_all, ← hm]; simp [valsQ]
  have hn := piecesP_stopL l.length l (Nat.le_refl _) _ _ _ this he
  rw [this, hn, valsQ_snoc]
theorem textP_prefix (l : List UInt8) (pre : List Pq) (h : pre <+: piecesQ l) : ∃ r, textP (piecesP l) = textP (valsQ pre) ++ r := by
  obtain ⟨more, hm⟩ := h
  refine ⟨textP (valsQ more), ?_⟩
  rw [← valsQ_all, ← hm]
  simp [valsQ, textP]
theorem isP_no (l key : List UInt8) (h : readP l ≠ (key, l.length, 0)) : isP l key = false := by
  unfold isP; rw [decide_eq_false h, Bool.and_false]
theorem isP_yes (l key : List UInt8) (h0 : l.length ≠ 0) (hq : bt l 0 = 34) (hv : valid key = key.length) : isP l key = decide (readP l = (key, l.length, 0)) := by
  unfold isP; rw [decide_eq_true h0, decide_eq_true hq, decide_eq_true hv]; rfl

set_option maxRecDepth 100000 in
theorem is_results {tmps : Array Value} {W : World} {a : Nat} {x : Value} (h4 : tmps.getD 4 undef = .pointer (some ⟨a, 0, none⟩)) (c : W.cell? ⟨a, 0, none⟩ = some x) : (results Tryd.f18 tmps).run Tryd.prog W = .ok x W := by
  have h4' : tmps[4]?.getD undef = .pointer (some ⟨a, 0, none⟩) := by simpa using h4
  simp [results, Tryd.results18, go_sem, h4', c]
theorem is_end {n : Nat} {w W : World} {a D : Nat} {v : Bool} {R : Bool} {tmps : Array Value} (h4 : tmps.getD 4 undef = .pointer (some ⟨a, 0, none⟩))
    (i : W.heap[a]? = some (.cells #[.bool v] 4 (0, 0))) (hK : W.heap[D]? = some (.deferred (some []))) (hw : w.heap.size ≤ D) (hB : Below w.heap.size w W) (hr : R = v) :
    bodyPostM Fence.wide n Tryd.prog Tryd.f18 (fun e w' => e = Ending.returned (.bool R) ∧ Below w.heap.size w w') Exit.ret { tmps := tmps, defers := [{ target := .collected D, args := #[] }] } W := by
  have o : (W.putObj D (.deferred none)).heap[a]? = some (.cells #[.bool v] 4 (0, 0)) := (World.putObj_heap_other (fun e => by subst e; rw [hK] at i; injection i with i; cases i)).trans i
  refine ⟨by simp, .inl ⟨_, _, rfl, run_takeDeferred hK, ?_⟩⟩
  refine ⟨_, is_results h4 (by rw [Lib.cell_of_heap o]; rfl), ?_, hB.trans (belowK_b (w := w) (Nat.le_refl _) W D _ _ hw hK rfl rfl)⟩
  rw [hr]; rfl

set_option maxHeartbeats 8000000 in
set_option maxRecDepth 100000 in
theorem quoIs_yes (A : Option Addr) (n cap : Nat) (l key : List UInt8) (w : World) (hT : Tabs w) (hR : RdB w A n l) (hn : n ≤ 17592186044416) (hcap : n ≤ cap) (h0 : 0 < n) (hq : bt l 0 = 34) (hkl : key.length ≤ 17592186044416) (hv : valid key = key.length) :
    Calls Tryd.prog 18 #[.slice A n cap, .string ⟨key.toArray⟩] w fun e w' => e = .returned (.bool (isP l key)) ∧ Below w.heap.size w w' := by
  have hl := Lib.hid hR.1
  have HR := Lib.hid hR
  have HT := Lib.hid hT
  obtain ⟨b, off, rfl, hb, hc⟩ := hR.2 h0
  have hc0 := hc 0 h0
  rw [hq, Nat.add_zero] at hc0
  have d0 : ((n : Int) == 0) = false := by simp; omega
  have h1n : (1 : Int) ≤ (n : Int) := by omega
  have hs1 : ∀ w' : World, (Instr.slice 26 (.slice (some ⟨b, off, none⟩) n cap) (some (.int .i64 1)) none none).run Tryd.prog w' = .ok (.slice (cutA (some ⟨b, off, none⟩) 1 cap) (n - 1) (cap - 1)) w' := fun w' => sl_cut (some ⟨b, off, none⟩) n cap 1 (by omega) w'
  have hs2 : ∀ w' : World, (Instr.sliceAt 26 (.slice (some ⟨b, off, none⟩) n cap) (some (.int .i64 1)) none none).run Tryd.prog w' = .ok (.slice (cutA (some ⟨b, off, none⟩) 1 cap) (n - 1) (cap - 1)) w' := fun w' => sl_cutAt (some ⟨b, off, none⟩) n cap 1 (by omega) w'
  have hb2 : Below w.heap.size w ((w.alloc (.cells #[.string ⟨key.toArray⟩] 9)).alloc (.cells #[.bool false] 4)) := ((Below.refl _ w).alloc (Nat.le_refl _) _).alloc (by simp) _
  have kv := utfValid_any ⟨key.toArray⟩ ((w.alloc (.cells #[.string ⟨key.toArray⟩] 9)).alloc (.cells #[.bool false] 4)).drew ((hT.below hb2 (Nat.le_refl _)).below (Below.refl _ _).drew (Nat.le_refl _)) (by show key.length ≤ _; unfold maxLen; omega)
  rw [show (⟨key.toArray⟩ : ByteArray).data.toList = key from rfl, hv] at kv
  have KV := Lib.hid kv
  have hc2 := cell_al (.cells #[.bool false] 4) (cell_al (.cells #[.string ⟨key.toArray⟩] 9) hc0)
  have HC := Lib.hid (hR.cut (i := 1) (by omega) hcap)
  have HV := Lib.hid hv
  have hk2 : ((w.alloc (.cells #[.string ⟨key.toArray⟩] 9)).alloc (.cells #[.bool false] 4)).cell? ⟨w.heap.size, 0, none⟩ = some (.string ⟨key.toArray⟩) := by
    rw [Lib.cell_of_heap (heap_al _ (heap_nw _ rfl))]; rfl
  have ha1 : ((w.alloc (.cells #[.string ⟨key.toArray⟩] 9)).alloc (.cells #[.bool false] 4)).drew.heap[w.heap.size]? = some (.cells #[.string ⟨key.toArray⟩] 9 (0, 0)) := heap_al _ (heap_nw _ rfl)
  have ha2 : ((w.alloc (.cells #[.string ⟨key.toArray⟩] 9)).alloc (.cells #[.bool false] 4)).drew.heap[w.heap.size + 1]? = some (.cells #[.bool false] 4 (0, 0)) := heap_nw (w := w.alloc _) _ (by simp)
  have HA1 := Lib.hid ha1
  have HA2 := Lib.hid ha2
  have KC := Lib.hid (keepB ha1 ha2)
  clear hR hT hc kv hv ha1 ha2
  refine (callsIn_wide (n := 5)).1 ?_
  refine callsIn_of_wp_marks Tryd.func18 rfl trivial ?_ rfl
  simp only [Tryd.ntmps18, List.size_toArray, List.length_cons, List.length_nil, Nat.reduceAdd, Nat.reduceSub, Array.replicate_succ, Array.replicate_zero, List.push_toArray, List.append_toArray, List.nil_append, List.cons_append]
  have hmx : Tryd.prog.follows .mixedOrders = true := by kernel_rfl
  gi_wp2_with fail
  refine wpIn_mono (Q := fun e a W2 => e = Exit.normal ∧ a = ({ tmps := #[.slice (some ⟨b, off, none⟩) n cap, .string ⟨key.toArray⟩, undef, .pointer (some ⟨w.heap.size, 0, none⟩), .pointer (some ⟨w.heap.size + 1, 0, none⟩), undef, undef, undef, undef, undef, .slice (some ⟨b, off, none⟩) n cap, .int .i64 n, .bool false, .bool false, .slice (some ⟨b, off, none⟩) n cap, .pointer (some ⟨b, off, none⟩), .int .u8 34, .bool false, .bool false, .bool false, .string ⟨key.toArray⟩, .int .i64 key.length, .string ⟨key.toArray⟩, .int .i64 key.length, .bool false, .bool false, undef, undef, undef, undef, undef, undef, undef, undef, undef, undef, undef, undef, undef, undef, undef, undef, undef, undef, undef, undef, undef, undef, undef, undef, undef, undef, undef, undef, undef, undef, undef, undef, undef, undef, undef, undef, undef, undef, undef, undef], defers := [] } : Act) ∧ Below ((w.alloc (.cells #[.string ⟨key.toArray⟩] 9)).alloc (.cells #[.bool false] 4)).drew.heap.size ((w.alloc (.cells #[.string ⟨key.toArray⟩] 9)).alloc (.cells #[.bool false] 4)).drew W2) ?reg ?rest
  case reg =>
    first | (gi_region_with_o (refine ⟨trivial, ?_⟩; gi_at_call 16; refine (callsIn_wide.2 KV.out).mono ?_; rintro e w2 ⟨rfl, bv⟩; obtain ⟨d1, d2, g1, g2⟩ := KC.out w2 bv)) | fail
    all_goals exact ⟨rfl, rfl, bv⟩
  case rest =>
    rintro e a W2 ⟨rfl, rfl, bv⟩
    have j1 : W2.heap[w.heap.size]? = some (.cells #[.string ⟨key.toArray⟩] 9 (0, 0)) := (bv.block _ (Array.getElem?_eq_some_iff.1 HA1.out).1).trans HA1.out
    have j2 : W2.heap[w.heap.size + 1]? = some (.cells #[.bool false] 4 (0, 0)) := (bv.block _ (Array.getElem?_eq_some_iff.1 HA2.out).1).trans HA2.out
    have hB2 : Below w.heap.size w W2 := hb2.drew.trans (bv.mono hb2.size)
    have J1 := Lib.hid j1
    have J2 := Lib.hid j2
    have hz : w.heap.size + 1 < W2.heap.size := (Array.getElem?_eq_some_iff.1 j2).1
    clear j1 j2 bv KC
    gi_wp2_with fail
    refine ⟨trivial, callsIn_wide.2 ((quoPieces0_any _ _ _ _).mono ?_)⟩
    rintro e w' ⟨rfl, rfl⟩
    gi_wp2
    have hB4 : Below w.heap.size w ((W2.alloc (.cells #[.int .i64 1] 3)).alloc (.cells #[.slice (cutA (some ⟨b, off, none⟩) 1 cap) (n - 1) (cap - 1)] 26)) := (hB2.alloc hB2.size _).alloc (by simp; omega) _
    refine wpIn_rangeFunc_ownH rfl (by omega) (gf := 41) (lb := #[.pointer (some ⟨W2.heap.size + 1, 0, none⟩)]) rfl trivial (enters_of Tryd.func41 (by kernel_rfl) rfl)
      (quoPieces_in (W2.heap.size + 1) w.heap.size (cutA (some ⟨b, off, none⟩) 1 cap) (n - 1) (cap - 1) (l.drop 1) w _ rfl HT.out HC.out (by omega) (by omega) hB4 (heap_nw _ (by simp)) 4 (by omega))
      keepsP_t (keepsP_b hB4.size) (Below.refl _ _) (fun _ => rfl) (IsI w.heap.size W2.heap.size w key) (IsX w.heap.size W2.heap.size w key) (isI_own (Nat.le_refl _) hB4.size) (fun c => isX_own (Nat.le_refl _) hB4.size c)
      ⟨fun x hx => absurd hx List.not_mem_nil, ⟨key, (rfl : key = textP [] ++ key), HV.out, heap_al _ (heap_al _ J1.out)⟩, heap_al _ (heap_al _ J2.out), heap_al _ (heap_nw _ rfl), hB4⟩
      (fun x a' W => ∃ g, W2.heap.size < g ∧ OwnP W g x.1 ∧ a' = { tmps := #[.slice (some ⟨b, off, none⟩) n cap, .string ⟨key.toArray⟩, undef, .pointer (some ⟨w.heap.size, 0, none⟩), .pointer (some ⟨w.heap.size + 1, 0, none⟩), .pointer (some ⟨W2.heap.size, 0, none⟩), .pointer (some ⟨g, 0, none⟩), undef, undef, undef, .slice (some ⟨b, off, none⟩) n cap, .int .i64 n, .bool false, .bool false, .slice (some ⟨b, off, none⟩) n cap, .pointer (some ⟨b, off, none⟩), .int .u8 34, .bool false, .bool false, .bool false, .string ⟨key.toArray⟩, .int .i64 key.length, .string ⟨key.toArray⟩, .int .i64 key.length, .bool false, .bool false, .slice (some ⟨b, off, none⟩) n cap, .slice (cutA (some ⟨b, off, none⟩) 1 cap) (n - 1) (cap - 1), .func (.func 41) #[] #[.pointer (some ⟨W2.heap.size + 1, 0, none⟩)], pcVal x.1, undef, undef, undef, undef, undef, undef, undef, undef, undef, undef, undef, undef, undef, undef, undef, undef, undef, undef, undef, undef, undef, undef, undef, undef, undef, undef, undef, undef, undef, undef, undef, undef, undef, undef, undef, undef], defers := [] })
      ?ax ?assign ?body ?done ?stop
    case ax =>
      rintro x a' _ W W' row ⟨g, h1, h2, h3⟩ hg hr
      exact ⟨g, h1, grown_cells hg (fun r e => (hr r e).2) h2, h3⟩
    case assign =>
      intro L pre x W K hi hK
      obtain ⟨i1, ⟨rest, i2, i3, i4⟩, i5, i6, i7⟩ := hi
      have hW : W2.heap.size < W.heap.size := (Array.getElem?_eq_some_iff.1 i6).1
      unfold pcVal at hK ⊢
      have HK := Lib.hid hK
      have I2 := Lib.hid i2
      have I3 := Lib.hid i3
      clear hK i2 i3
      gi_wp2
      exact HK.out _ _ ((KeepsOthers.alloc _ _).from _) (keepsP_below ((Below.refl _ W).alloc (Nat.le_refl _) _) i7.size)
        ⟨i1, ⟨rest, I2.out, I3.out, heap_al _ i4⟩, heap_al _ i5, heap_al _ i6, i7.alloc i7.size _⟩ ⟨W.heap.size, hW, Own3.new _ W _ _ _, rfl⟩
    case body =>
      rintro L pre x a' W hL ⟨r, hr⟩ ⟨i1, ⟨rest, i2, i3, i4⟩, i5, i6, i7⟩ ⟨g, hg, hO, rfl⟩ hlt
      have hpl := piecesQ_len (l.drop 1)
      rw [List.length_drop, hl.out] at hpl
      have hS := sizeQ_le pre
      obtain ⟨⟨pt, sz, er⟩, hx⟩ := x
      have hx1 : sz ≤ 12 := hx.1
      have hx3 := (isPt_iff (pt : Int)).1 hx.2.2
      obtain ⟨k, hk⟩ : ∃ k, 1 + sizeP (valsQ pre) = k := ⟨_, rfl⟩
      rw [hk] at i6
      have hkb : k ≤ 211106232532993 := by omega
      have HK := Lib.hid hk
      have I1 := Lib.hid i1
      have I2 := Lib.hid i2
      have I3 := Lib.hid i3
      have hrl : rest.length ≤ 17592186044416 := by
        have := congrArg List.length i2
        rw [List.length_append] at this
        omega
      clear hS hpl hlt hk i1 i2 i3
      obtain ⟨c0, c1, c2, f0, f1, f2⟩ := Own3.cells hO
      have c6 : W.cell? ⟨W2.heap.size, 0, none⟩ = some (.int .i64 (k : Int)) := by rw [Lib.cell_of_heap i6]; rfl
      have f6 : W.frozen? ⟨W2.heap.size, 0, none⟩ = false := Lib.frozen_of_heap i6 0
      obtain ⟨W1, hW1⟩ : ∃ W1, W.setCell ⟨W2.heap.size, 0, none⟩ (.int .i64 ((k : Int) + (sz : Int))) = W1 := ⟨_, rfl⟩
      have hne : ∀ q, q ≠ W2.heap.size → W1.heap[q]? = W.heap[q]? := fun q hq => by rw [← hW1]; exact Below.heap_setCell W ⟨W2.heap.size, 0, none⟩ _ q (fun e => hq e)
      have j6 : W1.heap[W2.heap.size]? = some (.cells #[.int .i64 ((k : Int) + (sz : Int))] 3 (0, 0)) := by rw [← hW1]; exact heap_setCell_self i6 _
      have j4 := (hne w.heap.size (by omega)).trans i4
      have j5 := (hne (w.heap.size + 1) (by omega)).trans i5
      have jO : OwnP W1 g ⟨pt, sz, er⟩ := (hne g (by omega)).trans hO
      have hB1 : Below w.heap.size w W1 := by rw [← hW1]; exact i7.setCell (p := ⟨W2.heap.size, 0, none⟩) (by simp; omega) _
      have hK1 : KeepsOthers W W1 := by rw [← hW1]; exact KeepsOthers.setCell _ _ _
      have hP1 : KeepsP w.heap.size W W1 := by
        refine ⟨by rw [← hW1]; exact (Below.refl _ W).setCell (p := ⟨W2.heap.size, 0, none⟩) (by simp; omega) _, fun q c T hT hq => ?_⟩
        refine (hne q (fun e => ?_)).trans hq
        subst e; rw [i6] at hq; injection hq with hq; injection hq with _ hq _; rcases hT with rfl | rfl <;> exact absurd hq (by decide)
      have J4 := Lib.hid j4
      have J5 := Lib.hid j5
      have J6 := Lib.hid j6
      have JO := Lib.hid jO
      have d4 : W1.cell? ⟨w.heap.size, 0, none⟩ = some (.string ⟨rest.toArray⟩) := by rw [Lib.cell_of_heap j4]; rfl
      have d5 : W1.cell? ⟨w.heap.size + 1, 0, none⟩ = some (.bool false) := by rw [Lib.cell_of_heap j5]; rfl
      obtain ⟨e0, e1, e2, _, _, _⟩ := Own3.cells jO
      have g4 : W1.frozen? ⟨w.heap.size, 0, none⟩ = false := Lib.frozen_of_heap j4 0
      have g5 : W1.frozen? ⟨w.heap.size + 1, 0, none⟩ = false := Lib.frozen_of_heap j5 0
      clear hne j4 j5 j6 jO i4 i5 i6 hO
      have htx := textP_snoc (valsQ pre) ⟨pt, sz, er⟩
      have hsx := sizeP_snoc (valsQ pre) ⟨pt, sz, er⟩
      have hvs := valsQ_snoc pre ⟨⟨pt, sz, er⟩, hx⟩
      have HTX := Lib.hid htx
      have HSX := Lib.hid hsx
      have HVS := Lib.hid hvs
      clear htx hsx hvs
      by_cases he : er = 0
      · have hd : ((er : Int) != 0) = false := by rw [he]; rfl
        have HE := Lib.hid he
        clear he
        by_cases hs : sz = 0
        · have hsd : ((sz : Int) == 0) = true := by rw [hs]; rfl
          have HS := Lib.hid hs
          clear hs
          gi_wp2
          refine ⟨hK1.from _, ⟨⟨pre, ⟨⟨pt, sz, er⟩, hx⟩, rfl, I1.out, .inr ⟨rfl, HE.out, HS.out, ⟨rest, I2.out, J4.out⟩, J5.out, ?_⟩⟩, hB1⟩⟩
          have := J6.out
          rw [HS.out] at this
          rw [HK.out]
          simpa using this
        · have hsd : ((sz : Int) == 0) = false := eq_false_of (k := 0) hs
          have HS := Lib.hid (show 0 < sz by omega)
          clear hs
          have kd := fun (w' : World) (ht : Tabs w') => utfDecode_any ⟨rest.toArray⟩ w' ht
          have hdv : decVal rest = .tuple #[.int .i64 ((dec rest).1 : Int), .int .i64 ((dec rest).2 : Int), .bool (decOk rest)] := rfl
          rw [show (⟨rest.toArray⟩ : ByteArray).data.toList = rest from rfl, hdv] at kd
          clear hdv
          have KD := Lib.hid kd
          clear kd
          gi_wp2_with fail
          refine ⟨trivial, (CallsIn.inRound L (callsIn_wide.2 (KD.out W1 (HT.out.below hB1 (Nat.le_refl _))))).mono ?_⟩
          rintro e W5 ⟨rfl, hb5⟩
          have hdn : (dec rest).2 ≤ rest.length := by
            by_cases h0 : rest.length = 0
            · unfold dec; rw [if_pos h0]; exact Nat.zero_le _
            · exact (dec_n rest h0).2.2
          have hsl := sl_str rest (dec rest).2 hdn
          have hvo : rest.length ≠ 0 → decOk rest = true ∧ valid (rest.drop (dec rest).2) = (rest.drop (dec rest).2).length ∧ rest = enc ((dec rest).1 : Int) ++ rest.drop (dec rest).2 := fun h0 => valid_ok rest I3.out h0
          have hok0 : decOk rest = true → rest.length ≠ 0 := fun h h0 => by
            have : rest = [] := List.eq_nil_of_length_eq_zero h0
            rw [this] at h; exact absurd h (by decide)
          have hpre : ∀ r, key = textP (valsQ (pre ++ [⟨⟨pt, sz, er⟩, hx⟩])) ++ r → rest = enc (pt : Int) ++ r := fun r h => by
            rw [HVS.out, HTX.out, if_pos HS.out, List.append_assoc] at h
            exact List.append_cancel_left (I2.out.symm.trans h)
          have HPRE := Lib.hid hpre
          have HVO := Lib.hid hvo
          have HOK := Lib.hid hok0
          have hdenc : ∀ r, rest = enc (pt : Int) ++ r → (dec rest).1 = pt ∧ rest.length ≠ 0 := fun r h => by
            rw [h, enc_dec _ hx.2.2, Int.toNat_natCast]
            exact ⟨rfl, by rw [List.length_append]; have := (enc_pos (pt : Int)).1; omega⟩
          have HDE := Lib.hid hdenc
          have hb3 : Below w.heap.size w W5 := hB1.trans (hb5.mono hB1.size)
          have k4 : W5.heap[w.heap.size]? = some (.cells #[.string ⟨rest.toArray⟩] 9 (0, 0)) := (hb5.block _ (Array.getElem?_eq_some_iff.1 J4.out).1).trans J4.out
          have k5 : W5.heap[w.heap.size + 1]? = some (.cells #[.bool false] 4 (0, 0)) := (hb5.block _ (Array.getElem?_eq_some_iff.1 J5.out).1).trans J5.out
          have k6 : W5.heap[W2.heap.size]? = some (.cells #[.int .i64 ((k : Int) + (sz : Int))] 3 (0, 0)) := (hb5.block _ (Array.getElem?_eq_some_iff.1 J6.out).1).trans J6.out
          have kO : OwnP W5 g ⟨pt, sz, er⟩ := (hb5.block _ (Array.getElem?_eq_some_iff.1 JO.out).1).trans JO.out
          have q4 : W5.cell? ⟨w.heap.size, 0, none⟩ = some (.string ⟨rest.toArray⟩) := by rw [Lib.cell_of_heap k4]; rfl
          have q5 : W5.cell? ⟨w.heap.size + 1, 0, none⟩ = some (.bool false) := by rw [Lib.cell_of_heap k5]; rfl
          obtain ⟨y0, y1, y2, _, _, _⟩ := Own3.cells kO
          have r4 : W5.frozen? ⟨w.heap.size, 0, none⟩ = false := Lib.frozen_of_heap k4 0
          have r5 : W5.frozen? ⟨w.heap.size + 1, 0, none⟩ = false := Lib.frozen_of_heap k5 0
          have KK4 := Lib.hid k4
          have KK5 := Lib.hid k5
          have KK6 := Lib.hid k6
          have hK5 : KeepsOthers W W5 := hK1.trans (below_others hb5)
          have hP5 : KeepsP w.heap.size W W5 := keepsP_t hP1 (keepsP_below hb5 hB1.size)
          clear hvo hok0 hpre hdenc k4 k5 k6 kO hdn KD
          generalize hD : dec rest = D at hsl HVO HDE
          generalize hO : decOk rest = O at HVO HOK
          obtain ⟨p0, n0⟩ := D
          have HD := Lib.hid hD
          have HO2 := Lib.hid hO
          clear hD hO
          simp only [] at hsl
          cases O with
          | false =>
            gi_wp2
            refine ⟨(hK5.trans (KeepsOthers.setCell _ _ _)).from _, ⟨⟨pre, ⟨⟨pt, sz, er⟩, hx⟩, rfl, I1.out, .inl ⟨rfl, .inr ⟨HS.out, fun ⟨r, hr⟩ => ?_⟩, heap_setCell_self KK5.out _⟩⟩, hb3.setCell (p := ⟨w.heap.size + 1, 0, none⟩) (by simp) _⟩⟩
            exact absurd (HVO.out (HDE.out r (HPRE.out r hr)).2).1 (by decide)
          | true =>
            have HN := Lib.hid (HOK.out rfl)
            by_cases hp : p0 = pt
            · have dp : ((p0 : Int) != (pt : Int)) = false := by rw [hp]; simp
              have HP := Lib.hid hp
              clear hp
              gi_wp2
              obtain ⟨_, v2, v3⟩ := HVO.out HN.out
              refine ⟨(hK5.trans (KeepsOthers.setCell _ _ _)).from _, keepsP_t hP5 (keepsP_str KK4.out (Nat.le_refl _) _), ?_, ⟨rest.drop n0, ?_, v2, heap_setCell_self KK4.out _⟩, (Below.heap_setCell _ _ _ _ (by simp)).trans KK5.out, ?_, hb3.setCell (p := ⟨w.heap.size, 0, none⟩) (Nat.le_refl _) _⟩
              · exact fun x hxm => (List.mem_append.1 hxm).elim (I1.out x) (fun h => by rw [List.mem_singleton.1 h]; exact ⟨HE.out, HS.out⟩)
              · rw [HVS.out, HTX.out, if_pos HS.out, List.append_assoc, ← HP.out, ← v3]; exact I2.out
              · rw [HVS.out, HSX.out, ← Nat.add_assoc, HK.out]; exact (Below.heap_setCell _ _ _ _ (by simp; omega)).trans KK6.out
            · have dp : ((p0 : Int) != (pt : Int)) = true := by simp; omega
              have HP := Lib.hid hp
              clear hp
              gi_wp2
              refine ⟨(hK5.trans (KeepsOthers.setCell _ _ _)).from _, ⟨⟨pre, ⟨⟨pt, sz, er⟩, hx⟩, rfl, I1.out, .inl ⟨rfl, .inr ⟨HS.out, fun ⟨r, hr⟩ => HP.out (HDE.out r (HPRE.out r hr)).1⟩, heap_setCell_self KK5.out _⟩⟩, hb3.setCell (p := ⟨w.heap.size + 1, 0, none⟩) (by simp) _⟩⟩
      · have hd : ((er : Int) != 0) = true := by simp; omega
        have HE := Lib.hid he
        clear he
        gi_wp2
        refine ⟨(hK1.trans (KeepsOthers.setCell _ _ _)).from _, ⟨⟨pre, ⟨⟨pt, sz, er⟩, hx⟩, rfl, I1.out, .inl ⟨rfl, .inl HE.out, heap_setCell_self J5.out _⟩⟩, hB1.setCell (p := ⟨w.heap.size + 1, 0, none⟩) (by simp) _⟩⟩
    case done =>
      rintro D ys W hD rfl ⟨i1, _⟩ hK
      exfalso
      obtain ⟨p, hp, hlast⟩ := piecesQ_ends (l.drop 1)
      have := i1 p hp
      unfold lastP at hlast
      omega
    case stop =>
      have HRV := Lib.hid (readP_yes l (by rw [hl.out]; omega) hq)
      have HIP := Lib.hid (isP_yes l key (by rw [hl.out]; omega) hq HV.out)
      rintro D c pre W hD hpf ⟨⟨q, p, rfl, hq0, hcases⟩, i7⟩ hK
      have hwD : w.heap.size ≤ D := by have := hB2.size; simp at hD; omega
      have Q0 := Lib.hid hq0
      have HPF := Lib.hid hpf
      clear hq0 hpf
      rcases hcases with ⟨rfl, hno, i5⟩ | ⟨rfl, he, hs, ⟨rest, hkey, i4⟩, i5, i6⟩
      · have hisf : isP l key = false := by
          refine isP_no l key (fun h => ?_)
          rw [HRV.out] at h
          by_cases hE : errP (piecesP (l.drop 1)) ≠ 0
          · rw [if_pos hE] at h
            exact hE (by injection h with _ h; injection h)
          · rw [if_neg hE] at h
            have htk : textP (piecesP (l.drop 1)) = key := by injection h
            rcases hno with he | ⟨_, hno⟩
            · apply hE
              rw [piecesQ_stop (l.drop 1) q p HPF.out he, valsQ_snoc, errP_snoc _ _ (fun x hx => by
                obtain ⟨y, hy, rfl⟩ := List.mem_map.1 hx
                exact (Q0.out y hy).1) he]
              exact he
            · obtain ⟨r, hr⟩ := textP_prefix (l.drop 1) (q ++ [p]) HPF.out
              exact hno ⟨r, by rw [← htk]; exact hr⟩
        have HIS := Lib.hid hisf
        clear hisf hno
        gi_wp2
        exact is_end rfl i5 hK hwD i7 HIS.out
      · have hps := piecesQ_stopL (l.drop 1) q p HPF.out (.inr hs)
        have hE : errP (piecesP (l.drop 1)) = 0 := by
          refine errP_none _ (fun x hx => ?_)
          rw [hps, valsQ_snoc] at hx
          rcases List.mem_append.1 hx with hx | hx
          · obtain ⟨y, hy, rfl⟩ := List.mem_map.1 hx
            exact (Q0.out y hy).1
          · rw [List.mem_singleton.1 hx]; exact he
        have hrd : readP l = (textP (valsQ q), 2 + sizeP (valsQ q), 0) := by
          rw [HRV.out, if_neg (fun h => h hE), hps, valsQ_snoc, textP_snoc, sizeP_snoc, hs, if_neg (by decide), List.append_nil]; rfl
        have hsz : sizeP (valsQ q) ≤ 211106232532992 := by
          have h1 := sizeQ_le q
          have h2 := piecesQ_len (l.drop 1)
          rw [List.length_drop, hl.out] at h2
          have h3 := HPF.out.length_le
          rw [List.length_append, List.length_singleton] at h3
          omega
        have hisv : isP l key = (decide (rest = []) && decide (2 + sizeP (valsQ q) = n)) := by
          rw [HIP.out, hrd, hkey, hl.out]
          by_cases h1 : rest = []
          · subst h1
            by_cases h2 : 2 + sizeP (valsQ q) = n
            · rw [decide_eq_true h2, decide_eq_true (by rw [List.append_nil, h2])]; simp
            · rw [decide_eq_false h2, decide_eq_false (fun h => h2 (by injection h with _ h; injection h)), Bool.and_false]
          · rw [decide_eq_false h1, decide_eq_false (fun h => h1 (by
              injection h with h _
              have := congrArg List.length h
              rw [List.length_append] at this
              exact List.eq_nil_of_length_eq_zero (by omega))), Bool.false_and]
        have HIS := Lib.hid hisv
        obtain ⟨k, hk⟩ : ∃ k, 1 + sizeP (valsQ q) = k := ⟨_, rfl⟩
        rw [hk] at i6
        have HK := Lib.hid hk
        have hkb : k ≤ 211106232532993 := by omega
        have c4 : W.cell? ⟨w.heap.size, 0, none⟩ = some (.string ⟨rest.toArray⟩) := by rw [Lib.cell_of_heap i4]; rfl
        have c5 : W.cell? ⟨w.heap.size + 1, 0, none⟩ = some (.bool false) := by rw [Lib.cell_of_heap i5]; rfl
        have c6 : W.cell? ⟨W2.heap.size, 0, none⟩ = some (.int .i64 (k : Int)) := by rw [Lib.cell_of_heap i6]; rfl
        have g5 : W.frozen? ⟨w.heap.size + 1, 0, none⟩ = false := Lib.frozen_of_heap i5 0
        have HI5 := Lib.hid i5
        clear hps hE hrd hsz hisv hk hkey he hs i4 i5 i6
        cases rest with
        | nil =>
          have hte : (([] : List UInt8).toArray) = #[] := rfl
          rw [hte] at c4
          clear hte
          by_cases hn2 : k + 1 = n
          · have dn : ((k : Int) + 1 == (n : Int)) = true := by simp; omega
            have HN2 := Lib.hid hn2
            clear hn2
            gi_wp2
            exact is_end (v := true) rfl (heap_setCell_self HI5.out _) ((KeepsOthers.setCell _ _ _).same D _ hK rfl) hwD (i7.setCell (p := ⟨w.heap.size + 1, 0, none⟩) (by simp) _) (by
              rw [HIS.out, decide_eq_true (p := 2 + sizeP (valsQ q) = n) (by have := HN2.out; have := HK.out; omega)]; rfl)
          · have dn : ((k : Int) + 1 == (n : Int)) = false := by simp; omega
            have HN2 := Lib.hid hn2
            clear hn2
            gi_wp2
            exact is_end (v := false) rfl (heap_setCell_self HI5.out _) ((KeepsOthers.setCell _ _ _).same D _ hK rfl) hwD (i7.setCell (p := ⟨w.heap.size + 1, 0, none⟩) (by simp) _) (by
              rw [HIS.out, decide_eq_false (p := 2 + sizeP (valsQ q) = n) (fun h => HN2.out (by have := HK.out; omega))]; rfl)
        | cons x r =>
          gi_wp2
          exact is_end (v := false) rfl (heap_setCell_self HI5.out _) ((KeepsOthers.setCell _ _ _).same D _ hK rfl) hwD (i7.setCell (p := ⟨w.heap.size + 1, 0, none⟩) (by simp) _) (by
            rw [HIS.out, decide_eq_false (p := (x :: r) = []) (by simp), Bool.false_and])

end Go.Proofs.YtojapomkmfbciaaDoor
