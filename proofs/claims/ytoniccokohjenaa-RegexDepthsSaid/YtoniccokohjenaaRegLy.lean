/-
  Trees that come in, whatever their kinds: how they lie, both Depths of them, the law RegexDepths (chapter 18).
-/
import Derived.Test.YtoniccokohjenaaRegLc
namespace Go.Proofs.Ytoniccokohjenaa
open Go.RowKit

/-- a part of whatever kind -/
inductive Ry where
  | mk (kind rune tt : Int) (kids : List Ry) (min max : Int) (lazy not : Bool) (group : Int) (name : List UInt8)
namespace Ry
def kind : Ry → Int | mk k _ _ _ _ _ _ _ _ _ => k
def rune : Ry → Int | mk _ r _ _ _ _ _ _ _ _ => r
def tto : Ry → Int | mk _ _ t _ _ _ _ _ _ _ => t
def kids : Ry → List Ry | mk _ _ _ k _ _ _ _ _ _ => k
def min : Ry → Int | mk _ _ _ _ m _ _ _ _ _ => m
def max : Ry → Int | mk _ _ _ _ _ m _ _ _ _ => m
def lazy : Ry → Bool | mk _ _ _ _ _ _ z _ _ _ => z
def not : Ry → Bool | mk _ _ _ _ _ _ _ n _ _ => n
def group : Ry → Int | mk _ _ _ _ _ _ _ _ g _ => g
def name : Ry → List UInt8 | mk _ _ _ _ _ _ _ _ _ n => n
end Ry
/-- the cells of a part whose kids lie at kv -/
def ryCells (t : Ry) (kv : Value) : List Value := [.int .i64 t.kind, .int .i64 t.rune, .int .i64 t.tto, kv, .int .i64 t.min, .int .i64 t.max, .bool t.lazy, .bool t.not, .int .i64 t.group, .string ⟨t.name.toArray⟩]
def ryAgg (t : Ry) (kv : Value) : Value := .agg #[.int .i64 t.kind, .int .i64 t.rune, .int .i64 t.tto, kv, .int .i64 t.min, .int .i64 t.max, .bool t.lazy, .bool t.not, .int .i64 t.group, .string ⟨t.name.toArray⟩]
/-- parts that lie as kids at kv, within so many levels, in blocks of F -/
def KVy (F : Nat → Prop) (w : World) : Nat → List Ry → Value → Prop
  | 0, ks, kv => ks = [] ∧ ∃ A cap, kv = .slice A 0 cap
  | n + 1, ks, kv => ∃ A cap, kv = .slice A ks.length cap ∧ (ks ≠ [] → ∃ q o c T z, A = some ⟨q, o, none⟩ ∧ F q ∧ w.heap[q]? = some (.cells c T z) ∧ ∀ i t, ks[i]? = some t → ∃ kw, (∀ j v, (ryCells t kw)[j]? = some v → c[o + (i * 10 + j)]? = some v) ∧ KVy F w n t.kids kw)

section
variable {F G : Nat → Prop} {w w' : World}
theorem KVy.kept (hF : ∀ q c T z, F q → w.heap[q]? = some (.cells c T z) → w'.heap[q]? = some (.cells c T z) ∧ G q) : ∀ (n : Nat) (ks : List Ry) (kv : Value), KVy F w n ks kv → KVy G w' n ks kv
  | 0, _, _, h => h
  | n + 1, ks, kv, ⟨A, cap, e, h2⟩ => ⟨A, cap, e, fun hn => by
    obtain ⟨q, o, c, T, z, h3, h4, hh, h5⟩ := h2 hn
    have hq := hF q c T z h4 hh
    refine ⟨q, o, c, T, z, h3, hq.2, hq.1, fun i t hi => ?_⟩
    obtain ⟨kw, h6, h7⟩ := h5 i t hi
    exact ⟨kw, h6, KVy.kept hF n t.kids kw h7⟩⟩
/-- how a part's kids lie: within some levels -/
def KXy (F : Nat → Prop) (w : World) (t : Ry) (kv : Value) : Prop := ∃ n, KVy F w n t.kids kv
theorem KXy.kept {t : Ry} {kv : Value} (hF : ∀ q c T z, F q → w.heap[q]? = some (.cells c T z) → w'.heap[q]? = some (.cells c T z) ∧ G q) (h : KXy F w t kv) : KXy G w' t kv := by
  obtain ⟨n, h⟩ := h; exact ⟨n, KVy.kept hF n _ _ h⟩
theorem KXy.slice {t : Ry} {kv : Value} (h : KXy F w t kv) : ∃ A cap, kv = .slice A t.kids.length cap := by
  obtain ⟨n, h⟩ := h
  cases n with
  | zero => obtain ⟨h0, A, cap, e⟩ := h; exact ⟨A, cap, by rw [h0]; exact e⟩
  | succ n => obtain ⟨A, cap, e, _⟩ := h; exact ⟨A, cap, e⟩
end
theorem KXy.below {F : Nat → Prop} {w w' : World} {t : Ry} {kv : Value} (h : KXy F w t kv) (hb : Below w.heap.size w w') : KXy F w' t kv :=
  h.kept fun q _ _ _ hq hh => ⟨by rw [hb.block q (Array.getElem?_eq_some_iff.1 hh).1]; exact hh, hq⟩
/-- the parts of a part where they lie -/
theorem KXy.view {F : Nat → Prop} {w : World} {t : Ry} {kv : Value} (h : KXy F w t kv) (hne : t.kids ≠ []) :
    ∃ q o cap, kv = .slice (some ⟨q, o, none⟩) t.kids.length cap ∧ F q ∧ q < w.heap.size ∧ ∀ i k, t.kids[i]? = some k → ∃ A n c, w.rangeAt q (o + i * 10) (ryCells k (.slice A n c)) ∧ n = k.kids.length ∧ KXy F w k (.slice A n c) := by
  obtain ⟨n, h⟩ := h
  cases n with
  | zero => exact absurd h.1 hne
  | succ n =>
    obtain ⟨A, cap, e, h2⟩ := h
    obtain ⟨q, o, c, T, z, rfl, hF, hh, hk⟩ := h2 hne
    refine ⟨q, o, cap, e, hF, (Array.getElem?_eq_some_iff.1 hh).1, fun i k hi => ?_⟩
    obtain ⟨kw, hc, hkv⟩ := hk i k hi
    have hkx : KXy F w k kw := ⟨n, hkv⟩
    obtain ⟨A', c', rfl⟩ := hkx.slice
    exact ⟨A', _, c', fun j v hj => by rw [Lib.cell_of_heap hh, Nat.add_assoc]; exact hc j v hj, rfl, hkx⟩

abbrev KTy (w : World) (t : Ry) (A : Option Addr) (c : Nat) : Prop := KXy (fun _ => True) w t (.slice A t.kids.length c)
/-- the parts of a part, one by one -/
theorem KTy.kid {w : World} {t : Ry} {A : Option Addr} {c : Nat} (h : KTy w t A c) (hne : t.kids ≠ []) : ∃ q o, A = some ⟨q, o, none⟩ ∧ ∀ i k, t.kids[i]? = some k → ∃ A' c', w.rangeAt q (o + i * 10) (ryCells k (.slice A' k.kids.length c')) ∧ KTy w k A' c' := by
  obtain ⟨q, o, cap, e, _, _, hv⟩ := h.view hne
  injection e with e _ _
  refine ⟨q, o, e, fun i k hi => ?_⟩
  obtain ⟨A', n, c', h1, rfl, h2⟩ := hv i k hi
  exact ⟨A', c', h1, h2⟩

theorem ry_at {w : World} {q o : Nat} {k : Ry} {A : Option Addr} {c : Nat} (h : w.rangeAt q o (ryCells k (.slice A k.kids.length c))) : w.cell? ⟨q, o, none⟩ = some (.int .i64 k.kind) ∧ w.cell? ⟨q, o + 1, none⟩ = some (.int .i64 k.rune) ∧ w.cell? ⟨q, o + 2, none⟩ = some (.int .i64 k.tto) ∧ w.cell? ⟨q, o + 3, none⟩ = some (.slice A k.kids.length c) ∧ w.cell? ⟨q, o + 4, none⟩ = some (.int .i64 k.min) ∧ w.cell? ⟨q, o + 5, none⟩ = some (.int .i64 k.max) ∧ w.cell? ⟨q, o + 6, none⟩ = some (.bool k.lazy) ∧ w.cell? ⟨q, o + 7, none⟩ = some (.bool k.not) ∧ w.cell? ⟨q, o + 8, none⟩ = some (.int .i64 k.group) ∧ w.cell? ⟨q, o + 9, none⟩ = some (.string ⟨k.name.toArray⟩) :=
  ⟨h 0 _ rfl, h 1 _ rfl, h 2 _ rfl, h 3 _ rfl, h 4 _ rfl, h 5 _ rfl, h 6 _ rfl, h 7 _ rfl, h 8 _ rfl, h 9 _ rfl⟩
/-- a part in a variable of its own -/
structure PVy (w : World) (b : Nat) (X : Ry) (A : Option Addr) (c : Nat) : Prop where
  heap : w.heap[b]? = some (.cells (ryCells X (.slice A X.kids.length c)).toArray TRx (0, 0))
  kids : KXy (fun _ => True) w X (.slice A X.kids.length c)
theorem PVy.made {F : Nat → Prop} {w : World} {X : Ry} {A : Option Addr} {c : Nat} (h : KXy F w X (.slice A X.kids.length c)) : PVy (w.alloc (.cells (ryCells X (.slice A X.kids.length c)).toArray TRx)) w.heap.size X A c :=
  ⟨Go.heap_alloc_new w _, h.kept fun q _ _ _ _ hh => ⟨(Below.heap_alloc w _ q (Array.getElem?_eq_some_iff.1 hh).1).trans hh, trivial⟩⟩
theorem PVy.below {w w' : World} {b : Nat} {X : Ry} {A : Option Addr} {c : Nat} (h : PVy w b X A c) (hb : Below w.heap.size w w') : PVy w' b X A c :=
  ⟨(hb.block b (Array.getElem?_eq_some_iff.1 h.heap).1).trans h.heap, h.kids.below hb⟩
theorem PVy.cell {w : World} {b : Nat} {X : Ry} {A : Option Addr} {c : Nat} (h : PVy w b X A c) {j : Nat} {v : Value} (hj : (ryCells X (.slice A X.kids.length c))[j]? = some v) : w.cell? ⟨b, j, none⟩ = some v := by
  rw [Lib.cell_of_heap h.heap]; simpa using hj
theorem PVy.all {w : World} {b : Nat} {X : Ry} {A : Option Addr} {c : Nat} (h : PVy w b X A c) : w.cell? ⟨b, 0, none⟩ = some (.int .i64 X.kind) ∧ w.cell? ⟨b, 1, none⟩ = some (.int .i64 X.rune) ∧ w.cell? ⟨b, 2, none⟩ = some (.int .i64 X.tto) ∧ w.cell? ⟨b, 3, none⟩ = some (.slice A X.kids.length c) ∧ w.cell? ⟨b, 4, none⟩ = some (.int .i64 X.min) ∧ w.cell? ⟨b, 5, none⟩ = some (.int .i64 X.max) ∧ w.cell? ⟨b, 6, none⟩ = some (.bool X.lazy) ∧ w.cell? ⟨b, 7, none⟩ = some (.bool X.not) ∧ w.cell? ⟨b, 8, none⟩ = some (.int .i64 X.group) ∧ w.cell? ⟨b, 9, none⟩ = some (.string ⟨X.name.toArray⟩) :=
  ⟨h.cell (j := 0) rfl, h.cell (j := 1) rfl, h.cell (j := 2) rfl, h.cell (j := 3) rfl, h.cell (j := 4) rfl, h.cell (j := 5) rfl, h.cell (j := 6) rfl, h.cell (j := 7) rfl, h.cell (j := 8) rfl, h.cell (j := 9) rfl⟩
/-- at most m parts at each place -/
inductive Sy (m : Nat) : Ry → Prop where
  | mk {t : Ry} : t.kids.length ≤ m → (∀ k ∈ t.kids, Sy m k) → Sy m t
theorem Sy.len {m : Nat} {t : Ry} (h : Sy m t) : t.kids.length ≤ m := by cases h; assumption
theorem Sy.kid {m : Nat} {t : Ry} (h : Sy m t) : ∀ k ∈ t.kids, Sy m k := by cases h; assumption
/-- how deep, so many levels left -/
def depthY : Nat → Ry → Nat
  | 0, _ => 1
  | n + 1, t => t.kids.foldl (fun m k => max m (depthY n k)) 0 + 1
def maxDy (n : Nat) (ks : List Ry) (m : Nat) : Nat := ks.foldl (fun m k => max m (depthY n k)) m
theorem maxDy_cons (n : Nat) (k : Ry) (ks : List Ry) (m : Nat) : maxDy n (k :: ks) m = maxDy n ks (max m (depthY n k)) := rfl
theorem depthY_le : ∀ (n : Nat) (t : Ry), depthY n t ≤ n + 1
  | 0, _ => Nat.le_refl _
  | n + 1, t => by
    have h : ∀ (ks : List Ry) (m : Nat), m ≤ n + 1 → maxDy n ks m ≤ n + 1 := by
      intro ks
      induction ks with
      | nil => intro m hm; exact hm
      | cons k ks ih => intro m hm; rw [maxDy_cons]; exact ih _ (by have := depthY_le n k; omega)
    have := h t.kids 0 (by omega)
    show maxDy n t.kids 0 + 1 ≤ _
    omega

set_option maxHeartbeats 4000000 in
set_option maxRecDepth 100000 in
theorem ryDepth_any : ∀ (left : Nat) (t : Ry) (A : Option Addr) (c : Nat) (w : World), left ≤ 2000 → Sy maxLen t → KTy w t A c → Calls Try.prog 33 #[ryAgg t (.slice A t.kids.length c), .int .i64 (left : Int)] w (RetE (.int .i64 (depthY left t : Int)) fun w' => Below w.heap.size w w')
  | 0, t, A, c, w, hl, hs, h => by
    simp only [ryAgg]
    go_enter Try.func33, Try.ntmps33
    go_wp2
    go_ret
    exact ⟨rfl, (Below.refl _ w).alloc (Nat.le_refl _) _⟩
  | left + 1, t, A, c, w, hl, hs, h => by
    have IH := Lib.hid (fun (k : Ry) (hk : k ∈ t.kids) (A : Option Addr) (c : Nat) (w : World) (h : KTy w k A c) => ryDepth_any left k A c w (by omega) (hs.kid k hk) h)
    have H1 := Lib.hid h
    have hn0 := hs.len
    have hd : depthY (left + 1) t = maxDy left t.kids 0 + 1 := rfl
    rw [hd]
    clear h hs hd
    obtain ⟨M, hM⟩ : ∃ M, M = maxDy left t.kids 0 := ⟨_, rfl⟩
    rw [← hM]
    have HMX := Lib.hid hM
    clear hM
    generalize hn : t.kids.length = n at *
    have HN := Lib.hid hn
    have hmax : n ≤ 9223372036854775807 := by unfold maxLen at hn0; exact hn0
    clear hn hn0
    have zl : ((left + 1 : Nat) : Int) ≠ 0 := by omega
    have zl2 : (((left + 1 : Nat) : Int) == 0) = false := beq_false_of_ne zl
    obtain ⟨lf, hlf⟩ : ∃ lf : Int, lf = ((left + 1 : Nat) : Int) := ⟨_, rfl⟩
    have hl1 : lf - 1 = (left : Int) := by omega
    have hlr : 1 ≤ lf ∧ lf ≤ 2000 := by omega
    rw [← hlf] at zl zl2 ⊢
    clear hlf
    have hx0 : (w.alloc (.cells (ryCells t (.slice A n c)).toArray TRx)).heap[w.heap.size]? = some (.cells (ryCells t (.slice A n c)).toArray TRx (0, 0)) := Go.heap_alloc_new w _
    have hb0 : Below w.heap.size w (w.alloc (.cells (ryCells t (.slice A n c)).toArray TRx)) := (Below.refl _ w).alloc (Nat.le_refl _) _
    have B0 := Lib.hid hb0
    clear hx0 hb0
    simp only [ryAgg]
    go_enter Try.func33, Try.ntmps33
    go_wp2
    go_loopg [5, 13] (n + 1) (fun kx v5 v13 wr => ∃ i m : Nat, v13 = .int .i64 (i : Int) ∧ v5 = .int .i64 (m : Int) ∧ m ≤ 2001 ∧ i ≤ n ∧ n - i ≤ kx ∧ Hid (M = maxDy left (t.kids.drop i) m) ∧ Below w.heap.size w wr)
    case atStart => exact ⟨0, 0, rfl, rfl, by omega, Nat.zero_le _, by omega, HMX, B0.out⟩
    case round =>
      obtain ⟨i, m, rfl, rfl, hm, hi, hik, hrel, hb⟩ := hrel
      have HB := Lib.hid hb
      clear hb
      by_cases hlt : i < n
      · have z1 : decide ((i : Int) < (n : Int)) = true := decide_eq_true (by omega)
        have hne : t.kids ≠ [] := fun e => by have := HN.out; rw [e] at this; simp at this; omega
        obtain ⟨q1, o1, rfl, hv1⟩ := KTy.kid (KXy.below H1.out HB.out) hne
        have hlt' : i < t.kids.length := by rw [HN.out]; exact hlt
        obtain ⟨k, hk⟩ : ∃ k, k = t.kids[i] := ⟨_, rfl⟩
        have hki : t.kids[i]? = some k := by rw [hk]; exact List.getElem?_eq_getElem hlt'
        have hkm : k ∈ t.kids := List.mem_of_getElem? hki
        have hdr : t.kids.drop i = k :: t.kids.drop (i + 1) := by rw [hk]; exact List.drop_eq_getElem_cons hlt'
        have HST := Lib.hid (show M = maxDy left (t.kids.drop (i + 1)) (max m (depthY left k)) by rw [hrel.out, hdr, maxDy_cons])
        have hdl := depthY_le left k
        obtain ⟨A1, c1', r1, k1'⟩ := hv1 i k hki
        have KC := Lib.hid (fun (W : World) (h : KTy W k A1 c1') => IH.out k hkm A1 c1' W h)
        have K1 := Lib.hid k1'
        clear hv1 hk hki hkm k1' hne hdr hrel
        generalize depthY left k = dk at *
        obtain ⟨e0, e1, e2, e3, e4, e5, e6, e7, e8, e9⟩ := ry_at r1
        clear r1
        have i0 : (0 : Int) ≤ (i : Int) := by omega
        have i1 : (i : Int) < (n : Int) := by omega
        simp only [ryAgg] at KC
        have hws := HB.out.size
        go_wp2_with (go_at_call 33; refine (KC.out _ (KXy.below K1.out ((Below.refl _ wr).alloc (Nat.le_refl _) _))).mono ?_)
        rintro e w3 ⟨rfl, hb3⟩
        have hb4 := Lib.hid ((HB.out.alloc hws _).trans (hb3.mono (by rw [World.size_alloc]; omega)))
        clear hb3
        go_wp2_with fail
        go_roundg (n - (i + 1))
        case measure => omega
        case rel => exact ⟨i + 1, max m dk, by go_num, by go_num, by omega, by omega, Nat.le_refl _, HST, hb4.out⟩
      · have z1 : decide ((i : Int) < (n : Int)) = false := decide_eq_false (by omega)
        have hme : M = m := by rw [hrel.out, List.drop_eq_nil_of_le (by rw [HN.out]; omega)]; rfl
        have HME := Lib.hid hme
        clear hrel hme
        go_wp2
        go_ret
        exact ⟨by rw [HME.out]; go_num, HB.out⟩

set_option maxHeartbeats 4000000 in
set_option maxRecDepth 100000 in
theorem ryRefDepth_any : ∀ (left : Nat) (t : Ry) (A : Option Addr) (c : Nat) (w : World), left ≤ 2000 → Sy maxLen t → KTy w t A c → Calls Try.prog 19 #[ryAgg t (.slice A t.kids.length c), .int .i64 (left : Int)] w (RetE (.int .i64 (depthY left t : Int)) fun w' => Below w.heap.size w w')
  | 0, t, A, c, w, hl, hs, h => by
    simp only [ryAgg]
    go_enter Try.func19, Try.ntmps19
    go_wp2
    go_ret
    exact ⟨rfl, (Below.refl _ w).alloc (Nat.le_refl _) _⟩
  | left + 1, t, A, c, w, hl, hs, h => by
    have IH := Lib.hid (fun (k : Ry) (hk : k ∈ t.kids) (A : Option Addr) (c : Nat) (w : World) (h : KTy w k A c) => ryRefDepth_any left k A c w (by omega) (hs.kid k hk) h)
    have H1 := Lib.hid h
    have hn0 := hs.len
    have hd : depthY (left + 1) t = maxDy left t.kids 0 + 1 := rfl
    rw [hd]
    clear h hs hd
    obtain ⟨M, hM⟩ : ∃ M, M = maxDy left t.kids 0 := ⟨_, rfl⟩
    rw [← hM]
    have HMX := Lib.hid hM
    clear hM
    generalize hn : t.kids.length = n at *
    have HN := Lib.hid hn
    have hmax : n ≤ 9223372036854775807 := by unfold maxLen at hn0; exact hn0
    clear hn hn0
    have zl : ((left + 1 : Nat) : Int) ≠ 0 := by omega
    have zl2 : (((left + 1 : Nat) : Int) == 0) = false := beq_false_of_ne zl
    obtain ⟨lf, hlf⟩ : ∃ lf : Int, lf = ((left + 1 : Nat) : Int) := ⟨_, rfl⟩
    have hl1 : lf - 1 = (left : Int) := by omega
    have hlr : 1 ≤ lf ∧ lf ≤ 2000 := by omega
    rw [← hlf] at zl zl2 ⊢
    clear hlf
    have hx0 : (w.alloc (.cells (ryCells t (.slice A n c)).toArray TRx)).heap[w.heap.size]? = some (.cells (ryCells t (.slice A n c)).toArray TRx (0, 0)) := Go.heap_alloc_new w _
    have hb0 : Below w.heap.size w (w.alloc (.cells (ryCells t (.slice A n c)).toArray TRx)) := (Below.refl _ w).alloc (Nat.le_refl _) _
    have B0 := Lib.hid hb0
    have C0 := Lib.hid (show (w.alloc (.cells (ryCells t (.slice A n c)).toArray TRx)).cell? ⟨w.heap.size, 3, none⟩ = some (.slice A n c) by rw [Lib.cell_of_heap hx0]; rfl)
    have L0 := Lib.hid (show w.heap.size < (w.alloc (.cells (ryCells t (.slice A n c)).toArray TRx)).heap.size by rw [World.size_alloc]; omega)
    clear hx0 hb0
    simp only [ryAgg]
    go_enter Try.func19, Try.ntmps19
    go_wp2
    go_loopg [5, 6] (n + 1) (fun kx v5 v13 wr => ∃ i m : Nat, v13 = .int .i64 (i : Int) ∧ v5 = .int .i64 (m : Int) ∧ m ≤ 2001 ∧ i ≤ n ∧ n - i ≤ kx ∧ Hid (M = maxDy left (t.kids.drop i) m) ∧ Below w.heap.size w wr ∧ wr.cell? ⟨w.heap.size, 3, none⟩ = some (.slice A n c) ∧ w.heap.size < wr.heap.size)
    case atStart => exact ⟨0, 0, rfl, rfl, by omega, Nat.zero_le _, by omega, HMX, B0.out, C0.out, L0.out⟩
    case round =>
      obtain ⟨i, m, rfl, rfl, hm, hi, hik, hrel, hb, c3r, hlr⟩ := hrel
      have HB := Lib.hid hb
      clear hb
      by_cases hlt : i < n
      · have z1 : decide ((i : Int) < (n : Int)) = true := decide_eq_true (by omega)
        have hne : t.kids ≠ [] := fun e => by have := HN.out; rw [e] at this; simp at this; omega
        obtain ⟨q1, o1, rfl, hv1⟩ := KTy.kid (KXy.below H1.out HB.out) hne
        have hlt' : i < t.kids.length := by rw [HN.out]; exact hlt
        obtain ⟨k, hk⟩ : ∃ k, k = t.kids[i] := ⟨_, rfl⟩
        have hki : t.kids[i]? = some k := by rw [hk]; exact List.getElem?_eq_getElem hlt'
        have hkm : k ∈ t.kids := List.mem_of_getElem? hki
        have hdr : t.kids.drop i = k :: t.kids.drop (i + 1) := by rw [hk]; exact List.drop_eq_getElem_cons hlt'
        have HST := Lib.hid (show M = maxDy left (t.kids.drop (i + 1)) (max m (depthY left k)) by rw [hrel.out, hdr, maxDy_cons])
        have hdl := depthY_le left k
        obtain ⟨A1, c1', r1, k1'⟩ := hv1 i k hki
        have KC := Lib.hid (fun (W : World) (h : KTy W k A1 c1') => IH.out k hkm A1 c1' W h)
        have K1 := Lib.hid k1'
        clear hv1 hk hki hkm k1' hne hdr hrel
        generalize depthY left k = dk at *
        obtain ⟨e0, e1, e2, e3, e4, e5, e6, e7, e8, e9⟩ := ry_at r1
        clear r1
        have i0 : (0 : Int) ≤ (i : Int) := by omega
        have i1 : (i : Int) < (n : Int) := by omega
        simp only [ryAgg] at KC
        have hws := HB.out.size
        go_wp2_with (go_at_call 19; refine (KC.out _ K1.out).mono ?_)
        rintro e w3 ⟨rfl, hb3⟩
        have hb4 := Lib.hid (HB.out.trans (hb3.mono hws))
        have c34 := (hb3.cell (p := ⟨w.heap.size, 3, none⟩) hlr).trans c3r
        have hlr4 := Nat.lt_of_lt_of_le hlr hb3.size
        clear hb3 c3r
        by_cases hgt : m < dk
        · have y1 : decide ((m : Int) < (dk : Int)) = true := decide_eq_true (by omega)
          have hmx : max m dk = dk := by omega
          rw [hmx] at HST
          go_wp2_with fail
          go_roundg (n - (i + 1))
          case measure => omega
          case rel => exact ⟨i + 1, dk, by go_num, rfl, by omega, by omega, Nat.le_refl _, HST, hb4.out, c34, hlr4⟩
        · have y1 : decide ((m : Int) < (dk : Int)) = false := decide_eq_false (by omega)
          have hmx : max m dk = m := by omega
          rw [hmx] at HST
          go_wp2_with fail
          go_roundg (n - (i + 1))
          case measure => omega
          case rel => exact ⟨i + 1, m, by go_num, rfl, by omega, by omega, Nat.le_refl _, HST, hb4.out, c34, hlr4⟩
      · have z1 : decide ((i : Int) < (n : Int)) = false := decide_eq_false (by omega)
        have hme : M = m := by rw [hrel.out, List.drop_eq_nil_of_le (by rw [HN.out]; omega)]; rfl
        have HME := Lib.hid hme
        clear hrel hme
        go_wp2
        go_ret
        exact ⟨by rw [HME.out]; go_num, HB.out⟩

set_option maxHeartbeats 4000000 in
set_option maxRecDepth 100000 in
theorem ryDepthTop (t : Ry) (A : Option Addr) (c : Nat) (w : World) (hs : Sy maxLen t) (h : KTy w t A c) : Calls Try.prog 18 #[ryAgg t (.slice A t.kids.length c)] w (RetE (.int .i64 (depthY 2000 t : Int)) fun w' => Below w.heap.size w w') := by
  have KC := Lib.hid (fun (W : World) (h : KTy W t A c) => ryDepth_any 2000 t A c W (by omega) hs h)
  have H1 := Lib.hid h
  clear h hs
  generalize depthY 2000 t = dk at *
  simp only [ryAgg] at KC ⊢
  go_enter Try.func18, Try.ntmps18
  go_wp2_with (go_at_call 33; refine (KC.out _ (KXy.below H1.out ((Below.refl _ w).alloc (Nat.le_refl _) _))).mono ?_)
  rintro e w3 ⟨rfl, hb3⟩
  have hb4 := Lib.hid (((Below.refl _ w).alloc (Nat.le_refl _) _).trans (hb3.mono (by rw [World.size_alloc]; omega)))
  clear hb3
  go_wp2
  go_ret
  exact ⟨rfl, hb4.out⟩

set_option maxHeartbeats 4000000 in
set_option maxRecDepth 100000 in
theorem regexDepthsY_walk (t : Ry) (A : Option Addr) (c : Nat) (w : World) (hs : Sy maxLen t) (h : KTy w t A c) :
    Calls Try.prog 7 #[ryAgg t (.slice A t.kids.length c)] w fun e w' => e = .returned (.bool true) ∧ Below w.heap.size w w' := by
  have K1 := Lib.hid (fun (W : World) (h : KTy W t A c) => ryDepthTop t A c W hs h)
  have K2 := Lib.hid (fun (W : World) (h : KTy W t A c) => show Calls Try.prog 19 #[ryAgg t (.slice A t.kids.length c), .int .i64 2000] W (RetE (.int .i64 (depthY 2000 t : Int)) fun w' => Below W.heap.size W w') from ryRefDepth_any 2000 t A c W (by omega) hs h)
  have KS := Lib.hid (fun W => (rxShown_any W))
  have P0 := Lib.hid (PVy.made h)
  have B0 := Lib.hid ((Below.refl _ w).alloc (Nat.le_refl _) (.cells (ryCells t (.slice A t.kids.length c)).toArray TRx))
  clear h hs
  generalize depthY 2000 t = dk at *
  simp only [ryAgg] at K1 K2 ⊢
  go_enter Try.func7, Try.ntmps7
  go_wp2_with (go_at_call 11; refine (KS.out _).mono ?_)
  rintro e w1 ⟨rfl, hb1⟩
  have hP0 := (P0.out.below hb1).below (Below.refl _ w1).drew
  have hB0 := (B0.out.trans (hb1.mono B0.out.size)).drew
  obtain ⟨y0, y1, y2, y3, y4, y5, y6, y7, y8, y9⟩ := hP0.all
  clear hb1 P0 B0
  go_upto_region 2 with fail
  go_region_held3 (fun W => W.cell? ⟨w.heap.size, 0, none⟩ = some (.int .i64 t.kind) ∧ W.cell? ⟨w.heap.size, 1, none⟩ = some (.int .i64 t.rune) ∧ W.cell? ⟨w.heap.size, 2, none⟩ = some (.int .i64 t.tto) ∧ W.cell? ⟨w.heap.size, 3, none⟩ = some (.slice A t.kids.length c) ∧ W.cell? ⟨w.heap.size, 4, none⟩ = some (.int .i64 t.min) ∧ W.cell? ⟨w.heap.size, 5, none⟩ = some (.int .i64 t.max) ∧ W.cell? ⟨w.heap.size, 6, none⟩ = some (.bool t.lazy) ∧ W.cell? ⟨w.heap.size, 7, none⟩ = some (.bool t.not) ∧ W.cell? ⟨w.heap.size, 8, none⟩ = some (.int .i64 t.group) ∧ W.cell? ⟨w.heap.size, 9, none⟩ = some (.string ⟨t.name.toArray⟩))
    (first | exact ⟨y0, y1, y2, y3, y4, y5, y6, y7, y8, y9⟩ | exact ⟨za0, za1, za2, za3, za4, za5, za6, za7, za8, za9⟩ | exact ⟨zb0, zb1, zb2, zb3, zb4, zb5, zb6, zb7, zb8, zb9⟩ | fail)
    (first
      | (go_at_call 18; (with_reducible refine (K1.out _ hP0.kids).mono ?_); rintro e wz ⟨rfl, bz⟩; have hPA := hP0.below bz; have hBA := hB0.trans (bz.mono hB0.size); obtain ⟨za0, za1, za2, za3, za4, za5, za6, za7, za8, za9⟩ := hPA.all)
      | (go_at_call 19; (with_reducible refine (K2.out _ hPA.kids).mono ?_); rintro e wz ⟨rfl, bz⟩; have hPB := hPA.below bz; have hBB := hBA.trans (bz.mono hBA.size); obtain ⟨zb0, zb1, zb2, zb3, zb4, zb5, zb6, zb7, zb8, zb9⟩ := hPB.all)
      | fail)
  all_goals go_wp2
  all_goals go_ret
  all_goals exact ⟨rfl, hBB⟩

end Go.Proofs.Ytoniccokohjenaa
