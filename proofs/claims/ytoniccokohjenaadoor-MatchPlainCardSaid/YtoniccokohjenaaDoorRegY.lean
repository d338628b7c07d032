/-
  Rows of parts that grow; the walk of the parser's set (chapter 18).
-/
import Derived.Test.YtoniccokohjenaaDoorRegX
namespace Go.Proofs.YtoniccokohjenaaDoor
open Go.RowKit

/-- a row of parts of the call's own, and their trees elsewhere -/
structure RowZ (B : Nat) (w : World) (v : Value) (zs : List (Rx × Value)) : Prop where
  own : w.ownsRow B TRx 10 v zs.length (zCells zs)
  trees : ZV (fun q => B ≤ q ∧ v.ownBlock ≠ some q) w zs
theorem RowZ.nil (B : Nat) (w : World) : RowZ B w (.slice none 0 0) [] := ⟨⟨rfl, .inl ⟨rfl, rfl⟩⟩, fun z hz => by cases hz⟩
theorem RowZ.slice {B : Nat} {w : World} {v : Value} {zs : List (Rx × Value)} (h : RowZ B w v zs) : ∃ A cap, v = .slice A zs.length cap := rowns_slice h.own
theorem RowZ.kept {B : Nat} {w w' : World} {v : Value} {zs : List (Rx × Value)} (h : RowZ B w v zs) (hk : ∀ k c z, B ≤ k → w.heap[k]? = some (.cells c TRx z) → w'.heap[k]? = some (.cells c TRx z)) : RowZ B w' v zs :=
  ⟨rowns_block h.own fun k c z e hh => hk k c z (rrow_kind h.own k e).1 hh, h.trees.kept fun q c z hq hh => ⟨hk q c z hq.1 hh, hq⟩⟩
theorem RowZ.pk {B : Nat} {w w' : World} {v : Value} {zs : List (Rx × Value)} {g : Nat} (h : RowZ B w v zs) (k : PK g w w') (hg : ∃ c z, w.heap[g]? = some (.cells c PrsT z)) : RowZ B w' v zs :=
  h.kept fun q c z _ hh => k.2 q c TRx z hh (fun e => by
    obtain ⟨c', z', hc⟩ := hg
    subst e; rw [hh] at hc; injection hc with hc; injection hc with _ hc _; exact absurd hc (by decide)) (by decide)
theorem RowZ.alloc {B : Nat} {w : World} {v : Value} {zs : List (Rx × Value)} (h : RowZ B w v zs) (o : Obj) : RowZ B (w.alloc o) v zs :=
  h.kept fun q _ _ _ hh => (Below.heap_alloc w o q (Array.getElem?_eq_some_iff.1 hh).1).trans hh
theorem RowZ.setLow {B r : Nat} {w : World} {v : Value} {zs : List (Rx × Value)} (h : RowZ B w v zs) (hr : r < B) (k : Nat) (x : Value) : RowZ B (w.setCell ⟨r, k, none⟩ x) v zs :=
  h.kept fun q _ _ hq hh => by rw [rheap_far (fun e => by have e : r = q := e; omega)]; exact hh
/-- a part more -/
theorem RowZ.grow {B : Nat} {w w5 : World} {v v5 : Value} {zs : List (Rx × Value)} {t : Rx} {kv : Value} {o : Obj} (h : RowZ B w v zs) (hx : KX (fun q => B ≤ q ∧ v.ownBlock ≠ some q) w t kv)
    (hg : (w.alloc o).grownBy w5 v.ownBlock) (ho : w5.ownsRow B TRx 10 v5 (zs.length + 1) (zCells zs ++ rxCells t kv)) (hat : v5.ownBlock = v.ownBlock ∨ v5.ownBlock = some (w.alloc o).heap.size) : RowZ B w5 v5 (zs ++ [(t, kv)]) := by
  have hk : ∀ q c z, B ≤ q ∧ v.ownBlock ≠ some q → w.heap[q]? = some (.cells c TRx z) → w5.heap[q]? = some (.cells c TRx z) ∧ B ≤ q ∧ v5.ownBlock ≠ some q := fun q c z hq hh => by
    have hl := (Array.getElem?_eq_some_iff.1 hh).1
    refine ⟨?_, hq.1, fun e => ?_⟩
    · rw [hg.block q (by rw [World.size_alloc]; omega) (fun e => hq.2 e.symm), Below.heap_alloc w o q hl]; exact hh
    · rcases hat with h1 | h1
      · rw [h1] at e; exact hq.2 e
      · rw [h1] at e; injection e with e; rw [World.size_alloc] at e; omega
  refine ⟨?_, ZV.snoc (h.trees.kept hk) (hx.kept hk)⟩
  rw [List.length_append, ← zCells_snoc]
  exact ho
/-- what an append of parts keeps -/
theorem RowZ.others {B : Nat} {w w5 : World} {v : Value} {zs : List (Rx × Value)} {o : Obj} (h : RowZ B w v zs) (hg : (w.alloc o).grownBy w5 v.ownBlock) : ∀ k ob, w.heap[k]? = some ob → (k < B ∨ ∀ c z, ob ≠ .cells c TRx z) → w5.heap[k]? = some ob := fun k ob hk hne => by
  have hl := (Array.getElem?_eq_some_iff.1 hk).1
  rw [hg.block k (by rw [World.size_alloc]; omega) (fun e => ?_), Below.heap_alloc w o k hl]
  · exact hk
  · obtain ⟨hB, _, c, z, hc⟩ := rrow_kind h.own k e.symm
    rcases hne with h1 | h1
    · omega
    · rw [hk] at hc; injection hc with hc; exact h1 _ _ hc
theorem RowZ.prt {w0 w w5 : World} {g : Nat} {l : List Int} {free : Bool} {s : PS} {tk : List (List UInt8)} {B : Nat} {v : Value} {zs : List (Rx × Value)} {o : Obj} (h : RowZ B w v zs) (hp : PrT w0 g l free s tk w) (hB : w0.heap.size ≤ B) (hg : (w.alloc o).grownBy w5 v.ownBlock) : PrT w0 g l free s tk w5 :=
  hp.kept (((Below.refl _ w).alloc hp.size.2.2 o).grown hg (by rw [World.size_alloc]; have := hp.size.2.2; omega) (fun k e => Nat.le_trans hB (rrow_kind h.own k e).1)) fun k ob hk hP => h.others hg k ob hk (.inr fun c z e => by
    subst e
    rcases hP with ⟨c', z', e⟩ | ⟨c', z', e⟩ | ⟨c', z', e⟩ | ⟨es, cl, e⟩
    · injection e with _ e _; exact absurd e (by decide)
    · injection e with _ e _; exact absurd e (by decide)
    · injection e with _ e _; exact absurd e (by decide)
    · cases e)
theorem RowZ.pkOf {a w w5 : World} {g : Nat} {B : Nat} {v : Value} {zs : List (Rx × Value)} {o : Obj} (h : RowZ B w v zs) (hk : PK g a w) (hB : a.heap.size ≤ B) (hg : (w.alloc o).grownBy w5 v.ownBlock) : PK g a w5 :=
  ⟨Nat.le_trans hk.1 (Nat.le_trans (by rw [World.size_alloc]; omega) hg.size), fun k c T z hkc h1 h2 => h.others hg k _ (hk.2 k c T z hkc h1 h2) (.inl (Nat.lt_of_lt_of_le (Array.getElem?_eq_some_iff.1 hkc).1 hB))⟩
theorem news10 (W : World) (l : List Value) (T : TypeId) : ∀ (j : Nat) (u : Value), l[j]? = some u → (W.alloc (.cells l.toArray T)).cell? ((⟨W.heap.size, 0, none⟩ : Addr).add j) = some u := fun j u h => by
  have hadd : (⟨W.heap.size, 0, none⟩ : Addr).add j = ⟨W.heap.size, 0 + j, none⟩ := by unfold Addr.add; split <;> simp_all
  rw [hadd, Nat.zero_add]
  refine (World.cell?_alloc_at (w := W) _ _ _ _ rfl).trans ?_
  simpa using h
/-- the row's first part is read -/
theorem RowZ.range {B : Nat} {w : World} {v : Value} {t : Rx} {kv : Value} (h : RowZ B w v [(t, kv)]) : ∃ b cap, v = .slice (some ⟨b, 0, none⟩) 1 cap ∧ B ≤ b ∧ w.rangeAt b 0 (rxCells t kv) := by
  rcases h.own.2 with ⟨_, h0⟩ | ⟨g, cap, cur, hv, hg, hh, _⟩
  · cases h0
  · refine ⟨g, cap, hv, hg, fun j u hj => ?_⟩
    have := h.own.cells (g := g) (by rw [hv]; rfl) j u (by simpa [zCells] using hj)
    have hadd : (⟨g, 0, none⟩ : Addr).add j = ⟨g, 0 + j, none⟩ := by unfold Addr.add; split <;> simp_all
    rw [hadd] at this
    exact this
theorem load_rxR {ops : Array Oper} {rest : List Oper} {op : Oper} {a : Act} {w : World} {Q : Exit → Act → World → Prop} (hgd : op.guard = none) (x : Operand) (ho : op.op = .load TRx x)
    (b : Nat) (cs : List Value) (hx : a.eval x = .pointer (some ⟨b, 0, none⟩)) (hb : w.rangeAt b 0 cs) (hl : cs.length = 10)
    (h : wpList Tryd.prog ops Q rest (a.put op.dst (.agg cs.toArray)) w) : wpList Tryd.prog ops Q (op :: rest) a w := by
  obtain ⟨d, hd, hrow⟩ := underRx
  exact wpList_load_mid hgd TRx x ho b 0 hx cs d hb hd hrow (by rw [sizeRx, hl]) h

theorem RowZ.setRxLow {B r : Nat} {w : World} {v : Value} {zs : List (Rx × Value)} (h : RowZ B w v zs) (hr : r < B) (o : Nat) (vs : List Value) : RowZ B (w.setCells r o vs) v zs :=
  h.kept fun q _ _ hq hh => by rw [setCells_far r vs o w q (by omega)]; exact hh
theorem RowZ.lt {B : Nat} {w : World} {v : Value} {zs : List (Rx × Value)} (h : RowZ B w v zs) : ∀ q, v.ownBlock = some q → B ≤ q ∧ q < w.heap.size := fun q e => ⟨(rrow_kind h.own q e).1, (rrow_kind h.own q e).2.1⟩
theorem RowZ.kids {B C : Nat} {w : World} {v : Value} {zs : List (Rx × Value)} (h : RowZ B w v zs) (hC : C ≤ B) {t : Rx} (ht : t.kids = zs.map Prod.fst) : KX (fun q => C ≤ q) w t v := by
  unfold KX
  rw [ht]
  exact ZV.kids h.own h.trees (fun q hq => Nat.le_trans hC hq.1) (fun q e => Nat.le_trans hC (rrow_kind h.own q e).1)
/-- what a call made is apart from the row -/
theorem KX.fresh {B : Nat} {w w' : World} {v : Value} {zs : List (Rx × Value)} {t : Rx} {kv : Value} (h : RowZ B w v zs) (k : KX (fun q => w.heap.size ≤ q) w' t kv) (hB : B ≤ w.heap.size) : KX (fun q => B ≤ q ∧ v.ownBlock ≠ some q) w' t kv :=
  k.kept fun q c z hq hh => ⟨hh, Nat.le_trans hB hq, fun e => by have := (h.lt q e).2; omega⟩
/-- a part more is laid behind a row -/
theorem append_rx {ops : Array Oper} {rest : List Oper} {o : Oper} {a : Act} {Q : Exit → Act → World → Prop} {w : World} (hgd : o.guard = none) (s x : Operand)
    (ho : o.op = .call { callee := .builtin .append, args := #[s, x], argTypes := #[43, 43] })
    {B : Nat} {v : Value} {zs : List (Rx × Value)} (t : Rx) (A : Option Addr) (n c : Nat) (hs : a.eval s = v) (hx : a.eval x = .slice (some ⟨w.heap.size, 0, none⟩) 1 1) (h : RowZ B w v zs) (hk : KX (fun q => B ≤ q ∧ v.ownBlock ≠ some q) w t (.slice A n c)) (hB : B ≤ w.heap.size) (hn : zs.length ≤ 1000)
    (hQ : ∀ v' w', RowZ B w' v' (zs ++ [(t, .slice A n c)]) → (w.alloc (.cells (rxCells t (.slice A n c)).toArray TRx)).grownBy w' v.ownBlock → wpList Tryd.prog ops Q rest (a.put o.dst v') w') :
    wpList Tryd.prog ops Q (o :: rest) a (w.alloc (.cells (rxCells t (.slice A n c)).toArray TRx)) := by
  obtain ⟨i0, hi, hz0, hz1, hz2⟩ := info_parts infoRx
  refine wpList_append_own_at _ hgd s x _ ho B TRx i0 _ 10 96 Tryd.underlying43 hi hz0 hz1 hz2 rfl (by decide) v zs.length (zCells zs) hs (h.alloc _).own ⟨w.heap.size, 0, none⟩ 1 1 (rxCells t (.slice A n c)) hx rfl (news10 w _ _) (rx_one t A n c) (by unfold maxLen; omega) (by omega) (by simp; omega) ?_
  intro v' w' hown hg _ hat
  exact hQ v' w' (h.grow hk hg hown hat) hg

theorem items_step {l : List Int} {F f : Nat} {s0 s s1 : PS} {ks : List Rx} {x : Rx} (h : itemsR l F s0 = (itemsR l (f + 1) s).bind fun xs s => .ok (ks ++ xs) s) (hx : itemR l s = .ok x s1) :
    (due l s1.pos = 93 → itemsR l F s0 = .ok (ks ++ [x]) { s1 with pos := s1.pos + 1 }) ∧ (due l s1.pos ≠ 93 → itemsR l F s0 = (itemsR l f s1).bind fun xs s => .ok ((ks ++ [x]) ++ xs) s) := by
  rw [h, itemsR, hx]
  constructor
  · intro e
    show (if due l s1.pos = 93 then _ else _ : PR (List Rx)).bind _ = _
    rw [if_pos e]; rfl
  · intro e
    show (if due l s1.pos = 93 then _ else _ : PR (List Rx)).bind _ = _
    rw [if_neg e]
    cases itemsR l f s1 with
    | ok v s => simp [PR.bind]
    | bad a n => rfl
theorem items_bad' {l : List Int} {F f : Nat} {s0 s : PS} {ks : List Rx} {a e : Nat} (h : itemsR l F s0 = (itemsR l (f + 1) s).bind fun xs s => .ok (ks ++ xs) s) (hx : itemR l s = .bad a e) : itemsR l F s0 = .bad a e := by
  rw [h, itemsR, hx]; rfl

theorem one_kids {l : List Int} {s s' : PS} {v : Rx × Bool} (h : oneR l s = .ok v s') : v.1.kids = [] := by
  unfold oneR at h
  simp only at h
  split at h
  · exact (failR_ok h).elim
  split at h
  · split at h
    · injection h with h1 _; subst h1; rfl
    · obtain ⟨c, s1, h1, h2⟩ := bind_ok h
      injection h2 with h3 _; subst h3; rfl
  · injection h with h1 _; subst h1; rfl
section
variable (w0 : World) (g : Nat) (l : List Int) (free : Bool) (s : PS) (w : World)
theorem rxDueQ (tk : List (List UInt8)) (hp : s.pos ≤ 1001) (hl : l.length ≤ 1000) (h : PrT w0 g l free s tk w) : ∀ m : Nat, Calls Tryd.prog 41 #[.pointer (some ⟨g, 0, none⟩)] (w.drewN m) fun e w'' => e = .returned (.int .i64 (due l s.pos)) ∧ ∃ k, w'' = w.drewN k := fun m =>
  (rxDue_any w0 g l free s tk (w.drewN m) hp hl (h.drewN m)).mono (by rintro e w' ⟨rfl, k, rfl⟩; exact ⟨rfl, _, rdrewN2 _ _ _⟩)
set_option maxHeartbeats 4000000 in
set_option maxRecDepth 100000 in
theorem rxSet_any (hf : Fin1 l s) (h : PrV w0 g l free s w) :
    Calls Tryd.prog 51 #[.pointer (some ⟨g, 0, none⟩)] w (ResT w0 g l free w (setR l s)) := by
  have H := Lib.hid h
  have hsz := h.size
  have hl := hf.len
  have hp := hf.pos
  obtain ⟨neg, s0, hf0, hKT, hset⟩ : ∃ (neg : Bool) (s0 : PS), Fin1 l s0 ∧ (∀ W, PrV w0 g l free s W → Calls Tryd.prog 33 #[.pointer (some ⟨g, 0, none⟩), .int .i64 94] W (RetE (.bool neg) fun w' => PrV w0 g l free s0 w' ∧ PK g W w')) ∧ setR l s = (itemsR l (l.length + 1) s0).bind fun xs s => .ok (rxSet neg xs) s := by
    by_cases h94 : due l s.pos = 94
    · exact ⟨true, { s with pos := s.pos + 1 }, hf.adv (.step h94 (by decide)), fun W h => RetE.of (rxTakes_yes w0 g l free s s.names W 94 hl h94 (by decide) h), by unfold setR; rw [if_pos h94]⟩
    · exact ⟨false, s, hf, fun W h => RetE.of (rxTakes_no w0 g l free s s.names W 94 (by omega) hl h94 h), by unfold setR; rw [if_neg h94]⟩
  have KT := Lib.hid hKT
  have HS := Lib.hid hset
  clear h hKT hset
  go_enter Tryd.func51, Tryd.ntmps51
  go_wp2_with (go_at_call 33; refine (KT.out _ (H.out.alloc _)).mono ?_)
  rintro e w1 ⟨rfl, h1, k1⟩
  have hr1 := k1.at (Go.heap_alloc_new w (.cells zRx TRx)) (by omega) (by decide)
  have H1 := Lib.hid h1
  have hk1 := ((PK.refl g w).alloc _).trans k1
  have HK1 := Lib.hid hk1
  have hs1 := k1.1
  rw [World.size_alloc] at hs1
  clear h1 k1 hk1
  have hb3 := Go.heap_alloc_new w1 (.cells (rxCells (rxSet neg []) (.slice none 0 0)).toArray TRx)
  have hr3 := (Below.heap_alloc w1 (.cells (rxCells (rxSet neg []) (.slice none 0 0)).toArray TRx) w.heap.size (by omega)).trans hr1
  have HW3 := Lib.hid (H1.out.alloc (.cells (rxCells (rxSet neg []) (.slice none 0 0)).toArray TRx))
  have HK3 := Lib.hid (HK1.out.alloc (.cells (rxCells (rxSet neg []) (.slice none 0 0)).toArray TRx))
  have HR3 := Lib.hid hr3
  have HB3 := Lib.hid hb3
  clear hr1 hr3 hb3
  go_wp2
  go_loopg [] (l.length + 1) (fun kx wr => ∃ (s' : PS) (f : Nat) (zs : List (Rx × Value)) (v : Value), f ≤ kx ∧ Fin1 l s' ∧ l.length < f + s'.pos ∧ PrV w0 g l free s' wr ∧ PK g w wr ∧ wr.heap[w.heap.size]? = some (.cells zRx TRx (0, 0)) ∧ wr.heap[w1.heap.size]? = some (.cells (rxCells (rxSet neg []) v).toArray TRx (0, 0)) ∧ RowZ (w1.heap.size + 1) wr v zs ∧ zs.length ≤ s'.pos ∧ Hid (itemsR l (l.length + 1) s0 = (itemsR l f s').bind fun xs s => .ok (zs.map Prod.fst ++ xs) s))
  case atStart =>
    refine ⟨s0, l.length + 1, [], .slice none 0 0, Nat.le_refl _, hf0, by omega, HW3.out, HK3.out, HR3.out, HB3.out, RowZ.nil _ _, Nat.zero_le _, ?_⟩
    show _ = _
    cases itemsR l (l.length + 1) s0 with
    | ok v s => rfl
    | bad a n => rfl
  case round =>
    obtain ⟨s', f, zs, v, hfk, hf', hfu, hv, hk, hr, hb3, hz, hzl, hrel⟩ := hrel
    have hl' := hf'.pos
    obtain ⟨f, rfl⟩ : ∃ k, f = k + 1 := ⟨f - 1, by omega⟩
    have HV := Lib.hid hv
    have HK := Lib.hid hk
    have hpo := hv.pos_of
    have hgb := hv.blk
    have hws := hv.size
    have KO0 := rxOne_any w0 g l free s' wr hf' hv
    have hbl : w1.heap.size < wr.heap.size := (Array.getElem?_eq_some_iff.1 hb3).1
    have hrl : w.heap.size < wr.heap.size := (Array.getElem?_eq_some_iff.1 hr).1
    have hg3 : g ≠ w1.heap.size := fun e => by
      obtain ⟨c', z', hc⟩ := hgb
      rw [e, hb3] at hc; injection hc with hc; injection hc with _ hc _; exact absurd hc (by decide)
    cases hon : oneR l s' with
    | bad a n =>
      rw [hon] at KO0
      have HT := Lib.hid (show setR l s = .bad a n by rw [HS.out, items_bad' hrel.out (by unfold itemR; rw [hon]; rfl)]; rfl)
      have KO := Lib.hid (show Calls Tryd.prog 56 #[.pointer (some ⟨g, 0, none⟩)] wr (BdP w0 a n) from KO0)
      clear KO0 hon hrel hv hk hr hb3 hz
      go_wp2_with (go_at_call 56; refine KO.out.mono ?_)
      rintro e w2 ⟨rfl, hb2⟩
      unfold stopE
      go_wp2
      rw [HT.out]
      exact ⟨rfl, rfl, hb2⟩
    | ok xi s1 =>
      obtain ⟨x, is⟩ := xi
      rw [hon] at KO0
      have had := one_adv hon
      have hf1 := hf'.adv had.1
      have hx0 : x.kids = [] := one_kids hon
      have KO := Lib.hid (show Calls Tryd.prog 56 #[.pointer (some ⟨g, 0, none⟩)] wr (OkV w0 g l free s1 wr (.tuple #[.agg (rxCells x (.slice none 0 0)).toArray, .bool is])) from KO0)
      have HREL := Lib.hid hrel.out
      have HON := Lib.hid hon
      clear KO0 hon hrel hv hk
      obtain ⟨cnd, hcnd⟩ : ∃ c, c = (is && (due l s1.pos == 45) && decide (s1.pos + 1 < l.length) && (due l (s1.pos + 1) != 93)) := ⟨_, rfl⟩
      have HC := Lib.hid hcnd
      clear hcnd
      go_wp2_with (go_at_call 56; refine KO.out.mono ?_)
      rintro e w2 ⟨rfl, h2, k2⟩
      have hr2 := k2.at hr (by omega) (by decide)
      have hb2 := k2.at hb3 (fun e => hg3 e.symm) (by decide)
      have hz2 := hz.pk k2 hgb
      have H2 := Lib.hid h2
      have HK2 := Lib.hid (HK.out.trans k2)
      have hw2 := k2.1
      have HZ2 := Lib.hid hz2
      have HG2 := Lib.hid h2.blk
      clear h2 k2 hz hr hb3 hz2
      simp only [rxCells]
      go_upto_region 3 with fail
      generalize hW3 : w2.alloc _ = W3
      have hV3 : PrV w0 g l free s1 W3 := by rw [← hW3]; exact H2.out.alloc _
      have hK3 : PK g w W3 := by rw [← hW3]; exact HK2.out.alloc _
      have hr3 : W3.heap[w.heap.size]? = some (.cells zRx TRx (0, 0)) := by rw [← hW3]; exact (Below.heap_alloc w2 _ w.heap.size (by omega)).trans hr2
      have hb3 : W3.heap[w1.heap.size]? = some (.cells (rxCells (rxSet neg []) v).toArray TRx (0, 0)) := by rw [← hW3]; exact (Below.heap_alloc w2 _ w1.heap.size (by omega)).trans hb2
      have hi3 : W3.heap[w2.heap.size]? = some (.cells (rxCells x (.slice none 0 0)).toArray TRx (0, 0)) := by rw [← hW3]; exact Go.heap_alloc_new w2 _
      have hp3 : PK g w2 W3 := by rw [← hW3]; exact (PK.refl g w2).alloc _
      have hwi : w1.heap.size < w2.heap.size := by omega
      clear hW3 hr2 hb2 H2 HK2
      have HV3 := Lib.hid hV3
      have HK3 := Lib.hid hK3
      have HR3 := Lib.hid hr3
      have HB3 := Lib.hid hb3
      have HI3 := Lib.hid hi3
      have HP3 := Lib.hid hp3
      have c13 := hV3.c1
      obtain ⟨A, cap, c03, hRd⟩ := hV3.c0
      have hl1 := hf1.pos
      have KQ := rxDueQ w0 g l free s1 W3 s1.names (by omega) hl hV3
      go_cut [48] from 11 to 90 (fun t wx => t = .bool cnd ∧ ∃ m, wx = W3.drewN m)
      case first =>
        clear hr3 hb3 hi3 hp3 hK3 hV3
        cases is with
        | false =>
          clear KQ hRd
          go_quiet (fail)
          go_wp2_with fail
          go_meet
          exact ⟨by rw [HC.out]; rfl, _, rfl⟩
        | true =>
          by_cases h45 : due l s1.pos = 45
          · have hlt := due_lt h45 (by decide)
            rw [h45] at KQ HC
            have KQ := Lib.hid KQ
            clear h45
            by_cases h1 : s1.pos + 1 < l.length
            · obtain ⟨b, off, hA, _, hat⟩ := hRd.2 (by omega)
              subst hA
              have c2 := hat (s1.pos + 1) h1
              have hd : l.getD (s1.pos + 1) 0 = due l (s1.pos + 1) := by rw [due_at h1, List.getD_eq_getElem?_getD, List.getElem?_eq_getElem h1]; rfl
              rw [hd] at c2
              have z1 : decide ((s1.pos : Int) + 1 < (l.length : Int)) = true := decide_eq_true (by omega)
              have i0 : (0 : Int) ≤ (s1.pos : Int) + 1 := by omega
              have i1 : (s1.pos : Int) + 1 < (l.length : Int) := by omega
              have hcc : cnd = (due l (s1.pos + 1) != 93) := by rw [HC.out, decide_eq_true h1]; simp
              have HCC := Lib.hid hcc
              clear hd hat hRd hcc
              generalize due l (s1.pos + 1) = d at *
              go_quiet (with_reducible exact KQ.out _)
              go_wp2_with fail
              go_meet
              exact ⟨by rw [HCC.out], _, rfl⟩
            · have z1 : decide ((s1.pos : Int) + 1 < (l.length : Int)) = false := decide_eq_false (by omega)
              have hcc : cnd = false := by rw [HC.out, decide_eq_false h1]; simp
              have HCC := Lib.hid hcc
              clear hRd hcc
              go_quiet (with_reducible exact KQ.out _)
              go_wp2_with fail
              go_meet
              exact ⟨by rw [HCC.out], _, rfl⟩
          · have z1 : (due l s1.pos == 45) = false := beq_false_of_ne h45
            have hcc : cnd = false := by rw [HC.out, z1]; simp
            have HCC := Lib.hid hcc
            clear hRd hcc h45 HC
            generalize due l s1.pos = d at *
            have KQ := Lib.hid KQ
            go_quiet (with_reducible exact KQ.out _)
            go_wp2_with fail
            go_meet
            exact ⟨by rw [HCC.out], _, rfl⟩
      case rest =>
        obtain ⟨rfl, m, rfl⟩ := hcut
        have hV4 := HV3.out.drewN m
        have hK4 := HK3.out.drewN m
        have hr4 : (W3.drewN m).heap[w.heap.size]? = some (.cells zRx TRx (0, 0)) := hr3
        have hb4 : (W3.drewN m).heap[w1.heap.size]? = some (.cells (rxCells (rxSet neg []) v).toArray TRx (0, 0)) := hb3
        have hi4 : (W3.drewN m).heap[w2.heap.size]? = some (.cells (rxCells x (.slice none 0 0)).toArray TRx (0, 0)) := hi3
        have hp4 : PK g w2 (W3.drewN m) := hp3.drewN m
        generalize W3.drewN m = W4 at *
        clear HV3 HK3 HR3 HB3 HI3 HP3 hV3 hK3 hr3 hb3 hi3 hp3 hRd KQ c13 c03
        have HV4 := Lib.hid hV4
        have HK4 := Lib.hid hK4
        have HR4 := Lib.hid hr4
        have HB4 := Lib.hid hb4
        have HI4 := Lib.hid hi4
        have HP4 := Lib.hid hp4
        have hg4 := hV4.blk
        have c14 := hV4.c1
        have f14 := hV4.frozen 1
        have hb4l := (Array.getElem?_eq_some_iff.1 hi4).1
        have hgi : g ≠ w2.heap.size := fun e => by
          obtain ⟨c', z', hc⟩ := hg4
          rw [e, hi4] at hc; injection hc with hc; injection hc with _ hc _; exact absurd hc (by decide)
        have hitem : itemR l s' = if is = true ∧ due l s1.pos = 45 ∧ s1.pos + 1 < l.length ∧ due l (s1.pos + 1) ≠ 93 then (oneR l { s1 with pos := s1.pos + 1 }).bind fun y s => if y.2 = false ∨ y.1.rune < x.rune then failR l (s.pos - 1) else .ok (rxRange x.rune y.1.rune) s else .ok x s1 := by unfold itemR; rw [HON.out]; rfl
        clear hV4 hK4 hr4 hb4 hp4
        go_upto_if 48 with fail
        go_cut [6, 7] from 11 to 90 (fun _ _ wx => ∃ (item : Rx) (s2 : PS), Fin1 l s2 ∧ s'.pos < s2.pos ∧ itemR l s' = .ok item s2 ∧ item.kids = [] ∧ PrV w0 g l free s2 wx ∧ PK g w wx ∧ wx.heap[w.heap.size]? = some (.cells zRx TRx (0, 0)) ∧ wx.heap[w1.heap.size]? = some (.cells (rxCells (rxSet neg []) v).toArray TRx (0, 0)) ∧ wx.heap[w2.heap.size]? = some (.cells (rxCells item (.slice none 0 0)).toArray TRx (0, 0)) ∧ PK g w2 wx)
        case first =>
          by_cases hc : is = true ∧ due l s1.pos = 45 ∧ s1.pos + 1 < l.length ∧ due l (s1.pos + 1) ≠ 93
          · have hct : cnd = true := by
              rw [HC.out]; simp [hc.1, hc.2.1, hc.2.2.1, hc.2.2.2]
            rw [if_pos hc] at hitem
            have hf2 : Fin1 l { s1 with pos := s1.pos + 1 } := hf1.adv (.step hc.2.1 (by decide))
            subst hct
            have KO2 := fun (W : World) (h : PrV w0 g l free { s1 with pos := s1.pos + 1 } W) => rxOne_any w0 g l free { s1 with pos := s1.pos + 1 } W hf2 h
            clear hc
            cases hon2 : oneR l { s1 with pos := s1.pos + 1 } with
            | bad a n =>
              rw [hon2] at hitem KO2
              have HT := Lib.hid (show setR l s = .bad a n by rw [HS.out, items_bad' HREL.out hitem]; rfl)
              have KO2 := Lib.hid (fun (W : World) (h : PrV w0 g l free { s1 with pos := s1.pos + 1 } W) => show Calls Tryd.prog 56 #[.pointer (some ⟨g, 0, none⟩)] W (BdP w0 a n) from KO2 W h)
              clear hitem hon2
              go_wp2_with (go_at_call 56; refine (KO2.out _ (HV4.out.put_pos (s1.pos + 1))).mono ?_)
              rintro e w5 ⟨rfl, hb5⟩
              unfold stopE
              go_wp2
              rw [HT.out]
              exact ⟨rfl, rfl, hb5⟩
            | ok yi s2 =>
              obtain ⟨y, ok⟩ := yi
              rw [hon2] at hitem KO2
              have had2 := one_adv hon2
              have hf3 := hf2.adv had2.1
              have hl3 := hf3.pos
              have hit : itemR l s' = if ok = false ∨ y.rune < x.rune then failR l (s2.pos - 1) else .ok (rxRange x.rune y.rune) s2 := hitem
              have KO2 := Lib.hid (fun (W : World) (h : PrV w0 g l free { s1 with pos := s1.pos + 1 } W) => show Calls Tryd.prog 56 #[.pointer (some ⟨g, 0, none⟩)] W (OkV w0 g l free s2 W (.tuple #[.agg (rxCells y (.slice none 0 0)).toArray, .bool ok])) from KO2 W h)
              have hp2 : s1.pos + 1 < s2.pos := had2.2.1
              have hp1 := had.2.1
              clear hitem hon2
              go_wp2_with (go_at_call 56; refine (KO2.out _ (HV4.out.put_pos (s1.pos + 1))).mono ?_)
              rintro e w5 ⟨rfl, h5, k5⟩
              have hfar : ∀ (q : Nat) (ob : Obj), q ≠ g → W4.heap[q]? = some ob → (W4.setCell ⟨g, 1, none⟩ (.int .i64 ((s1.pos : Int) + 1))).heap[q]? = some ob := fun q ob hq hh => (rheap_far (p := ⟨g, 1, none⟩) (show g ≠ q from fun e => hq e.symm)).trans hh
              have hr5 := k5.at (hfar _ _ (by omega) HR4.out) (by omega) (by decide)
              have hb5 := k5.at (hfar _ _ (fun e => hg3 e.symm) HB4.out) (fun e => hg3 e.symm) (by decide)
              have hi5 := k5.at (hfar _ _ (fun e => hgi e.symm) HI4.out) (fun e => hgi e.symm) (by decide)
              have HP5 := Lib.hid ((HP4.out.setOwn 1 (.int .i64 ((s1.pos : Int) + 1))).trans k5)
              have H5 := Lib.hid h5
              have HK5 := Lib.hid ((HK4.out.setOwn 1 (.int .i64 ((s1.pos : Int) + 1))).trans k5)
              have hs5 := k5.1
              have es4 : (W4.setCell ⟨g, 1, none⟩ (.int .i64 ((s1.pos : Int) + 1))).heap.size = W4.heap.size := by simp [World.setCell]
              rw [es4] at hs5
              have hi5c : ∀ (o : Obj) (j : Nat), j < 10 → (w5.alloc o).cell? ⟨w2.heap.size, j, none⟩ = (rxCells x (.slice none 0 0))[j]? := fun o j hj => by
                have := (Below.heap_alloc w5 o w2.heap.size (by omega)).trans hi5
                rw [Lib.cell_of_heap this]; simp
              have hr1c : ∀ o, (w5.alloc o).cell? ⟨w2.heap.size, 1, none⟩ = some (.int .i64 x.rune) := fun o => (hi5c o 1 (by omega)).trans rfl
              have c15 : ∀ o, (w5.alloc o).cell? ⟨g, 1, none⟩ = some (.int .i64 (s2.pos : Int)) := fun o => (h5.alloc o).c1
              clear h5 k5 hfar hi5c
              simp only [rxCells]
              by_cases hbad : ok = false ∨ y.rune < x.rune
              · obtain ⟨a', n', hfa, hfb⟩ := failR_to (α := Rx) (l := l) (s2.pos - 1)
                rw [if_pos hbad] at hit
                have HT := Lib.hid (show setR l s = .bad a' n' by rw [HS.out, items_bad' HREL.out (hit.trans hfb)]; rfl)
                have KF := Lib.hid (fun (W : World) (h : PrV w0 g l free s2 W) => rxFailV w0 g l free s2 s2.names W (s2.pos - 1) hfa h)
                have ek : (s2.pos : Int) - 1 = ((s2.pos - 1 : Nat) : Int) := by omega
                clear hit hfa hfb
                cases ok with
                | false =>
                  clear hbad
                  go_wp2_with (go_at_call 25; refine (KF.out _ (H5.out.alloc _)).mono ?_)
                  rintro e w6 ⟨rfl, hb6⟩
                  unfold stopE
                  go_wp2
                  rw [HT.out]
                  exact ⟨rfl, rfl, hb6⟩
                | true =>
                  have z1 : decide (y.rune < x.rune) = true := decide_eq_true (hbad.resolve_left (by decide))
                  clear hbad
                  go_wp2_with (go_at_call 25; refine (KF.out _ (H5.out.alloc _)).mono ?_)
                  rintro e w6 ⟨rfl, hb6⟩
                  unfold stopE
                  go_wp2
                  rw [HT.out]
                  exact ⟨rfl, rfl, hb6⟩
              · rw [if_neg hbad] at hit
                have hokt : ok = true := by cases ok with
                  | true => rfl
                  | false => exact absurd (.inl rfl) hbad
                have z1 : decide (y.rune < x.rune) = false := decide_eq_false (fun h => hbad (.inr h))
                subst hokt
                have HIT := Lib.hid hit
                clear hit hbad
                go_upto_region 8 with fail
                generalize hW6 : w5.alloc _ = W6
                have hi6 : W6.heap[w2.heap.size]? = some (.cells (rxCells x (.slice none 0 0)).toArray TRx (0, 0)) := by rw [← hW6]; exact (Below.heap_alloc w5 _ w2.heap.size (by omega)).trans hi5
                have hr6 : W6.heap[w.heap.size]? = some (.cells zRx TRx (0, 0)) := by rw [← hW6]; exact (Below.heap_alloc w5 _ w.heap.size (by omega)).trans hr5
                have hb6 : W6.heap[w1.heap.size]? = some (.cells (rxCells (rxSet neg []) v).toArray TRx (0, 0)) := by rw [← hW6]; exact (Below.heap_alloc w5 _ w1.heap.size (by omega)).trans hb5
                have ca6 : W6.cell? ⟨w2.heap.size, 1, none⟩ = some (.int .i64 x.rune) := by rw [Lib.cell_of_heap hi6]; rfl
                have cb6 : W6.cell? ⟨w5.heap.size, 1, none⟩ = some (.int .i64 y.rune) := by rw [← hW6, Lib.cell_of_heap (Go.heap_alloc_new w5 _)]; rfl
                have H6 : PrV w0 g l free s2 W6 := by rw [← hW6]; exact H5.out.alloc _
                have HK6 : PK g w W6 := by rw [← hW6]; exact HK5.out.alloc _
                have HP6 : PK g w2 W6 := by rw [← hW6]; exact HP5.out.alloc _
                have hix : ∃ c, W6.heap[w2.heap.size]? = some (.cells c TRx (0, 0)) ∧ c.size = 10 := ⟨_, hi6, rfl⟩
                clear hW6
                have H6 := Lib.hid H6
                have HK6 := Lib.hid HK6
                have HP6 := Lib.hid HP6
                have HI6 := Lib.hid hi6
                have HR6 := Lib.hid hr6
                have HB6 := Lib.hid hb6
                have HIX := Lib.hid hix
                clear hix hi6 hr6 hb6 hr5 hb5 hi5
                go_wp2_with (with_reducible refine store_rx (by with_reducible rfl) _ _ (by with_reducible rfl) w2.heap.size (rxCells (rxRange x.rune y.rune) (.slice none 0 0)) (by simp [Act.eval]) (by simp [Act.eval, rxCells, rxRange, Rx.kind, Rx.rune, Rx.to, Rx.min, Rx.max, Rx.lazy, Rx.not, Rx.group, Rx.name]) HIX.out (rx_len _ _) (rx_one _ _ _ _) ?_; intro w9 hw9)
                obtain rfl := hw9.out
                go_meet
                refine ⟨rxRange x.rune y.rune, s2, hf3, by omega, HIT.out, rfl, H6.out.setRx HI6.out (by omega) 0 _, HK6.out.setRx (by omega) 0 _, ?_, ?_, setCells_whole (vs := rxCells (rxRange x.rune y.rune) (.slice none 0 0)) HI6.out rfl, HP6.out.setRx (Nat.le_refl _) 0 _⟩
                · rw [setCells_far _ _ _ _ _ (show w.heap.size ≠ w2.heap.size by omega)]; exact HR6.out
                · rw [setCells_far _ _ _ _ _ (show w1.heap.size ≠ w2.heap.size by omega)]; exact HB6.out
          · have hct : cnd = false := by
              rw [HC.out]
              cases is with
              | false => rfl
              | true =>
                by_cases h45 : due l s1.pos = 45
                · by_cases h1 : s1.pos + 1 < l.length
                  · have : due l (s1.pos + 1) = 93 := Decidable.of_not_not fun h => hc ⟨rfl, h45, h1, h⟩
                    rw [this]; simp
                  · simp [h1]
                · simp [h45]
            rw [if_neg hc] at hitem
            have HIT := Lib.hid hitem
            subst hct
            clear hitem hc
            go_wp2_with fail
            go_meet
            exact ⟨x, s1, hf1, had.2.1, HIT.out, hx0, HV4.out, HK4.out, HR4.out, HB4.out, HI4.out, HP4.out⟩
        case rest =>
          obtain ⟨item, s2, hf5, hadv5, hit5, hk5, hv5, hkk5, hr5, hb5, hi5, hp5⟩ := hcut
          have hl5 := hf5.pos
          have hz5 := HZ2.out.pk hp5 HG2.out
          obtain ⟨A5, cap5, rfl⟩ := hz5.slice
          have hstep := items_step HREL.out hit5
          have HST := Lib.hid hstep
          have HV5 := Lib.hid hv5
          have HK5 := Lib.hid hkk5
          have HR5 := Lib.hid hr5
          have HB5 := Lib.hid hb5
          have HZ5 := Lib.hid hz5
          have hsz5 := hv5.size
          have hpo5 := hpo
          have c3x : wc.cell? ⟨w1.heap.size, 3, none⟩ = some (.slice A5 zs.length cap5) := by rw [Lib.cell_of_heap hb5]; rfl
          have hbx : ∃ z, wc.heap[w2.heap.size]? = some (.cells (rxCells item (.slice none 0 0)).toArray TRx z) := ⟨_, hi5⟩
          have HBX := Lib.hid hbx
          have hwc := (Array.getElem?_eq_some_iff.1 hb5).1
          have hwc2 := (Array.getElem?_eq_some_iff.1 hr5).1
          clear hstep hv5 hkk5 hr5 hb5 hi5 hp5 hz5 hbx hit5 HREL HON HC HV4 HK4 HR4 HB4 HI4 HP4 hpo5
          go_wp2_with (first | (with_reducible refine load_rxL (by with_reducible rfl) _ (by with_reducible rfl) w2.heap.size (rxCells item (.slice none 0 0)) (by simp [Act.eval]) HBX.out (rx_len _ _) ?_; simp only [rxCells]) | (at_builtin; refine append_rx rfl _ _ rfl item none 0 0 rfl rfl HZ5.out (KX.leaf hk5) (by omega) (by omega) ?_))
          intro v6 w6 hz6 hg6
          obtain ⟨A6, cap6, rfl⟩ := hz6.slice
          have hr6 := HZ5.out.others hg6 w.heap.size _ HR5.out (.inl (by omega))
          have hb6 := HZ5.out.others hg6 w1.heap.size _ HB5.out (.inl (by omega))
          have h6 := HZ5.out.prt HV5.out (by omega) hg6
          have k6 := HZ5.out.pkOf HK5.out (by omega) hg6
          generalize hlz : (zs ++ [(item, Value.slice none 0 0)]).length = m6 at *
          have HM6 := Lib.hid (show m6 = zs.length + 1 by rw [← hlz]; simp)
          have HLZ := Lib.hid hlz
          clear hlz
          have f36 := Lib.frozen_of_heap hb6 3
          have c36 : w6.cell? ⟨w1.heap.size, 3, none⟩ = some (.slice A5 zs.length cap5) := by rw [Lib.cell_of_heap hb6]; rfl
          have H7 := Lib.hid (show PrV w0 g l free s2 (w6.setCell ⟨w1.heap.size, 3, none⟩ (.slice A6 m6 cap6)) from h6.setOther hb6 (by omega) (by decide) (by decide) (by decide) 3 _)
          have HK7 := Lib.hid (k6.setNew (q := w1.heap.size) (by omega) 3 (.slice A6 m6 cap6))
          have hr7 := (rheap_far (p := ⟨w1.heap.size, 3, none⟩) (v := .slice A6 m6 cap6) (show w1.heap.size ≠ w.heap.size by omega)).trans hr6
          have hb7 : (w6.setCell ⟨w1.heap.size, 3, none⟩ (.slice A6 m6 cap6)).heap[w1.heap.size]? = some (.cells (rxCells (rxSet neg []) (.slice A6 m6 cap6)).toArray TRx (0, 0)) := rheap_set (k := 3) hb6 _
          have HZ7 := Lib.hid (hz6.setLow (r := w1.heap.size) (by omega) 3 (.slice A6 m6 cap6))
          have HR7 := Lib.hid hr7
          have HB7 := Lib.hid hb7
          clear hr6 hb6 h6 k6 hz6 hg6 hr7 hb7 HZ5 HR5 HB5 HV5 HBX
          by_cases h93 : due l s2.pos = 93
          · have K93 := Lib.hid (fun (W : World) (h : PrV w0 g l free s2 W) => RetE.of (rxTakes_yes w0 g l free s2 s2.names W 93 hl h93 (by decide) h))
            have HT := Lib.hid (show setR l s = .ok (rxSet neg (zs.map Prod.fst ++ [item])) { s2 with pos := s2.pos + 1 } by rw [HS.out, HST.out.1 h93]; rfl)
            clear h93 HST
            go_wp2_with (go_at_call 33; refine (K93.out _ H7.out).mono ?_)
            rintro e w8 ⟨rfl, h8, k8⟩
            have hr8 := k8.at HR7.out (by omega) (by decide)
            have hb8 := k8.at HB7.out (fun e => hg3 e.symm) (by decide)
            have HZ8 := Lib.hid (HZ7.out.pk k8 H7.out.blk)
            have H8 := Lib.hid h8
            have HK8 := Lib.hid (HK7.out.trans k8)
            have hb9 : ∃ z, w8.heap[w1.heap.size]? = some (.cells (rxCells (rxSet neg []) (.slice A6 m6 cap6)).toArray TRx z) := ⟨_, hb8⟩
            have hr9 : ∃ c, w8.heap[w.heap.size]? = some (.cells c TRx (0, 0)) ∧ c.size = 10 := ⟨_, hr8, rfl⟩
            clear h8 k8
            go_wp2_with (first | (with_reducible refine load_rxL (by with_reducible rfl) _ (by with_reducible rfl) w1.heap.size (rxCells (rxSet neg []) (.slice A6 m6 cap6)) (by simp [Act.eval]) hb9 (rx_len _ _) ?_; simp only [rxCells]) | (with_reducible refine store_rx (by with_reducible rfl) _ _ (by with_reducible rfl) w.heap.size (rxCells (rxSet neg []) (.slice A6 m6 cap6)) (by simp [Act.eval, Act.put]) (by simp [Act.eval, Act.put, rxCells]) hr9 (rx_len _ _) (rx_one _ _ _ _) ?_; intro w9 hw9))
            obtain rfl := hw9.out
            refine ret_rx Tryd.results51 (setCells_whole (vs := rxCells (rxSet neg []) (.slice A6 m6 cap6)) hr8 rfl) (rx_len _ _) (by simp [Act.put]) rfl ?_
            rw [HT.out]
            exact ⟨.slice A6 m6 cap6, rfl, (HZ8.out.setRxLow (by omega) 0 _).kids (by omega) (by simp [rxSet, Rx.kids]), H8.out.setRx hr8 (by omega) 0 _, HK8.out.setRx (Nat.le_refl _) 0 _⟩
          · have K93 := Lib.hid (fun (W : World) (h : PrV w0 g l free s2 W) => RetE.of (rxTakes_no w0 g l free s2 s2.names W 93 (by omega) hl h93 h))
            have hst := HST.out.2 h93
            clear h93 HST
            have HST := Lib.hid hst
            clear hst
            go_wp2_with (go_at_call 33; refine (K93.out _ H7.out).mono ?_)
            rintro e w8 ⟨rfl, h8, k8⟩
            have hr8 := k8.at HR7.out (by omega) (by decide)
            have hb8 := k8.at HB7.out (fun e => hg3 e.symm) (by decide)
            have HZ8 := Lib.hid (HZ7.out.pk k8 H7.out.blk)
            have H8 := Lib.hid h8
            have HK8 := Lib.hid (HK7.out.trans k8)
            clear h8 k8
            go_wp2_with fail
            go_roundg f
            case measure => omega
            case rel => exact ⟨s2, f, zs ++ [(item, .slice none 0 0)], .slice A6 m6 cap6, Nat.le_refl _, hf5, by omega, H8.out, HK8.out, hr8, hb8, HZ8.out, by rw [HLZ.out, HM6.out]; omega, by show _ = _; rw [HST.out, List.map_append]; rfl⟩
end
end Go.Proofs.YtoniccokohjenaaDoor
