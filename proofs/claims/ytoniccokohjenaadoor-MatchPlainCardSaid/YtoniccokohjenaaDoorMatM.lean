/-
  The maker of steps in memory; the walks of put, fork (chapter 19).
-/
import Derived.Test.YtoniccokohjenaaDoorMatD
import Derived.Test.YtoniccokohjenaaDoorMatZ
namespace Go.Proofs.YtoniccokohjenaaDoor
open Go.RowKit

abbrev TMk : TypeId := 51
abbrev TS : TypeId := 55
/-- a step's cells; kv: its part's parts -/
def stCells (z : Stp × Value) : List Value := [.int .i64 (z.1.kind : Int), .int .i64 (z.1.x.kind : Int), .int .i64 z.1.x.rune, .int .i64 z.1.x.to, z.2, .int .i64 z.1.x.min, .int .i64 z.1.x.max, .bool z.1.x.lazy, .bool z.1.x.not, .int .i64 (z.1.x.group : Int), .string ⟨z.1.x.name.toArray⟩, .int .i64 (z.1.a : Int), .int .i64 (z.1.b : Int)]
def stAgg (z : Stp × Value) : Value := .agg #[.int .i64 (z.1.kind : Int), .int .i64 (z.1.x.kind : Int), .int .i64 z.1.x.rune, .int .i64 z.1.x.to, z.2, .int .i64 z.1.x.min, .int .i64 z.1.x.max, .bool z.1.x.lazy, .bool z.1.x.not, .int .i64 (z.1.x.group : Int), .string ⟨z.1.x.name.toArray⟩, .int .i64 (z.1.a : Int), .int .i64 (z.1.b : Int)]
def stsCells (zs : List (Stp × Value)) : List Value := zs.flatMap stCells
theorem st_len (z : Stp × Value) : (stCells z).length = 13 := rfl
theorem st_agg (z : Stp × Value) : stAgg z = .agg (stCells z).toArray := rfl
theorem sts_snoc (zs : List (Stp × Value)) (z : Stp × Value) : stsCells (zs ++ [z]) = stsCells zs ++ stCells z := by unfold stsCells; simp [List.flatMap_append]
theorem infoS : (Tryd.prog.info? TS).map (fun i => (i.zero, i.size, i.bytes)) = some (some (.agg #[.int .i64 0, .int .i64 0, .int .i64 0, .int .i64 0, .slice none 0 0, .int .i64 0, .int .i64 0, .bool false, .bool false, .int .i64 0, .string ⟨#[]⟩, .int .i64 0, .int .i64 0]), 13, 120) := by kernel_rfl
theorem sizeS : (Tryd.prog.info? TS).map (·.size) = some 13 := by kernel_rfl
theorem underS : ∃ d, Tryd.prog.underlying TS = some d ∧ d.isRow = true := ⟨_, Tryd.underlying55, rfl⟩
theorem yields_st {S : World → Prop} {ops : Array Oper} {op : Oper} {a : Act} {q o : Nat} {z : Stp × Value} (hS : ∀ W, S W → W.rangeAt q o (stCells z)) (hw : Region.wanted op (yielded ops a.tmps) = true) (y : Operand) (ho : op.op = .load TS y) (hx : a.eval y = .pointer (some ⟨q, o, none⟩)) : YieldsIf Tryd.prog ops S op (stAgg z) a := by
  obtain ⟨d, hd, hrow⟩ := underS
  rw [st_agg]
  exact yieldsIf_load_mid hw TS y ho q o hx (stCells z) d hS hd hrow (by rw [sizeS, st_len])
/-- a step's part lies below w0 -/
def TzS (w0 : World) (z : Stp × Value) : Prop := ∃ A c, z.2 = .slice A z.1.x.kids.length c ∧ KT w0 z.1.x A c
theorem TzS.one {w0 : World} {z : Stp × Value} (h : TzS w0 z) : ∀ u ∈ stCells z, u.oneCell' = true := fun u hu => by
  obtain ⟨A, c, e, _⟩ := h
  simp only [stCells, List.mem_cons, List.not_mem_nil, or_false, e] at hu
  rcases hu with rfl | rfl | rfl | rfl | rfl | rfl | rfl | rfl | rfl | rfl | rfl | rfl | rfl <;> rfl
/-- a step without a part -/
theorem TzS.plain (w0 : World) (k a b : Nat) : TzS w0 (⟨k, rxNone, a, b⟩, .slice none 0 0) := ⟨none, 0, rfl, KX.leaf rfl⟩

/-- the maker, with these steps -/
structure MkB (w0 W : World) (g : Nat) (zs : List (Stp × Value)) : Prop where
  below : Below w0.heap.size w0 W
  lo : w0.heap.size ≤ g
  row : ∃ A cap, W.heap[g]? = some (.cells #[.slice A zs.length cap] TMk (0, 0)) ∧ W.ownsRow (g + 1) TS 13 (.slice A zs.length cap) zs.length (stsCells zs)
  form : ∀ z ∈ zs, TzS w0 z
/-- blocks of other kinds are as they were -/
def OffM (w w' : World) : Prop := ∀ (q : Nat) (c : Array Value) (T : TypeId) (z : Nat × Nat), T ≠ TMk → T ≠ TS → w.heap[q]? = some (.cells c T z) → w'.heap[q]? = some (.cells c T z)
theorem OffM.refl (w : World) : OffM w w := fun _ _ _ _ _ _ h => h
theorem OffM.trans {a b c : World} (h : OffM a b) (k : OffM b c) : OffM a c := fun q cs T z h1 h2 hq => k q cs T z h1 h2 (h q cs T z h1 h2 hq)
theorem OffM.call {w w' : World} (hb : Below w.heap.size w w') : OffM w w' := fun _ _ _ _ _ _ hq => heap_call hq hb
section
variable {w0 W W' : World} {g : Nat} {zs : List (Stp × Value)}
theorem MkB.call (h : MkB w0 W g zs) (hb : Below W.heap.size W W') : MkB w0 W' g zs := by
  refine ⟨h.below.trans (hb.mono h.below.size), h.lo, ?_, h.form⟩
  obtain ⟨A, cap, h1, h2⟩ := h.row
  exact ⟨A, cap, heap_call h1 hb, rowns_below h2 hb⟩
theorem MkB.size (h : MkB w0 W g zs) : w0.heap.size ≤ W.heap.size := h.below.size
theorem MkB.lt (h : MkB w0 W g zs) : g < W.heap.size := by
  obtain ⟨A, cap, h1, _⟩ := h.row
  exact (Array.getElem?_eq_some_iff.1 h1).1
theorem MkB.drew (h : MkB w0 W g zs) : MkB w0 W.drew g zs := ⟨h.below.drew, h.lo, h.row, h.form⟩
end
/-- a step is laid behind, and the row stored: from the world in which it is appended -/
theorem MkB.pushed {w0 W Y : World} {g : Nat} {zs : List (Stp × Value)} {z : Stp × Value} (h : MkB w0 W g zs) (hb : Below W.heap.size W Y) {A : Option Addr} {cap : Nat} (hg : W.heap[g]? = some (.cells #[.slice A zs.length cap] TMk (0, 0))) {Y2 : World} {v' : Value}
    (hz : TzS w0 z) (hgr : Y.grownBy Y2 (Value.slice A zs.length cap).ownBlock) (ho : Y2.ownsRow (g + 1) TS 13 v' (zs.length + 1) (stsCells zs ++ stCells z)) (hrow : W.ownsRow (g + 1) TS 13 (.slice A zs.length cap) zs.length (stsCells zs)) :
    (∃ A' cap', v' = .slice A' (zs.length + 1) cap') ∧ Y2.heap[g]? = some (.cells #[.slice A zs.length cap] TMk (0, 0)) ∧ MkB w0 (Y2.setCell ⟨g, 0, none⟩ v') g (zs ++ [z]) ∧ OffM W (Y2.setCell ⟨g, 0, none⟩ v') := by
  have hgl := (Array.getElem?_eq_some_iff.1 hg).1
  have hk := rrow_kind hrow
  have hg2 : Y2.heap[g]? = some (.cells #[.slice A zs.length cap] TMk (0, 0)) := by
    rw [hgr.block g (Nat.lt_of_lt_of_le hgl hb.size) (fun e => by have := (hk g e.symm).1; omega)]
    exact heap_call hg hb
  obtain ⟨A', cap', rfl⟩ := rowns_slice ho
  have hby : Below w0.heap.size w0 Y := h.below.trans (hb.mono h.below.size)
  have hb2 : Below w0.heap.size w0 Y2 := hby.grown hgr hby.size (fun j hj => by have := (hk j hj).1; have := h.lo; omega)
  refine ⟨⟨A', cap', rfl⟩, hg2, ⟨hb2.setCell (p := ⟨g, 0, none⟩) h.lo _, h.lo, ⟨A', cap', ?_, ?_⟩, ?_⟩, ?_⟩
  · rw [List.length_append, List.length_singleton]
    have := rheap_set (k := 0) hg2 (.slice A' (zs.length + 1) cap')
    simpa using this
  · rw [List.length_append, List.length_singleton, sts_snoc]
    exact rowns_block ho fun k c zz hk2 hh => (rheap_far (p := ⟨g, 0, none⟩) (fun e => by have := (rrow_kind ho k hk2).1; have e' : g = k := e; omega)).trans hh
  · intro y hy
    rcases List.mem_append.1 hy with hy | hy
    · exact h.form y hy
    · obtain rfl := List.mem_singleton.1 hy; exact hz
  · intro q c T zz h1 h2 hq
    have hql := (Array.getElem?_eq_some_iff.1 hq).1
    have hqg : q ≠ g := fun e => by subst e; rw [hg] at hq; injection hq with hq; injection hq with _ hq _; exact h1 hq.symm
    refine (rheap_far (p := ⟨g, 0, none⟩) (fun e => hqg e.symm)).trans ?_
    rw [hgr.block q (Nat.lt_of_lt_of_le hql hb.size) (fun e => by
      obtain ⟨_, _, c', z', hc⟩ := hk q e.symm
      rw [hq] at hc; injection hc with hc; injection hc with _ hc _; exact h2 hc)]
    exact heap_call hq hb

set_option maxHeartbeats 4000000 in
set_option maxRecDepth 100000 in
theorem mtPut_any {w0 : World} {g : Nat} {zs : List (Stp × Value)} (z : Stp × Value) (w : World) (h : MkB w0 w g zs) (hz : TzS w0 z) (hn : zs.length ≤ 100000) :
    Calls Tryd.prog 14 #[.pointer (some ⟨g, 0, none⟩), stAgg z] w (RetE (.int .i64 (zs.length : Int)) fun w' => MkB w0 w' g (zs ++ [z]) ∧ OffM w w') := by
  obtain ⟨i0, hi0, hz0, hz1, hz2⟩ := info_parts infoS
  have s1 := World.size_alloc w (.cells (stCells z).toArray TS)
  have hb1 : Below w.heap.size w (w.alloc (.cells (stCells z).toArray TS)) := (Below.refl _ w).alloc (Nat.le_refl _) _
  obtain ⟨W1, hW1⟩ : ∃ W1, W1 = w.alloc (.cells (stCells z).toArray TS) := ⟨_, rfl⟩
  have h1 : MkB w0 W1 g zs := by rw [hW1]; exact h.call hb1
  have hx1 : W1.heap[w.heap.size]? = some (.cells (stCells z).toArray TS (0, 0)) := by rw [hW1]; exact Go.heap_alloc_new w _
  obtain ⟨A, cap, hg0, hrow0⟩ := h.row
  have hg := heap_call (w' := W1) hg0 (by rw [hW1]; exact hb1)
  have hrow := rowns_below (w' := W1) hrow0 (by rw [hW1]; exact hb1)
  have HGL := Lib.hid h.lt
  have HNE := Lib.hid (show some w.heap.size ≠ (Value.slice A zs.length cap).ownBlock from fun e => by
    have := (rrow_kind hrow0 w.heap.size e.symm).2.1
    omega)
  have HO1 := Lib.hid (show OffM w W1 by rw [hW1]; exact OffM.call hb1)
  have H1 := Lib.hid h1
  have HX1 := Lib.hid hx1
  have HG := Lib.hid hg
  have HR := Lib.hid hrow
  have HZ := Lib.hid hz
  have HZO := Lib.hid hz.one
  clear h h1 hx1 hg hrow hz hb1 s1 hg0 hrow0
  simp only [stCells] at hW1
  simp only [stAgg]
  go_enter Tryd.func14, Tryd.ntmps14
  go_upto_region 1 with fail
  rw [← hW1]
  clear hW1
  have hS1 : Below w0.heap.size w0 W1.drew ∧ W1.drew.heap[w.heap.size]? = some (.cells (stCells z).toArray TS (0, 0)) := ⟨H1.out.below.drew, HX1.out⟩
  refine wp_region_held_drew (S := (fun Y => Below w0.heap.size w0 Y ∧ Y.heap[w.heap.size]? = some (.cells (stCells z).toArray TS (0, 0)))) (by kernel_rfl) hS1 (fun hS0 => ?_)
  clear hS1
  refine wpAnyH_take (i := 0) (v := Value.pointer (some ⟨g, 0, none⟩)) rfl (by kernel_rfl) (by kernel_rfl) (by kernel_rfl) (fun _ _ _ h => h) (.inl ⟨by kernel_rfl, fun _ _ => by go_simp⟩) hS0 ?_
  refine wpAnyH_take (i := 1) (v := Value.pointer (some ⟨g, 0, none⟩)) rfl (by kernel_rfl) (by kernel_rfl) (by kernel_rfl) (fun _ _ _ h => h) (.inl ⟨by kernel_rfl, fun _ _ => by go_simp⟩) hS0 ?_
  refine wpAnyH_take (i := 2) (v := Value.pointer (some ⟨g, 0, none⟩)) rfl (by kernel_rfl) (by kernel_rfl) (by kernel_rfl) (fun _ _ _ h => h) (.inl ⟨by kernel_rfl, fun _ _ => by go_simp⟩) hS0 ?_
  refine wpAnyH_take (i := 3) (v := Value.pointer (some ⟨g, 0, none⟩)) rfl (by kernel_rfl) (by kernel_rfl) (by kernel_rfl) (fun _ _ _ h => h) (.inl ⟨by kernel_rfl, fun _ _ => by go_simp⟩) hS0 ?_
  refine wpAnyH_take (i := 5) (v := stAgg z) rfl (by kernel_rfl) (by kernel_rfl) (by kernel_rfl) (fun _ _ _ h => h) (yields_st (fun _ H => range_of H.2) (by kernel_rfl) _ rfl rfl) hS0 ?_
  simp only [stAgg]
  have HB := Lib.hid ((Below.refl W1.heap.size W1).drew)
  have HGN := Lib.hid (show g ≠ w.heap.size from fun e => by have := HGL.out; omega)
  obtain ⟨Y, hY⟩ : ∃ Y, Y = W1.drew := ⟨_, rfl⟩
  rw [← hY] at hS0 HB ⊢
  clear hY
  refine wpAnyH_ready (rs := [4, 6]) (by kernel_rfl) (by simp) ?_
  refine AllReadyH.cons rfl ?_ (AllReadyH.cons rfl ?_ AllReadyH.nil)
  · intro K hK
    -- the row is loaded
    have cG : Y.cell? ⟨g, 0, none⟩ = some (.slice A zs.length cap) := by rw [Lib.cell_of_heap (heap_call HG.out HB.out)]; rfl
    go_simp
    refine hK.out _ _ hS0 (fun hS0 => ?_)
    clear hK K cG
    refine wpAnyH_ready (rs := [6]) (by kernel_rfl) (by simp) ?_
    refine AllReadyH.cons rfl ?_ AllReadyH.nil
    intro K hK
    -- the step is laid in a block of its own
    go_simp
    refine hK.out _ _ ⟨hS0.1.alloc hS0.1.size _, (Below.heap_alloc Y _ _ (Array.getElem?_eq_some_iff.1 hS0.2).1).trans hS0.2⟩ (fun hS0 => ?_)
    clear hK K
    have F5 := Lib.hid (Go.heap_alloc_new Y (.cells #[.int .i64 (z.1.kind : Int), .int .i64 (z.1.x.kind : Int), .int .i64 z.1.x.rune, .int .i64 z.1.x.to, z.2, .int .i64 z.1.x.min, .int .i64 z.1.x.max, .bool z.1.x.lazy, .bool z.1.x.not, .int .i64 (z.1.x.group : Int), .string ⟨z.1.x.name.toArray⟩, .int .i64 (z.1.a : Int), .int .i64 (z.1.b : Int)] TS))
    have HB := Lib.hid (HB.out.alloc HB.out.size (.cells #[.int .i64 (z.1.kind : Int), .int .i64 (z.1.x.kind : Int), .int .i64 z.1.x.rune, .int .i64 z.1.x.to, z.2, .int .i64 z.1.x.min, .int .i64 z.1.x.max, .bool z.1.x.lazy, .bool z.1.x.not, .int .i64 (z.1.x.group : Int), .string ⟨z.1.x.name.toArray⟩, .int .i64 (z.1.a : Int), .int .i64 (z.1.b : Int)] TS))
    generalize Y.heap.size = q at *
    generalize Y.alloc (.cells #[.int .i64 (z.1.kind : Int), .int .i64 (z.1.x.kind : Int), .int .i64 z.1.x.rune, .int .i64 z.1.x.to, z.2, .int .i64 z.1.x.min, .int .i64 z.1.x.max, .bool z.1.x.lazy, .bool z.1.x.not, .int .i64 (z.1.x.group : Int), .string ⟨z.1.x.name.toArray⟩, .int .i64 (z.1.a : Int), .int .i64 (z.1.b : Int)] TS) = Y at *
    refine wpAnyH_ready (rs := [7]) (by kernel_rfl) (by simp) ?_
    refine AllReadyH.cons rfl ?_ AllReadyH.nil
    intro K hK
    -- it is laid behind the row, which is stored
    obtain ⟨v', Y2, hr, ho, hgr, _, _⟩ := run_append_own_at (P := Tryd.prog) Y (g + 1) 49 49 TS i0 _ 13 120 Tryd.underlying49 hi0 hz0 hz1 hz2 rfl (by decide) _ _ _ (rowns_below HR.out HB.out) ⟨q, 0, none⟩ 1 1 (stCells z) rfl (fun j u hu => by
      have hadd : (⟨q, 0, none⟩ : Addr).add j = ⟨q, 0 + j, none⟩ := by unfold Addr.add; split <;> simp_all
      rw [hadd, Nat.zero_add, Lib.cell_of_heap F5.out]; simpa [stCells] using hu) HZO.out (by unfold maxLen; omega) (by omega) (by have := H1.out.lt; have := HB.out.size; omega)
    obtain ⟨⟨A', cap', hv'⟩, hg2, hm, hoff⟩ := H1.out.pushed HB.out HG.out HZ.out hgr ho HR.out
    have hb2 := hm.below
    have hx2 : Y2.heap[w.heap.size]? = some (.cells (stCells z).toArray TS (0, 0)) := (hgr.block w.heap.size (Array.getElem?_eq_some_iff.1 hS0.2).1 HNE.out).trans hS0.2
    have hb3 : Below w0.heap.size w0 Y2 := hS0.1.grown hgr hS0.1.size (fun j hj => by have := (rrow_kind HR.out j hj).1; have := H1.out.lo; omega)
    subst hv'
    rw [if_pos (by kernel_rfl)]
    with_reducible refine wp_app _ _ (by with_unfolding_all rfl) (by with_unfolding_all rfl) (by with_unfolding_all rfl) hr ?_
    refine hK.out _ _ ⟨hb3, hx2⟩ (fun hS0 => ?_)
    clear hK K hr
    have HM := Lib.hid hm
    have HOF := Lib.hid hoff
    have cS : Y2.cell? ⟨g, 0, none⟩ = some (.slice A zs.length cap) := by rw [Lib.cell_of_heap hg2]; rfl
    have fS := Lib.frozen_of_heap hg2 0
    clear ho hgr hm hoff hb3
    refine wpAnyH_take (i := 8) (v := Value.pointer (some ⟨g, 0, none⟩)) rfl (by kernel_rfl) (by kernel_rfl) (by kernel_rfl) (fun _ _ _ h => h) (.inl ⟨by kernel_rfl, fun _ _ => by go_simp⟩) hS0 ?_
    refine wpAnyH_take (i := 9) (v := Value.pointer (some ⟨g, 0, none⟩)) rfl (by kernel_rfl) (by kernel_rfl) (by kernel_rfl) (fun _ _ _ h => h) (.inl ⟨by kernel_rfl, fun _ _ => by go_simp⟩) hS0 ?_
    refine wpAnyH_ready (rs := [10]) (by kernel_rfl) (by simp) ?_
    refine AllReadyH.cons rfl ?_ AllReadyH.nil
    intro K hK
    go_simp
    try dsimp only
    refine hK.out _ _ ⟨HM.out.below, (rheap_far (p := ⟨g, 0, none⟩) HGN.out).trans hx2⟩ (fun hS0 => ?_)
    clear hK K
    clear hS0 cS fS hx2 hb2
    refine wpAnyH_done (by kernel_rfl) ?_ _
    have HMM := Lib.hid HM.out
    obtain ⟨A9, c9, hc9, _⟩ := HM.out.row
    have cG : (Y2.setCell ⟨g, 0, none⟩ (.slice A' (zs.length + 1) cap')).cell? ⟨g, 0, none⟩ = some (.slice A9 (zs ++ [z]).length c9) := by rw [Lib.cell_of_heap hc9]; rfl
    rw [List.length_append, List.length_singleton] at cG
    clear hc9 hg2
    generalize Y2.setCell ⟨g, 0, none⟩ (.slice A' (zs.length + 1) cap') = Y3 at *
    go_wp2
    go_ret
    exact ⟨by simp, HMM.out, HO1.out.trans HOF.out⟩
  · intro K hK
    -- the step is laid in a block of its own
    go_simp
    refine hK.out _ _ ⟨hS0.1.alloc hS0.1.size _, (Below.heap_alloc Y _ _ (Array.getElem?_eq_some_iff.1 hS0.2).1).trans hS0.2⟩ (fun hS0 => ?_)
    clear hK K
    have F5 := Lib.hid (Go.heap_alloc_new Y (.cells #[.int .i64 (z.1.kind : Int), .int .i64 (z.1.x.kind : Int), .int .i64 z.1.x.rune, .int .i64 z.1.x.to, z.2, .int .i64 z.1.x.min, .int .i64 z.1.x.max, .bool z.1.x.lazy, .bool z.1.x.not, .int .i64 (z.1.x.group : Int), .string ⟨z.1.x.name.toArray⟩, .int .i64 (z.1.a : Int), .int .i64 (z.1.b : Int)] TS))
    have HB := Lib.hid (HB.out.alloc HB.out.size (.cells #[.int .i64 (z.1.kind : Int), .int .i64 (z.1.x.kind : Int), .int .i64 z.1.x.rune, .int .i64 z.1.x.to, z.2, .int .i64 z.1.x.min, .int .i64 z.1.x.max, .bool z.1.x.lazy, .bool z.1.x.not, .int .i64 (z.1.x.group : Int), .string ⟨z.1.x.name.toArray⟩, .int .i64 (z.1.a : Int), .int .i64 (z.1.b : Int)] TS))
    generalize Y.heap.size = q at *
    generalize Y.alloc (.cells #[.int .i64 (z.1.kind : Int), .int .i64 (z.1.x.kind : Int), .int .i64 z.1.x.rune, .int .i64 z.1.x.to, z.2, .int .i64 z.1.x.min, .int .i64 z.1.x.max, .bool z.1.x.lazy, .bool z.1.x.not, .int .i64 (z.1.x.group : Int), .string ⟨z.1.x.name.toArray⟩, .int .i64 (z.1.a : Int), .int .i64 (z.1.b : Int)] TS) = Y at *
    refine wpAnyH_ready (rs := [4]) (by kernel_rfl) (by simp) ?_
    refine AllReadyH.cons rfl ?_ AllReadyH.nil
    intro K hK
    -- the row is loaded
    have cG : Y.cell? ⟨g, 0, none⟩ = some (.slice A zs.length cap) := by rw [Lib.cell_of_heap (heap_call HG.out HB.out)]; rfl
    go_simp
    refine hK.out _ _ hS0 (fun hS0 => ?_)
    clear hK K cG
    refine wpAnyH_ready (rs := [7]) (by kernel_rfl) (by simp) ?_
    refine AllReadyH.cons rfl ?_ AllReadyH.nil
    intro K hK
    -- it is laid behind the row, which is stored
    obtain ⟨v', Y2, hr, ho, hgr, _, _⟩ := run_append_own_at (P := Tryd.prog) Y (g + 1) 49 49 TS i0 _ 13 120 Tryd.underlying49 hi0 hz0 hz1 hz2 rfl (by decide) _ _ _ (rowns_below HR.out HB.out) ⟨q, 0, none⟩ 1 1 (stCells z) rfl (fun j u hu => by
      have hadd : (⟨q, 0, none⟩ : Addr).add j = ⟨q, 0 + j, none⟩ := by unfold Addr.add; split <;> simp_all
      rw [hadd, Nat.zero_add, Lib.cell_of_heap F5.out]; simpa [stCells] using hu) HZO.out (by unfold maxLen; omega) (by omega) (by have := H1.out.lt; have := HB.out.size; omega)
    obtain ⟨⟨A', cap', hv'⟩, hg2, hm, hoff⟩ := H1.out.pushed HB.out HG.out HZ.out hgr ho HR.out
    have hb2 := hm.below
    have hx2 : Y2.heap[w.heap.size]? = some (.cells (stCells z).toArray TS (0, 0)) := (hgr.block w.heap.size (Array.getElem?_eq_some_iff.1 hS0.2).1 HNE.out).trans hS0.2
    have hb3 : Below w0.heap.size w0 Y2 := hS0.1.grown hgr hS0.1.size (fun j hj => by have := (rrow_kind HR.out j hj).1; have := H1.out.lo; omega)
    subst hv'
    rw [if_pos (by kernel_rfl)]
    with_reducible refine wp_app _ _ (by with_unfolding_all rfl) (by with_unfolding_all rfl) (by with_unfolding_all rfl) hr ?_
    refine hK.out _ _ ⟨hb3, hx2⟩ (fun hS0 => ?_)
    clear hK K hr
    have HM := Lib.hid hm
    have HOF := Lib.hid hoff
    have cS : Y2.cell? ⟨g, 0, none⟩ = some (.slice A zs.length cap) := by rw [Lib.cell_of_heap hg2]; rfl
    have fS := Lib.frozen_of_heap hg2 0
    clear ho hgr hm hoff hb3
    refine wpAnyH_take (i := 8) (v := Value.pointer (some ⟨g, 0, none⟩)) rfl (by kernel_rfl) (by kernel_rfl) (by kernel_rfl) (fun _ _ _ h => h) (.inl ⟨by kernel_rfl, fun _ _ => by go_simp⟩) hS0 ?_
    refine wpAnyH_take (i := 9) (v := Value.pointer (some ⟨g, 0, none⟩)) rfl (by kernel_rfl) (by kernel_rfl) (by kernel_rfl) (fun _ _ _ h => h) (.inl ⟨by kernel_rfl, fun _ _ => by go_simp⟩) hS0 ?_
    refine wpAnyH_ready (rs := [10]) (by kernel_rfl) (by simp) ?_
    refine AllReadyH.cons rfl ?_ AllReadyH.nil
    intro K hK
    go_simp
    try dsimp only
    refine hK.out _ _ ⟨HM.out.below, (rheap_far (p := ⟨g, 0, none⟩) HGN.out).trans hx2⟩ (fun hS0 => ?_)
    clear hK K
    clear hS0 cS fS hx2 hb2
    refine wpAnyH_done (by kernel_rfl) ?_ _
    have HMM := Lib.hid HM.out
    obtain ⟨A9, c9, hc9, _⟩ := HM.out.row
    have cG : (Y2.setCell ⟨g, 0, none⟩ (.slice A' (zs.length + 1) cap')).cell? ⟨g, 0, none⟩ = some (.slice A9 (zs ++ [z]).length c9) := by rw [Lib.cell_of_heap hc9]; rfl
    rw [List.length_append, List.length_singleton] at cG
    clear hc9 hg2
    generalize Y2.setCell ⟨g, 0, none⟩ (.slice A' (zs.length + 1) cap') = Y3 at *
    go_wp2
    go_ret
    exact ⟨by simp, HMM.out, HO1.out.trans HOF.out⟩

/-- fork's ways -/
def stWays (z : Stp × Value) (a b : Nat) : Stp × Value := (⟨z.1.kind, z.1.x, a, b⟩, z.2)
theorem sts_set : ∀ (zs : List (Stp × Value)) (i a b : Nat) (h : i < zs.length), ((stsCells zs).set (i * 13 + 11) (.int .i64 (a : Int))).set (i * 13 + 12) (.int .i64 (b : Int)) = stsCells (zs.set i (stWays zs[i] a b))
  | [], i, _, _, h => absurd h (Nat.not_lt_zero _)
  | z :: zs, 0, a, b, h => by
    have e : ∀ zs : List (Stp × Value), ∀ y, stsCells (y :: zs) = stCells y ++ stsCells zs := fun _ _ => rfl
    simp only [List.set_cons_zero, e, List.getElem_cons_zero]
    rfl
  | z :: zs, i + 1, a, b, h => by
    have e : ∀ zs : List (Stp × Value), ∀ y, stsCells (y :: zs) = stCells y ++ stsCells zs := fun _ _ => rfl
    have ih := sts_set zs i a b (by simpa using h)
    simp only [List.set_cons_succ, e, List.getElem_cons_succ]
    rw [← ih]
    have hl : (stCells z).length = 13 := rfl
    rw [List.set_append_right _ _ (by rw [hl]; omega), hl, List.set_append_right _ _ (by rw [hl]; omega), hl]
    rw [show (i + 1) * 13 + 11 - 13 = i * 13 + 11 by omega, show (i + 1) * 13 + 12 - 13 = i * 13 + 12 by omega]

theorem getE {zs : List (Stp × Value)} {i : Nat} {z : Stp × Value} (h : zs[i]? = some z) : ∃ hi : i < zs.length, zs[i] = z := by
  have hi := (List.getElem?_eq_some_iff.1 h).1
  exact ⟨hi, (List.getElem?_eq_some_iff.1 h).2⟩
/-- a fork's ways are stored -/
theorem MkB.forked {w0 W : World} {g : Nat} {zs : List (Stp × Value)} (h : MkB w0 W g zs) {i : Nat} {z : Stp × Value} (hi : zs[i]? = some z) (a b : Nat) :
    ∃ q cap, W.heap[g]? = some (.cells #[.slice (some ⟨q, 0, none⟩) zs.length cap] TMk (0, 0)) ∧ q ≠ g ∧ zs.length ≤ cap ∧ (∃ cs, W.heap[q]? = some (.cells cs TS (0, 0)) ∧ i * 13 + 12 < cs.size) ∧
      MkB w0 ((W.setCell ⟨q, i * 13 + 11, none⟩ (.int .i64 (a : Int))).setCell ⟨q, i * 13 + 12, none⟩ (.int .i64 (b : Int))) g (zs.set i (stWays z a b)) ∧
      OffM W ((W.setCell ⟨q, i * 13 + 11, none⟩ (.int .i64 (a : Int))).setCell ⟨q, i * 13 + 12, none⟩ (.int .i64 (b : Int))) := by
  obtain ⟨hil, hz⟩ := getE hi
  obtain ⟨A, cap, hg, hrow⟩ := h.row
  rcases hrow.2 with ⟨_, h0⟩ | ⟨q, cap', cur, hv, hq, hh, hcap, hmx, hcs, htk⟩
  · omega
  injection hv with e1 e2 e3
  subst e1 e3
  have hgl := (Array.getElem?_eq_some_iff.1 hg).1
  have r1 := (hrow.stored (i * 13 + 11) (.int .i64 (a : Int))).1
  have r2 := (r1.stored (i * 13 + 12) (.int .i64 (b : Int))).1
  have hqg : q ≠ g := by omega
  refine ⟨q, cap, hg, hqg, hcap, ⟨cur, hh, ?_⟩, ⟨(h.below.setCell (p := ⟨q, i * 13 + 11, none⟩) (by have := h.lo; show w0.heap.size ≤ q; omega) _).setCell (p := ⟨q, i * 13 + 12, none⟩) (by have := h.lo; show w0.heap.size ≤ q; omega) _, h.lo, ⟨some ⟨q, 0, none⟩, cap, ?_, ?_⟩, ?_⟩, ?_⟩
  · rw [hcs]
    have : (i + 1) * 13 ≤ cap * 13 := Nat.mul_le_mul_right _ (by omega)
    omega
  · rw [List.length_set]
    exact (rheap_far (p := ⟨q, i * 13 + 12, none⟩) hqg).trans ((rheap_far (p := ⟨q, i * 13 + 11, none⟩) hqg).trans hg)
  · rw [List.length_set]
    rw [sts_set zs i a b hil, hz] at r2
    exact r2
  · intro y hy
    rcases List.mem_or_eq_of_mem_set hy with hy | rfl
    · exact h.form y hy
    · obtain ⟨A', c', e, hk⟩ := h.form z (List.mem_of_getElem? hi)
      exact ⟨A', c', e, hk⟩
  · intro k c T zz h1 h2 hk
    have hkq : q ≠ k := fun e => by subst e; rw [hh] at hk; injection hk with hk; injection hk with _ hk _; exact h2 hk.symm
    exact (rheap_far (p := ⟨q, i * 13 + 12, none⟩) hkq).trans ((rheap_far (p := ⟨q, i * 13 + 11, none⟩) hkq).trans hk)

theorem mk_cell {W : World} {g : Nat} {v : Value} (h : W.heap[g]? = some (.cells #[v] TMk (0, 0))) : W.cell? ⟨g, 0, none⟩ = some v := by rw [Lib.cell_of_heap h]; rfl
/-- one cell more is stored -/
theorem cells_set {W : World} {q j n : Nat} {u : Value} (h : ∃ cs, W.heap[q]? = some (.cells cs TS (0, 0)) ∧ n < cs.size) : ∃ cs, (W.setCell ⟨q, j, none⟩ u).heap[q]? = some (.cells cs TS (0, 0)) ∧ n < cs.size := by
  obtain ⟨cs, h1, h2⟩ := h
  exact ⟨_, rheap_set h1 u, by simpa using h2⟩
theorem cells_at {W : World} {q j n : Nat} (h : ∃ cs, W.heap[q]? = some (.cells cs TS (0, 0)) ∧ n < cs.size) (hj : j ≤ n) : (∃ u, W.cell? ⟨q, j, none⟩ = some u) ∧ W.frozen? ⟨q, j, none⟩ = false := by
  obtain ⟨cs, h1, h2⟩ := h
  exact ⟨⟨_, by rw [Lib.cell_of_heap h1]; exact Array.getElem?_eq_getElem (by omega)⟩, Lib.frozen_of_heap h1 j⟩

set_option maxHeartbeats 4000000 in
set_option maxRecDepth 100000 in
theorem mtFork_any {w0 : World} {g : Nat} {zs : List (Stp × Value)} {z : Stp × Value} (i more on : Nat) (lz : Bool) (w : World) (h : MkB w0 w g zs) (hi : zs[i]? = some z) :
    Calls Tryd.prog 34 #[.pointer (some ⟨g, 0, none⟩), .int .i64 (i : Int), .int .i64 (more : Int), .int .i64 (on : Int), .bool lz] w (RetE (.tuple #[]) fun w' => MkB w0 w' g (zs.set i (stWays z (if lz then on else more) (if lz then more else on))) ∧ OffM w w') := by
  have H := Lib.hid h
  have HI := Lib.hid hi
  have HIL := Lib.hid (getE hi).1
  clear h hi
  cases lz with
  | false =>
    simp only [Bool.false_eq_true, if_false]
    go_enter Tryd.func34, Tryd.ntmps34
    obtain ⟨q, cap, hg, hqg, hcap, hcs, hm, hoff⟩ := H.out.forked HI.out more on
    have HM := Lib.hid hm
    have HOF := Lib.hid hoff
    have HGC := Lib.hid hg
    have HCS := Lib.hid hcs
    have HQG := Lib.hid hqg
    have hil := HIL.out
    have b1 : (0 : Int) ≤ (i : Int) := by omega
    have b2 : (i : Int) < (zs.length : Int) := by omega
    clear hm hoff hg hcs hqg
    go_upto_region 2 with fail
    refine wp_region_held_drew (S := (fun Y => Y.heap[g]? = some (.cells #[.slice (some ⟨q, 0, none⟩) zs.length cap] TMk (0, 0)) ∧ ∃ cs, Y.heap[q]? = some (.cells cs TS (0, 0)) ∧ i * 13 + 12 < cs.size)) (by kernel_rfl) ⟨HGC.out, HCS.out⟩ (fun hS0 => ?_)
    refine wpAnyH_take (i := 0) (v := Value.pointer (some ⟨g, 0, none⟩)) rfl (by kernel_rfl) (by kernel_rfl) (by kernel_rfl) (fun _ _ _ h => h) (.inl ⟨by kernel_rfl, fun _ _ => by go_simp⟩) hS0 ?_
    refine wpAnyH_take (i := 1) (v := Value.pointer (some ⟨g, 0, none⟩)) rfl (by kernel_rfl) (by kernel_rfl) (by kernel_rfl) (fun _ _ _ h => h) (.inl ⟨by kernel_rfl, fun _ _ => by go_simp⟩) hS0 ?_
    refine wpAnyH_take (i := 2) (v := Value.pointer (some ⟨g, 0, none⟩)) rfl (by kernel_rfl) (by kernel_rfl) (by kernel_rfl) (fun _ _ _ h => h) (.inl ⟨by kernel_rfl, fun _ _ => by go_simp⟩) hS0 ?_
    refine wpAnyH_take (i := 3) (v := Value.slice (some ⟨q, 0, none⟩) zs.length cap) rfl (by kernel_rfl) (by kernel_rfl) (by kernel_rfl) (fun _ _ _ h => h) (.inl ⟨by kernel_rfl, fun _ H => by have cX := (mk_cell H.1); go_simp⟩) hS0 ?_
    refine wpAnyH_take (i := 4) (v := Value.int .i64 (i : Int)) rfl (by kernel_rfl) (by kernel_rfl) (by kernel_rfl) (fun _ _ _ h => h) (.inl ⟨by kernel_rfl, fun _ _ => by go_simp⟩) hS0 ?_
    refine wpAnyH_take (i := 5) (v := Value.pointer (some ⟨g, 0, none⟩)) rfl (by kernel_rfl) (by kernel_rfl) (by kernel_rfl) (fun _ _ _ h => h) (.inl ⟨by kernel_rfl, fun _ _ => by go_simp⟩) hS0 ?_
    refine wpAnyH_take (i := 6) (v := Value.pointer (some ⟨g, 0, none⟩)) rfl (by kernel_rfl) (by kernel_rfl) (by kernel_rfl) (fun _ _ _ h => h) (.inl ⟨by kernel_rfl, fun _ _ => by go_simp⟩) hS0 ?_
    refine wpAnyH_take (i := 7) (v := Value.pointer (some ⟨g, 0, none⟩)) rfl (by kernel_rfl) (by kernel_rfl) (by kernel_rfl) (fun _ _ _ h => h) (.inl ⟨by kernel_rfl, fun _ _ => by go_simp⟩) hS0 ?_
    refine wpAnyH_take (i := 8) (v := Value.slice (some ⟨q, 0, none⟩) zs.length cap) rfl (by kernel_rfl) (by kernel_rfl) (by kernel_rfl) (fun _ _ _ h => h) (.inl ⟨by kernel_rfl, fun _ H => by have cX := (mk_cell H.1); go_simp⟩) hS0 ?_
    refine wpAnyH_take (i := 9) (v := Value.int .i64 (i : Int)) rfl (by kernel_rfl) (by kernel_rfl) (by kernel_rfl) (fun _ _ _ h => h) (.inl ⟨by kernel_rfl, fun _ _ => by go_simp⟩) hS0 ?_
    refine wpAnyH_take (i := 10) (v := Value.int .i64 (more : Int)) rfl (by kernel_rfl) (by kernel_rfl) (by kernel_rfl) (fun _ _ _ h => h) (.inl ⟨by kernel_rfl, fun _ _ => by go_simp⟩) hS0 ?_
    refine wpAnyH_take (i := 11) (v := Value.int .i64 (on : Int)) rfl (by kernel_rfl) (by kernel_rfl) (by kernel_rfl) (fun _ _ _ h => h) (.inl ⟨by kernel_rfl, fun _ _ => by go_simp⟩) hS0 ?_
    refine wpAnyH_take (i := 12) (v := Value.pointer (some ⟨q, i * 13, none⟩)) rfl (by kernel_rfl) (by kernel_rfl) (by kernel_rfl) (fun _ _ _ h => h) (.inl ⟨by kernel_rfl, fun _ _ => by go_simp⟩) hS0 ?_
    refine wpAnyH_take (i := 13) (v := Value.pointer (some ⟨q, i * 13 + 11, none⟩)) rfl (by kernel_rfl) (by kernel_rfl) (by kernel_rfl) (fun _ _ _ h => h) (.inl ⟨by kernel_rfl, fun _ _ => by go_simp⟩) hS0 ?_
    obtain ⟨⟨u1, c1⟩, f1⟩ := cells_at hS0.2 (j := i * 13 + 11) (by omega)
    refine wpAnyH_ready (rs := [14]) (by kernel_rfl) (by simp) ?_
    refine AllReadyH.cons rfl ?_ AllReadyH.nil
    intro K hK
    go_simp
    try dsimp only
    refine hK.out _ _ ⟨(rheap_far (p := ⟨q, i * 13 + 11, none⟩) HQG.out).trans hS0.1, cells_set hS0.2⟩ (fun hS0 => ?_)
    clear hK K
    clear c1 f1
    refine wpAnyH_take (i := 15) (v := Value.pointer (some ⟨q, i * 13, none⟩)) rfl (by kernel_rfl) (by kernel_rfl) (by kernel_rfl) (fun _ _ _ h => h) (.inl ⟨by kernel_rfl, fun _ _ => by go_simp⟩) hS0 ?_
    refine wpAnyH_take (i := 16) (v := Value.pointer (some ⟨q, i * 13 + 12, none⟩)) rfl (by kernel_rfl) (by kernel_rfl) (by kernel_rfl) (fun _ _ _ h => h) (.inl ⟨by kernel_rfl, fun _ _ => by go_simp⟩) hS0 ?_
    obtain ⟨⟨u2, c2⟩, f2⟩ := cells_at hS0.2 (j := i * 13 + 12) (Nat.le_refl _)
    refine wpAnyH_ready (rs := [17]) (by kernel_rfl) (by simp) ?_
    refine AllReadyH.cons rfl ?_ AllReadyH.nil
    intro K hK
    go_simp
    try dsimp only
    refine hK.out _ _ ⟨(rheap_far (p := ⟨q, i * 13 + 12, none⟩) HQG.out).trans hS0.1, cells_set hS0.2⟩ (fun hS0 => ?_)
    clear hK K
    clear c2 f2
    refine wpAnyH_done (by kernel_rfl) ?_ _
    go_wp2
    refine bodyPost_ret (v := .tuple #[]) (by simp [results, Tryd.results34]) rfl ?_
    exact ⟨rfl, HM.out.drew, HOF.out⟩
  | true =>
    simp only [if_true]
    go_enter Tryd.func34, Tryd.ntmps34
    obtain ⟨q, cap, hg, hqg, hcap, hcs, hm, hoff⟩ := H.out.forked HI.out on more
    have HM := Lib.hid hm
    have HOF := Lib.hid hoff
    have HGC := Lib.hid hg
    have HCS := Lib.hid hcs
    have HQG := Lib.hid hqg
    have hil := HIL.out
    have b1 : (0 : Int) ≤ (i : Int) := by omega
    have b2 : (i : Int) < (zs.length : Int) := by omega
    clear hm hoff hg hcs hqg
    go_upto_region 2 with fail
    refine wp_region_held_drew (S := (fun Y => Y.heap[g]? = some (.cells #[.slice (some ⟨q, 0, none⟩) zs.length cap] TMk (0, 0)) ∧ ∃ cs, Y.heap[q]? = some (.cells cs TS (0, 0)) ∧ i * 13 + 12 < cs.size)) (by kernel_rfl) ⟨HGC.out, HCS.out⟩ (fun hS0 => ?_)
    refine wpAnyH_take (i := 0) (v := Value.pointer (some ⟨g, 0, none⟩)) rfl (by kernel_rfl) (by kernel_rfl) (by kernel_rfl) (fun _ _ _ h => h) (.inl ⟨by kernel_rfl, fun _ _ => by go_simp⟩) hS0 ?_
    refine wpAnyH_take (i := 1) (v := Value.pointer (some ⟨g, 0, none⟩)) rfl (by kernel_rfl) (by kernel_rfl) (by kernel_rfl) (fun _ _ _ h => h) (.inl ⟨by kernel_rfl, fun _ _ => by go_simp⟩) hS0 ?_
    refine wpAnyH_take (i := 2) (v := Value.pointer (some ⟨g, 0, none⟩)) rfl (by kernel_rfl) (by kernel_rfl) (by kernel_rfl) (fun _ _ _ h => h) (.inl ⟨by kernel_rfl, fun _ _ => by go_simp⟩) hS0 ?_
    refine wpAnyH_take (i := 3) (v := Value.slice (some ⟨q, 0, none⟩) zs.length cap) rfl (by kernel_rfl) (by kernel_rfl) (by kernel_rfl) (fun _ _ _ h => h) (.inl ⟨by kernel_rfl, fun _ H => by have cX := (mk_cell H.1); go_simp⟩) hS0 ?_
    refine wpAnyH_take (i := 4) (v := Value.int .i64 (i : Int)) rfl (by kernel_rfl) (by kernel_rfl) (by kernel_rfl) (fun _ _ _ h => h) (.inl ⟨by kernel_rfl, fun _ _ => by go_simp⟩) hS0 ?_
    refine wpAnyH_take (i := 5) (v := Value.pointer (some ⟨g, 0, none⟩)) rfl (by kernel_rfl) (by kernel_rfl) (by kernel_rfl) (fun _ _ _ h => h) (.inl ⟨by kernel_rfl, fun _ _ => by go_simp⟩) hS0 ?_
    refine wpAnyH_take (i := 6) (v := Value.pointer (some ⟨g, 0, none⟩)) rfl (by kernel_rfl) (by kernel_rfl) (by kernel_rfl) (fun _ _ _ h => h) (.inl ⟨by kernel_rfl, fun _ _ => by go_simp⟩) hS0 ?_
    refine wpAnyH_take (i := 7) (v := Value.pointer (some ⟨g, 0, none⟩)) rfl (by kernel_rfl) (by kernel_rfl) (by kernel_rfl) (fun _ _ _ h => h) (.inl ⟨by kernel_rfl, fun _ _ => by go_simp⟩) hS0 ?_
    refine wpAnyH_take (i := 8) (v := Value.slice (some ⟨q, 0, none⟩) zs.length cap) rfl (by kernel_rfl) (by kernel_rfl) (by kernel_rfl) (fun _ _ _ h => h) (.inl ⟨by kernel_rfl, fun _ H => by have cX := (mk_cell H.1); go_simp⟩) hS0 ?_
    refine wpAnyH_take (i := 9) (v := Value.int .i64 (i : Int)) rfl (by kernel_rfl) (by kernel_rfl) (by kernel_rfl) (fun _ _ _ h => h) (.inl ⟨by kernel_rfl, fun _ _ => by go_simp⟩) hS0 ?_
    refine wpAnyH_take (i := 10) (v := Value.int .i64 (on : Int)) rfl (by kernel_rfl) (by kernel_rfl) (by kernel_rfl) (fun _ _ _ h => h) (.inl ⟨by kernel_rfl, fun _ _ => by go_simp⟩) hS0 ?_
    refine wpAnyH_take (i := 11) (v := Value.int .i64 (more : Int)) rfl (by kernel_rfl) (by kernel_rfl) (by kernel_rfl) (fun _ _ _ h => h) (.inl ⟨by kernel_rfl, fun _ _ => by go_simp⟩) hS0 ?_
    refine wpAnyH_take (i := 12) (v := Value.pointer (some ⟨q, i * 13, none⟩)) rfl (by kernel_rfl) (by kernel_rfl) (by kernel_rfl) (fun _ _ _ h => h) (.inl ⟨by kernel_rfl, fun _ _ => by go_simp⟩) hS0 ?_
    refine wpAnyH_take (i := 13) (v := Value.pointer (some ⟨q, i * 13 + 11, none⟩)) rfl (by kernel_rfl) (by kernel_rfl) (by kernel_rfl) (fun _ _ _ h => h) (.inl ⟨by kernel_rfl, fun _ _ => by go_simp⟩) hS0 ?_
    obtain ⟨⟨u1, c1⟩, f1⟩ := cells_at hS0.2 (j := i * 13 + 11) (by omega)
    refine wpAnyH_ready (rs := [14]) (by kernel_rfl) (by simp) ?_
    refine AllReadyH.cons rfl ?_ AllReadyH.nil
    intro K hK
    go_simp
    try dsimp only
    refine hK.out _ _ ⟨(rheap_far (p := ⟨q, i * 13 + 11, none⟩) HQG.out).trans hS0.1, cells_set hS0.2⟩ (fun hS0 => ?_)
    clear hK K
    clear c1 f1
    refine wpAnyH_take (i := 15) (v := Value.pointer (some ⟨q, i * 13, none⟩)) rfl (by kernel_rfl) (by kernel_rfl) (by kernel_rfl) (fun _ _ _ h => h) (.inl ⟨by kernel_rfl, fun _ _ => by go_simp⟩) hS0 ?_
    refine wpAnyH_take (i := 16) (v := Value.pointer (some ⟨q, i * 13 + 12, none⟩)) rfl (by kernel_rfl) (by kernel_rfl) (by kernel_rfl) (fun _ _ _ h => h) (.inl ⟨by kernel_rfl, fun _ _ => by go_simp⟩) hS0 ?_
    obtain ⟨⟨u2, c2⟩, f2⟩ := cells_at hS0.2 (j := i * 13 + 12) (Nat.le_refl _)
    refine wpAnyH_ready (rs := [17]) (by kernel_rfl) (by simp) ?_
    refine AllReadyH.cons rfl ?_ AllReadyH.nil
    intro K hK
    go_simp
    try dsimp only
    refine hK.out _ _ ⟨(rheap_far (p := ⟨q, i * 13 + 12, none⟩) HQG.out).trans hS0.1, cells_set hS0.2⟩ (fun hS0 => ?_)
    clear hK K
    clear c2 f2
    refine wpAnyH_done (by kernel_rfl) ?_ _
    go_wp2
    refine bodyPost_ret (v := .tuple #[]) (by simp [results, Tryd.results34]) rfl ?_
    exact ⟨rfl, HM.out.drew, HOF.out⟩

end Go.Proofs.YtoniccokohjenaaDoor
