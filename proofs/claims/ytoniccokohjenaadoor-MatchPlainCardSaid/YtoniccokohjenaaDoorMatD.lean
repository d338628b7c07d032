/-
  The walk of match's has over a set (chapter 19).
-/
import Derived.Test.YtoniccokohjenaaDoorMatC
import Derived.Test.YtoniccokohjenaaDoorRegHl
namespace Go.Proofs.YtoniccokohjenaaDoor
open Go.RowKit

abbrev TMd : TypeId := 40
def mdCells (m : Md) : List Value := [.bool m.all, .bool m.fold, .bool m.free, .bool m.dot, .bool m.some]
theorem sizeMd : (Tryd.prog.info? TMd).map (·.size) = some 5 := by kernel_rfl
theorem underMd : ∃ d, Tryd.prog.underlying TMd = some d ∧ d.isRow = true := ⟨_, Tryd.underlying40, rfl⟩
theorem md_agg (m : Md) : mdAgg m = .agg (mdCells m).toArray := rfl
theorem yields_md {S : World → Prop} {ops : Array Oper} {op : Oper} {a : Act} {q o : Nat} {m : Md} (hS : ∀ W, S W → W.rangeAt q o (mdCells m)) (hw : Region.wanted op (yielded ops a.tmps) = true) (y : Operand) (ho : op.op = .load TMd y) (hx : a.eval y = .pointer (some ⟨q, o, none⟩)) : YieldsIf Tryd.prog ops S op (mdAgg m) a := by
  obtain ⟨d, hd, hrow⟩ := underMd
  rw [md_agg]
  exact yieldsIf_load_mid hw TMd y ho q o hx (mdCells m) d hS hd hrow (by rw [sizeMd]; rfl)
/-- what the closure sees -/
structure ClH (w W : World) (b g h : Nat) (m : Md) (k : Rx) (A : Option Addr) (c : Nat) (v : Int) : Prop where
  below : Below w.heap.size w W
  md : W.heap[g]? = some (.cells (mdCells m).toArray TMd (0, 0))
  v : W.heap[h]? = some (.cells #[.int .i64 v] 3 (0, 0))
  x : W.heap[b]? = some (.cells (rxCells k (.slice A k.kids.length c)).toArray TRx (0, 0))
theorem ClH.call {w W W' : World} {b g h : Nat} {m : Md} {k : Rx} {A : Option Addr} {c : Nat} {v : Int} (H : ClH w W b g h m k A c v) (hb : Below W.heap.size W W') : ClH w W' b g h m k A c v :=
  ⟨H.below.trans (hb.mono H.below.size), heap_call H.md hb, heap_call H.v hb, heap_call H.x hb⟩
theorem ClH.drew {w W : World} {b g h : Nat} {m : Md} {k : Rx} {A : Option Addr} {c : Nat} {v : Int} (H : ClH w W b g h m k A c v) : ClH w W.drew b g h m k A c v := ⟨H.below.drew, H.md, H.v, H.x⟩
theorem ClH.cv {w W : World} {b g h : Nat} {m : Md} {k : Rx} {A : Option Addr} {c : Nat} {v : Int} (H : ClH w W b g h m k A c v) : W.cell? ⟨h, 0, none⟩ = some (.int .i64 v) := by rw [Lib.cell_of_heap H.v]; rfl
theorem ClH.cf {w W : World} {b g h : Nat} {m : Md} {k : Rx} {A : Option Addr} {c : Nat} {v : Int} (H : ClH w W b g h m k A c v) : W.cell? ⟨g, 1, none⟩ = some (.bool m.fold) := by rw [Lib.cell_of_heap H.md]; rfl

set_option maxHeartbeats 4000000 in
set_option maxRecDepth 100000 in
theorem mtHas1_any (m : Md) (k : Rx) (A : Option Addr) (c : Nat) (v : Int) (g h : Nat) (w : World) (h0 : 0 ≤ v) (h1 : v ≤ 1114111) (hk : LfS k)
    (hg : w.heap[g]? = some (.cells (mdCells m).toArray TMd (0, 0))) (hh : w.heap[h]? = some (.cells #[.int .i64 v] 3 (0, 0))) :
    Calls Tryd.prog 45 #[rxAgg k (.slice A k.kids.length c), .pointer (some ⟨g, 0, none⟩), .pointer (some ⟨h, 0, none⟩)] w (RetE (.bool (hasL m k v || (m.fold && hasL m k (othI v)))) fun w' => Below w.heap.size w w') := by
  have hkk : k.kind = 1 ∨ k.kind = 2 ∨ k.kind = 4 ∨ k.kind = 5 := by have := hk.2; omega
  have ho0 : 0 ≤ othI v ∧ othI v ≤ 1114111 := by
    unfold othI upI loI
    split
    · rename_i hc; simp at hc; omega
    · split
      · rename_i hc; simp at hc; omega
      · exact ⟨h0, h1⟩
  have ka := fun W => mtHasL_any m k (.slice A k.kids.length c) v W h0 h1 hkk
  have kb := fun W => mtHasL_any m k (.slice A k.kids.length c) (othI v) W ho0.1 ho0.2 hkk
  have KO := Lib.hid (fun W => mtOther_any v W h0 h1)
  generalize hasL m k v = r1 at *
  generalize hasL m k (othI v) = r2 at *
  generalize othI v = ov at *
  simp only [rxAgg] at ka kb
  have KA := Lib.hid ka
  have KB := Lib.hid kb
  clear ka kb
  have HC := Lib.hid (show ClH w (w.alloc (.cells (rxCells k (.slice A k.kids.length c)).toArray TRx)) w.heap.size g h m k A c v from
    ⟨(Below.refl _ w).alloc (Nat.le_refl _) _, (Below.heap_alloc w _ g (Array.getElem?_eq_some_iff.1 hg).1).trans hg, (Below.heap_alloc w _ h (Array.getElem?_eq_some_iff.1 hh).1).trans hh, Go.heap_alloc_new w _⟩)
  clear hg hh
  obtain ⟨W1, hW1⟩ : ∃ W1, W1 = w.alloc (.cells (rxCells k (.slice A k.kids.length c)).toArray TRx) := ⟨_, rfl⟩
  rw [← hW1] at HC
  simp only [rxCells] at hW1
  simp only [rxAgg]
  go_enter Tryd.func45, Tryd.ntmps45
  go_upto_region 1 with fail
  rw [← hW1]
  clear hW1
  refine wp_region_held_drew (S := (fun Y => ClH w Y w.heap.size g h m k A c v)) (by kernel_rfl) HC.out.drew (fun hS0 => ?_)
  refine wpAnyH_take (i := 0) (v := mdAgg m) rfl (by kernel_rfl) (by kernel_rfl) (by kernel_rfl) (fun _ _ _ h => h) (yields_md (fun _ H => range_of H.md) (by kernel_rfl) _ rfl rfl) hS0 ?_
  refine wpAnyH_take (i := 1) (v := rxAgg k (.slice A k.kids.length c)) rfl (by kernel_rfl) (by kernel_rfl) (by kernel_rfl) (fun _ _ _ h => h) (yields_xr (fun _ H => range_of H.x) (by kernel_rfl) _ rfl rfl) hS0 ?_
  refine wpAnyH_take (i := 2) (v := Value.int .i64 v) rfl (by kernel_rfl) (by kernel_rfl) (by kernel_rfl) (fun _ _ _ h => h) (.inl ⟨by rfl, fun _ H => by have c0 := H.cv; go_simp⟩) hS0 ?_
  simp only [rxAgg]
  generalize W1.drew = W2 at *
  have H2 := Lib.hid hS0
  clear hS0
  refine wpAnyH_ready (rs := [3]) (by kernel_rfl) (by simp) ?_
  refine AllReadyH.cons rfl ?_ AllReadyH.nil
  intro K hK
  go_simp
  go_at_call 36
  with_reducible refine (KA.out _).mono ?_
  rintro e w3 ⟨rfl, hb3⟩
  try dsimp only
  refine hK.out _ _ (H2.out.call hb3) (fun hS0 => ?_)
  clear hK K
  have H3 := Lib.hid hS0
  clear hb3 H2
  refine wpAnyH_take (i := 4) (v := Value.bool r1) rfl (by kernel_rfl) (by kernel_rfl) (by kernel_rfl) (fun _ _ _ h => h) (.inl ⟨by rfl, fun _ _ => by go_simp⟩) hS0 ?_
  cases r1 with
  | true =>
    refine wpAnyH_take (i := 5) (v := undef) rfl (by kernel_rfl) (by kernel_rfl) (by kernel_rfl) (fun _ _ _ h => h) (.inr ⟨by kernel_rfl, rfl⟩) hS0 ?_
    refine wpAnyH_take (i := 6) (v := undef) rfl (by kernel_rfl) (by kernel_rfl) (by kernel_rfl) (fun _ _ _ h => h) (.inr ⟨by kernel_rfl, rfl⟩) hS0 ?_
    refine wpAnyH_take (i := 7) (v := undef) rfl (by kernel_rfl) (by kernel_rfl) (by kernel_rfl) (fun _ _ _ h => h) (.inr ⟨by kernel_rfl, rfl⟩) hS0 ?_
    refine wpAnyH_take (i := 8) (v := undef) rfl (by kernel_rfl) (by kernel_rfl) (by kernel_rfl) (fun _ _ _ h => h) (.inr ⟨by kernel_rfl, rfl⟩) hS0 ?_
    refine wpAnyH_take (i := 9) (v := undef) rfl (by kernel_rfl) (by kernel_rfl) (by kernel_rfl) (fun _ _ _ h => h) (.inr ⟨by kernel_rfl, rfl⟩) hS0 ?_
    refine wpAnyH_take (i := 10) (v := undef) rfl (by kernel_rfl) (by kernel_rfl) (by kernel_rfl) (fun _ _ _ h => h) (.inr ⟨by kernel_rfl, rfl⟩) hS0 ?_
    refine wpAnyH_take (i := 11) (v := undef) rfl (by kernel_rfl) (by kernel_rfl) (by kernel_rfl) (fun _ _ _ h => h) (.inr ⟨by kernel_rfl, rfl⟩) hS0 ?_
    refine wpAnyH_take (i := 12) (v := undef) rfl (by kernel_rfl) (by kernel_rfl) (by kernel_rfl) (fun _ _ _ h => h) (.inr ⟨by kernel_rfl, rfl⟩) hS0 ?_
    refine wpAnyH_take (i := 13) (v := undef) rfl (by kernel_rfl) (by kernel_rfl) (by kernel_rfl) (fun _ _ _ h => h) (.inr ⟨by kernel_rfl, rfl⟩) hS0 ?_
    refine wpAnyH_take (i := 14) (v := Value.bool true) rfl (by kernel_rfl) (by kernel_rfl) (by kernel_rfl) (fun _ _ _ h => h) (.inl ⟨by kernel_rfl, fun _ _ => by go_simp⟩) hS0 ?_
    refine wpAnyH_ready (rs := [15]) (by kernel_rfl) (by simp) ?_
    refine AllReadyH.cons rfl ?_ AllReadyH.nil
    intro K hK
    go_simp
    try dsimp only
    refine hK.out _ _ hS0 (fun hS0 => ?_)
    clear hK K
    refine wpAnyH_done (by kernel_rfl) ?_ _
    go_wp2
    go_ret
    exact ⟨rfl, H3.out.below⟩
  | false =>
    refine wpAnyH_take (i := 5) (v := Value.pointer (some ⟨g, 1, none⟩)) rfl (by kernel_rfl) (by kernel_rfl) (by kernel_rfl) (fun _ _ _ h => h) (.inl ⟨by kernel_rfl, fun _ _ => by go_simp⟩) hS0 ?_
    refine wpAnyH_take (i := 6) (v := Value.bool m.fold) rfl (by kernel_rfl) (by kernel_rfl) (by kernel_rfl) (fun _ _ _ h => h) (.inl ⟨by kernel_rfl, fun _ H => by have cX := H.cf; go_simp⟩) hS0 ?_
    refine wpAnyH_take (i := 7) (v := Value.bool m.fold) rfl (by kernel_rfl) (by kernel_rfl) (by kernel_rfl) (fun _ _ _ h => h) (.inl ⟨by kernel_rfl, fun _ _ => by go_simp⟩) hS0 ?_
    obtain ⟨fo, hfo⟩ : ∃ b, b = m.fold := ⟨_, rfl⟩
    rw [← hfo]
    have HFO := Lib.hid hfo
    clear hfo
    cases fo with
    | false =>
      refine wpAnyH_take (i := 8) (v := undef) rfl (by kernel_rfl) (by kernel_rfl) (by kernel_rfl) (fun _ _ _ h => h) (.inr ⟨by kernel_rfl, rfl⟩) hS0 ?_
      refine wpAnyH_take (i := 9) (v := undef) rfl (by kernel_rfl) (by kernel_rfl) (by kernel_rfl) (fun _ _ _ h => h) (.inr ⟨by kernel_rfl, rfl⟩) hS0 ?_
      refine wpAnyH_take (i := 10) (v := undef) rfl (by kernel_rfl) (by kernel_rfl) (by kernel_rfl) (fun _ _ _ h => h) (.inr ⟨by kernel_rfl, rfl⟩) hS0 ?_
      refine wpAnyH_take (i := 11) (v := undef) rfl (by kernel_rfl) (by kernel_rfl) (by kernel_rfl) (fun _ _ _ h => h) (.inr ⟨by kernel_rfl, rfl⟩) hS0 ?_
      refine wpAnyH_take (i := 12) (v := undef) rfl (by kernel_rfl) (by kernel_rfl) (by kernel_rfl) (fun _ _ _ h => h) (.inr ⟨by kernel_rfl, rfl⟩) hS0 ?_
      refine wpAnyH_take (i := 13) (v := Value.bool false) rfl (by kernel_rfl) (by kernel_rfl) (by kernel_rfl) (fun _ _ _ h => h) (.inl ⟨by kernel_rfl, fun _ _ => by go_simp⟩) hS0 ?_
      refine wpAnyH_take (i := 14) (v := Value.bool false) rfl (by kernel_rfl) (by kernel_rfl) (by kernel_rfl) (fun _ _ _ h => h) (.inl ⟨by kernel_rfl, fun _ _ => by go_simp⟩) hS0 ?_
      refine wpAnyH_ready (rs := [15]) (by kernel_rfl) (by simp) ?_
      refine AllReadyH.cons rfl ?_ AllReadyH.nil
      intro K hK
      go_simp
      try dsimp only
      refine hK.out _ _ hS0 (fun hS0 => ?_)
      clear hK K
      refine wpAnyH_done (by kernel_rfl) ?_ _
      go_wp2
      go_ret
      exact ⟨by rw [← HFO.out]; rfl, H3.out.below⟩
    | true =>
      refine wpAnyH_take (i := 8) (v := mdAgg m) rfl (by kernel_rfl) (by kernel_rfl) (by kernel_rfl) (fun _ _ _ h => h) (yields_md (fun _ H => range_of H.md) (by kernel_rfl) _ rfl rfl) hS0 ?_
      refine wpAnyH_take (i := 9) (v := rxAgg k (.slice A k.kids.length c)) rfl (by kernel_rfl) (by kernel_rfl) (by kernel_rfl) (fun _ _ _ h => h) (yields_xr (fun _ H => range_of H.x) (by kernel_rfl) _ rfl rfl) hS0 ?_
      refine wpAnyH_take (i := 10) (v := Value.int .i64 v) rfl (by kernel_rfl) (by kernel_rfl) (by kernel_rfl) (fun _ _ _ h => h) (.inl ⟨by kernel_rfl, fun _ H => by have cX := H.cv; go_simp⟩) hS0 ?_
      simp only [rxAgg]
      refine wpAnyH_ready (rs := [11]) (by kernel_rfl) (by simp) ?_
      refine AllReadyH.cons rfl ?_ AllReadyH.nil
      intro K hK
      go_simp
      go_at_call 43
      with_reducible refine (KO.out _).mono ?_
      rintro e w4 ⟨rfl, rfl⟩
      try dsimp only
      refine hK.out _ _ hS0 (fun hS0 => ?_)
      clear hK K
      clear hS0
      refine wpAnyH_ready (rs := [12]) (by kernel_rfl) (by simp) ?_
      refine AllReadyH.cons rfl ?_ AllReadyH.nil
      intro K hK
      go_simp
      go_at_call 36
      with_reducible refine (KB.out _).mono ?_
      rintro e w4 ⟨rfl, hb4⟩
      try dsimp only
      refine hK.out _ _ (H3.out.call hb4) (fun hS0 => ?_)
      clear hK K
      have H4 := Lib.hid hS0
      clear hb4 H3
      refine wpAnyH_take (i := 13) (v := Value.bool r2) rfl (by kernel_rfl) (by kernel_rfl) (by kernel_rfl) (fun _ _ _ h => h) (.inl ⟨by kernel_rfl, fun _ _ => by go_simp⟩) hS0 ?_
      refine wpAnyH_take (i := 14) (v := Value.bool r2) rfl (by kernel_rfl) (by kernel_rfl) (by kernel_rfl) (fun _ _ _ h => h) (.inl ⟨by kernel_rfl, fun _ _ => by go_simp⟩) hS0 ?_
      refine wpAnyH_ready (rs := [15]) (by kernel_rfl) (by simp) ?_
      refine AllReadyH.cons rfl ?_ AllReadyH.nil
      intro K hK
      go_simp
      try dsimp only
      refine hK.out _ _ hS0 (fun hS0 => ?_)
      clear hK K
      refine wpAnyH_done (by kernel_rfl) ?_ _
      go_wp2
      go_ret
      exact ⟨by rw [← HFO.out]; rfl, H4.out.below⟩

theorem enters1 : ∀ args w, (callFunc 45 args).run Tryd.prog w = .ok (.enter 45 args) w := enters_of Tryd.func45 (by kernel_rfl) rfl
theorem ClH.ck {w W : World} {b g h : Nat} {m : Md} {k : Rx} {A : Option Addr} {c : Nat} {v : Int} (H : ClH w W b g h m k A c v) : W.cell? ⟨b, 3, none⟩ = some (.slice A k.kids.length c) := by rw [Lib.cell_of_heap H.x]; rfl
theorem ClH.cn {w W : World} {b g h : Nat} {m : Md} {k : Rx} {A : Option Addr} {c : Nat} {v : Int} (H : ClH w W b g h m k A c v) : W.cell? ⟨b, 7, none⟩ = some (.bool k.not) := by rw [Lib.cell_of_heap H.x]; rfl

set_option maxHeartbeats 4000000 in
set_option maxRecDepth 100000 in
/-- a set has it -/
theorem mtHasS_any (m : Md) (x : Rx) (A : Option Addr) (c : Nat) (v : Int) (w : World) (h0 : 0 ≤ v) (h1 : v ≤ 1114111) (h3 : x.kind = 3) (hk : ∀ k ∈ x.kids, LfS k) (hl : x.kids.length ≤ 1000000) (hT : KT w x A c) :
    Calls Tryd.prog 36 #[mdAgg m, rxAgg x (.slice A x.kids.length c), .int .i64 v] w (RetE (.bool (hasR m x v)) fun w' => Below w.heap.size w w') := by
  have hs : hasR m x v = ((x.kids.any fun k => hasL m k v || (m.fold && hasL m k (othI v))) != x.not) := by unfold hasR; rw [if_pos h3]
  rw [hs]
  clear hs
  obtain ⟨p, hp⟩ : ∃ p : Rx → Bool, p = fun k => hasL m k v || (m.fold && hasL m k (othI v)) := ⟨_, rfl⟩
  rw [← hp]
  have s1 := World.size_alloc w (.cells (mdCells m).toArray TMd)
  have s2 := World.size_alloc (w.alloc (.cells (mdCells m).toArray TMd)) (.cells (rxCells x (.slice A x.kids.length c)).toArray TRx)
  obtain ⟨W1, hW1⟩ : ∃ W1, W1 = ((w.alloc (.cells (mdCells m).toArray TMd)).alloc (.cells (rxCells x (.slice A x.kids.length c)).toArray TRx)).alloc (.cells #[.int .i64 v] 3) := ⟨_, rfl⟩
  have hc : ClH w W1 (w.heap.size + 1) w.heap.size (w.heap.size + 1 + 1) m x A c v := by
    rw [hW1]
    refine ⟨(((Below.refl _ w).alloc (Nat.le_refl _) _).alloc (by omega) _).alloc (by omega) _, ?_, ?_, ?_⟩
    · rw [Below.heap_alloc _ _ _ (by omega), Below.heap_alloc _ _ _ (by omega)]; exact Go.heap_alloc_new w _
    · rw [show w.heap.size + 1 + 1 = ((w.alloc (.cells (mdCells m).toArray TMd)).alloc (.cells (rxCells x (.slice A x.kids.length c)).toArray TRx)).heap.size by omega]; exact Go.heap_alloc_new _ _
    · rw [Below.heap_alloc _ _ _ (by omega), show w.heap.size + 1 = (w.alloc (.cells (mdCells m).toArray TMd)).heap.size by omega]; exact Go.heap_alloc_new _ _
  have HC := Lib.hid hc
  have kc := fun (W : World) (h : ClH w W (w.heap.size + 1) w.heap.size (w.heap.size + 1 + 1) m x A c v) => containsFunc_any 45 #[.pointer (some ⟨w.heap.size, 0, none⟩), .pointer (some ⟨w.heap.size + 1 + 1, 0, none⟩)] x A c p W hl (KX.below hT h.below) enters1 (fun w' k A' c' hkm hb _ => by
    rw [hp]
    exact mtHas1_any m k A' c' v w.heap.size (w.heap.size + 1 + 1) w' h0 h1 (hk k hkm) (heap_call h.md hb) (heap_call h.v hb))
  have KC := Lib.hid kc
  generalize x.kids.any p = r at *
  clear hc kc hp s1 s2 hT
  have z2 : ((x.kind : Int) == 2) = false := by rw [h3]; rfl
  have z1 : ((x.kind : Int) == 1) = false := by rw [h3]; rfl
  have z4 : ((x.kind : Int) == 4) = false := by rw [h3]; rfl
  have z5 : ((x.kind : Int) == 5) = false := by rw [h3]; rfl
  clear h3
  simp only [rxAgg, mdAgg]
  simp only [rxCells, mdCells] at hW1
  go_enter Tryd.func36, Tryd.ntmps36
  go_upto_region 18 with fail
  rw [← hW1]
  clear hW1
  refine wp_region_held_drew (S := (fun Y => ClH w Y (w.heap.size + 1) w.heap.size (w.heap.size + 1 + 1) m x A c v)) (by kernel_rfl) HC.out.drew (fun hS0 => ?_)
  refine wpAnyH_take (i := 0) (v := Value.pointer (some ⟨w.heap.size + 1, 3, none⟩)) rfl (by kernel_rfl) (by kernel_rfl) (by kernel_rfl) (fun _ _ _ h => h) (.inl ⟨by kernel_rfl, fun _ _ => by go_simp⟩) hS0 ?_
  refine wpAnyH_take (i := 1) (v := Value.slice A x.kids.length c) rfl (by kernel_rfl) (by kernel_rfl) (by kernel_rfl) (fun _ _ _ h => h) (.inl ⟨by kernel_rfl, fun _ H => by have cX := H.ck; go_simp⟩) hS0 ?_
  refine wpAnyH_take (i := 2) (v := Value.func (.func 45) #[] #[.pointer (some ⟨w.heap.size, 0, none⟩), .pointer (some ⟨w.heap.size + 1 + 1, 0, none⟩)]) rfl (by kernel_rfl) (by kernel_rfl) (by kernel_rfl) (fun _ _ _ h => h) (.inl ⟨by kernel_rfl, fun _ _ => by go_simp⟩) hS0 ?_
  refine wpAnyH_take (i := 4) (v := Value.pointer (some ⟨w.heap.size + 1, 7, none⟩)) rfl (by kernel_rfl) (by kernel_rfl) (by kernel_rfl) (fun _ _ _ h => h) (.inl ⟨by kernel_rfl, fun _ _ => by go_simp⟩) hS0 ?_
  refine wpAnyH_take (i := 5) (v := Value.bool x.not) rfl (by kernel_rfl) (by kernel_rfl) (by kernel_rfl) (fun _ _ _ h => h) (.inl ⟨by kernel_rfl, fun _ H => by have cX := H.cn; go_simp⟩) hS0 ?_
  generalize W1.drew = W2 at *
  have H2 := Lib.hid hS0
  clear hS0
  refine wpAnyH_ready (rs := [3]) (by kernel_rfl) (by simp) ?_
  refine AllReadyH.cons rfl ?_ AllReadyH.nil
  intro K hK
  go_simp
  go_at_call 44
  with_reducible refine (KC.out _ H2.out).mono ?_
  rintro e w3 ⟨rfl, hb3⟩
  try dsimp only
  refine hK.out _ _ (H2.out.call hb3) (fun hS0 => ?_)
  clear hK K
  have H3 := Lib.hid hS0
  clear hb3 H2
  refine wpAnyH_take (i := 6) (v := Value.bool (r != x.not)) rfl (by kernel_rfl) (by kernel_rfl) (by kernel_rfl) (fun _ _ _ h => h) (.inl ⟨by kernel_rfl, fun _ _ => by go_simp; cases r <;> cases x.not <;> rfl⟩) hS0 ?_
  refine wpAnyH_ready (rs := [7]) (by kernel_rfl) (by simp) ?_
  refine AllReadyH.cons rfl ?_ AllReadyH.nil
  intro K hK
  go_simp
  try dsimp only
  refine hK.out _ _ hS0 (fun hS0 => ?_)
  clear hK K
  refine wpAnyH_done (by kernel_rfl) ?_ _
  go_wp2
  go_ret
  exact ⟨rfl, H3.out.below⟩

end Go.Proofs.YtoniccokohjenaaDoor
