/-
  The walk of quote's iterator over the pieces of a text (chapter 5).
-/
import Derived.RangeFuncNested
import Derived.RangeFuncBound
import Derived.RangeFuncCalls
import Derived.RangeFuncLeaves
import Derived.Shelf.Abstract
import Derived.Shelf.RegionOpen
import Derived.WalkKit
import Derived.OwnWalkIn
import Derived.TacticsInMore
import Derived.LoopNIn
import Derived.LoopIn
import Derived.Test.YtnbfikfngekfoaaDoorQuoL
import Derived.Test.YtnbfikfngekfoaaDoorQuoH
namespace Go.Proofs.YtnbfikfngekfoaaDoor
open Go.RowKit Go.Shelf
attribute [local go_sem] Oper.semAt_some

theorem piecesQ_last (l : List UInt8) (h : lastP (nextP l)) : piecesQ l = [⟨nextP l, nextP_ok l⟩] := by
  refine (List.map_inj_right (f := fun x : Pq => x.1) (fun _ _ h => Subtype.ext h)).1 ?_
  show (piecesQ l).map (·.1) = _
  rw [piecesQ_val, piecesP_last l h]; rfl
theorem piecesQ_cons (l : List UInt8) (h : ¬ lastP (nextP l)) : piecesQ l = ⟨nextP l, nextP_ok l⟩ :: piecesQ (l.drop (nextP l).size) := by
  refine (List.map_inj_right (f := fun x : Pq => x.1) (fun _ _ h => Subtype.ext h)).1 ?_
  show (piecesQ l).map (·.1) = _
  rw [piecesQ_val, piecesP_cons l h, ← piecesQ_val]; rfl
theorem piecesQ_len (l : List UInt8) : (piecesQ l).length ≤ l.length + 1 := by
  have := piecesP_len l.length l (Nat.le_refl _)
  rw [← piecesQ_val, List.length_map] at this
  exact this

/-- what a round keeps: all that lay ahead of the caller, every piece, every slice of bytes in a cell -/
def KeepsP (n₀ : Nat) (W W' : World) : Prop := Below n₀ W W' ∧ ∀ (b : Nat) (c : Array Value) (T : TypeId), (T = 73 ∨ T = 52) → W.heap[b]? = some (Obj.cells c T (0, 0)) → W'.heap[b]? = some (Obj.cells c T (0, 0))
theorem keepsP_t {n₀ : Nat} {A B C : World} (h : KeepsP n₀ A B) (k : KeepsP n₀ B C) : KeepsP n₀ A C := ⟨h.1.trans k.1, fun b c T ht hb => k.2 b c T ht (h.2 b c T ht hb)⟩
theorem keepsP_b {n₀ : Nat} {w : World} (hn : n₀ ≤ w.heap.size) (W : World) (l : Nat) (o o' : Obj) (hl : w.heap.size ≤ l) (h : W.heap[l]? = some o) (hc : o.isCells = false) (hw : o.isWalk = false) : KeepsP n₀ W (W.putObj l o') := by
  refine ⟨belowK_b hn W l o o' hl h hc hw, fun b c T _ hb => ?_⟩
  by_cases e : b = l
  · subst e; rw [h] at hb; injection hb with hb; subst hb; cases hc
  · exact (World.putObj_heap_other e).trans hb
theorem keepsP_below {n₀ : Nat} {W W' : World} (h : Below W.heap.size W W') (hn : n₀ ≤ W.heap.size) : KeepsP n₀ W W' :=
  ⟨h.mono hn, fun b _ _ _ hb => (h.block b (Array.getElem?_eq_some_iff.1 hb).1).trans hb⟩

set_option maxRecDepth 100000 in
theorem sl_cut (A : Option Addr) (n cap k : Nat) (hk : k ≤ n) (w : World) :
    (Instr.slice 52 (.slice A n cap) (some (.int .i64 (k : Int))) none none).run Tryd.prog w = .ok (.slice (cutA A k cap) (n - k) (cap - k)) w := by
  rw [run_slice_l (P := Tryd.prog) w 52 A n cap Tryd.underlying52 .i64 (k : Int) (by omega) (by omega)]
  rw [show (sizeOf (Tryd.prog.elem 52)).run Tryd.prog w = .ok 1 w by kernel_rfl]
  simp [Result.andThen, sliced, cutA]
set_option maxRecDepth 100000 in
theorem sl_cutAt (A : Option Addr) (n cap k : Nat) (hk : k ≤ n) (w : World) :
    (Instr.sliceAt 52 (.slice A n cap) (some (.int .i64 (k : Int))) none none).run Tryd.prog w = .ok (.slice (cutA A k cap) (n - k) (cap - k)) w := by
  rw [run_sliceAt_slice (P := Tryd.prog) _ _ _ _ _ _ Tryd.underlying52]
  exact sl_cut A n cap k hk w

set_option maxHeartbeats 2000000 in
set_option maxRecDepth 100000 in
theorem quoPieces_in (Bs n₀ : Nat) (A : Option Addr) (n cap : Nat) (l : List UInt8) (w0 w : World) (hn₀ : n₀ = w0.heap.size) (hT : Tabs w0) (hR : RdB w0 A n l) (hn : n ≤ 17592186044416) (hcap : n ≤ cap) (h0w : Below n₀ w0 w)
    (hBs : w.heap[Bs]? = some (.cells #[.slice A n cap] 52 (0, 0))) (m : Nat) (hm : 1 ≤ m) :
    SeqStopsK Fence.wide m Tryd.prog 53 #[.pointer (some ⟨Bs, 0, none⟩)] (fun p : Pq => #[pcVal p.1]) (KeepsP n₀) (fun ys => ys = piecesQ l) (fun pre => pre <+: piecesQ l) (piecesQ l).length w := fun L J Jx W hW hJ hJx hY hJ0 => by
  subst hn₀
  have HT := Lib.hid hT
  have HR := Lib.hid hR
  have hlen := Lib.hid hR.1
  have hBW : W.heap[Bs]? = some (.cells #[.slice A n cap] 52 (0, 0)) := (hW.block Bs (Array.getElem?_eq_some_iff.1 hBs).1).trans hBs
  have h0W : Below w0.heap.size w0 W := h0w.trans (hW.mono h0w.size)
  clear hT hR hBs h0w hW
  refine callsIn_of_wp Tryd.func53 rfl trivial ?_ rfl
  simp only [Tryd.ntmps53, List.size_toArray, List.length_cons, List.length_nil, Nat.reduceAdd, Nat.reduceSub, Array.replicate_succ, Array.replicate_zero, List.push_toArray, List.append_toArray, List.nil_append, List.cons_append]
  gi_wp2
  gi_loopw [3] (fun a wr => ∃ (pre : List Pq) (k : Nat), a = .int .i64 k ∧ k ≤ n ∧ Hid (pre ++ piecesQ (l.drop k) = piecesQ l) ∧ J pre wr ∧ Below w0.heap.size w0 wr ∧ wr.heap[Bs]? = some (.cells #[.slice A n cap] 52 (0, 0)))
    (fun a _ => n - (intOf a).toNat)
  case atStart => exact ⟨[], 0, rfl, Nat.zero_le _, Lib.hid (by simp), hJ0, h0W, hBW⟩
  case round =>
    obtain ⟨pre, k, rfl, hk, hpre, hJs, hb, hbx⟩ := hrel
    have hcB : wr.cell? ⟨Bs, 0, none⟩ = some (.slice A n cap) := by rw [Lib.cell_of_heap hbx]; rfl
    have hs1 := sl_cut A n cap k hk wr
    have hs2 := sl_cutAt A n cap k hk wr
    have k1 := fun (w' : World) (ht : Tabs w') (hr : RdB w' A n l) => quoNext_any (cutA A k cap) (n - k) (cap - k) (l.drop k) w' ht (hr.cut hk hcap) (by omega) (by omega)
    have K1 := Lib.hid k1
    clear k1
    have hpk := nextP_ok (l.drop k)
    have hlast : lastP (nextP (l.drop k)) → piecesQ l = pre ++ [⟨nextP (l.drop k), hpk⟩] := fun h => by rw [← hpre.out, piecesQ_last _ h]
    have hmore : ¬ lastP (nextP (l.drop k)) → (pre ++ [⟨nextP (l.drop k), hpk⟩]) ++ piecesQ (l.drop (k + (nextP (l.drop k)).size)) = piecesQ l ∧ k + (nextP (l.drop k)).size ≤ n := fun h => by
      rw [← hpre.out, piecesQ_cons _ h, List.drop_drop, List.append_assoc]
      refine ⟨rfl, ?_⟩
      have := nextP_size (l.drop k) (by unfold lastP at h; omega)
      rw [List.length_drop, hlen.out] at this
      omega
    have hlt : pre.length < (piecesQ l).length := by
      by_cases h : lastP (nextP (l.drop k))
      · rw [hlast h]; simp
      · rw [← (hmore h).1]; simp
    have HLA := Lib.hid hlast
    have HMO := Lib.hid hmore
    clear hlast hmore
    generalize nextP (l.drop k) = p at K1 hpk HLA HMO
    gi_wp2_with fail
    refine ⟨trivial, callsIn_wide.2 ((K1.out _ (HT.out.below hb (Nat.le_refl _)) (HR.out.below hb)).mono ?_)⟩
    rintro e w1 ⟨rfl, hb1⟩
    have hJ1 : J pre (w1.alloc (.cells #[.int .i64 (p.point : Int), .int .i64 (p.size : Int), .int .i64 (p.err : Int)] 73)) :=
      hJ pre wr _ none hJs (((Below.refl _ wr).trans hb1).alloc hb1.size _ |> fun h => ⟨h.os, h.tape, h.output, h.size, fun i hi _ => h.block i hi⟩) (fun r e => by cases e)
    obtain ⟨fn, tmps, assign, body, hy, hRr⟩ := hY pre ⟨p, hpk⟩ _ hJ1 hlt
    have hsz : p.size ≤ 12 := hpk.1
    have hkn : k ≤ 17592186044416 := Nat.le_trans hk hn
    unfold pcVal at hy ⊢
    gi_wp2
    refine hRr.mono ?_
    rintro e W3 (⟨rfl, hJ3, hk3⟩ | ⟨rfl, hJx3⟩)
    · have hO : Own3 73 W3 w1.heap.size (.int .i64 (p.point : Int)) (.int .i64 (p.size : Int)) (.int .i64 (p.err : Int)) := hk3.2 _ _ _ (.inl rfl) (Own3.new _ w1 _ _ _)
      obtain ⟨c0, c1, c2, _, _, _⟩ := hO.cells
      have hb3 : Below w0.heap.size w0 W3 := ((hb.trans (hb1.mono hb.size)).alloc (Nat.le_trans hb.size hb1.size) _).trans hk3.1
      have hbx3 : W3.heap[Bs]? = some (.cells #[.slice A n cap] 52 (0, 0)) := by
        refine hk3.2 _ _ _ (.inr rfl) ?_
        have h1 : w1.heap[Bs]? = some (.cells #[.slice A n cap] 52 (0, 0)) := (hb1.block Bs (Array.getElem?_eq_some_iff.1 hbx).1).trans hbx
        exact (Below.heap_alloc w1 _ Bs (Array.getElem?_eq_some_iff.1 h1).1).trans h1
      have HB3 := Lib.hid hbx3
      clear hbx3 hO hk3 hJ1 hRr hbx hcB hs1 hs2 hBW hJs
      by_cases he : p.err = 0
      · have d1 : (((p.err : Nat) : Int) != 0) = false := by rw [he]; rfl
        by_cases hs : p.size = 0
        · have d2 : (((p.size : Nat) : Int) == 0) = true := by rw [hs]; rfl
          have hl := HLA.out (.inr hs)
          have HL := Lib.hid hl
          clear hl he hs
          gi_wp2
          refine bodyPost_ret (results_none rfl _ _ _) rfl ?_
          exact ⟨⟨_, rfl⟩, .inl ⟨_, HL.out.symm, hJ3⟩⟩
        · have d2 : (((p.size : Nat) : Int) == 0) = false := eq_false_of (k := 0) hs
          obtain ⟨h1, h2⟩ := HMO.out (by unfold lastP; omega)
          have H1 := Lib.hid h1
          have hs' : 0 < p.size := by omega
          clear h1 he hs
          gi_wp2
          go_roundw
          case rel => exact ⟨pre ++ [⟨p, hpk⟩], k + p.size, by go_num, h2, H1, hJ3, hb3, HB3.out⟩
          case measure => simp [intOf]; omega
      · have d1 : (((p.err : Nat) : Int) != 0) = true := by simp; omega
        have hl := HLA.out (.inl he)
        have HL := Lib.hid hl
        clear hl he
        gi_wp2
        refine bodyPost_ret (results_none rfl _ _ _) rfl ?_
        exact ⟨⟨_, rfl⟩, .inl ⟨_, HL.out.symm, hJ3⟩⟩
    · have hpf : pre ++ [⟨p, hpk⟩] <+: piecesQ l := by
        by_cases h : lastP p
        · rw [HLA.out h]; exact List.prefix_refl _
        · rw [← (HMO.out h).1]; exact List.prefix_append _ _
      have HPF := Lib.hid hpf
      clear hpf
      gi_wp2
      refine bodyPost_ret (results_none rfl _ _ _) rfl ?_
      exact ⟨⟨_, rfl⟩, .inr ⟨_, HPF.out, hJx3⟩⟩

end Go.Proofs.YtnbfikfngekfoaaDoor
