/-
  The walks of quote's Is at a key that is not sound, and of Plain (chapter 5).
-/
import Derived.Test.YtojapomkmfbciaaDoorQuoZ
import Derived.Test.YtojapomkmfbciaaDoorQuoP
namespace Go.Proofs.YtojapomkmfbciaaDoor
open Go.RowKit

set_option maxHeartbeats 4000000 in
set_option maxRecDepth 100000 in
theorem quoIs_bad (A : Option Addr) (n cap : Nat) (l key : List UInt8) (w : World) (hT : Tabs w) (hR : RdB w A n l) (hn : n ≤ 17592186044416) (h0 : 0 < n) (hq : bt l 0 = 34) (hkl : key.length ≤ 17592186044416) (hv : valid key ≠ key.length) :
    Calls Tryd.prog 18 #[.slice A n cap, .string ⟨key.toArray⟩] w fun e w' => e = .returned (.bool (isP l key)) ∧ Below w.heap.size w w' := by
  have hno : isP l key = false := by unfold isP; rw [decide_eq_false hv, Bool.and_false, Bool.false_and]
  rw [hno]
  obtain ⟨b, off, rfl, hb, hc⟩ := hR.2 h0
  have hc0 := hc 0 h0
  rw [hq, Nat.add_zero] at hc0
  have d0 : ((n : Int) == 0) = false := by simp; omega
  have hb2 : Below w.heap.size w ((w.alloc (.cells #[.string ⟨key.toArray⟩] 9)).alloc (.cells #[.bool false] 4)) := ((Below.refl _ w).alloc (Nat.le_refl _) _).alloc (by simp) _
  have kv := utfValid_any ⟨key.toArray⟩ ((w.alloc (.cells #[.string ⟨key.toArray⟩] 9)).alloc (.cells #[.bool false] 4)).drew ((hT.below hb2 (Nat.le_refl _)).below (Below.refl _ _).drew (Nat.le_refl _)) (by show key.length ≤ _; unfold maxLen; omega)
  rw [show (⟨key.toArray⟩ : ByteArray).data.toList = key from rfl] at kv
  have hvl := valid_le key
  generalize valid key = V at kv hv hvl
  have dv : ((V : Int) != (key.length : Int)) = true := by simp; omega
  have KV := Lib.hid kv
  have hc2 := cell_al (.cells #[.bool false] 4) (cell_al (.cells #[.string ⟨key.toArray⟩] 9) hc0)
  have ha1 : ((w.alloc (.cells #[.string ⟨key.toArray⟩] 9)).alloc (.cells #[.bool false] 4)).drew.heap[w.heap.size]? = some (.cells #[.string ⟨key.toArray⟩] 9 (0, 0)) := heap_al _ (heap_nw _ rfl)
  have ha2 : ((w.alloc (.cells #[.string ⟨key.toArray⟩] 9)).alloc (.cells #[.bool false] 4)).drew.heap[w.heap.size + 1]? = some (.cells #[.bool false] 4 (0, 0)) := heap_nw (w := w.alloc _) _ (by simp)
  have HA2 := Lib.hid ha2
  have KC := Lib.hid (keepB ha1 ha2)
  clear hR hT hc kv hv ha1 ha2 hno hvl
  go_enter Tryd.func18, Tryd.ntmps18
  go_wp2_with fail
  first | (go_region_with (go_at_call 16; refine KV.out.mono ?_; rintro e w2 ⟨rfl, bv⟩; obtain ⟨d1, d2, g1, g2⟩ := KC.out w2 bv)) | fail
  all_goals go_wp2
  all_goals
    have j2 : w2.heap[w.heap.size + 1]? = some (.cells #[.bool false] 4 (0, 0)) := (bv.block _ (Array.getElem?_eq_some_iff.1 HA2.out).1).trans HA2.out
    have hh := heap_setCell_self (i := 0) j2 (.bool false)
    have hcell : (w2.setCell ⟨w.heap.size + 1, 0, none⟩ (.bool false)).cell? ⟨w.heap.size + 1, 0, none⟩ = some (.bool false) := by rw [Lib.cell_of_heap hh]; rfl
    have hB := (hb2.drew.trans (bv.mono hb2.size)).setCell (p := ⟨w.heap.size + 1, 0, none⟩) (by simp) (.bool false)
    refine bodyPost_ret (v := .bool false) ?_ rfl ⟨rfl, hB⟩
    exact is_results rfl hcell


end Go.Proofs.YtojapomkmfbciaaDoor
