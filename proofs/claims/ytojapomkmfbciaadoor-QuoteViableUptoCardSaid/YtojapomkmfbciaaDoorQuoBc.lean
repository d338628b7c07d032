/-
  The walk of quote's Plain  (chapter 5).
-/
import Derived.Deep.RegionHeld3
import Derived.Test.YtojapomkmfbciaaDoorQuoZ
import Derived.Test.YtojapomkmfbciaaDoorQuoP
namespace Go.Proofs.YtojapomkmfbciaaDoor
open Go.RowKit

set_option maxHeartbeats 1000000 in
set_option maxRecDepth 100000 in
theorem quoPlain_yes (A : Option Addr) (n cap : Nat) (l t : List UInt8) (w : World) (hT : Tabs w) (hR : RdB w A n l) (hn : n ≤ 17592186044416) (hcap : n ≤ cap) (h0 : 0 < n) (hr : readP l = (t, n, 0)) (ht : t.length ≤ 1099511627776) (B : Bool) (hB : B = decide (writtenP false t = l)) :
    Calls Tryd.prog 19 #[.slice A n cap] w fun e w' => e = .returned (.bool B) ∧ Below w.heap.size w w' := by
  have HR := Lib.hid hR
  have HT := Lib.hid hT
  have k1 := quoRead_any A n cap l w hT hR hn hcap
  rw [readV_of l t n 0 hr] at k1
  have k1' : Calls Tryd.prog 15 #[.slice A n cap] w fun e w' => e = .returned (.tuple #[.string ⟨t.toArray⟩, .int .i64 n, .int .i64 0]) ∧ Below w.heap.size w w' := k1
  have K1 := Lib.hid k1'
  have dnn : ((n : Int) == (n : Int)) = true := by simp
  have k2 := fun (W : World) (h : Tabs W) => quoQuote_any ⟨t.toArray⟩ W h ht
  rw [show (⟨t.toArray⟩ : ByteArray).data.toList = t from rfl] at k2
  generalize writtenP false t = q at k2 hB
  have K2 := Lib.hid k2
  have hcv := fun (W : World) (h : RdB W A n l) => h.conv (P := Tryd.prog) (cap := cap) Tryd.underlying26 Tryd.underlying5 Tryd.underlying9 h0
  have HCV := Lib.hid hcv
  have HB := Lib.hid hB
  clear hR hT k1 k1' k2 hcv hr hB
  go_enter Tryd.func19, Tryd.ntmps19
  go_wp2_with (go_at_call 15; refine K1.out.mono ?_)
  rintro e w1 ⟨rfl, hb1⟩
  have hcv1 := HCV.out w1 (HR.out.below hb1)
  have hcv1d := HCV.out w1.drew ((HR.out.below hb1).below (Below.refl _ _).drew)
  have hT1 : Tabs w1.drew := (HT.out.below hb1 (Nat.le_refl _)).below (Below.refl _ _).drew (Nat.le_refl _)
  have HT1 := Lib.hid hT1
  have hR1 : RdB w1.drew A n l := (HR.out.below hb1).below (Below.refl _ _).drew
  have HR1 := Lib.hid hR1
  clear hT1 hR1
  by_cases hql : q = l
  · subst hql
    go_wp2_with fail
    refine wp_mono (Q := fun e a W2 => match e with | .normal => a = ({ tmps := #[.slice A n cap, undef, .bool true, .string ⟨t.toArray⟩, .int .i64 n, .int .i64 0, .tuple #[.string ⟨t.toArray⟩, .int .i64 n, .int .i64 0], .slice A n cap, .tuple #[.string ⟨t.toArray⟩, .int .i64 n, .int .i64 0], .string ⟨t.toArray⟩, .int .i64 n, .int .i64 0, .int .i64 0, .bool true, .bool true, .int .i64 n, .slice A n cap, .int .i64 n, .bool true, .bool true, .bool true, .string ⟨t.toArray⟩, .string ⟨q.toArray⟩, .slice A n cap, .string ⟨q.toArray⟩, .bool true, .bool true], defers := [] } : Act) ∧ Below w1.drew.heap.size w1.drew W2 | _ => False) ?reg ?rest
    case reg =>
      go_region_held3 (fun W => Below w1.heap.size w1 W ∧ (convert 26 9 (.slice A n cap)).run Tryd.prog W = .ok (.string ⟨q.toArray⟩) W)
        (first | exact ⟨(Below.refl _ w1).drew, hcv1d⟩ | exact ⟨hB2, hcv2⟩)
        (first
          | (go_at_call 12; refine (K2.out _ HT1.out).mono ?_; rintro e w2 ⟨rfl, bv⟩; have hcv2 := HCV.out w2 (HR1.out.below bv); have hB2 := (Below.refl w1.heap.size w1).drew.trans bv))
      all_goals exact ⟨rfl, bv⟩
    case rest =>
      rintro e a W2 h
      cases e with
      | normal =>
        obtain ⟨rfl, bv⟩ := h
        go_wp2
        go_ret
        exact ⟨by rw [show B = true by rw [HB.out]; simp]; rfl, hb1.drew.trans (bv.mono hb1.size)⟩
      | _ => exact h.elim
  · have hne : (q == l) = false := beq_false_of_ne hql
    have HQ := Lib.hid hql
    clear hql
    go_wp2_with fail
    refine wp_mono (Q := fun e a W2 => match e with | .normal => a = ({ tmps := #[.slice A n cap, undef, .bool false, .string ⟨t.toArray⟩, .int .i64 n, .int .i64 0, .tuple #[.string ⟨t.toArray⟩, .int .i64 n, .int .i64 0], .slice A n cap, .tuple #[.string ⟨t.toArray⟩, .int .i64 n, .int .i64 0], .string ⟨t.toArray⟩, .int .i64 n, .int .i64 0, .int .i64 0, .bool true, .bool true, .int .i64 n, .slice A n cap, .int .i64 n, .bool true, .bool true, .bool true, .string ⟨t.toArray⟩, .string ⟨q.toArray⟩, .slice A n cap, .string ⟨l.toArray⟩, .bool false, .bool false], defers := [] } : Act) ∧ Below w1.drew.heap.size w1.drew W2 | _ => False) ?reg ?rest
    case reg =>
      go_region_held3 (fun W => Below w1.heap.size w1 W ∧ (convert 26 9 (.slice A n cap)).run Tryd.prog W = .ok (.string ⟨l.toArray⟩) W)
        (first | exact ⟨(Below.refl _ w1).drew, hcv1d⟩ | exact ⟨hB2, hcv2⟩)
        (first
          | (go_at_call 12; refine (K2.out _ HT1.out).mono ?_; rintro e w2 ⟨rfl, bv⟩; have hcv2 := HCV.out w2 (HR1.out.below bv); have hB2 := (Below.refl w1.heap.size w1).drew.trans bv))
      all_goals exact ⟨rfl, bv⟩
    case rest =>
      rintro e a W2 h
      cases e with
      | normal =>
        obtain ⟨rfl, bv⟩ := h
        go_wp2
        go_ret
        exact ⟨by rw [show B = false by rw [HB.out]; exact decide_eq_false HQ.out]; rfl, hb1.drew.trans (bv.mono hb1.size)⟩
      | _ => exact h.elim

end Go.Proofs.YtojapomkmfbciaaDoor
