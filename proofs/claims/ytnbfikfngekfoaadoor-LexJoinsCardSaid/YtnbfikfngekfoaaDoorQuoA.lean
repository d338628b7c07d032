/-
  The walks of quote's small functions (chapter 5): fault, escaped.
-/
import Derived.Test.YtnbfikfngekfoaaDoorQuoM
namespace Go.Proofs.YtnbfikfngekfoaaDoor
open Go.RowKit

theorem ret_pc {p q : Pc} (h : p = q) : Ending.returned (pcVal p) = .returned (pcVal q) := by rw [h]

set_option maxHeartbeats 1000000 in
set_option maxRecDepth 100000 in
theorem quoFault_any (A : Option Addr) (n cap : Nat) (l : List UInt8) (m : Nat) (w : World) (hR : RdB w A n l) (hn : n ≤ 17592186044416) (hm : m ≤ n) :
    Calls Tryd.prog 49 #[.slice A n cap, .int .i64 m] w fun e w' => e = .returned (pcVal (faultP l m)) ∧ Below w.heap.size w w' := by
  have hl := Lib.hid hR.1
  have HR := Lib.hid hR
  clear hR
  by_cases h : m < n
  · obtain ⟨b, off, rfl, hb, hc⟩ := HR.out.2 (by omega)
    have hc1 := hc m h
    have hx := bt_lt l m
    go_enter Tryd.func49, Tryd.ntmps49
    go_wp2
    · rename_i h1 h2
      go_returns
      refine ⟨?_, (Below.refl _ w).alloc (Nat.le_refl _) _⟩
      refine ret_pc (p := ⟨0, m, 7⟩) ?_
      unfold faultP
      rw [if_neg (by rw [hl.out]; omega), if_pos (by omega)]
    · rename_i h1 h2
      go_returns
      refine ⟨?_, (Below.refl _ w).alloc (Nat.le_refl _) _⟩
      refine ret_pc (p := ⟨0, m, 2⟩) ?_
      unfold faultP
      rw [if_neg (by rw [hl.out]; omega), if_neg (by omega)]
  · have he : m = n := by omega
    subst he
    go_enter Tryd.func49, Tryd.ntmps49
    go_wp2
    go_returns
    refine ⟨?_, (Below.refl _ w).alloc (Nat.le_refl _) _⟩
    refine ret_pc (p := ⟨0, m, 5⟩) ?_
    unfold faultP
    rw [if_pos (by rw [hl.out]; exact Nat.le_refl _)]

end Go.Proofs.YtnbfikfngekfoaaDoor
