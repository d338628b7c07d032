/-
  Single bytes as arguments.
-/
import Derived.Test.YtbgmdkjhegacjaaGreatDoorPRow
namespace Go.Proofs.YtbgmdkjhegacjaaGreatDoor
open Go.ChangeShapes Go.WideShapes Go.ChangeAt Go.RowKit

theorem wfB_nat (k : IntKind) (m z : Int) (h0 : k.min = 0) (h1 : k.max + 1 = m) (h : (Lit.int k z).wf = true) : 0 ≤ z ∧ z < m := by
  have h2 : (decide (k.min ≤ z) && decide (z ≤ k.max)) = true := h
  rw [Bool.and_eq_true, decide_eq_true_iff, decide_eq_true_iff] at h2
  omega

end Go.Proofs.YtbgmdkjhegacjaaGreatDoor
