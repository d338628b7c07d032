/-
  The walks of utf's and its reference's Valid and Explode.
-/
import Derived.Test.YtoniccokohjenaaUtfC
namespace Go.Proofs.Ytoniccokohjenaa
open Go.RowKit

theorem info_int : (Try.prog.info? 3).map (fun i => (i.zero, i.size, i.bytes)) = some (some (.int .i64 0), 1, 8) := by kernel_rfl

theorem ret_nat {k : IntKind} {a b : Nat} (h : a = b) : Ending.returned (.int k (a : Int)) = .returned (.int k (b : Int)) := by rw [h]

end Go.Proofs.Ytoniccokohjenaa
