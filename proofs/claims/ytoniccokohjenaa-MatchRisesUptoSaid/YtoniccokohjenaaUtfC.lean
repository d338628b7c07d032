/-
  The walks of utf's and its reference's Decode, Valid, Explode.
-/
import Derived.Test.YtoniccokohjenaaUtfB
import Derived.Test.YtoniccokohjenaaBld
namespace Go.Proofs.Ytoniccokohjenaa
open Go.RowKit

end Go.Proofs.Ytoniccokohjenaa
