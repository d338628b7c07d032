/-
  The walks of the smallest functions of utf and of its reference.
-/
import Derived.Test.YtoniccokohjenaaDoorRows
import Derived.Test.YtoniccokohjenaaDoorUtfS
import Derived.WalkKit
import Derived.WalkSpells
import Derived.WalkLawsBesides
import Derived.Handy
import Derived.Lib.Hide
namespace Go.Proofs.YtoniccokohjenaaDoor
open Go.RowKit

theorem isPt_eq (p : Int) (b : Bool) (h : b = isPt p) : Ending.returned (.bool b) = .returned (.bool (isPt p)) := by rw [h]

def refSizeOf (c : UInt8) : Int := if c.toNat < 128 then 1 else if c.toNat < 192 then 0 else if c.toNat < 224 then 2 else if c.toNat < 240 then 3 else if c.toNat < 248 then 4 else 0

theorem ret_int {k : IntKind} {a b : Int} (h : a = b) : Ending.returned (.int k a) = .returned (.int k b) := by rw [h]

theorem conv_new {P : Program} {src e dst : TypeId} (hs : P.underlying src = some (.slice e)) (he : P.underlying e = some (.int .u8)) (hd : P.underlying dst = some .string) (w : World) (xs : List Int) (cs : Array Value) (t : TypeId) (n c : Nat)
    (hcs : cs.toList = xs.map (Value.int .u8)) (hn : n = xs.length) :
    (convert src dst (.slice (some ⟨w.heap.size, 0, none⟩) n c)).run P (w.alloc (.cells cs t)) = .ok (.string (strOfNums xs)) (w.alloc (.cells cs t)) := by
  refine run_convert_bytes_arg _ src e hs he _ _ _ _ xs hn.symm (fun i hi => ?_) dst hd
  rw [World.cell?_alloc_at _ _ _ _ rfl]
  have hi' : i < cs.toList.length := by rw [hcs, List.length_map]; omega
  have : cs[0 + i]? = cs.toList[i]? := by simp
  rw [this, hcs, List.getElem?_map, List.getElem?_eq_getElem (by omega)]
  simp [List.getD, List.getElem?_eq_getElem (show i < xs.length by omega)]

/-- what Encode answers -/
def encVal (p : Int) : Value := .tuple #[.string (if isPt p then strOfNums (ptBytes p) else ⟨#[]⟩), .int .i64 (if isPt p then 0 else 1)]
theorem encVal_yes (p : Int) (h : isPt p = true) : Value.tuple #[.string (strOfNums (ptBytes p)), .int .i64 0] = encVal p := by unfold encVal; rw [h]; rfl
theorem encVal_no (p : Int) (h : isPt p = false) : Value.tuple #[.string ⟨#[]⟩, .int .i64 1] = encVal p := by unfold encVal; rw [h]; rfl

end Go.Proofs.YtoniccokohjenaaDoor
