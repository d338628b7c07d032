/-
  The walks of the smallest functions of utf and of its reference.
-/
import Derived.Test.YtoniccokohjenaaRows
import Derived.Test.YtoniccokohjenaaUtfS
import Derived.WalkKit
import Derived.WalkSpells
import Derived.WalkLawsBesides
import Derived.Handy
import Derived.Lib.Hide
namespace Go.Proofs.Ytoniccokohjenaa
open Go.RowKit

theorem isPt_eq (p : Int) (b : Bool) (h : b = isPt p) : Ending.returned (.bool b) = .returned (.bool (isPt p)) := by rw [h]

set_option maxHeartbeats 400000 in
theorem refIs_any (p : Int) (w : World) :
    Calls Try.prog 71 #[.int .i64 p] w fun e w' => e = .returned (.bool (isPt p)) ∧ w = w' := by
  go_enter Try.func71, Try.ntmps71
  go_wp2
  all_goals go_ret
  all_goals refine ⟨isPt_eq _ _ ?_, rfl⟩
  all_goals simp [isPt]
  all_goals omega

def refSizeOf (c : UInt8) : Int := if c.toNat < 128 then 1 else if c.toNat < 192 then 0 else if c.toNat < 224 then 2 else if c.toNat < 240 then 3 else if c.toNat < 248 then 4 else 0

theorem ret_int {k : IntKind} {a b : Int} (h : a = b) : Ending.returned (.int k a) = .returned (.int k b) := by rw [h]

set_option maxHeartbeats 400000 in
set_option maxRecDepth 100000 in
theorem refSize_any (c : UInt8) (w : World) :
    Calls Try.prog 70 #[.int .u8 c.toNat] w fun e w' => e = .returned (.int .i64 (refSizeOf c)) ∧ w = w' := by
  go_enter Try.func70, Try.ntmps70
  go_wp2
  all_goals go_ret
  all_goals refine ⟨ret_int ?_, rfl⟩
  all_goals unfold refSizeOf
  all_goals (repeat' split)
  all_goals omega

theorem conv_new {P : Program} {src e dst : TypeId} (hs : P.underlying src = some (.slice e)) (he : P.underlying e = some (.int .u8)) (hd : P.underlying dst = some .string) (w : World) (xs : List Int) (cs : Array Value) (t : TypeId) (n c : Nat)
    (hcs : cs.toList = xs.map (Value.int .u8)) (hn : n = xs.length) :
    (convert src dst (.slice (some ⟨w.heap.size, 0, none⟩) n c)).run P (w.alloc (.cells cs t)) = .ok (.string (strOfNums xs)) (w.alloc (.cells cs t)) := by
  refine run_convert_bytes_arg _ src e hs he _ _ _ _ xs hn.symm (fun i hi => ?_) dst hd
  rw [World.cell?_alloc_at _ _ _ _ rfl]
  have hi' : i < cs.toList.length := by rw [hcs, List.length_map]; omega
  have : cs[0 + i]? = cs.toList[i]? := by simp
  rw [this, hcs, List.getElem?_map, List.getElem?_eq_getElem (by omega)]
  simp [List.getD, List.getElem?_eq_getElem (show i < xs.length by omega)]

set_option maxHeartbeats 400000 in
theorem refBytes_any (p : Int) (w : World) (h0 : 0 ≤ p) (h1 : p ≤ 1114111) :
    Calls Try.prog 66 #[.int .i64 p] w fun e w' => e = .returned (.string (strOfNums (ptBytes p))) ∧ Below w.heap.size w w' := by
  have k1 := fun (w : World) (a : Int) => conv_new (P := Try.prog) Try.underlying110 Try.underlying5 Try.underlying9 w [a] #[.int .u8 a] 5 1 1 rfl rfl
  have k2 := fun (w : World) (a b : Int) => conv_new (P := Try.prog) Try.underlying110 Try.underlying5 Try.underlying9 w [a, b] #[.int .u8 a, .int .u8 b] 5 2 2 rfl rfl
  have k3 := fun (w : World) (a b c : Int) => conv_new (P := Try.prog) Try.underlying110 Try.underlying5 Try.underlying9 w [a, b, c] #[.int .u8 a, .int .u8 b, .int .u8 c] 5 3 3 rfl rfl
  have k4 := fun (w : World) (a b c d : Int) => conv_new (P := Try.prog) Try.underlying110 Try.underlying5 Try.underlying9 w [a, b, c, d] #[.int .u8 a, .int .u8 b, .int .u8 c, .int .u8 d] 5 4 4 rfl rfl
  go_enter Try.func66, Try.ntmps66
  go_wp2
  all_goals go_ret
  all_goals refine ⟨?_, by go_grown⟩
  all_goals unfold ptBytes
  · rw [if_pos (by assumption)]; rfl
  · rw [if_neg (by omega), if_pos (by assumption)]; rfl
  · rw [if_neg (by omega), if_neg (by omega), if_pos (by assumption)]; rfl
  · rw [if_neg (by omega), if_neg (by omega), if_neg (by omega)]; rfl

theorem refIs_yes (p : Int) (w : World) (h : isPt p = true) :
    Calls Try.prog 71 #[.int .i64 p] w fun e w' => e = .returned (.bool true) ∧ w = w' := by have := refIs_any p w; rw [h] at this; exact this
theorem refIs_no (p : Int) (w : World) (h : isPt p = false) :
    Calls Try.prog 71 #[.int .i64 p] w fun e w' => e = .returned (.bool false) ∧ w = w' := by have := refIs_any p w; rw [h] at this; exact this


/-- what Encode answers -/
def encVal (p : Int) : Value := .tuple #[.string (if isPt p then strOfNums (ptBytes p) else ⟨#[]⟩), .int .i64 (if isPt p then 0 else 1)]
theorem encVal_yes (p : Int) (h : isPt p = true) : Value.tuple #[.string (strOfNums (ptBytes p)), .int .i64 0] = encVal p := by unfold encVal; rw [h]; rfl
theorem encVal_no (p : Int) (h : isPt p = false) : Value.tuple #[.string ⟨#[]⟩, .int .i64 1] = encVal p := by unfold encVal; rw [h]; rfl

end Go.Proofs.Ytoniccokohjenaa
