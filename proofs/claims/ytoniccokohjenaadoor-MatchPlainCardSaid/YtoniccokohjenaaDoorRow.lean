/-
  What every statement's row asks behind its walk: the call returned true, and below the heap's old size nothing has turned.
-/
import Derived.Test.YtoniccokohjenaaDoorCards
import Derived.Test.YtoniccokohjenaaDoorTie
import Derived.WalkKit
import Derived.ProofKit
import Derived.OpenShut
import Derived.Carry
import Derived.Deep.DeepHandedRow
import Derived.Lib.LaidU8
namespace Go.Proofs.YtoniccokohjenaaDoor
open Go.ChangeShapes Go.WideShapes Go.ChangeAt Go.RowKit

theorem laidOutAll : laidOutB Tryd.prog = true := by kernel_rfl
theorem ownNone : ownKnob Tryd.prog.godebug = none := by kernel_rfl

/-- the two tables of unicode/utf8 as their initialisers lay them, in a block -/
def layFirst : Obj → Obj
  | .cells _ t fz => .cells ((List.range 256).map fun c => Value.int .u8 (Lib.firstT c)).toArray t fz
  | o => o
def layAccept : Obj → Obj
  | .cells _ t fz => .cells ((List.range 32).map fun c => Value.int .u8 (if c % 2 = 0 then Lib.accLo (c / 2) else Lib.accHi (c / 2))).toArray t fz
  | o => o

section
variable {H : Type} {enc : TypeId × Value → H} {P : Program}

/-- all arguments read as they did, in a world in which nothing old has turned -/
theorem trodAll_later (hl : laidOutB P = true) {W W' : World} (hb : Below W.heap.size W W') :
    ∀ {ts : List TypeId} {vs : List Value} {ds : List (DataW H)} {p : List MemPlace}, (∀ t ∈ ts, P.readableRec t = true ∧ t < P.types.size) →
      DataW.TrodAll enc P W 0 (fun _ => true) true ts vs ds p → (∀ x ∈ p, x.block < W.heap.size) →
      DataW.TrodAll enc P W' 0 (fun b => decide (b < W.heap.size)) true ts vs ds p
  | [], _, _, _, _, h, _ => by
    obtain ⟨rfl, rfl, rfl⟩ := trodAll_nil h
    exact trodAll_mk0
  | t :: ts, _, _, _, hr, h, hlt => by
    obtain ⟨v, vs, d, ds, a, b, rfl, rfl, rfl, h1, h2⟩ := trodAll_cons h
    refine trodAll_cons_mk ?_ ?_
    · exact Below.trod hl (hr t (by simp)).1 (hr t (by simp)).2 h1 hb (fun x hx => hlt x (by simp [hx]))
    · exact trodAll_later hl hb (fun u hu => hr u (by simp [hu])) h2 (fun x hx => hlt x (by simp [hx]))

/-- a law's row: the result is true, the arguments read as before -/
theorem law_post (hl : laidOutB P = true) {f : Func} {s : ChangeSpec} {W W' : World} {args : Array Value} {ds gs : List (DataW H)} {before : List MemPlace} {T : TypeId}
    (hW : DataW.Whole enc P f.params.toList s.vars false W args.toList ds gs before) (hv : s.vars = [])
    (hT : f.resultTypes = #[T]) (hB : P.underlying T = some .bool) (hr : ∀ t ∈ f.params.toList, P.readableRec t = true ∧ t < P.types.size)
    (hs : (s.fn H ds).results = [.lit (.bool true)] ∧ (s.fn H ds).args = ds ∧ (s.fn H ds).vars = []) (hb : Below W.heap.size W W') :
    s.post enc P f false true false false W args (.bool true) W' := by
  have hW' := hW
  obtain ⟨p, q, hA, hV, rfl, hfz, hnd⟩ := hW
  rw [hv] at hV
  obtain ⟨rfl, rfl⟩ := trodVars_none hV
  have hlt : ∀ x ∈ p, x.block < W.heap.size := fun x hx => by simpa using hW'.lt x (by simp [hx])
  refine ⟨ds, [], p ++ [], [], p, [], hW', ?_, ?_, ?_, hb.frame _, fun h => by cases h⟩
  · rw [hT, List.append_nil, hs.1]
    exact trodAll_cons_mk (shut_bool hB _) trodAll_mk0
  · rw [List.append_nil, hs.2.1]
    exact trodAll_later hl hb hr hA hlt
  · rw [hv, List.append_nil, hs.2.2]
    rfl
end

end Go.Proofs.YtoniccokohjenaaDoor
