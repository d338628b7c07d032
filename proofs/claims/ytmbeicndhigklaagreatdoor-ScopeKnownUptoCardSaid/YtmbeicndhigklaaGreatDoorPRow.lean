/-
What every statement's row asks behind its walk: the call returned true, and below the heap's old size nothing has turned.
-/
import Derived.Test.YtmbeicndhigklaaGreatDoorCards
import Derived.Test.YtmbeicndhigklaaGreatDoorTie
import Derived.WalkKit
import Derived.ProofKit
import Derived.OpenShut
import Derived.Carry
import Derived.Deep.DeepHandedRow
import Derived.Lib.LaidU8
import Derived.Test.YtmbeicndhigklaaGreatDoorPSynLa
import Derived.ChangeArms
import Derived.Deep.Slices
import Derived.Lay
import Derived.MakeChecks
import Derived.Deep.DeepWitnessRowRef
namespace Go.Proofs.YtmbeicndhigklaaGreatDoor
open Go.ChangeShapes Go.WideShapes Go.ChangeAt Go.RowKit
theorem laidOutAll:laidOutB Tryz.prog=true:=by kernel_rfl
theorem ownNone:ownKnob Tryz.prog.godebug=none:=by kernel_rfl
section
variable {H:Type} {enc:TypeId×Value→H} {P:Program}
theorem trodAll_later (hl:laidOutB P=true) {W W':World} (hb:Below W.heap.size W W') :
  ∀{ts:List TypeId} {vs:List Value} {ds:List (DataW H)} {p:List MemPlace},(∀t∈ts,P.readableRec t=true∧t<P.types.size) →
   DataW.TrodAll enc P W 0 (fun _=>true) true ts vs ds p→(∀x∈p,x.block<W.heap.size) →
   DataW.TrodAll enc P W' 0 (fun b=>decide (b<W.heap.size)) true ts vs ds p
 | [],_,_,_,_,h,_=>by
  obtain ⟨rfl,rfl,rfl⟩:=trodAll_nil h
  exact trodAll_mk0
 | t::ts,_,_,_,hr,h,hlt=>by
  obtain ⟨v,vs,d,ds,a,b,rfl,rfl,rfl,h1,h2⟩:=trodAll_cons h
  refine trodAll_cons_mk ?_ ?_
  ·exact Below.trod hl (hr t (by simp)).1 (hr t (by simp)).2 h1 hb (fun x hx=>hlt x (by simp [hx]))
  ·exact trodAll_later hl hb (fun u hu=>hr u (by simp [hu])) h2 (fun x hx=>hlt x (by simp [hx]))
theorem law_post (hl:laidOutB P=true) {f:Func} {s:ChangeSpec} {W W':World} {args:Array Value} {ds gs:List (DataW H)} {before:List MemPlace} {T:TypeId}
  (hW:DataW.Whole enc P f.params.toList s.vars false W args.toList ds gs before) (hv:s.vars=[])
  (hT:f.resultTypes=#[T]) (hB:P.underlying T=some .bool) (hr:∀t∈f.params.toList,P.readableRec t=true∧t<P.types.size)
  (hs:(s.fn H ds).results=[.lit (.bool true)]∧(s.fn H ds).args=ds∧(s.fn H ds).vars=[]) (hb:Below W.heap.size W W') :
  s.post enc P f false true false false W args (.bool true) W':=by
 have hW':=hW
 obtain ⟨p,q,hA,hV,rfl,hfz,hnd⟩:=hW
 rw [hv] at hV
 obtain ⟨rfl,rfl⟩:=trodVars_none hV
 have hlt:∀x∈p,x.block<W.heap.size:=fun x hx=>by simpa using hW'.lt x (by simp [hx])
 refine ⟨ds,[],p++[],[],p,[],hW',?_,?_,?_,hb.frame _,fun h=>by cases h⟩
 ·rw [hT,List.append_nil,hs.1]
  exact trodAll_cons_mk (shut_bool hB _) trodAll_mk0
 ·rw [List.append_nil,hs.2.1]
  exact trodAll_later hl hb hr hA hlt
 ·rw [hv,List.append_nil,hs.2.2]
  rfl
end
end Go.Proofs.YtmbeicndhigklaaGreatDoor
namespace Go.Proofs.YtmbeicndhigklaaGreatDoor
open Go.ChangeShapes Go.WideShapes Go.ChangeAt Go.RowKit
theorem tabs2_of {W:World} (hL:laidMet Tryz.prog [("math/bits.deBruijn32tab",Rows.laid_math_bits_deBruijn32tab),("math/bits.deBruijn64tab",Rows.laid_math_bits_deBruijn64tab),("internal/strconv.uint64pow10",Rows.laid_internal_strconv_uint64pow10),("unicode/utf8.acceptRanges",Rows.laid_unicode_utf8_acceptRanges),("strconv.ErrRange",Rows.laid_strconv_ErrRange),("strconv.ErrSyntax",Rows.laid_strconv_ErrSyntax),("unicode/utf8.first",Rows.laid_unicode_utf8_first)] W):Tabs W∧Tab10 W:=by
 constructor
 ·have e1:Rows.laid_unicode_utf8_first=Lib.firstData:=by kernel_rfl
  have e2:(Rows.laid_unicode_utf8_acceptRanges:DataW Unit)=Lib.acceptData:=by kernel_rfl
  have hU:Lib.Utf8Tabs 0 1 W:=
   utf8Tabs_of_reads (ρ:=Tryz.lays197_ren) { Tryz.lays197 with } ⟨by kernel_rfl,by kernel_rfl,by kernel_rfl,by kernel_rfl,by kernel_rfl,by kernel_rfl,by kernel_rfl⟩
    (e1▸Lib.laidMet.reads hL (by simp)) (e2▸Lib.laidMet.reads hL (by simp))
  exact ⟨hU,World.block_lt_of_cell? W _ (hU.1 0 (by omega)),World.block_lt_of_cell? W _ (hU.2 0 (by omega)).1⟩
 ·have e1:(Rows.laid_internal_strconv_uint64pow10:DataW Unit)=Lib.tabData .u64 Lib.pow10Tab:=by kernel_rfl
  obtain ⟨g,t,cs,fuel,p,hg,ht,hv,hd⟩:=Lib.laidMet.reads hL (n:= "internal/strconv.uint64pow10") (d:=Rows.laid_internal_strconv_uint64pow10) (by simp)
  rw [e1] at hd
  obtain rfl:3=g:=Option.some.inj ((show Tryz.prog.globalNamed "internal/strconv.uint64pow10"=some 3 by kernel_rfl).symm.trans hg)
  obtain rfl:193=t:=Option.some.inj ((show (Tryz.prog.globals[3]?).map (·.type)=some 193 by kernel_rfl).symm.trans ht)
  unfold Tab10 Lib.TabIs
  rw [hv,←Lib.cells_of_tab (n:=20) (e:=148) Tryz.underlying193 Tryz.underlying148 (by kernel_rfl) (by kernel_rfl) hd]
end Go.Proofs.YtmbeicndhigklaaGreatDoor
