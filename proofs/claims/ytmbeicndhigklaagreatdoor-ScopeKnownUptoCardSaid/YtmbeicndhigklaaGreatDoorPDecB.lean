/-
The walk of dec's scan: how a literal is cut into its parts (chapter 2, as chapter 15 asks it).
-/
import Derived.Test.YtmbeicndhigklaaGreatDoorPDecA
import Derived.Recover
import Derived.Carry
namespace Go.Proofs.YtmbeicndhigklaaGreatDoor
open Lib (hid)
open Go.RowKit
structure NS (q:Nat) (ng:Bool) (wh bh:List UInt8) (ex:Int) (ok:Bool) (w:World):Prop where
 h0:w.heap[q]?=some (.cells #[.bool ng] 4 (0,0))
 h1:w.heap[q+1]?=some (.cells #[.string ⟨wh.toArray⟩] 9 (0,0))
 h2:w.heap[q+2]?=some (.cells #[.string ⟨bh.toArray⟩] 9 (0,0))
 h3:w.heap[q+3]?=some (.cells #[.int .i64 ex] 3 (0,0))
 h4:w.heap[q+4]?=some (.cells #[.bool ok] 4 (0,0))
section
variable {q:Nat} {ng:Bool} {wh bh:List UInt8} {ex:Int} {ok:Bool} {w w':World}
theorem NS.below {B:Nat} (h:NS q ng wh bh ex ok w) (hb:Below B w w') (hB:q+5≤B):NS q ng wh bh ex ok w':=
 ⟨(hb.block _ (by omega)).trans h.h0,(hb.block _ (by omega)).trans h.h1,(hb.block _ (by omega)).trans h.h2,(hb.block _ (by omega)).trans h.h3,(hb.block _ (by omega)).trans h.h4⟩
theorem NS.set0 (h:NS q ng wh bh ex ok w) (x:Bool):NS q x wh bh ex ok (w.setCell ⟨q,0,none⟩ (.bool x)):=
 ⟨rheap_set (k:=0) h.h0 _,(rheap_far (show q≠q+1 by omega)).trans h.h1,(rheap_far (show q≠q+2 by omega)).trans h.h2,(rheap_far (show q≠q+3 by omega)).trans h.h3,(rheap_far (show q≠q+4 by omega)).trans h.h4⟩
theorem NS.set1 (h:NS q ng wh bh ex ok w) (x:List UInt8):NS q ng x bh ex ok (w.setCell ⟨q+1,0,none⟩ (.string ⟨x.toArray⟩)):=
 ⟨(rheap_far (show q+1≠q by omega)).trans h.h0,rheap_set (k:=0) h.h1 _,(rheap_far (show q+1≠q+2 by omega)).trans h.h2,(rheap_far (show q+1≠q+3 by omega)).trans h.h3,(rheap_far (show q+1≠q+4 by omega)).trans h.h4⟩
theorem NS.set2 (h:NS q ng wh bh ex ok w) (x:List UInt8):NS q ng wh x ex ok (w.setCell ⟨q+2,0,none⟩ (.string ⟨x.toArray⟩)):=
 ⟨(rheap_far (show q+2≠q by omega)).trans h.h0,(rheap_far (show q+2≠q+1 by omega)).trans h.h1,rheap_set (k:=0) h.h2 _,(rheap_far (show q+2≠q+3 by omega)).trans h.h3,(rheap_far (show q+2≠q+4 by omega)).trans h.h4⟩
theorem NS.set3 (h:NS q ng wh bh ex ok w) (x:Int):NS q ng wh bh x ok (w.setCell ⟨q+3,0,none⟩ (.int .i64 x)):=
 ⟨(rheap_far (show q+3≠q by omega)).trans h.h0,(rheap_far (show q+3≠q+1 by omega)).trans h.h1,(rheap_far (show q+3≠q+2 by omega)).trans h.h2,rheap_set (k:=0) h.h3 _,(rheap_far (show q+3≠q+4 by omega)).trans h.h4⟩
theorem NS.set4 (h:NS q ng wh bh ex ok w) (x:Bool):NS q ng wh bh ex x (w.setCell ⟨q+4,0,none⟩ (.bool x)):=
 ⟨(rheap_far (show q+4≠q by omega)).trans h.h0,(rheap_far (show q+4≠q+1 by omega)).trans h.h1,(rheap_far (show q+4≠q+2 by omega)).trans h.h2,(rheap_far (show q+4≠q+3 by omega)).trans h.h3,rheap_set (k:=0) h.h4 _⟩
theorem NS.lt (h:NS q ng wh bh ex ok w):q+5≤w.heap.size:=by have:=(Array.getElem?_eq_some_iff.1 h.h4).1;omega
theorem NS.cells (h:NS q ng wh bh ex ok w):w.cell? ⟨q,0,none⟩=some (.bool ng)∧w.cell? ⟨q+1,0,none⟩=some (.string ⟨wh.toArray⟩)∧w.cell? ⟨q+1+1,0,none⟩=some (.string ⟨bh.toArray⟩)∧w.cell? ⟨q+1+1+1,0,none⟩=some (.int .i64 ex)∧w.cell? ⟨q+1+1+1+1,0,none⟩=some (.bool ok):=by
 refine ⟨?_,?_,?_,?_,?_⟩
 ·rw [Lib.cell_of_heap h.h0];rfl
 ·rw [Lib.cell_of_heap h.h1];rfl
 ·rw [Lib.cell_of_heap h.h2];rfl
 ·rw [Lib.cell_of_heap h.h3];rfl
 ·rw [Lib.cell_of_heap h.h4];rfl
theorem NS.frozen (h:NS q ng wh bh ex ok w):w.frozen? ⟨q,0,none⟩=false∧w.frozen? ⟨q+1,0,none⟩=false∧w.frozen? ⟨q+1+1,0,none⟩=false∧w.frozen? ⟨q+1+1+1,0,none⟩=false∧w.frozen? ⟨q+1+1+1+1,0,none⟩=false:=
 ⟨Lib.frozen_of_heap h.h0 0,Lib.frozen_of_heap h.h1 0,Lib.frozen_of_heap h.h2 0,Lib.frozen_of_heap h.h3 0,Lib.frozen_of_heap h.h4 0⟩
end
theorem NS.made (w:World):NS w.heap.size false [] [] 0 false (((((w.alloc (.cells #[.bool false] 4)).alloc (.cells #[.string ⟨#[]⟩] 9)).alloc (.cells #[.string ⟨#[]⟩] 9)).alloc (.cells #[.int .i64 0] 3)).alloc (.cells #[.bool false] 4)):=by
 have al:∀(u:World) (o:Obj) (k:Nat),k<u.heap.size→(u.alloc o).heap[k]?=u.heap[k]?:=fun u o k hk=>Below.heap_alloc u o k hk
 have nw:∀(u:World) (k:Nat) (c:Array Value) (T:TypeId),u.heap.size=k→(u.alloc (.cells c T)).heap[k]?=some (.cells c T (0,0)):=fun u k c T e=>by subst e;exact Go.heap_alloc_new u _
 refine ⟨?_,?_,?_,?_,?_⟩
 ·rw [al _ _ _ (by simp only [World.size_alloc];omega),al _ _ _ (by simp only [World.size_alloc];omega),al _ _ _ (by simp only [World.size_alloc];omega),al _ _ _ (by simp only [World.size_alloc];omega)];exact nw _ _ _ _ rfl
 ·rw [al _ _ _ (by simp only [World.size_alloc];omega),al _ _ _ (by simp only [World.size_alloc];omega),al _ _ _ (by simp only [World.size_alloc];omega)];exact nw _ _ _ _ (by simp [World.size_alloc])
 ·rw [al _ _ _ (by simp only [World.size_alloc];omega),al _ _ _ (by simp only [World.size_alloc];omega)];exact nw _ _ _ _ (by simp [World.size_alloc])
 ·rw [al _ _ _ (by simp only [World.size_alloc];omega)];exact nw _ _ _ _ (by simp [World.size_alloc])
 ·exact nw _ _ _ _ (by simp [World.size_alloc])
def ScanR (r:Option NumT) (w:World) (e:Ending) (w':World):Prop:=Below w.heap.size w w'∧match r with
 | none=>e=.returned (.tuple #[.bool false,.string ⟨#[]⟩,.string ⟨#[]⟩,.int .i64 0,.bool false])
 | some t=>e=.returned (.tuple #[.bool t.neg,.string ⟨t.whole.toArray⟩,.string ⟨t.behind.toArray⟩,.int .i64 t.exp,.bool true])
set_option maxHeartbeats 4000000 in
set_option maxRecDepth 100000 in
theorem scanEnd (q:Nat) (ng:Bool) (wh bh:List UInt8) (ex:Int) (ok:Bool) (w:World) (h:NS q ng wh bh ex ok w) :
  CallsD Tryz.prog 132 #[.pointer (some ⟨q+1+1+1+1,0,none⟩),.pointer (some ⟨q,0,none⟩),.pointer (some ⟨q+1,0,none⟩),.pointer (some ⟨q+1+1,0,none⟩),.pointer (some ⟨q+1+1+1,0,none⟩)] .returning w fun e u' w'=>
   e=.returned (.tuple #[])∧u'=.returning∧Below q w w'∧(if ok then NS q ng wh bh ex true w' else NS q false [] [] 0 false w'):=by
 refine callsD_of_wpS Tryz.func132 rfl fun c₀ cs hu=>?_
 refine wpS_of_wp ?_
 simp only [Tryz.ntmps132]
 obtain ⟨c0,c1,c2,c3,c4⟩:=h.cells
 obtain ⟨f0,f1,f2,f3,f4⟩:=h.frozen
 have H:=hid h
 clear h
 cases ok with
 | true=>
  go_wp2
  cases c₀
  simp_all [bodyPostS,results,Tryz.results132]
  exact ⟨Below.refl _ _,H.out⟩
 | false=>
  go_wp2
  cases c₀
  simp_all [bodyPostS,results,Tryz.results132]
  exact ⟨((((Below.refl q w).setCell (p:=⟨q,0,none⟩) (Nat.le_refl q) _).setCell (p:=⟨q+1,0,none⟩) (Nat.le_add_right q 1) _).setCell (p:=⟨q+1+1,0,none⟩) (Nat.le_add_right q 2) _).setCell (p:=⟨q+1+1+1,0,none⟩) (Nat.le_add_right q 3) _,((((H.out.set0 false).set1 []).set2 []).set3 0)⟩
theorem pre_one (x:List UInt8) (c:UInt8) (hc:c.toNat≠0):Lib.hasPrefix x [c]=decide (bt x 0=c.toNat)∧Lib.trimPrefix x [c]=if bt x 0=c.toNat then x.drop 1 else x:=by
 have e:Lib.hasPrefix x [c]=decide (bt x 0=c.toNat):=by
  cases x with
  | nil=>
   have h0:bt [] 0=0:=rfl
   rw [h0,decide_eq_false (fun h=>hc h.symm)];rfl
  | cons a r=>
   have h0:bt (a::r) 0=a.toNat:=rfl
   rw [h0]
   by_cases h:a=c
   ·subst h
    rw [decide_eq_true rfl]
    simp [Lib.hasPrefix]
   ·rw [decide_eq_false (fun e=>h (UInt8.toNat_inj.1 e))]
    show (c==a&&List.isPrefixOf [] r)=false
    rw [beq_false_of_ne (fun e=>h e.symm)];rfl
 refine ⟨e,?_⟩
 unfold Lib.trimPrefix
 rw [e]
 by_cases h:bt x 0=c.toNat
 ·rw [decide_eq_true h,if_pos h];rfl
 ·rw [decide_eq_false h,if_neg h];rfl
theorem take_dig (x:List UInt8):(x.take (digN x)).length=digN x:=by rw [List.length_take];have:=digN_le x;omega
theorem bt_take0 (x:List UInt8) (n:Nat) (h:0<n):bt (x.take n) 0=bt x 0:=by
 unfold bt
 rw [List.getElem?_take_of_lt h]
theorem whole_eq (ng:Bool) (x:List UInt8):wholeT ng x=if x.take (digN x)=[]∨(1<(x.take (digN x)).length∧bt (x.take (digN x)) 0=48) then none else fracT ng (x.take (digN x)) (x.drop (digN x)):=by
 unfold wholeT
 have h:=take_dig x
 have e:(digN x=0∨(1<digN x∧bt x 0=48))↔(x.take (digN x)=[]∨(1<(x.take (digN x)).length∧bt (x.take (digN x)) 0=48)):=by
  rw [h]
  constructor
  ·rintro (h1 | ⟨h1,h2⟩)
   ·exact .inl (List.length_eq_zero_iff.1 (by omega))
   ·exact .inr ⟨h1,by rw [bt_take0 x _ (by omega)];exact h2⟩
  ·rintro (h1 | ⟨h1,h2⟩)
   ·left;rw [h1] at h;simpa using h.symm
   ·exact .inr ⟨h1,by rw [bt_take0 x _ (by omega)] at h2;exact h2⟩
 by_cases hc:digN x=0∨(1<digN x∧bt x 0=48)
 ·rw [if_pos hc,if_pos (e.1 hc)]
 ·rw [if_neg hc,if_neg (fun h=>hc (e.2 h))]
theorem scan_eq (l:List UInt8):scanN l=wholeT (decide (bt l 0=45)) (if bt l 0=45 then l.drop 1 else l):=by
 unfold scanN
 by_cases h:bt l 0=45
 ·rw [if_pos h,if_pos h,decide_eq_true h]
 ·rw [if_neg h,if_neg h,decide_eq_false h]
theorem drop1_le (l:List UInt8) (c:Nat):(if bt l 0=c then l.drop 1 else l).length≤l.length:=by
 split
 ·rw [List.length_drop];omega
 ·omega
theorem decDig (x:List UInt8) (w:World) (hs:x.length≤140737488355328) :
  Calls Tryz.prog 134 #[.string ⟨x.toArray⟩] w (RetY (.tuple #[.string ⟨(x.take (digN x)).toArray⟩,.string ⟨(x.drop (digN x)).toArray⟩]) fun w'=>Below w.heap.size w w'):=by
 have h:=decDigits_any ⟨x.toArray⟩ w (by rw [ba_len];exact hs)
 have e1:(⟨x.toArray⟩:ByteArray).extract 0 (digN x)=⟨(x.take (digN x)).toArray⟩:=by
  apply ByteArray.ext
  rw [ByteArray.data_extract]
  simp
 have e2:(⟨x.toArray⟩:ByteArray).extract (digN x) (⟨x.toArray⟩:ByteArray).size=⟨(x.drop (digN x)).toArray⟩:=by
  apply ByteArray.ext
  have:=drop_extract ⟨x.toArray⟩ (digN x)
  apply Array.ext'
  exact this
 have e0:(⟨x.toArray⟩:ByteArray).data.toList=x:=rfl
 rw [e0,e1,e2] at h
 exact h
theorem NS.drewN1 {q:Nat} {ng:Bool} {wh bh:List UInt8} {ex:Int} {ok:Bool} {w:World} (h:NS q ng wh bh ex ok w):NS q ng wh bh ex ok w.drew:=⟨h.h0,h.h1,h.h2,h.h3,h.h4⟩
set_option maxRecDepth 100000 in
theorem results_NS {q:Nat} {ng:Bool} {wh bh:List UInt8} {ex:Int} {ok:Bool} {W:World} {tm:Array Value} (h:NS q ng wh bh ex ok W)
  (h2:tm.getD 2 undef=.pointer (some ⟨q,0,none⟩)) (h3:tm.getD 3 undef=.pointer (some ⟨q+1,0,none⟩)) (h4:tm.getD 4 undef=.pointer (some ⟨q+1+1,0,none⟩)) (h5:tm.getD 5 undef=.pointer (some ⟨q+1+1+1,0,none⟩)) (h6:tm.getD 6 undef=.pointer (some ⟨q+1+1+1+1,0,none⟩)) :
  (results Tryz.f104 tm).run Tryz.prog W=.ok (.tuple #[.bool ng,.string ⟨wh.toArray⟩,.string ⟨bh.toArray⟩,.int .i64 ex,.bool ok]) W:=by
 have h2':tm[2]?.getD undef=.pointer (some ⟨q,0,none⟩):=by simpa using h2
 have h3':tm[3]?.getD undef=.pointer (some ⟨q+1,0,none⟩):=by simpa using h3
 have h4':tm[4]?.getD undef=.pointer (some ⟨q+1+1,0,none⟩):=by simpa using h4
 have h5':tm[5]?.getD undef=.pointer (some ⟨q+1+1+1,0,none⟩):=by simpa using h5
 have h6':tm[6]?.getD undef=.pointer (some ⟨q+1+1+1+1,0,none⟩):=by simpa using h6
 obtain ⟨d0,d1,d2,d3,d4⟩:=h.cells
 have l0:(loadVar 4 ⟨q,0,none⟩).run Tryz.prog W=.ok (.bool ng) W:=by simp [go_sem,d0]
 have l1:(loadVar 9 ⟨q+1,0,none⟩).run Tryz.prog W=.ok (.string ⟨wh.toArray⟩) W:=by simp [go_sem,d1]
 have l2:(loadVar 9 ⟨q+1+1,0,none⟩).run Tryz.prog W=.ok (.string ⟨bh.toArray⟩) W:=by simp [go_sem,d2]
 have l3:(loadVar 3 ⟨q+1+1+1,0,none⟩).run Tryz.prog W=.ok (.int .i64 ex) W:=by simp [go_sem,d3]
 have l4:(loadVar 4 ⟨q+1+1+1+1,0,none⟩).run Tryz.prog W=.ok (.bool ok) W:=by simp [go_sem,d4]
 simp [results,Tryz.results104,h2',h3',h4',h5',h6',asAddr,l0,l1,l2,l3,l4,Result.andThen]
theorem scan_ret {w W:World} {q:Nat} {ng:Bool} {wh bh:List UInt8} {ex:Int} {ok:Bool} {tm:Array Value} {r:Option NumT} (hq:q=w.heap.size) (hn:NS q ng wh bh ex ok W) (hb:Below w.heap.size w W)
  (h2:tm.getD 2 undef=.pointer (some ⟨q,0,none⟩)) (h3:tm.getD 3 undef=.pointer (some ⟨q+1,0,none⟩)) (h4:tm.getD 4 undef=.pointer (some ⟨q+1+1,0,none⟩)) (h5:tm.getD 5 undef=.pointer (some ⟨q+1+1+1,0,none⟩)) (h6:tm.getD 6 undef=.pointer (some ⟨q+1+1+1+1,0,none⟩))
  (hr:r=if ok then some ⟨ng,wh,bh,ex⟩ else none) :
  bodyPostD Tryz.prog Tryz.f104 (ScanR r w) .ret { tmps:=tm,defers:=[{ target:=.fn (.func 132) #[.pointer (some ⟨q+1+1+1+1,0,none⟩),.pointer (some ⟨q,0,none⟩),.pointer (some ⟨q+1,0,none⟩),.pointer (some ⟨q+1+1,0,none⟩),.pointer (some ⟨q+1+1+1,0,none⟩)],args:=#[] }] } W:=by
 refine leaves_cons (f:=132) (args:=#[.pointer (some ⟨q+1+1+1+1,0,none⟩),.pointer (some ⟨q,0,none⟩),.pointer (some ⟨q+1,0,none⟩),.pointer (some ⟨q+1+1,0,none⟩),.pointer (some ⟨q+1+1+1,0,none⟩)]) (by simp) (by simp [go_sem]) ?_
 refine (scanEnd _ _ _ _ _ _ _ hn).mono ?_
 rintro e u' w'' ⟨rfl,rfl,hbb,hn2⟩
 subst hq
 cases ok with
 | true=>
  rw [if_pos rfl] at hn2 hr
  refine ⟨_,results_NS hn2 h2 h3 h4 h5 h6,?_⟩
  rw [hr]
  exact ⟨hb.trans hbb,rfl⟩
 | false=>
  rw [if_neg (by decide)] at hn2 hr
  refine ⟨_,results_NS hn2 h2 h3 h4 h5 h6,?_⟩
  rw [hr]
  exact ⟨hb.trans hbb,rfl⟩
theorem pow_eq (ng:Bool) (wh bh:List UInt8) (m:Bool) (p:List UInt8):powT ng wh bh m p=if p.take (digN p)=[]∨p.drop (digN p)≠[] then none else some ⟨ng,wh,bh,if m then -(smallN (p.take (digN p)):Int) else (smallN (p.take (digN p)):Int)⟩:=by
 unfold powT
 have hl:=digN_le p
 have ht:=take_dig p
 by_cases h:digN p=0∨digN p<p.length
 ·rw [if_pos h,if_pos]
  rcases h with h | h
  ·exact .inl (List.length_eq_zero_iff.1 (by omega))
  ·exact .inr (fun e=>by have:=congrArg List.length e;rw [List.length_drop] at this;simp at this;omega)
 ·have e:digN p=p.length:=by omega
  have hn:¬(p.take (digN p)=[]∨p.drop (digN p)≠[]):=by
   rintro (h1 | h1)
   ·rw [h1] at ht;simp at ht;omega
   ·exact h1 (by rw [e];simp)
  rw [if_neg h,if_neg hn,e,List.take_length]
theorem smallN_lt (l:List UInt8) (h:∀b∈l,digB b.toNat=true):smallN l≤999999:=by
 unfold smallN
 split
 ·exact Nat.le_refl _
 ·rename_i h6
  have h1:=dec_lt (dgL (l.dropWhile (·==48))) (digits_lt fun b hb=>h b (dropWhile_sub l b hb))
  have h2:(dgL (l.dropWhile (·==48))).length≤6:=by unfold dgL;rw [List.length_map];omega
  have h3:10 ^ (dgL (l.dropWhile (·==48))).length≤10 ^ 6:=Nat.pow_le_pow_right (by decide) h2
  omega
theorem frac_eq (ng:Bool) (wh x:List UInt8):(if digN x=0 then none else expT ng wh (x.take (digN x)) (x.drop (digN x)))=if x.take (digN x)=[] then none else expT ng wh (x.take (digN x)) (x.drop (digN x)):=by
 have ht:=take_dig x
 by_cases h:digN x=0
 ·rw [if_pos h,if_pos (List.length_eq_zero_iff.1 (by omega))]
 ·rw [if_neg h,if_neg (fun e=>by rw [e] at ht;simp at ht;omega)]
theorem exp_bad (ng:Bool) (wh bh:List UInt8) (c:UInt8) (y:List UInt8) (h:c.toNat≠101∧c.toNat≠69):expT ng wh bh (c::y)=none:=by
 unfold expT
 rw [if_neg (by simp),if_pos (by rw [bt_cons0];exact h)]
theorem exp_eq (ng:Bool) (wh bh:List UInt8) (c:UInt8) (y:List UInt8) (h:¬(c.toNat≠101∧c.toNat≠69)):expT ng wh bh (c::y)=if bt y 0=45 then powT ng wh bh true (y.drop 1) else if bt y 0=43 then powT ng wh bh false (y.drop 1) else powT ng wh bh false y:=by
 unfold expT
 rw [if_neg (by simp),if_neg (by rw [bt_cons0];exact h)]
 rfl
theorem pow_plus (ng:Bool) (wh bh y:List UInt8):(if bt y 0=43 then powT ng wh bh false (y.drop 1) else powT ng wh bh false y)=powT ng wh bh false (if bt y 0=43 then y.drop 1 else y):=by
 by_cases h:bt y 0=43
 ·rw [if_pos h,if_pos h]
 ·rw [if_neg h,if_neg h]
theorem ext_tail (c:UInt8) (y:List UInt8):(⟨(c::y).toArray⟩:ByteArray).extract 1 (y.length+1)=⟨y.toArray⟩:=by
 apply ByteArray.ext
 rw [ByteArray.data_extract]
 apply Array.ext'
 simp
set_option maxHeartbeats 4000000 in
set_option maxRecDepth 100000 in
theorem decScan_any (l:List UInt8) (w:World) (hl:l.length≤100000000):Calls Tryz.prog 104 #[.string ⟨l.toArray⟩] w (ScanR (scanN l) w):=by
 have hmf:∀(fn:Fn) (first cap:Array Value) (w:World),(Instr.makeFunc fn first cap).run Tryz.prog w=.ok (.func fn first cap) w:=fun _ _ _ _=>rfl
 obtain ⟨r,hr⟩:∃r,r=scanN l:=⟨_,rfl⟩
 rw [←hr]
 have R0:=hid (hr.trans (scan_eq l))
 have hp:=pre_one l 45 (by decide)
 have KC:=fun W=>RetY.of (Tryz.strings_CutPrefix ⟨l.toArray⟩ ⟨#[45]⟩ W)
 have e0:(⟨l.toArray⟩:ByteArray).data.toList=l:=rfl
 have e1:(⟨#[45]⟩:ByteArray).data.toList=[45]:=rfl
 rw [e0,e1,hp.1,hp.2] at KC
 have hl1:=drop1_le l 45
 have e45:(45:UInt8).toNat=45:=rfl
 rw [e45] at KC
 clear hr hp e0 e1
 generalize (if bt l 0=45 then l.drop 1 else l)=l1 at *
 generalize decide (bt l 0=45)=ng at *
 have K1:=hid KC
 clear KC
 have KD:=fun W=>decDig l1 W (by omega)
 have R1:=hid (R0.out.trans (whole_eq ng l1))
 have hlr:(l1.drop (digN l1)).length≤l1.length:=by rw [List.length_drop];omega
 have hld:=digN_le l1
 generalize l1.take (digN l1)=wh at *
 generalize l1.drop (digN l1)=r1 at *
 have K2:=hid KD
 clear KD R0
 have hn0:=NS.made w
 obtain ⟨W0,hW0⟩:∃W0,W0=(((((w.alloc (.cells #[.bool false] 4)).alloc (.cells #[.string ⟨#[]⟩] 9)).alloc (.cells #[.string ⟨#[]⟩] 9)).alloc (.cells #[.int .i64 0] 3)).alloc (.cells #[.bool false] 4)):=⟨_,rfl⟩
 have hb0:Below w.heap.size w W0:=by
  rw [hW0]
  exact (((((Below.refl _ w).alloc (Nat.le_refl _) _).alloc (by simp only [World.size_alloc];omega) _).alloc (by simp only [World.size_alloc];omega) _).alloc (by simp only [World.size_alloc];omega) _).alloc (by simp only [World.size_alloc];omega) _
 rw [←hW0] at hn0
 have HN0:=hid hn0
 have HB0:=hid hb0
 go_enter_defers Tryz.func104,Tryz.ntmps104
 go_upto_region 2 with fail
 rw [←hW0]
 obtain ⟨c0,c1,c2,c3,c4⟩:=hn0.cells
 obtain ⟨f0,f1,f2,f3,f4⟩:=hn0.frozen
 clear hn0 hb0 hW0
 go_wp2_with (go_at_call 133;refine (K1.out _).mono ?_)
 rintro e W1 ⟨rfl,rfl⟩
 have HN1:=hid (HN0.out.set0 ng)
 have HB1:=hid (HB0.out.setCell (p:=⟨w.heap.size,0,none⟩) (Nat.le_refl _) (.bool ng))
 go_wp2_with (go_at_call 134;refine (K2.out _).mono ?_)
 rintro e W2 ⟨rfl,hb⟩
 clear c0 c1 c2 c3 c4 f0 f1 f2 f3 f4
 have hn:=HN1.out.below hb HN1.out.lt
 have HB2:=hid (HB1.out.trans (hb.mono (HB1.out.size)))
 have HN2:=hid hn
 obtain ⟨c0,c1,c2,c3,c4⟩:=hn.cells
 obtain ⟨f0,f1,f2,f3,f4⟩:=hn.frozen
 clear hb hn
 go_upto_region 4 with fail
 have hn:=HN2.out.set1 wh
 have hb:=HB2.out.setCell (p:=⟨w.heap.size+1,0,none⟩) (Nat.le_succ _) (.string ⟨wh.toArray⟩)
 generalize W2.setCell ⟨w.heap.size+1,0,none⟩ (.string ⟨wh.toArray⟩)=W3 at *
 have HN3:=hid hn
 have HB3:=hid hb
 clear c0 c1 c2 c3 c4 f0 f1 f2 f3 f4 hb
 obtain ⟨c0,c1,c2,c3,c4⟩:=hn.cells
 obtain ⟨f0,f1,f2,f3,f4⟩:=hn.frozen
 clear hn HN2 HB2 HN1 HB1 HN0 HB0
 go_cut [36] from 25 to 36 (fun t wx=>t=.bool (decide (wh=[]∨(1<wh.length∧bt wh 0=48)))∧wx=W3)
 case first=>
  cases wh with
  | nil=>
   go_wp2_with fail
   go_meet
   exact ⟨by simp,rfl⟩
  | cons a rr=>
   have e2:bt (a::rr) 0=a.toNat:=rfl
   cases rr with
   | nil=>
    go_wp2_with fail
    go_meet
    exact ⟨by simp,rfl⟩
   | cons b rr=>
    have hi:∀h,(⟨(a::b::rr).toArray⟩:ByteArray)[0]'h=a:=fun _=>rfl
    have z1:decide ((1:Int)<((a::b::rr).length:Int))=true:=decide_eq_true (by simp;omega)
    have z2:decide (1<(a::b::rr).length)=true:=decide_eq_true (by simp)
    by_cases h48:a.toNat=48
    ·have z3:((a.toNat:Int)==48)=true:=by rw [h48];rfl
     go_wp2_with fail
     go_meet
     exact ⟨by simp [e2,h48],rfl⟩
    ·have z3:((a.toNat:Int)==48)=false:=beq_false_of_ne (by omega)
     go_wp2_with fail
     go_meet
     exact ⟨by simp [e2,h48],rfl⟩
 case rest=>
  obtain ⟨rfl,rfl⟩:=hcut
  by_cases hbad:wh=[]∨(1<wh.length∧bt wh 0=48)
  ·rw [decide_eq_true hbad]
   have RN:=hid (R1.out.trans (if_pos hbad))
   clear hbad
   go_wp2
   exact scan_ret rfl HN3.out HB3.out rfl rfl rfl rfl rfl (by rw [RN.out];rfl)
  ·rw [decide_eq_false hbad]
   have R2:=hid (R1.out.trans (if_neg hbad))
   clear hbad
   have hp:=pre_one r1 46 (by decide)
   have e46:(46:UInt8).toNat=46:=rfl
   rw [e46] at hp
   have k1:=fun W=>RetY.of (Tryz.strings_CutPrefix ⟨r1.toArray⟩ ⟨#[46]⟩ W)
   have e0:(⟨r1.toArray⟩:ByteArray).data.toList=r1:=rfl
   have e1:(⟨#[46]⟩:ByteArray).data.toList=[46]:=rfl
   rw [e0,e1,hp.1,hp.2] at k1
   clear hp e0 e1 e46
   have hd1:(r1.drop 1).length≤r1.length:=by rw [List.length_drop];omega
   by_cases h46:bt r1 0=46
   ·skip
    rw [if_pos h46,decide_eq_true h46] at k1
    have K1':=hid k1
    have R3:=hid (R2.out.trans ((if_pos h46).trans (frac_eq ng wh (r1.drop 1))))
    clear k1 h46
    generalize r1.drop 1=x at *
    have kd:=fun W=>decDig x W (by omega)
    have hxl:(x.drop (digN x)).length≤x.length:=by rw [List.length_drop];omega
    generalize x.take (digN x)=bh at *
    generalize x.drop (digN x)=z at *
    have K2':=hid kd
    clear kd
    go_wp2_with (go_at_call 133;refine (K1'.out _).mono ?_)
    rintro e V1 ⟨rfl,hw⟩
    subst hw
    go_wp2_with (go_at_call 134;refine (K2'.out _).mono ?_)
    rintro e V2 ⟨rfl,hb⟩
    clear c0 c1 c2 c3 c4 f0 f1 f2 f3 f4
    have HN3:=hid (HN3.out.below hb HN3.out.lt)
    have HB4:=hid (HB3.out.trans (hb.mono HB3.out.size))
    clear hb
    obtain ⟨c0,c1,c2,c3,c4⟩:=HN3.out.cells
    obtain ⟨f0,f1,f2,f3,f4⟩:=HN3.out.frozen
    have hn:=HN3.out.set2 (bh)
    have hb:=HB4.out.setCell (p:=⟨w.heap.size+1+1,0,none⟩) (Nat.le_add_right _ 2) (.string ⟨bh.toArray⟩)
    go_upto_region 8 with fail
    have hn:NS _ _ _ _ _ _ (V2.setCell ⟨w.heap.size+1+1,0,none⟩ (.string ⟨bh.toArray⟩)):=hn
    generalize V2.setCell ⟨w.heap.size+1+1,0,none⟩ (.string ⟨bh.toArray⟩)=V5 at *
    have HN6:=hid hn
    have HB7:=hid hb
    clear c0 c1 c2 c3 c4 f0 f1 f2 f3 f4
    clear hn hb
    obtain ⟨c0,c1,c2,c3,c4⟩:=HN6.out.cells
    obtain ⟨f0,f1,f2,f3,f4⟩:=HN6.out.frozen
    by_cases hbh:bh=[]
    ·skip
     have RN:=hid (R3.out.trans (if_pos hbh))
     have h1:bh.isEmpty=true:=by rw [hbh];rfl
     go_wp2
     exact scan_ret rfl HN6.out HB7.out rfl rfl rfl rfl rfl (by rw [RN.out];rfl)
    ·skip
     have R4:=hid (R3.out.trans (if_neg hbh))
     have h1:bh.isEmpty=false:=by simpa using hbh
     cases z with
     | nil=>
      have hn:=HN6.out
      go_upto_region 10 with fail
      go_region
      all_goals go_wp2
      exact scan_ret rfl (((((hn.set0 ng).set1 wh).set2 bh).set3 0).set4 true).drewN1 (((((HB7.out.setCell (p:=⟨w.heap.size,0,none⟩) (Nat.le_refl _) _).setCell (p:=⟨w.heap.size+1,0,none⟩) (Nat.le_add_right _ 1) _).setCell (p:=⟨w.heap.size+1+1,0,none⟩) (Nat.le_add_right _ 2) _).setCell (p:=⟨w.heap.size+1+1+1,0,none⟩) (Nat.le_add_right _ 3) _).setCell (p:=⟨w.heap.size+1+1+1+1,0,none⟩) (Nat.le_add_right _ 4) _).drew rfl rfl rfl rfl rfl (by rw [R4.out];rfl)
     | cons c y=>
      have hi:∀h,(⟨(c::y).toArray⟩:ByteArray)[0]'h=c:=fun _=>rfl
      have hie:(c::y).isEmpty=false:=rfl
      by_cases he:c.toNat≠101∧c.toNat≠69
      ·skip
       have R8:=hid (R4.out.trans (exp_bad ng wh bh c y he))
       have z1:((c.toNat:Int) != 101)=true:=by simp;omega
       have z2:((c.toNat:Int) != 69)=true:=by simp;omega
       clear he
       go_wp2
       exact scan_ret rfl HN6.out HB7.out rfl rfl rfl rfl rfl (by rw [R8.out];rfl)
      ·skip
       have R9:=hid (R4.out.trans (exp_eq ng wh bh c y he))
       have hp:=pre_one y 45 (by decide)
       have hq:=pre_one y 43 (by decide)
       have e45:(45:UInt8).toNat=45:=rfl
       have e43:(43:UInt8).toNat=43:=rfl
       rw [e45] at hp
       rw [e43] at hq
       have k1:=fun W=>RetY.of (Tryz.strings_CutPrefix ⟨y.toArray⟩ ⟨#[45]⟩ W)
       have k2:=fun W=>RetY.of (Tryz.strings_TrimPrefix ⟨y.toArray⟩ ⟨#[43]⟩ W)
       have e0:(⟨y.toArray⟩:ByteArray).data.toList=y:=rfl
       have e1:(⟨#[45]⟩:ByteArray).data.toList=[45]:=rfl
       have e2:(⟨#[43]⟩:ByteArray).data.toList=[43]:=rfl
       rw [e0,e1,hp.1,hp.2] at k1
       rw [e0,e2,hq.2] at k2
       clear hp hq e0 e1 e2 e45 e43
       have hx:(⟨(c::y).toArray⟩:ByteArray).extract 1 (y.length+1)=⟨y.toArray⟩:=ext_tail c y
       have hyl:(c::y).length=y.length+1:=rfl
       have hd1:(y.drop 1).length≤y.length:=by rw [List.length_drop];omega
       by_cases h45:bt y 0=45
       ·skip
        have R10:=hid (R9.out.trans (if_pos h45))
        rw [if_pos h45,decide_eq_true h45] at k1
        have K1:=hid k1
        clear k1 k2
        rcases Decidable.not_and_iff_or_not.1 he with h | h
        ·skip
         have hc:c.toNat=101:=Decidable.of_not_not h
         have z1:((c.toNat:Int) != 101)=false:=by rw [hc];rfl
         have z2:((c.toNat:Int) != 69)=true:=by rw [hc];rfl
         clear he h hc
         go_wp2_with (go_at_call 133;refine (K1.out _).mono ?_)
         rintro e V11 ⟨rfl,hw⟩
         subst hw
         generalize y.drop 1=p at *
         have kd:=fun W=>decDig p W (by omega)
         have R15:=hid (R10.out.trans (pow_eq ng wh bh true p))
         have hdg:=digN_take_all p
         have hpl:(p.take (digN p)).length≤p.length:=by rw [List.length_take];omega
         generalize p.take (digN p)=pw13 at *
         generalize p.drop (digN p)=rr14 at *
         have K12:=hid kd
         have HDG:=hid hdg
         clear kd hdg
         go_wp2_with (go_at_call 134;refine (K12.out _).mono ?_)
         rintro e V16 ⟨rfl,hb⟩
         clear c0 c1 c2 c3 c4 f0 f1 f2 f3 f4
         have HN17:=hid (HN6.out.below hb HN6.out.lt)
         have HB18:=hid (HB7.out.trans (hb.mono HB7.out.size))
         clear hb
         obtain ⟨c0,c1,c2,c3,c4⟩:=HN17.out.cells
         obtain ⟨f0,f1,f2,f3,f4⟩:=HN17.out.frozen
         by_cases hbad:pw13=[]∨rr14≠[]
         ·skip
          have R19:=hid (R15.out.trans (if_pos hbad))
          rcases hbad with h | h
          ·skip
           have h1:pw13.isEmpty=true:=by rw [h];rfl
           go_wp2
           exact scan_ret rfl HN17.out HB18.out rfl rfl rfl rfl rfl (by rw [R19.out];rfl)
          ·skip
           have h2:rr14.isEmpty=false:=by simpa using h
           by_cases h0:pw13=[]
           ·skip
            have h1:pw13.isEmpty=true:=by rw [h0];rfl
            go_wp2
            exact scan_ret rfl HN17.out HB18.out rfl rfl rfl rfl rfl (by rw [R19.out];rfl)
           ·skip
            have h1:pw13.isEmpty=false:=by simpa using h0
            go_wp2
            exact scan_ret rfl HN17.out HB18.out rfl rfl rfl rfl rfl (by rw [R19.out];rfl)
         ·skip
          have R20:=hid (R15.out.trans (if_neg hbad))
          obtain ⟨h1,h2⟩:=not_or.1 hbad
          have h2:rr14=[]:=Decidable.of_not_not h2
          have h1':pw13.isEmpty=false:=by simpa using h1
          subst h2
          clear hbad
          have hsn:=smallN_lt pw13 HDG.out
          have K21:=hid (fun W=>decSmall_any pw13 W HDG.out)
          obtain ⟨sn,hsv⟩:∃k,k=smallN pw13:=⟨_,rfl⟩
          rw [←hsv] at hsn K21
          have HSV:=hid hsv
          clear hsv
          go_wp2_with (go_at_call 135;refine (K21.out _).mono ?_)
          rintro e V22 ⟨rfl,hb⟩
          clear c0 c1 c2 c3 c4 f0 f1 f2 f3 f4
          have HN23:=hid (HN17.out.below hb HN17.out.lt)
          have HB24:=hid (HB18.out.trans (hb.mono HB18.out.size))
          clear hb
          obtain ⟨c0,c1,c2,c3,c4⟩:=HN23.out.cells
          obtain ⟨f0,f1,f2,f3,f4⟩:=HN23.out.frozen
          have hmul:IntKind.i64.wrap ((-1) * (sn:Int))=(-(sn:Int)):=by rw [IntKind.wrap_i64];omega
          have hn:=HN23.out.set3 ((-(sn:Int)))
          have hb:=HB24.out.setCell (p:=⟨w.heap.size+1+1+1,0,none⟩) (Nat.le_add_right _ 3) (.int .i64 ((-(sn:Int))))
          go_upto_region 21 with fail
          have hn:NS _ _ _ _ _ _ (V22.setCell ⟨w.heap.size+1+1+1,0,none⟩ (.int .i64 ((-(sn:Int))))):=hn
          generalize V22.setCell ⟨w.heap.size+1+1+1,0,none⟩ (.int .i64 ((-(sn:Int))))=V25 at *
          have HN26:=hid hn
          have HB27:=hid hb
          clear c0 c1 c2 c3 c4 f0 f1 f2 f3 f4
          clear hn hb
          obtain ⟨c0,c1,c2,c3,c4⟩:=HN26.out.cells
          obtain ⟨f0,f1,f2,f3,f4⟩:=HN26.out.frozen
          have hn:=HN26.out
          go_region
          all_goals go_wp2
          exact scan_ret rfl (((((hn.set0 ng).set1 wh).set2 bh).set3 (-(sn:Int))).set4 true).drewN1 (((((HB27.out.setCell (p:=⟨w.heap.size,0,none⟩) (Nat.le_refl _) _).setCell (p:=⟨w.heap.size+1,0,none⟩) (Nat.le_add_right _ 1) _).setCell (p:=⟨w.heap.size+1+1,0,none⟩) (Nat.le_add_right _ 2) _).setCell (p:=⟨w.heap.size+1+1+1,0,none⟩) (Nat.le_add_right _ 3) _).setCell (p:=⟨w.heap.size+1+1+1+1,0,none⟩) (Nat.le_add_right _ 4) _).drew rfl rfl rfl rfl rfl (by rw [R20.out,←HSV.out];rfl)
        ·skip
         have hc:c.toNat=69:=Decidable.of_not_not h
         have z1:((c.toNat:Int) != 101)=true:=by rw [hc];rfl
         have z2:((c.toNat:Int) != 69)=false:=by rw [hc];rfl
         clear he h hc
         go_wp2_with (go_at_call 133;refine (K1.out _).mono ?_)
         rintro e V28 ⟨rfl,hw⟩
         subst hw
         generalize y.drop 1=p at *
         have kd:=fun W=>decDig p W (by omega)
         have R32:=hid (R10.out.trans (pow_eq ng wh bh true p))
         have hdg:=digN_take_all p
         have hpl:(p.take (digN p)).length≤p.length:=by rw [List.length_take];omega
         generalize p.take (digN p)=pw30 at *
         generalize p.drop (digN p)=rr31 at *
         have K29:=hid kd
         have HDG:=hid hdg
         clear kd hdg
         go_wp2_with (go_at_call 134;refine (K29.out _).mono ?_)
         rintro e V33 ⟨rfl,hb⟩
         clear c0 c1 c2 c3 c4 f0 f1 f2 f3 f4
         have HN34:=hid (HN6.out.below hb HN6.out.lt)
         have HB35:=hid (HB7.out.trans (hb.mono HB7.out.size))
         clear hb
         obtain ⟨c0,c1,c2,c3,c4⟩:=HN34.out.cells
         obtain ⟨f0,f1,f2,f3,f4⟩:=HN34.out.frozen
         by_cases hbad:pw30=[]∨rr31≠[]
         ·skip
          have R36:=hid (R32.out.trans (if_pos hbad))
          rcases hbad with h | h
          ·skip
           have h1:pw30.isEmpty=true:=by rw [h];rfl
           go_wp2
           exact scan_ret rfl HN34.out HB35.out rfl rfl rfl rfl rfl (by rw [R36.out];rfl)
          ·skip
           have h2:rr31.isEmpty=false:=by simpa using h
           by_cases h0:pw30=[]
           ·skip
            have h1:pw30.isEmpty=true:=by rw [h0];rfl
            go_wp2
            exact scan_ret rfl HN34.out HB35.out rfl rfl rfl rfl rfl (by rw [R36.out];rfl)
           ·skip
            have h1:pw30.isEmpty=false:=by simpa using h0
            go_wp2
            exact scan_ret rfl HN34.out HB35.out rfl rfl rfl rfl rfl (by rw [R36.out];rfl)
         ·skip
          have R37:=hid (R32.out.trans (if_neg hbad))
          obtain ⟨h1,h2⟩:=not_or.1 hbad
          have h2:rr31=[]:=Decidable.of_not_not h2
          have h1':pw30.isEmpty=false:=by simpa using h1
          subst h2
          clear hbad
          have hsn:=smallN_lt pw30 HDG.out
          have K38:=hid (fun W=>decSmall_any pw30 W HDG.out)
          obtain ⟨sn,hsv⟩:∃k,k=smallN pw30:=⟨_,rfl⟩
          rw [←hsv] at hsn K38
          have HSV:=hid hsv
          clear hsv
          go_wp2_with (go_at_call 135;refine (K38.out _).mono ?_)
          rintro e V39 ⟨rfl,hb⟩
          clear c0 c1 c2 c3 c4 f0 f1 f2 f3 f4
          have HN40:=hid (HN34.out.below hb HN34.out.lt)
          have HB41:=hid (HB35.out.trans (hb.mono HB35.out.size))
          clear hb
          obtain ⟨c0,c1,c2,c3,c4⟩:=HN40.out.cells
          obtain ⟨f0,f1,f2,f3,f4⟩:=HN40.out.frozen
          have hmul:IntKind.i64.wrap ((-1) * (sn:Int))=(-(sn:Int)):=by rw [IntKind.wrap_i64];omega
          have hn:=HN40.out.set3 ((-(sn:Int)))
          have hb:=HB41.out.setCell (p:=⟨w.heap.size+1+1+1,0,none⟩) (Nat.le_add_right _ 3) (.int .i64 ((-(sn:Int))))
          go_upto_region 21 with fail
          have hn:NS _ _ _ _ _ _ (V39.setCell ⟨w.heap.size+1+1+1,0,none⟩ (.int .i64 ((-(sn:Int))))):=hn
          generalize V39.setCell ⟨w.heap.size+1+1+1,0,none⟩ (.int .i64 ((-(sn:Int))))=V42 at *
          have HN43:=hid hn
          have HB44:=hid hb
          clear c0 c1 c2 c3 c4 f0 f1 f2 f3 f4
          clear hn hb
          obtain ⟨c0,c1,c2,c3,c4⟩:=HN43.out.cells
          obtain ⟨f0,f1,f2,f3,f4⟩:=HN43.out.frozen
          have hn:=HN43.out
          go_region
          all_goals go_wp2
          exact scan_ret rfl (((((hn.set0 ng).set1 wh).set2 bh).set3 (-(sn:Int))).set4 true).drewN1 (((((HB44.out.setCell (p:=⟨w.heap.size,0,none⟩) (Nat.le_refl _) _).setCell (p:=⟨w.heap.size+1,0,none⟩) (Nat.le_add_right _ 1) _).setCell (p:=⟨w.heap.size+1+1,0,none⟩) (Nat.le_add_right _ 2) _).setCell (p:=⟨w.heap.size+1+1+1,0,none⟩) (Nat.le_add_right _ 3) _).setCell (p:=⟨w.heap.size+1+1+1+1,0,none⟩) (Nat.le_add_right _ 4) _).drew rfl rfl rfl rfl rfl (by rw [R37.out,←HSV.out];rfl)
       ·skip
        have R45:=hid ((R9.out.trans (if_neg h45)).trans (pow_plus ng wh bh y))
        rw [if_neg h45,decide_eq_false h45] at k1
        have hpl2:=drop1_le y 43
        generalize (if bt y 0=43 then y.drop 1 else y)=p at *
        have K1:=hid k1
        have K2:=hid k2
        clear k1 k2
        rcases Decidable.not_and_iff_or_not.1 he with h | h
        ·skip
         have hc:c.toNat=101:=Decidable.of_not_not h
         have z1:((c.toNat:Int) != 101)=false:=by rw [hc];rfl
         have z2:((c.toNat:Int) != 69)=true:=by rw [hc];rfl
         clear he h hc
         go_wp2_with (go_at_call 133;refine (K1.out _).mono ?_)
         rintro e V46 ⟨rfl,hw⟩
         subst hw
         go_wp2_with (go_at_call 76;refine (K2.out _).mono ?_)
         rintro e V47 ⟨rfl,hw⟩
         subst hw
         have kd:=fun W=>decDig p W (by omega)
         have R51:=hid (R45.out.trans (pow_eq ng wh bh false p))
         have hdg:=digN_take_all p
         have hpl:(p.take (digN p)).length≤p.length:=by rw [List.length_take];omega
         generalize p.take (digN p)=pw49 at *
         generalize p.drop (digN p)=rr50 at *
         have K48:=hid kd
         have HDG:=hid hdg
         clear kd hdg
         go_wp2_with (go_at_call 134;refine (K48.out _).mono ?_)
         rintro e V52 ⟨rfl,hb⟩
         clear c0 c1 c2 c3 c4 f0 f1 f2 f3 f4
         have HN53:=hid (HN6.out.below hb HN6.out.lt)
         have HB54:=hid (HB7.out.trans (hb.mono HB7.out.size))
         clear hb
         obtain ⟨c0,c1,c2,c3,c4⟩:=HN53.out.cells
         obtain ⟨f0,f1,f2,f3,f4⟩:=HN53.out.frozen
         by_cases hbad:pw49=[]∨rr50≠[]
         ·skip
          have R55:=hid (R51.out.trans (if_pos hbad))
          rcases hbad with h | h
          ·skip
           have h1:pw49.isEmpty=true:=by rw [h];rfl
           go_wp2
           exact scan_ret rfl HN53.out HB54.out rfl rfl rfl rfl rfl (by rw [R55.out];rfl)
          ·skip
           have h2:rr50.isEmpty=false:=by simpa using h
           by_cases h0:pw49=[]
           ·skip
            have h1:pw49.isEmpty=true:=by rw [h0];rfl
            go_wp2
            exact scan_ret rfl HN53.out HB54.out rfl rfl rfl rfl rfl (by rw [R55.out];rfl)
           ·skip
            have h1:pw49.isEmpty=false:=by simpa using h0
            go_wp2
            exact scan_ret rfl HN53.out HB54.out rfl rfl rfl rfl rfl (by rw [R55.out];rfl)
         ·skip
          have R56:=hid (R51.out.trans (if_neg hbad))
          obtain ⟨h1,h2⟩:=not_or.1 hbad
          have h2:rr50=[]:=Decidable.of_not_not h2
          have h1':pw49.isEmpty=false:=by simpa using h1
          subst h2
          clear hbad
          have hsn:=smallN_lt pw49 HDG.out
          have K57:=hid (fun W=>decSmall_any pw49 W HDG.out)
          obtain ⟨sn,hsv⟩:∃k,k=smallN pw49:=⟨_,rfl⟩
          rw [←hsv] at hsn K57
          have HSV:=hid hsv
          clear hsv
          go_wp2_with (go_at_call 135;refine (K57.out _).mono ?_)
          rintro e V58 ⟨rfl,hb⟩
          clear c0 c1 c2 c3 c4 f0 f1 f2 f3 f4
          have HN59:=hid (HN53.out.below hb HN53.out.lt)
          have HB60:=hid (HB54.out.trans (hb.mono HB54.out.size))
          clear hb
          obtain ⟨c0,c1,c2,c3,c4⟩:=HN59.out.cells
          obtain ⟨f0,f1,f2,f3,f4⟩:=HN59.out.frozen
          have hmul:IntKind.i64.wrap (1 * (sn:Int))=(sn:Int):=by rw [IntKind.wrap_i64];omega
          have hn:=HN59.out.set3 ((sn:Int))
          have hb:=HB60.out.setCell (p:=⟨w.heap.size+1+1+1,0,none⟩) (Nat.le_add_right _ 3) (.int .i64 ((sn:Int)))
          go_upto_region 21 with fail
          have hn:NS _ _ _ _ _ _ (V58.setCell ⟨w.heap.size+1+1+1,0,none⟩ (.int .i64 ((sn:Int)))):=hn
          generalize V58.setCell ⟨w.heap.size+1+1+1,0,none⟩ (.int .i64 ((sn:Int)))=V61 at *
          have HN62:=hid hn
          have HB63:=hid hb
          clear c0 c1 c2 c3 c4 f0 f1 f2 f3 f4
          clear hn hb
          obtain ⟨c0,c1,c2,c3,c4⟩:=HN62.out.cells
          obtain ⟨f0,f1,f2,f3,f4⟩:=HN62.out.frozen
          have hn:=HN62.out
          go_region
          all_goals go_wp2
          exact scan_ret rfl (((((hn.set0 ng).set1 wh).set2 bh).set3 (sn:Int)).set4 true).drewN1 (((((HB63.out.setCell (p:=⟨w.heap.size,0,none⟩) (Nat.le_refl _) _).setCell (p:=⟨w.heap.size+1,0,none⟩) (Nat.le_add_right _ 1) _).setCell (p:=⟨w.heap.size+1+1,0,none⟩) (Nat.le_add_right _ 2) _).setCell (p:=⟨w.heap.size+1+1+1,0,none⟩) (Nat.le_add_right _ 3) _).setCell (p:=⟨w.heap.size+1+1+1+1,0,none⟩) (Nat.le_add_right _ 4) _).drew rfl rfl rfl rfl rfl (by rw [R56.out,←HSV.out];rfl)
        ·skip
         have hc:c.toNat=69:=Decidable.of_not_not h
         have z1:((c.toNat:Int) != 101)=true:=by rw [hc];rfl
         have z2:((c.toNat:Int) != 69)=false:=by rw [hc];rfl
         clear he h hc
         go_wp2_with (go_at_call 133;refine (K1.out _).mono ?_)
         rintro e V64 ⟨rfl,hw⟩
         subst hw
         go_wp2_with (go_at_call 76;refine (K2.out _).mono ?_)
         rintro e V65 ⟨rfl,hw⟩
         subst hw
         have kd:=fun W=>decDig p W (by omega)
         have R69:=hid (R45.out.trans (pow_eq ng wh bh false p))
         have hdg:=digN_take_all p
         have hpl:(p.take (digN p)).length≤p.length:=by rw [List.length_take];omega
         generalize p.take (digN p)=pw67 at *
         generalize p.drop (digN p)=rr68 at *
         have K66:=hid kd
         have HDG:=hid hdg
         clear kd hdg
         go_wp2_with (go_at_call 134;refine (K66.out _).mono ?_)
         rintro e V70 ⟨rfl,hb⟩
         clear c0 c1 c2 c3 c4 f0 f1 f2 f3 f4
         have HN71:=hid (HN6.out.below hb HN6.out.lt)
         have HB72:=hid (HB7.out.trans (hb.mono HB7.out.size))
         clear hb
         obtain ⟨c0,c1,c2,c3,c4⟩:=HN71.out.cells
         obtain ⟨f0,f1,f2,f3,f4⟩:=HN71.out.frozen
         by_cases hbad:pw67=[]∨rr68≠[]
         ·skip
          have R73:=hid (R69.out.trans (if_pos hbad))
          rcases hbad with h | h
          ·skip
           have h1:pw67.isEmpty=true:=by rw [h];rfl
           go_wp2
           exact scan_ret rfl HN71.out HB72.out rfl rfl rfl rfl rfl (by rw [R73.out];rfl)
          ·skip
           have h2:rr68.isEmpty=false:=by simpa using h
           by_cases h0:pw67=[]
           ·skip
            have h1:pw67.isEmpty=true:=by rw [h0];rfl
            go_wp2
            exact scan_ret rfl HN71.out HB72.out rfl rfl rfl rfl rfl (by rw [R73.out];rfl)
           ·skip
            have h1:pw67.isEmpty=false:=by simpa using h0
            go_wp2
            exact scan_ret rfl HN71.out HB72.out rfl rfl rfl rfl rfl (by rw [R73.out];rfl)
         ·skip
          have R74:=hid (R69.out.trans (if_neg hbad))
          obtain ⟨h1,h2⟩:=not_or.1 hbad
          have h2:rr68=[]:=Decidable.of_not_not h2
          have h1':pw67.isEmpty=false:=by simpa using h1
          subst h2
          clear hbad
          have hsn:=smallN_lt pw67 HDG.out
          have K75:=hid (fun W=>decSmall_any pw67 W HDG.out)
          obtain ⟨sn,hsv⟩:∃k,k=smallN pw67:=⟨_,rfl⟩
          rw [←hsv] at hsn K75
          have HSV:=hid hsv
          clear hsv
          go_wp2_with (go_at_call 135;refine (K75.out _).mono ?_)
          rintro e V76 ⟨rfl,hb⟩
          clear c0 c1 c2 c3 c4 f0 f1 f2 f3 f4
          have HN77:=hid (HN71.out.below hb HN71.out.lt)
          have HB78:=hid (HB72.out.trans (hb.mono HB72.out.size))
          clear hb
          obtain ⟨c0,c1,c2,c3,c4⟩:=HN77.out.cells
          obtain ⟨f0,f1,f2,f3,f4⟩:=HN77.out.frozen
          have hmul:IntKind.i64.wrap (1 * (sn:Int))=(sn:Int):=by rw [IntKind.wrap_i64];omega
          have hn:=HN77.out.set3 ((sn:Int))
          have hb:=HB78.out.setCell (p:=⟨w.heap.size+1+1+1,0,none⟩) (Nat.le_add_right _ 3) (.int .i64 ((sn:Int)))
          go_upto_region 21 with fail
          have hn:NS _ _ _ _ _ _ (V76.setCell ⟨w.heap.size+1+1+1,0,none⟩ (.int .i64 ((sn:Int)))):=hn
          generalize V76.setCell ⟨w.heap.size+1+1+1,0,none⟩ (.int .i64 ((sn:Int)))=V79 at *
          have HN80:=hid hn
          have HB81:=hid hb
          clear c0 c1 c2 c3 c4 f0 f1 f2 f3 f4
          clear hn hb
          obtain ⟨c0,c1,c2,c3,c4⟩:=HN80.out.cells
          obtain ⟨f0,f1,f2,f3,f4⟩:=HN80.out.frozen
          have hn:=HN80.out
          go_region
          all_goals go_wp2
          exact scan_ret rfl (((((hn.set0 ng).set1 wh).set2 bh).set3 (sn:Int)).set4 true).drewN1 (((((HB81.out.setCell (p:=⟨w.heap.size,0,none⟩) (Nat.le_refl _) _).setCell (p:=⟨w.heap.size+1,0,none⟩) (Nat.le_add_right _ 1) _).setCell (p:=⟨w.heap.size+1+1,0,none⟩) (Nat.le_add_right _ 2) _).setCell (p:=⟨w.heap.size+1+1+1,0,none⟩) (Nat.le_add_right _ 3) _).setCell (p:=⟨w.heap.size+1+1+1+1,0,none⟩) (Nat.le_add_right _ 4) _).drew rfl rfl rfl rfl rfl (by rw [R74.out,←HSV.out];rfl)
   ·skip
    rw [if_neg h46,decide_eq_false h46] at k1
    have K1':=hid k1
    have R3:=hid (R2.out.trans (if_neg h46))
    clear k1 h46
    go_wp2_with (go_at_call 133;refine (K1'.out _).mono ?_)
    rintro e V82 ⟨rfl,hw⟩
    subst hw
    cases r1 with
    | nil=>
     have hn:=HN3.out
     go_upto_region 10 with fail
     go_region
     all_goals go_wp2
     exact scan_ret rfl (((((hn.set0 ng).set1 wh).set2 []).set3 0).set4 true).drewN1 (((((HB3.out.setCell (p:=⟨w.heap.size,0,none⟩) (Nat.le_refl _) _).setCell (p:=⟨w.heap.size+1,0,none⟩) (Nat.le_add_right _ 1) _).setCell (p:=⟨w.heap.size+1+1,0,none⟩) (Nat.le_add_right _ 2) _).setCell (p:=⟨w.heap.size+1+1+1,0,none⟩) (Nat.le_add_right _ 3) _).setCell (p:=⟨w.heap.size+1+1+1+1,0,none⟩) (Nat.le_add_right _ 4) _).drew rfl rfl rfl rfl rfl (by rw [R3.out];rfl)
    | cons c y=>
     have hi:∀h,(⟨(c::y).toArray⟩:ByteArray)[0]'h=c:=fun _=>rfl
     have hie:(c::y).isEmpty=false:=rfl
     by_cases he:c.toNat≠101∧c.toNat≠69
     ·skip
      have R83:=hid (R3.out.trans (exp_bad ng wh [] c y he))
      have z1:((c.toNat:Int) != 101)=true:=by simp;omega
      have z2:((c.toNat:Int) != 69)=true:=by simp;omega
      clear he
      go_wp2
      exact scan_ret rfl HN3.out HB3.out rfl rfl rfl rfl rfl (by rw [R83.out];rfl)
     ·skip
      have R84:=hid (R3.out.trans (exp_eq ng wh [] c y he))
      have hp:=pre_one y 45 (by decide)
      have hq:=pre_one y 43 (by decide)
      have e45:(45:UInt8).toNat=45:=rfl
      have e43:(43:UInt8).toNat=43:=rfl
      rw [e45] at hp
      rw [e43] at hq
      have k1:=fun W=>RetY.of (Tryz.strings_CutPrefix ⟨y.toArray⟩ ⟨#[45]⟩ W)
      have k2:=fun W=>RetY.of (Tryz.strings_TrimPrefix ⟨y.toArray⟩ ⟨#[43]⟩ W)
      have e0:(⟨y.toArray⟩:ByteArray).data.toList=y:=rfl
      have e1:(⟨#[45]⟩:ByteArray).data.toList=[45]:=rfl
      have e2:(⟨#[43]⟩:ByteArray).data.toList=[43]:=rfl
      rw [e0,e1,hp.1,hp.2] at k1
      rw [e0,e2,hq.2] at k2
      clear hp hq e0 e1 e2 e45 e43
      have hx:(⟨(c::y).toArray⟩:ByteArray).extract 1 (y.length+1)=⟨y.toArray⟩:=ext_tail c y
      have hyl:(c::y).length=y.length+1:=rfl
      have hd1:(y.drop 1).length≤y.length:=by rw [List.length_drop];omega
      by_cases h45:bt y 0=45
      ·skip
       have R85:=hid (R84.out.trans (if_pos h45))
       rw [if_pos h45,decide_eq_true h45] at k1
       have K1:=hid k1
       clear k1 k2
       rcases Decidable.not_and_iff_or_not.1 he with h | h
       ·skip
        have hc:c.toNat=101:=Decidable.of_not_not h
        have z1:((c.toNat:Int) != 101)=false:=by rw [hc];rfl
        have z2:((c.toNat:Int) != 69)=true:=by rw [hc];rfl
        clear he h hc
        go_wp2_with (go_at_call 133;refine (K1.out _).mono ?_)
        rintro e V86 ⟨rfl,hw⟩
        subst hw
        generalize y.drop 1=p at *
        have kd:=fun W=>decDig p W (by omega)
        have R90:=hid (R85.out.trans (pow_eq ng wh [] true p))
        have hdg:=digN_take_all p
        have hpl:(p.take (digN p)).length≤p.length:=by rw [List.length_take];omega
        generalize p.take (digN p)=pw88 at *
        generalize p.drop (digN p)=rr89 at *
        have K87:=hid kd
        have HDG:=hid hdg
        clear kd hdg
        go_wp2_with (go_at_call 134;refine (K87.out _).mono ?_)
        rintro e V91 ⟨rfl,hb⟩
        clear c0 c1 c2 c3 c4 f0 f1 f2 f3 f4
        have HN92:=hid (HN3.out.below hb HN3.out.lt)
        have HB93:=hid (HB3.out.trans (hb.mono HB3.out.size))
        clear hb
        obtain ⟨c0,c1,c2,c3,c4⟩:=HN92.out.cells
        obtain ⟨f0,f1,f2,f3,f4⟩:=HN92.out.frozen
        by_cases hbad:pw88=[]∨rr89≠[]
        ·skip
         have R94:=hid (R90.out.trans (if_pos hbad))
         rcases hbad with h | h
         ·skip
          have h1:pw88.isEmpty=true:=by rw [h];rfl
          go_wp2
          exact scan_ret rfl HN92.out HB93.out rfl rfl rfl rfl rfl (by rw [R94.out];rfl)
         ·skip
          have h2:rr89.isEmpty=false:=by simpa using h
          by_cases h0:pw88=[]
          ·skip
           have h1:pw88.isEmpty=true:=by rw [h0];rfl
           go_wp2
           exact scan_ret rfl HN92.out HB93.out rfl rfl rfl rfl rfl (by rw [R94.out];rfl)
          ·skip
           have h1:pw88.isEmpty=false:=by simpa using h0
           go_wp2
           exact scan_ret rfl HN92.out HB93.out rfl rfl rfl rfl rfl (by rw [R94.out];rfl)
        ·skip
         have R95:=hid (R90.out.trans (if_neg hbad))
         obtain ⟨h1,h2⟩:=not_or.1 hbad
         have h2:rr89=[]:=Decidable.of_not_not h2
         have h1':pw88.isEmpty=false:=by simpa using h1
         subst h2
         clear hbad
         have hsn:=smallN_lt pw88 HDG.out
         have K96:=hid (fun W=>decSmall_any pw88 W HDG.out)
         obtain ⟨sn,hsv⟩:∃k,k=smallN pw88:=⟨_,rfl⟩
         rw [←hsv] at hsn K96
         have HSV:=hid hsv
         clear hsv
         go_wp2_with (go_at_call 135;refine (K96.out _).mono ?_)
         rintro e V97 ⟨rfl,hb⟩
         clear c0 c1 c2 c3 c4 f0 f1 f2 f3 f4
         have HN98:=hid (HN92.out.below hb HN92.out.lt)
         have HB99:=hid (HB93.out.trans (hb.mono HB93.out.size))
         clear hb
         obtain ⟨c0,c1,c2,c3,c4⟩:=HN98.out.cells
         obtain ⟨f0,f1,f2,f3,f4⟩:=HN98.out.frozen
         have hmul:IntKind.i64.wrap ((-1) * (sn:Int))=(-(sn:Int)):=by rw [IntKind.wrap_i64];omega
         have hn:=HN98.out.set3 ((-(sn:Int)))
         have hb:=HB99.out.setCell (p:=⟨w.heap.size+1+1+1,0,none⟩) (Nat.le_add_right _ 3) (.int .i64 ((-(sn:Int))))
         go_upto_region 21 with fail
         have hn:NS _ _ _ _ _ _ (V97.setCell ⟨w.heap.size+1+1+1,0,none⟩ (.int .i64 ((-(sn:Int))))):=hn
         generalize V97.setCell ⟨w.heap.size+1+1+1,0,none⟩ (.int .i64 ((-(sn:Int))))=V100 at *
         have HN101:=hid hn
         have HB102:=hid hb
         clear c0 c1 c2 c3 c4 f0 f1 f2 f3 f4
         clear hn hb
         obtain ⟨c0,c1,c2,c3,c4⟩:=HN101.out.cells
         obtain ⟨f0,f1,f2,f3,f4⟩:=HN101.out.frozen
         have hn:=HN101.out
         go_region
         all_goals go_wp2
         exact scan_ret rfl (((((hn.set0 ng).set1 wh).set2 []).set3 (-(sn:Int))).set4 true).drewN1 (((((HB102.out.setCell (p:=⟨w.heap.size,0,none⟩) (Nat.le_refl _) _).setCell (p:=⟨w.heap.size+1,0,none⟩) (Nat.le_add_right _ 1) _).setCell (p:=⟨w.heap.size+1+1,0,none⟩) (Nat.le_add_right _ 2) _).setCell (p:=⟨w.heap.size+1+1+1,0,none⟩) (Nat.le_add_right _ 3) _).setCell (p:=⟨w.heap.size+1+1+1+1,0,none⟩) (Nat.le_add_right _ 4) _).drew rfl rfl rfl rfl rfl (by rw [R95.out,←HSV.out];rfl)
       ·skip
        have hc:c.toNat=69:=Decidable.of_not_not h
        have z1:((c.toNat:Int) != 101)=true:=by rw [hc];rfl
        have z2:((c.toNat:Int) != 69)=false:=by rw [hc];rfl
        clear he h hc
        go_wp2_with (go_at_call 133;refine (K1.out _).mono ?_)
        rintro e V103 ⟨rfl,hw⟩
        subst hw
        generalize y.drop 1=p at *
        have kd:=fun W=>decDig p W (by omega)
        have R107:=hid (R85.out.trans (pow_eq ng wh [] true p))
        have hdg:=digN_take_all p
        have hpl:(p.take (digN p)).length≤p.length:=by rw [List.length_take];omega
        generalize p.take (digN p)=pw105 at *
        generalize p.drop (digN p)=rr106 at *
        have K104:=hid kd
        have HDG:=hid hdg
        clear kd hdg
        go_wp2_with (go_at_call 134;refine (K104.out _).mono ?_)
        rintro e V108 ⟨rfl,hb⟩
        clear c0 c1 c2 c3 c4 f0 f1 f2 f3 f4
        have HN109:=hid (HN3.out.below hb HN3.out.lt)
        have HB110:=hid (HB3.out.trans (hb.mono HB3.out.size))
        clear hb
        obtain ⟨c0,c1,c2,c3,c4⟩:=HN109.out.cells
        obtain ⟨f0,f1,f2,f3,f4⟩:=HN109.out.frozen
        by_cases hbad:pw105=[]∨rr106≠[]
        ·skip
         have R111:=hid (R107.out.trans (if_pos hbad))
         rcases hbad with h | h
         ·skip
          have h1:pw105.isEmpty=true:=by rw [h];rfl
          go_wp2
          exact scan_ret rfl HN109.out HB110.out rfl rfl rfl rfl rfl (by rw [R111.out];rfl)
         ·skip
          have h2:rr106.isEmpty=false:=by simpa using h
          by_cases h0:pw105=[]
          ·skip
           have h1:pw105.isEmpty=true:=by rw [h0];rfl
           go_wp2
           exact scan_ret rfl HN109.out HB110.out rfl rfl rfl rfl rfl (by rw [R111.out];rfl)
          ·skip
           have h1:pw105.isEmpty=false:=by simpa using h0
           go_wp2
           exact scan_ret rfl HN109.out HB110.out rfl rfl rfl rfl rfl (by rw [R111.out];rfl)
        ·skip
         have R112:=hid (R107.out.trans (if_neg hbad))
         obtain ⟨h1,h2⟩:=not_or.1 hbad
         have h2:rr106=[]:=Decidable.of_not_not h2
         have h1':pw105.isEmpty=false:=by simpa using h1
         subst h2
         clear hbad
         have hsn:=smallN_lt pw105 HDG.out
         have K113:=hid (fun W=>decSmall_any pw105 W HDG.out)
         obtain ⟨sn,hsv⟩:∃k,k=smallN pw105:=⟨_,rfl⟩
         rw [←hsv] at hsn K113
         have HSV:=hid hsv
         clear hsv
         go_wp2_with (go_at_call 135;refine (K113.out _).mono ?_)
         rintro e V114 ⟨rfl,hb⟩
         clear c0 c1 c2 c3 c4 f0 f1 f2 f3 f4
         have HN115:=hid (HN109.out.below hb HN109.out.lt)
         have HB116:=hid (HB110.out.trans (hb.mono HB110.out.size))
         clear hb
         obtain ⟨c0,c1,c2,c3,c4⟩:=HN115.out.cells
         obtain ⟨f0,f1,f2,f3,f4⟩:=HN115.out.frozen
         have hmul:IntKind.i64.wrap ((-1) * (sn:Int))=(-(sn:Int)):=by rw [IntKind.wrap_i64];omega
         have hn:=HN115.out.set3 ((-(sn:Int)))
         have hb:=HB116.out.setCell (p:=⟨w.heap.size+1+1+1,0,none⟩) (Nat.le_add_right _ 3) (.int .i64 ((-(sn:Int))))
         go_upto_region 21 with fail
         have hn:NS _ _ _ _ _ _ (V114.setCell ⟨w.heap.size+1+1+1,0,none⟩ (.int .i64 ((-(sn:Int))))):=hn
         generalize V114.setCell ⟨w.heap.size+1+1+1,0,none⟩ (.int .i64 ((-(sn:Int))))=V117 at *
         have HN118:=hid hn
         have HB119:=hid hb
         clear c0 c1 c2 c3 c4 f0 f1 f2 f3 f4
         clear hn hb
         obtain ⟨c0,c1,c2,c3,c4⟩:=HN118.out.cells
         obtain ⟨f0,f1,f2,f3,f4⟩:=HN118.out.frozen
         have hn:=HN118.out
         go_region
         all_goals go_wp2
         exact scan_ret rfl (((((hn.set0 ng).set1 wh).set2 []).set3 (-(sn:Int))).set4 true).drewN1 (((((HB119.out.setCell (p:=⟨w.heap.size,0,none⟩) (Nat.le_refl _) _).setCell (p:=⟨w.heap.size+1,0,none⟩) (Nat.le_add_right _ 1) _).setCell (p:=⟨w.heap.size+1+1,0,none⟩) (Nat.le_add_right _ 2) _).setCell (p:=⟨w.heap.size+1+1+1,0,none⟩) (Nat.le_add_right _ 3) _).setCell (p:=⟨w.heap.size+1+1+1+1,0,none⟩) (Nat.le_add_right _ 4) _).drew rfl rfl rfl rfl rfl (by rw [R112.out,←HSV.out];rfl)
      ·skip
       have R120:=hid ((R84.out.trans (if_neg h45)).trans (pow_plus ng wh [] y))
       rw [if_neg h45,decide_eq_false h45] at k1
       have hpl2:=drop1_le y 43
       generalize (if bt y 0=43 then y.drop 1 else y)=p at *
       have K1:=hid k1
       have K2:=hid k2
       clear k1 k2
       rcases Decidable.not_and_iff_or_not.1 he with h | h
       ·skip
        have hc:c.toNat=101:=Decidable.of_not_not h
        have z1:((c.toNat:Int) != 101)=false:=by rw [hc];rfl
        have z2:((c.toNat:Int) != 69)=true:=by rw [hc];rfl
        clear he h hc
        go_wp2_with (go_at_call 133;refine (K1.out _).mono ?_)
        rintro e V121 ⟨rfl,hw⟩
        subst hw
        go_wp2_with (go_at_call 76;refine (K2.out _).mono ?_)
        rintro e V122 ⟨rfl,hw⟩
        subst hw
        have kd:=fun W=>decDig p W (by omega)
        have R126:=hid (R120.out.trans (pow_eq ng wh [] false p))
        have hdg:=digN_take_all p
        have hpl:(p.take (digN p)).length≤p.length:=by rw [List.length_take];omega
        generalize p.take (digN p)=pw124 at *
        generalize p.drop (digN p)=rr125 at *
        have K123:=hid kd
        have HDG:=hid hdg
        clear kd hdg
        go_wp2_with (go_at_call 134;refine (K123.out _).mono ?_)
        rintro e V127 ⟨rfl,hb⟩
        clear c0 c1 c2 c3 c4 f0 f1 f2 f3 f4
        have HN128:=hid (HN3.out.below hb HN3.out.lt)
        have HB129:=hid (HB3.out.trans (hb.mono HB3.out.size))
        clear hb
        obtain ⟨c0,c1,c2,c3,c4⟩:=HN128.out.cells
        obtain ⟨f0,f1,f2,f3,f4⟩:=HN128.out.frozen
        by_cases hbad:pw124=[]∨rr125≠[]
        ·skip
         have R130:=hid (R126.out.trans (if_pos hbad))
         rcases hbad with h | h
         ·skip
          have h1:pw124.isEmpty=true:=by rw [h];rfl
          go_wp2
          exact scan_ret rfl HN128.out HB129.out rfl rfl rfl rfl rfl (by rw [R130.out];rfl)
         ·skip
          have h2:rr125.isEmpty=false:=by simpa using h
          by_cases h0:pw124=[]
          ·skip
           have h1:pw124.isEmpty=true:=by rw [h0];rfl
           go_wp2
           exact scan_ret rfl HN128.out HB129.out rfl rfl rfl rfl rfl (by rw [R130.out];rfl)
          ·skip
           have h1:pw124.isEmpty=false:=by simpa using h0
           go_wp2
           exact scan_ret rfl HN128.out HB129.out rfl rfl rfl rfl rfl (by rw [R130.out];rfl)
        ·skip
         have R131:=hid (R126.out.trans (if_neg hbad))
         obtain ⟨h1,h2⟩:=not_or.1 hbad
         have h2:rr125=[]:=Decidable.of_not_not h2
         have h1':pw124.isEmpty=false:=by simpa using h1
         subst h2
         clear hbad
         have hsn:=smallN_lt pw124 HDG.out
         have K132:=hid (fun W=>decSmall_any pw124 W HDG.out)
         obtain ⟨sn,hsv⟩:∃k,k=smallN pw124:=⟨_,rfl⟩
         rw [←hsv] at hsn K132
         have HSV:=hid hsv
         clear hsv
         go_wp2_with (go_at_call 135;refine (K132.out _).mono ?_)
         rintro e V133 ⟨rfl,hb⟩
         clear c0 c1 c2 c3 c4 f0 f1 f2 f3 f4
         have HN134:=hid (HN128.out.below hb HN128.out.lt)
         have HB135:=hid (HB129.out.trans (hb.mono HB129.out.size))
         clear hb
         obtain ⟨c0,c1,c2,c3,c4⟩:=HN134.out.cells
         obtain ⟨f0,f1,f2,f3,f4⟩:=HN134.out.frozen
         have hmul:IntKind.i64.wrap (1 * (sn:Int))=(sn:Int):=by rw [IntKind.wrap_i64];omega
         have hn:=HN134.out.set3 ((sn:Int))
         have hb:=HB135.out.setCell (p:=⟨w.heap.size+1+1+1,0,none⟩) (Nat.le_add_right _ 3) (.int .i64 ((sn:Int)))
         go_upto_region 21 with fail
         have hn:NS _ _ _ _ _ _ (V133.setCell ⟨w.heap.size+1+1+1,0,none⟩ (.int .i64 ((sn:Int)))):=hn
         generalize V133.setCell ⟨w.heap.size+1+1+1,0,none⟩ (.int .i64 ((sn:Int)))=V136 at *
         have HN137:=hid hn
         have HB138:=hid hb
         clear c0 c1 c2 c3 c4 f0 f1 f2 f3 f4
         clear hn hb
         obtain ⟨c0,c1,c2,c3,c4⟩:=HN137.out.cells
         obtain ⟨f0,f1,f2,f3,f4⟩:=HN137.out.frozen
         have hn:=HN137.out
         go_region
         all_goals go_wp2
         exact scan_ret rfl (((((hn.set0 ng).set1 wh).set2 []).set3 (sn:Int)).set4 true).drewN1 (((((HB138.out.setCell (p:=⟨w.heap.size,0,none⟩) (Nat.le_refl _) _).setCell (p:=⟨w.heap.size+1,0,none⟩) (Nat.le_add_right _ 1) _).setCell (p:=⟨w.heap.size+1+1,0,none⟩) (Nat.le_add_right _ 2) _).setCell (p:=⟨w.heap.size+1+1+1,0,none⟩) (Nat.le_add_right _ 3) _).setCell (p:=⟨w.heap.size+1+1+1+1,0,none⟩) (Nat.le_add_right _ 4) _).drew rfl rfl rfl rfl rfl (by rw [R131.out,←HSV.out];rfl)
       ·skip
        have hc:c.toNat=69:=Decidable.of_not_not h
        have z1:((c.toNat:Int) != 101)=true:=by rw [hc];rfl
        have z2:((c.toNat:Int) != 69)=false:=by rw [hc];rfl
        clear he h hc
        go_wp2_with (go_at_call 133;refine (K1.out _).mono ?_)
        rintro e V139 ⟨rfl,hw⟩
        subst hw
        go_wp2_with (go_at_call 76;refine (K2.out _).mono ?_)
        rintro e V140 ⟨rfl,hw⟩
        subst hw
        have kd:=fun W=>decDig p W (by omega)
        have R144:=hid (R120.out.trans (pow_eq ng wh [] false p))
        have hdg:=digN_take_all p
        have hpl:(p.take (digN p)).length≤p.length:=by rw [List.length_take];omega
        generalize p.take (digN p)=pw142 at *
        generalize p.drop (digN p)=rr143 at *
        have K141:=hid kd
        have HDG:=hid hdg
        clear kd hdg
        go_wp2_with (go_at_call 134;refine (K141.out _).mono ?_)
        rintro e V145 ⟨rfl,hb⟩
        clear c0 c1 c2 c3 c4 f0 f1 f2 f3 f4
        have HN146:=hid (HN3.out.below hb HN3.out.lt)
        have HB147:=hid (HB3.out.trans (hb.mono HB3.out.size))
        clear hb
        obtain ⟨c0,c1,c2,c3,c4⟩:=HN146.out.cells
        obtain ⟨f0,f1,f2,f3,f4⟩:=HN146.out.frozen
        by_cases hbad:pw142=[]∨rr143≠[]
        ·skip
         have R148:=hid (R144.out.trans (if_pos hbad))
         rcases hbad with h | h
         ·skip
          have h1:pw142.isEmpty=true:=by rw [h];rfl
          go_wp2
          exact scan_ret rfl HN146.out HB147.out rfl rfl rfl rfl rfl (by rw [R148.out];rfl)
         ·skip
          have h2:rr143.isEmpty=false:=by simpa using h
          by_cases h0:pw142=[]
          ·skip
           have h1:pw142.isEmpty=true:=by rw [h0];rfl
           go_wp2
           exact scan_ret rfl HN146.out HB147.out rfl rfl rfl rfl rfl (by rw [R148.out];rfl)
          ·skip
           have h1:pw142.isEmpty=false:=by simpa using h0
           go_wp2
           exact scan_ret rfl HN146.out HB147.out rfl rfl rfl rfl rfl (by rw [R148.out];rfl)
        ·skip
         have R149:=hid (R144.out.trans (if_neg hbad))
         obtain ⟨h1,h2⟩:=not_or.1 hbad
         have h2:rr143=[]:=Decidable.of_not_not h2
         have h1':pw142.isEmpty=false:=by simpa using h1
         subst h2
         clear hbad
         have hsn:=smallN_lt pw142 HDG.out
         have K150:=hid (fun W=>decSmall_any pw142 W HDG.out)
         obtain ⟨sn,hsv⟩:∃k,k=smallN pw142:=⟨_,rfl⟩
         rw [←hsv] at hsn K150
         have HSV:=hid hsv
         clear hsv
         go_wp2_with (go_at_call 135;refine (K150.out _).mono ?_)
         rintro e V151 ⟨rfl,hb⟩
         clear c0 c1 c2 c3 c4 f0 f1 f2 f3 f4
         have HN152:=hid (HN146.out.below hb HN146.out.lt)
         have HB153:=hid (HB147.out.trans (hb.mono HB147.out.size))
         clear hb
         obtain ⟨c0,c1,c2,c3,c4⟩:=HN152.out.cells
         obtain ⟨f0,f1,f2,f3,f4⟩:=HN152.out.frozen
         have hmul:IntKind.i64.wrap (1 * (sn:Int))=(sn:Int):=by rw [IntKind.wrap_i64];omega
         have hn:=HN152.out.set3 ((sn:Int))
         have hb:=HB153.out.setCell (p:=⟨w.heap.size+1+1+1,0,none⟩) (Nat.le_add_right _ 3) (.int .i64 ((sn:Int)))
         go_upto_region 21 with fail
         have hn:NS _ _ _ _ _ _ (V151.setCell ⟨w.heap.size+1+1+1,0,none⟩ (.int .i64 ((sn:Int)))):=hn
         generalize V151.setCell ⟨w.heap.size+1+1+1,0,none⟩ (.int .i64 ((sn:Int)))=V154 at *
         have HN155:=hid hn
         have HB156:=hid hb
         clear c0 c1 c2 c3 c4 f0 f1 f2 f3 f4
         clear hn hb
         obtain ⟨c0,c1,c2,c3,c4⟩:=HN155.out.cells
         obtain ⟨f0,f1,f2,f3,f4⟩:=HN155.out.frozen
         have hn:=HN155.out
         go_region
         all_goals go_wp2
         exact scan_ret rfl (((((hn.set0 ng).set1 wh).set2 []).set3 (sn:Int)).set4 true).drewN1 (((((HB156.out.setCell (p:=⟨w.heap.size,0,none⟩) (Nat.le_refl _) _).setCell (p:=⟨w.heap.size+1,0,none⟩) (Nat.le_add_right _ 1) _).setCell (p:=⟨w.heap.size+1+1,0,none⟩) (Nat.le_add_right _ 2) _).setCell (p:=⟨w.heap.size+1+1+1,0,none⟩) (Nat.le_add_right _ 3) _).setCell (p:=⟨w.heap.size+1+1+1+1,0,none⟩) (Nat.le_add_right _ 4) _).drew rfl rfl rfl rfl rfl (by rw [R149.out,←HSV.out];rfl)
end Go.Proofs.YtmbeicndhigklaaGreatDoor
