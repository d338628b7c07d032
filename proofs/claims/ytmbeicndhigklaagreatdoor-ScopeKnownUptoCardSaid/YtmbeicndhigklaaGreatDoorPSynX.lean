/-
The walk of the parser's Parse (chapter 15).
-/
import Derived.Test.YtmbeicndhigklaaGreatDoorPSynW
import Derived.Test.YtmbeicndhigklaaGreatDoorPLexM
import Derived.Test.YtmbeicndhigklaaGreatDoorPLexT
import Derived.Test.YtmbeicndhigklaaGreatDoorPSynP
import Derived.Recover
import Derived.Carry
namespace Go.Proofs.YtmbeicndhigklaaGreatDoor
open Lib (hid)
open Go.RowKit
abbrev TWr:TypeId:=55
abbrev TEr:TypeId:=27
set_option maxHeartbeats 4000000 in
set_option maxRecDepth 100000 in
theorem syIdle (p2 p3 p4:Addr) (w:World) :
  CallsD Tryz.prog 27 #[.pointer (some p2),.pointer (some p3),.pointer (some p4)] .returning w fun e u' w'=>e=.returned (.tuple #[])∧u'=.returning∧w'=w:=by
 refine callsD_of_wpS Tryz.func27 rfl fun c₀ cs hu=>?_
 apply wpS_seq
 apply wpS_region
 simp [wpOpsS,go_sem,recoverD,hu,Tryz.ntmps27,Exit.thenS]
 apply wpS_seq
 apply wpS_region
 simp [wpOpsS,go_sem,Exit.thenS]
 refine wpS_cond (t:=false) (by simp [Act.eval]) ?_
 simp only [Bool.false_eq_true,if_false]
 refine wpS_of_wp (wp_skip ?_)
 cases c₀
 simp_all [bodyPostS,results,Tryz.results27]
structure NP (q:Nat) (v:List Value) (a e:Int) (w:World):Prop where
 h0:w.heap[q]?=some (.cells v.toArray TN (0,0))
 h1:w.heap[q+1]?=some (.cells #[.int .i64 a] 3 (0,0))
 h2:w.heap[q+2]?=some (.cells #[.int .i64 e] TEr (0,0))
section
variable {q:Nat} {v:List Value} {a e:Int} {w w':World}
theorem NP.below {B:Nat} (h:NP q v a e w) (hb:Below B w w') (hB:q+3≤B):NP q v a e w':=
 ⟨(hb.block _ (by omega)).trans h.h0,(hb.block _ (by omega)).trans h.h1,(hb.block _ (by omega)).trans h.h2⟩
theorem NP.lt (h:NP q v a e w):q+3≤w.heap.size:=by have:=(Array.getElem?_eq_some_iff.1 h.h2).1;omega
theorem NP.cells {x y z:Value} (h:NP q [x,y,z] a e w):w.cell? ⟨q,0,none⟩=some x∧w.cell? ⟨q,1,none⟩=some y∧w.cell? ⟨q,2,none⟩=some z∧w.cell? ⟨q+1,0,none⟩=some (.int .i64 a)∧w.cell? ⟨q+1+1,0,none⟩=some (.int .i64 e):=by
 refine ⟨?_,?_,?_,?_,?_⟩
 ·rw [Lib.cell_of_heap h.h0];rfl
 ·rw [Lib.cell_of_heap h.h0];rfl
 ·rw [Lib.cell_of_heap h.h0];rfl
 ·rw [Lib.cell_of_heap h.h1];rfl
 ·rw [Lib.cell_of_heap h.h2];rfl
theorem NP.frozen (h:NP q v a e w):w.frozen? ⟨q,0,none⟩=false∧w.frozen? ⟨q,1,none⟩=false∧w.frozen? ⟨q,2,none⟩=false∧w.frozen? ⟨q+1,0,none⟩=false∧w.frozen? ⟨q+1+1,0,none⟩=false:=
 ⟨Lib.frozen_of_heap h.h0 0,Lib.frozen_of_heap h.h0 1,Lib.frozen_of_heap h.h0 2,Lib.frozen_of_heap h.h1 0,Lib.frozen_of_heap h.h2 0⟩
theorem NP.drew (h:NP q v a e w):NP q v a e w.drew:=⟨h.h0,h.h1,h.h2⟩
theorem NP.put {x y z:Value} (h:NP q [x,y,z] a e w) (x' y' z':Value) (a' e':Int):NP q [x',y',z'] a' e' (((((w.setCell ⟨q,0,none⟩ x').setCell ⟨q,1,none⟩ y').setCell ⟨q,2,none⟩ z').setCell ⟨q+1,0,none⟩ (.int .i64 a')).setCell ⟨q+1+1,0,none⟩ (.int .i64 e')):=by
 refine ⟨?_,?_,?_⟩
 ·exact (rheap_far (show q+1+1≠q by omega)).trans ((rheap_far (show q+1≠q by omega)).trans (rheap_set (k:=2) (rheap_set (k:=1) (rheap_set (k:=0) h.h0 x') y') z'))
 ·exact (rheap_far (show q+1+1≠q+1 by omega)).trans (rheap_set (k:=0) ((rheap_far (show q≠q+1 by omega)).trans ((rheap_far (show q≠q+1 by omega)).trans ((rheap_far (show q≠q+1 by omega)).trans h.h1))) _)
 ·exact rheap_set (k:=0) ((rheap_far (show q+1≠q+2 by omega)).trans ((rheap_far (show q≠q+2 by omega)).trans ((rheap_far (show q≠q+2 by omega)).trans ((rheap_far (show q≠q+2 by omega)).trans h.h2)))) _
theorem np_below {B:Nat} {w0:World} (h:Below B w0 w) (hB:B≤q) (x' y' z':Value) (a' e':Int):Below B w0 (((((w.setCell ⟨q,0,none⟩ x').setCell ⟨q,1,none⟩ y').setCell ⟨q,2,none⟩ z').setCell ⟨q+1,0,none⟩ (.int .i64 a')).setCell ⟨q+1+1,0,none⟩ (.int .i64 e')):=
 ((((h.setCell (p:=⟨q,0,none⟩) hB _).setCell (p:=⟨q,1,none⟩) hB _).setCell (p:=⟨q,2,none⟩) hB _).setCell (p:=⟨q+1,0,none⟩) (Nat.le_trans hB (Nat.le_add_right q 1)) _).setCell (p:=⟨q+1+1,0,none⟩) (Nat.le_trans hB (Nat.le_add_right q 2)) _
theorem np_far {k:Nat} (hk:q+3≤k) (x' y' z':Value) (a' e':Int):(((((w.setCell ⟨q,0,none⟩ x').setCell ⟨q,1,none⟩ y').setCell ⟨q,2,none⟩ z').setCell ⟨q+1,0,none⟩ (.int .i64 a')).setCell ⟨q+1+1,0,none⟩ (.int .i64 e')).heap[k]?=w.heap[k]?:=
 (rheap_far (p:=⟨q+1+1,0,none⟩) (show q+1+1≠k by omega)).trans ((rheap_far (p:=⟨q+1,0,none⟩) (show q+1≠k by omega)).trans ((rheap_far (p:=⟨q,2,none⟩) (show q≠k by omega)).trans ((rheap_far (p:=⟨q,1,none⟩) (show q≠k by omega)).trans (rheap_far (p:=⟨q,0,none⟩) (show q≠k by omega)))))
end
theorem NP.put2 {q:Nat} {v:List Value} {a e:Int} {w:World} (h:NP q v a e w) (a' e':Int):NP q v a' e' ((w.setCell ⟨q+1,0,none⟩ (.int .i64 a')).setCell ⟨q+1+1,0,none⟩ (.int .i64 e')):=by
 refine ⟨?_,?_,?_⟩
 ·exact (rheap_far (show q+1+1≠q by omega)).trans ((rheap_far (show q+1≠q by omega)).trans h.h0)
 ·exact (rheap_far (show q+1+1≠q+1 by omega)).trans (rheap_set (k:=0) h.h1 _)
 ·exact rheap_set (k:=0) ((rheap_far (show q+1≠q+2 by omega)).trans h.h2) _
theorem NP.pg {q g:Nat} {v:List Value} {a e:Int} {w w':World} (h:NP q v a e w) (k:PG g w w') (hg:q+3≤g):NP q v a e w':=
 ⟨k.at h.h0 (by omega),k.at h.h1 (by omega),k.at h.h2 (by omega)⟩
theorem NP.made (w:World):NP w.heap.size zN 0 0 (((w.alloc (.cells zN.toArray TN)).alloc (.cells #[.int .i64 0] 3)).alloc (.cells #[.int .i64 0] TEr)):=by
 have al:∀(u:World) (o:Obj) (k:Nat),k<u.heap.size→(u.alloc o).heap[k]?=u.heap[k]?:=fun u o k hk=>Below.heap_alloc u o k hk
 have nw:∀(u:World) (k:Nat) (c:Array Value) (T:TypeId),u.heap.size=k→(u.alloc (.cells c T)).heap[k]?=some (.cells c T (0,0)):=fun u k c T e=>by subst e;exact Go.heap_alloc_new u _
 refine ⟨?_,?_,?_⟩
 ·rw [al _ _ _ (by simp only [World.size_alloc];omega),al _ _ _ (by simp only [World.size_alloc];omega)];exact nw _ _ _ _ rfl
 ·rw [al _ _ _ (by simp only [World.size_alloc];omega)];exact nw _ _ _ _ (by simp [World.size_alloc])
 ·exact nw _ _ _ _ (by simp [World.size_alloc])
set_option maxHeartbeats 4000000 in
set_option maxRecDepth 100000 in
theorem syCatch (q a n:Nat) (w:World) (x0 y0:Int) (h:NP q zN x0 y0 w) :
  CallsD Tryz.prog 27 #[.pointer (some ⟨q,0,none⟩),.pointer (some ⟨q+1,0,none⟩),.pointer (some ⟨q+1+1,0,none⟩)] (.panicking [{ v:=.iface TWr (.agg #[.int .i64 (a:Int),.int .i64 (n:Int)]),recovered:=false }]) w fun e u' w'=>
   e=.returned (.tuple #[])∧u'=.panicking [{ v:=.iface TWr (.agg #[.int .i64 (a:Int),.int .i64 (n:Int)]),recovered:=true }]∧NP q zN (a:Int) (n:Int) w'∧Below q w w':=by
 have hta:∀w,(Instr.typeAssert (.iface TWr (.agg #[.int .i64 (a:Int),.int .i64 (n:Int)])) 20 TWr true).run Tryz.prog w=.ok (.tuple #[.agg #[.int .i64 (a:Int),.int .i64 (n:Int)],.bool true]) w:=fun w=>by kernel_rfl
 have H:=hid h
 have hw:=h.lt
 clear h
 refine callsD_of_wpS Tryz.func27 rfl fun c₀ cs hu=>?_
 apply wpS_seq
 apply wpS_region
 simp [wpOpsS,go_sem,recoverD,hu,Tryz.ntmps27,Exit.thenS]
 apply wpS_seq
 apply wpS_region
 simp [wpOpsS,go_sem,Exit.thenS]
 simp only [Array.replicate_succ,Array.replicate_zero,List.push_toArray,List.append_toArray,List.nil_append,List.cons_append,List.setIfInBounds_toArray,List.set]
 refine wpS_cond (t:=true) (by simp [Act.eval]) ?_
 simp only [if_true]
 refine wpS_of_wp ?_
 go_upto_region 5 with fail
 obtain ⟨W,hW⟩:∃W,W=w.alloc (.cells #[.int .i64 (a:Int),.int .i64 (n:Int)] TWr):=⟨_,rfl⟩
 rw [←hW]
 have hn1:NP q zN x0 y0 W:=by rw [hW];exact H.out.below ((Below.refl _ w).alloc (Nat.le_refl _) _) hw
 have hb1:Below q w W:=by rw [hW];exact (Below.refl _ w).alloc (by omega) _
 have hst:W.heap[w.heap.size]?=some (.cells #[.int .i64 (a:Int),.int .i64 (n:Int)] TWr (0,0)):=by rw [hW];exact Go.heap_alloc_new w _
 have ca:W.cell? ⟨w.heap.size,0,none⟩=some (.int .i64 (a:Int)):=by rw [Lib.cell_of_heap hst];rfl
 have cb:W.cell? ⟨w.heap.size,1,none⟩=some (.int .i64 (n:Int)):=by rw [Lib.cell_of_heap hst];rfl
 obtain ⟨c0,c1,c2,c3,c4⟩:=hn1.cells
 obtain ⟨f0,f1,f2,f3,f4⟩:=hn1.frozen
 have n1:¬q=w.heap.size:=by omega
 have n2:¬q+1=w.heap.size:=by omega
 have n3:¬q+1+1=w.heap.size:=by omega
 have HN:=hid hn1
 have HB:=hid hb1
 generalize w.heap.size=sp at *
 clear hn1 hb1 hst hW hw
 go_region
 all_goals go_wp2
 refine ⟨rfl,_,rfl,.tuple #[],by simp [results,Tryz.results27],rfl,rfl,?_,?_⟩
 ·exact (HN.out.put (.int .i64 0) (.string ⟨#[]⟩) (.slice none 0 0) (a:Int) (n:Int)).drew
 ·exact (np_below HB.out (Nat.le_refl q) _ _ _ _ _).drew
def IsPar (r:Nd×Nat×Nat) (w:World) (e:Ending) (w':World):Prop:=
 ∃kv,e=.returned (.tuple #[nAgg r.1 kv,.int .i64 (r.2.1:Int),.int .i64 (r.2.2:Int)])∧NX (fun q=>w.heap.size≤q) w' r.1 kv∧Below w.heap.size w w'
set_option maxRecDepth 100000 in
theorem results_NP {q:Nat} {v:List Value} {a e:Int} {W:World} {tm:Array Value} (h:NP q v a e W) (h3:v.length=3)
  (t2:tm.getD 2 undef=.pointer (some ⟨q,0,none⟩)) (t3:tm.getD 3 undef=.pointer (some ⟨q+1,0,none⟩)) (t4:tm.getD 4 undef=.pointer (some ⟨q+1+1,0,none⟩)) :
  (results Tryz.f16 tm).run Tryz.prog W=.ok (.tuple #[.agg v.toArray,.int .i64 a,.int .i64 e]) W:=by
 have t2':tm[2]?.getD undef=.pointer (some ⟨q,0,none⟩):=by simpa using t2
 have t3':tm[3]?.getD undef=.pointer (some ⟨q+1,0,none⟩):=by simpa using t3
 have t4':tm[4]?.getD undef=.pointer (some ⟨q+1+1,0,none⟩):=by simpa using t4
 obtain ⟨d,hd,hrow⟩:=underN
 have l0:=run_loadVar_mid W q 0 TN v d (range_of h.h0) hd hrow (by rw [sizeN,h3])
 have d1:W.cell? ⟨q+1,0,none⟩=some (.int .i64 a):=by rw [Lib.cell_of_heap h.h1];rfl
 have d2:W.cell? ⟨q+1+1,0,none⟩=some (.int .i64 e):=by rw [Lib.cell_of_heap h.h2];rfl
 have l1:(loadVar 3 ⟨q+1,0,none⟩).run Tryz.prog W=.ok (.int .i64 a) W:=by simp [go_sem,d1]
 have l2:(loadVar TEr ⟨q+1+1,0,none⟩).run Tryz.prog W=.ok (.int .i64 e) W:=by simp [go_sem,d2]
 simp [results,Tryz.results16,t2',t3',t4',asAddr,l0,l1,l2,Result.andThen]
theorem tokR_of {B g:Nat} {w:World} {v:Value} {l:List Tk} (h:w.ownsRow B TTk 3 v l.length (tkCells l)) (hg:w.heap.size≤g):∃A cap,v=.slice A l.length cap∧TokR g w A l∧l.length≤cap∧cap≤maxLen:=by
 rcases h.2 with ⟨hv,h0⟩ | ⟨q,cap,cur,hv,hB,hh,hrest⟩
 ·have:l=[]:=List.length_eq_zero_iff.1 h0
  subst this
  exact ⟨none,0,hv,fun hn=>absurd rfl hn,Nat.le_refl _,Nat.zero_le _⟩
 ·refine ⟨some ⟨q,0,none⟩,cap,hv,fun _=>⟨q,cur,(0,0),rfl,Nat.lt_of_lt_of_le (Array.getElem?_eq_some_iff.1 hh).1 hg,hh,fun i k hi=>?_⟩,hrest.1,hrest.2.1⟩
  have hcl:=h.cells (g:=q) (by rw [hv];rfl)
  have key:∀j u,(tkCells l)[j]?=some u→cur[j]?=some u:=fun j u hj=>by
   have:=hcl j u hj
   have hadd:(⟨q,0,none⟩:Addr).add j=⟨q,j,none⟩:=by unfold Addr.add;split <;> simp_all
   rw [hadd,Lib.cell_of_heap hh] at this
   exact this
  obtain ⟨h1,h2,h3⟩:=tkCells_at l i k hi
  exact ⟨key _ _ h1,key _ _ h2,key _ _ h3⟩
theorem tab_lt {w:World} (h:Tab10 w):∀q,Tryz.prog.globalNamed "internal/strconv.uint64pow10"=some q→q<w.heap.size:=fun q hq=>by
 unfold Tab10 Lib.TabIs World.var? at h
 simp only [hq,Option.bind_some] at h
 rcases Nat.lt_or_ge q w.heap.size with h' | h'
 ·exact h'
 ·rw [Array.getElem?_eq_none h'] at h;simp at h
theorem NV.ys {F:Nat→Prop} {w:World}:∀(n:Nat) (ks:List Nd) (kv:Value),NV F w n ks kv→ks.length≤maxLen∧∀k∈ks,YS maxLen (toY k)
 | 0,ks,kv,⟨h,_⟩=>by subst h;exact ⟨Nat.zero_le _,fun k hk=>by cases hk⟩
 | n+1,ks,kv,⟨A,cap,e,hc,h2⟩=>by
  by_cases hn:ks=[]
  ·subst hn;exact ⟨Nat.zero_le _,fun k hk=>by cases hk⟩
  ·refine ⟨Nat.le_trans (hc hn).1 (hc hn).2,fun k hk=>?_⟩
   obtain ⟨q,o,c,z,_,_,_,h5⟩:=h2 hn
   obtain ⟨i,hi⟩:=List.getElem?_of_mem hk
   obtain ⟨kw,_,h7⟩:=h5 i k hi
   have:=NV.ys n _ _ h7
   exact .mk (by rw [toY_len];exact this.1) (fun y hy=>by
    rw [toY_kids] at hy
    obtain ⟨x,hx,rfl⟩:=List.mem_map.1 hy
    exact this.2 x hx)
theorem NX.ys {F:Nat→Prop} {w:World} {t:Nd} {kv:Value} (h:NX F w t kv):YS maxLen (toY t):=by
 obtain ⟨n,h⟩:=h
 have:=NV.ys n _ _ h
 exact .mk (by rw [toY_len];exact this.1) (fun y hy=>by
  rw [toY_kids] at hy
  obtain ⟨x,hx,rfl⟩:=List.mem_map.1 hy
  exact this.2 x hx)
theorem syDepth_nd {F:Nat→Prop} {w:World} (t:Nd) (A:Option Addr) (c:Nat) (h:NX F w t (.slice A t.kids.length c)):Calls Tryz.prog 22 #[nAgg t (.slice A t.kids.length c)] w (RetY (.int .i64 (depN 200 t:Int)) fun w'=>Below w.heap.size w w'):=by
 have hy:=h.y
 have hk:YT w (toY t) A c:=by rw [←toY_len] at hy;exact hy.kept fun q _ _ _ _ hh=>⟨hh,trivial⟩
 have:=yDepthTop (toY t) A c w h.ys hk
 rw [depY_to,toY_len,toY_agg] at this
 exact this
set_option maxHeartbeats 4000000 in
set_option maxRecDepth 100000 in
theorem syParse_any (L:List UInt8) (w:World) (hT:Tabs w) (h10:Tab10 w) (hm:L.length≤maxLen):Calls Tryz.prog 16 #[.string ⟨L.toArray⟩] w (IsPar (parseV numE L) w):=by
 have hmf:∀(fn:Fn) (first cap:Array Value) (w:World),(Instr.makeFunc fn first cap).run Tryz.prog w=.ok (.func fn first cap) w:=fun _ _ _ _=>rfl
 obtain ⟨r,hr⟩:∃r,r=parseV numE L:=⟨_,rfl⟩
 rw [←hr]
 have HLL:=hid (ba_len L)
 have kt:=fun W (h:Tabs W)=>lexTokens_any ⟨L.toArray⟩ W h (by rw [ba_len];exact hm)
 have e0:(⟨L.toArray⟩:ByteArray).data.toList=L:=rfl
 rw [e0] at kt
 have hn0:=NP.made w
 obtain ⟨W0,hW0⟩:∃W0,W0=(((w.alloc (.cells zN.toArray TN)).alloc (.cells #[.int .i64 0] 3)).alloc (.cells #[.int .i64 0] TEr)):=⟨_,rfl⟩
 have hb0:Below w.heap.size w W0:=by
  rw [hW0]
  exact (((Below.refl _ w).alloc (Nat.le_refl _) _).alloc (by simp only [World.size_alloc];omega) _).alloc (by simp only [World.size_alloc];omega) _
 rw [←hW0] at hn0
 have KT:=kt W0 (hT.below hb0 (Nat.le_refl _))
 unfold TokV at KT
 have hlen:=tokens_len L
 have HKN:=hid (fun g=>knot_walk (g:=g) (tokens_fit L) (by omega) (tokens_short L) ((tokensV L).1.length+1))
 have HF:=hid (tokens_fit L)
 have hr2:r=if (tokensV L).2.2≠0 then (ndZero,(tokensV L).2.1,(tokensV L).2.2) else parseT numE (tokensV L).1 L.length:=hr
 have HN0:=hid hn0
 have HB0:=hid hb0
 have H10:=hid h10
 have hml:L.length≤9223372036854775807:=by unfold maxLen at hm;omega
 clear kt e0 hb0 h10 hT hr hm
 generalize (tokensV L).2.1=at0 at *
 generalize (tokensV L).2.2=er at *
 generalize (tokensV L).1=l at *
 have HR:=hid hr2
 have KT:=hid KT
 have hq:=hn0.lt
 clear hr2
 go_enter_defers Tryz.func16,Tryz.ntmps16
 go_upto_region 1 with fail
 have eW:W0=((w.alloc (.cells #[.int .i64 0,.string ⟨#[]⟩,.slice none 0 0] TN)).alloc (.cells #[.int .i64 0] 3)).alloc (.cells #[.int .i64 0] TEr):=hW0
 rw [←eW]
 clear eW hW0
 obtain ⟨c0,c1,c2,c3,c4⟩:=hn0.cells
 obtain ⟨f0,f1,f2,f3,f4⟩:=hn0.frozen
 clear hn0
 go_wp2_with (go_at_call 26;with_reducible refine KT.out.mono ?_)
 rintro e W1 ⟨v,rfl,hown,hb1⟩
 clear c0 c1 c2 c3 c4 f0 f1 f2 f3 f4
 have hn1:=HN0.out.below hb1 hq
 have hs1:=hb1.size
 obtain ⟨c0,c1,c2,c3,c4⟩:=hn1.cells
 obtain ⟨f0,f1,f2,f3,f4⟩:=hn1.frozen
 obtain ⟨W2,hW2⟩:∃W2,W2=(W1.setCell ⟨w.heap.size+1,0,none⟩ (.int .i64 (at0:Int))).setCell ⟨w.heap.size+1+1,0,none⟩ (.int .i64 (er:Int)):=⟨_,rfl⟩
 have hn2:NP w.heap.size zN (at0:Int) (er:Int) W2:=by rw [hW2];exact hn1.put2 _ _
 have hb2:Below w.heap.size w W2:=by
  rw [hW2]
  exact ((HB0.out.trans (hb1.mono HB0.out.size)).setCell (p:=⟨w.heap.size+1,0,none⟩) (Nat.le_add_right _ 1) _).setCell (p:=⟨w.heap.size+1+1,0,none⟩) (Nat.le_add_right _ 2) _
 have hown2:W2.ownsRow W0.heap.size TTk 3 v l.length (tkCells l):=by
  rw [hW2]
  refine rowns_block hown fun k c z hk hh=>?_
  have hkb:=(rrow_kind hown k hk).1
  exact (rheap_far (show w.heap.size+1+1≠k by omega)).trans ((rheap_far (show w.heap.size+1≠k by omega)).trans hh)
 go_upto_region 2 with fail
 rw [←hW2]
 clear hW2 hn1 c0 c1 c2 c3 c4 f0 f1 f2 f3 f4 hown hb1
 have HN2:=hid hn2
 have HB2:=hid hb2
 obtain ⟨c0,c1,c2,c3,c4⟩:=hn2.cells
 obtain ⟨f0,f1,f2,f3,f4⟩:=hn2.frozen
 clear hn2 hb2
 by_cases her:er=0
 rotate_left
 ·have z1:((er:Int) != 0)=true:=by simp;omega
  have HE:=hid (HR.out.trans (if_pos her))
  clear her hown2
  go_wp2
  go_region
  all_goals go_wp2
  refine ⟨_,results_NP (HN2.out.put (.int .i64 0) (.string ⟨#[]⟩) (.slice none 0 0) (at0:Int) (er:Int)).drew rfl rfl rfl rfl,?_⟩
  rw [HE.out]
  exact ⟨rNil,rfl,NX.leaf rfl,(np_below HB2.out (Nat.le_refl _) _ _ _ _ _).drew⟩
 ·subst her
  have HE:=hid (HR.out.trans (if_neg (by decide)))
  clear c0 c1 c2 c3 f0 f1 f2 f3 f4
  obtain ⟨A,cap,rfl,htok,hcp⟩:=tokR_of hown2 (Nat.le_refl W2.heap.size)
  obtain ⟨g,hg⟩:∃g,g=W2.heap.size:=⟨_,rfl⟩
  obtain ⟨W3,hW3⟩:∃W3,W3=W2.alloc (.cells #[.slice A l.length cap,.int .i64 0,.int .i64 (L.length:Int),.int .i64 0] TPr):=⟨_,rfl⟩
  have hb23:Below W2.heap.size W2 W3:=by rw [hW3];exact (Below.refl _ W2).alloc (Nat.le_refl _) _
  have hgl:w.heap.size+3≤g:=by rw [hg];have:=HN2.out.lt;omega
  have hp3:PrS g l L.length ⟨0,0⟩ W3:=by
   refine ⟨⟨A,cap,?_,?_,hcp⟩,H10.out.below (HB2.out.trans (hb23.mono (by omega))),fun q hq=>by have:=tab_lt H10.out q hq;omega⟩
   ·rw [hW3,hg];exact Go.heap_alloc_new W2 _
   ·rw [←hg] at htok
    exact htok.kept fun q c z hq hh=>(hb23.block q (by omega)).trans hh
  have hn3:NP w.heap.size zN (at0:Int) 0 W3:=HN2.out.below hb23 HN2.out.lt
  have HP3:=hid hp3
  have HN3:=hid hn3
  have HB3:=hid (HB2.out.trans (hb23.mono HB2.out.size))
  have hg3:g<W3.heap.size:=hp3.lt
  have hkn:=(HKN.out g).pipe ⟨0,0⟩ W3 hp3 (Nat.zero_le _) (by simp) (by simp)
  have hkt:=(knot_ok HF.out (l.length+1)).pipe ⟨0,0⟩ (Nat.zero_le _) (by simp)
  go_upto_region 6 with fail
  have eW3:W3=W2.alloc (.cells #[.slice A l.length cap,.int .i64 0,.int .i64 (L.length:Int),.int .i64 0] TPr):=hW3
  rw [←eW3,←hg]
  clear eW3 hW3 hown2 htok c4
  have hpt:parseT numE l L.length=match (knotF numE l L.length (l.length+1)).pipe ⟨0,0⟩ with
   | .bad a e=>(ndZero,a,e)
   | .ok n s=>if s.at'<l.length then (ndZero,(dueT l s.at').pos,2) else if 200<depN 200 n then (ndZero,0,6) else (n,0,0):=rfl
  have HE2:=hid (HE.out.trans hpt)
  clear hpt HE HR hb23 hp3 hn3 hg
  cases hk:(knotF numE l L.length (l.length+1)).pipe ⟨0,0⟩ with
  | bad a m=>
   rw [hk] at hkn HE2
   have KP:=hid (show Calls Tryz.prog 28 #[.pointer (some ⟨g,0,none⟩)] W3 (BdY g a m W3) from hkn)
   clear hkn hkt hk
   go_wp2_with (go_at_call 28;with_reducible refine KP.out.mono ?_)
   rintro e W4 ⟨rfl,hpg⟩
   have hn4:=HN3.out.pg hpg hgl
   have HB4:=hid (HB3.out.trans (hpg.toBelow (by omega) (by omega)))
   unfold stopE
   go_wp2
   refine leaves_cons (f:=27) (args:=#[.pointer (some ⟨w.heap.size,0,none⟩),.pointer (some ⟨w.heap.size+1,0,none⟩),.pointer (some ⟨w.heap.size+1+1,0,none⟩)]) (by simp) (by simp [go_sem]) ?_
   refine (syCatch w.heap.size a m W4 _ _ hn4).mono ?_
   rintro e u' w'' ⟨rfl,rfl,hn,hbb⟩
   refine ⟨_,results_NP hn rfl rfl rfl rfl,?_⟩
   rw [HE2.out]
   exact ⟨rNil,rfl,NX.leaf rfl,HB4.out.trans hbb⟩
  | ok x s'=>
   rw [hk] at hkn HE2
   obtain ⟨ha1,ha2,ha3,_⟩:=hkt.ok x s' hk
   have KP:=hid (show Calls Tryz.prog 28 #[.pointer (some ⟨g,0,none⟩)] W3 (OkN g l L.length s' W3 x) from hkn)
   clear hkn hkt hk
   go_wp2_with (go_at_call 28;with_reducible refine KP.out.mono ?_)
   rintro e W4 ⟨kv,rfl,hx,hp4,hpg⟩
   obtain ⟨B,m,rfl⟩:=hx.slice
   simp only [nAgg]
   obtain ⟨W5,hW5⟩:∃W5,W5=W4.alloc (.cells (nCells x (.slice B x.kids.length m)).toArray TN):=⟨_,rfl⟩
   have hb45:Below W4.heap.size W4 W5:=by rw [hW5];exact (Below.refl _ W4).alloc (Nat.le_refl _) _
   have hX5:W5.heap[W4.heap.size]?=some (.cells (nCells x (.slice B x.kids.length m)).toArray TN (0,0)):=by rw [hW5];exact Go.heap_alloc_new W4 _
   have hp5:PrS g l L.length s' W5:=hp4.below hb45
   have hx5:NX (fun q=>W3.heap.size≤q) W5 x (.slice B x.kids.length m):=hx.kept fun q c z hq hh=>⟨(hb45.block q (Array.getElem?_eq_some_iff.1 hh).1).trans hh,hq⟩
   have hn5:=(HN3.out.pg hpg hgl).below hb45 (by have:=hpg.size;omega)
   have hs4:=hpg.size
   have HB5:=hid ((HB3.out.trans (hpg.toBelow (by omega) (by omega))).trans (hb45.mono (by omega)))
   go_upto_region 7 with fail
   have eW5:W5=W4.alloc (.cells #[.int .i64 (x.kind:Int),.string ⟨x.text.toArray⟩,.slice B x.kids.length m] TN):=hW5
   rw [←eW5]
   clear eW5 hW5 hb45 hx hpg hp4
   have p1:=hp5.c1
   have HP5:=hid hp5
   have HN5:=hid hn5
   have HX5:=hid hX5
   have HK5:=hid hx5
   clear hp5 hn5 hX5 hx5
   by_cases hlt:s'.at'<l.length
   ·have z1:decide (s'.at'<l.length)=true:=decide_eq_true hlt
    have hfl:(failY l L.length s'.at':PY Unit)=.bad (dueT l s'.at').pos 2:=by unfold failY;rw [if_neg (by omega)]
    have KF:=hid (fun W (h:PrS g l L.length s' W)=>syFail_any g l L.length s' W h _ _ hfl)
    have HE3:=hid (HE2.out.trans (if_pos hlt))
    clear hfl hlt
    generalize (dueT l s'.at').pos=fp at *
    go_wp2_with (go_at_call 29;with_reducible refine (KF.out _ HP5.out).mono ?_)
    rintro e W6 ⟨rfl,hpg⟩
    have hn6:=HN5.out.pg hpg hgl
    have HB6:=hid (HB5.out.trans (hpg.toBelow (by omega) (by have:=HP5.out.lt;omega)))
    unfold stopE
    go_wp2
    refine leaves_cons (f:=27) (args:=#[.pointer (some ⟨w.heap.size,0,none⟩),.pointer (some ⟨w.heap.size+1,0,none⟩),.pointer (some ⟨w.heap.size+1+1,0,none⟩)]) (by simp) (by simp [go_sem]) ?_
    refine (syCatch w.heap.size fp 2 W6 _ _ hn6).mono ?_
    rintro e u' w'' ⟨rfl,rfl,hn,hbb⟩
    refine ⟨_,results_NP hn rfl rfl rfl rfl,?_⟩
    rw [HE3.out]
    exact ⟨rNil,rfl,NX.leaf rfl,HB6.out.trans hbb⟩
   ·have z1:decide (s'.at'<l.length)=false:=decide_eq_false hlt
    have HE3:=hid (HE2.out.trans (if_neg hlt))
    clear hlt
    have KDp:=hid (fun W (h:NX (fun q=>W3.heap.size≤q) W x (.slice B x.kids.length m))=>show Calls Tryz.prog 22 #[.agg #[.int .i64 (x.kind:Int),.string ⟨x.text.toArray⟩,.slice B x.kids.length m]] W (RetY (.int .i64 (depN 200 x:Int)) fun w'=>Below W.heap.size W w') from syDepth_nd x B m h)
    generalize depN 200 x=dp at *
    have hX5:=HX5.out
    have x0:W5.cell? ⟨W4.heap.size,0,none⟩=some (.int .i64 (x.kind:Int)):=by rw [Lib.cell_of_heap hX5];rfl
    have x1:W5.cell? ⟨W4.heap.size,1,none⟩=some (.string ⟨x.text.toArray⟩):=by rw [Lib.cell_of_heap hX5];rfl
    have x2:W5.cell? ⟨W4.heap.size,2,none⟩=some (.slice B x.kids.length m):=by rw [Lib.cell_of_heap hX5];rfl
    have hl5:W4.heap.size<W5.heap.size:=(Array.getElem?_eq_some_iff.1 hX5).1
    clear hX5
    go_wp2_with (go_at_call 22;with_reducible refine (KDp.out _ HK5.out).mono ?_)
    rintro e W6 ⟨rfl,hb6⟩
    have hX6:=(hb6.block _ hl5).trans HX5.out
    have hn6:=HN5.out.below hb6 HN5.out.lt
    have HK6:=hid (HK5.out.kept (w':=W6) (G:=fun q=>W3.heap.size≤q) fun q c z hq hh=>⟨(hb6.block q (Array.getElem?_eq_some_iff.1 hh).1).trans hh,hq⟩)
    have HB6:=hid (HB5.out.trans (hb6.mono HB5.out.size))
    clear x0 x1 x2 hb6
    have x0:W6.cell? ⟨W4.heap.size,0,none⟩=some (.int .i64 (x.kind:Int)):=by rw [Lib.cell_of_heap hX6];rfl
    have x1:W6.cell? ⟨W4.heap.size,1,none⟩=some (.string ⟨x.text.toArray⟩):=by rw [Lib.cell_of_heap hX6];rfl
    have x2:W6.cell? ⟨W4.heap.size,2,none⟩=some (.slice B x.kids.length m):=by rw [Lib.cell_of_heap hX6];rfl
    obtain ⟨c0,c1,c2,c3,c4⟩:=hn6.cells
    obtain ⟨f0,f1,f2,f3,f4⟩:=hn6.frozen
    have HN6:=hid hn6
    have hne:¬w.heap.size=W4.heap.size:=by omega
    have hne1:¬w.heap.size+1=W4.heap.size:=by omega
    have hne2:¬w.heap.size+1+1=W4.heap.size:=by omega
    clear hn6 hX6 p1
    by_cases hd:200<dp
    ·have z2:decide ((200:Int)<(dp:Int))=true:=decide_eq_true (by omega)
     have HE4:=hid (HE3.out.trans (if_pos hd))
     clear hd
     go_wp2
     refine leaves_cons (f:=27) (args:=#[.pointer (some ⟨w.heap.size,0,none⟩),.pointer (some ⟨w.heap.size+1,0,none⟩),.pointer (some ⟨w.heap.size+1+1,0,none⟩)]) (by simp) (by simp [go_sem]) ?_
     refine (syIdle _ _ _ _).mono ?_
     rintro e u' w'' ⟨rfl,rfl,rfl⟩
     refine ⟨_,results_NP (HN6.out.put (.int .i64 0) (.string ⟨#[]⟩) (.slice none 0 0) 0 6) rfl rfl rfl rfl,?_⟩
     rw [HE4.out]
     exact ⟨rNil,rfl,NX.leaf rfl,np_below HB6.out (Nat.le_refl _) _ _ _ _ _⟩
    ·have z2:decide ((200:Int)<(dp:Int))=false:=decide_eq_false (by omega)
     have HE4:=hid (HE3.out.trans (if_neg hd))
     clear hd
     go_wp2
     refine leaves_cons (f:=27) (args:=#[.pointer (some ⟨w.heap.size,0,none⟩),.pointer (some ⟨w.heap.size+1,0,none⟩),.pointer (some ⟨w.heap.size+1+1,0,none⟩)]) (by simp) (by simp [go_sem]) ?_
     refine (syIdle _ _ _ _).mono ?_
     rintro e u' w'' ⟨rfl,rfl,rfl⟩
     refine ⟨_,results_NP (HN6.out.put (.int .i64 (x.kind:Int)) (.string ⟨x.text.toArray⟩) (.slice B x.kids.length m) 0 0) rfl rfl rfl rfl,?_⟩
     rw [HE4.out]
     exact ⟨_,rfl,HK6.out.kept fun q c z hq hh=>⟨(np_far (by omega) _ _ _ _ _).trans hh,by omega⟩,np_below HB6.out (Nat.le_refl _) _ _ _ _ _⟩
end Go.Proofs.YtmbeicndhigklaaGreatDoor
