/-
The walk of quote's Read (chapter 5).
-/
import Derived.Test.YtmbeicndhigklaaGreatDoorPQuoH
namespace Go.Proofs.YtmbeicndhigklaaGreatDoor
open Lib (hid)
open Go.RowKit Go.Shelf
attribute [local go_sem] Oper.semAt_some
theorem cell_al {w:World} {p:Addr} {v:Value} (o:Obj) (h:w.cell? p=some v):(w.alloc o).cell? p=some v:=by
 have hb:=Below.refl w.heap.size w
 exact ((hb.alloc (Nat.le_refl _) o).cell (World.block_lt_of_cell? _ _ h)).trans h
theorem heap_al {w:World} {k:Nat} {x:Obj} (o:Obj) (h:w.heap[k]?=some x):(w.alloc o).heap[k]?=some x:=(Below.heap_alloc w o k (Array.getElem?_eq_some_iff.1 h).1).trans h
theorem heap_nw {w:World} {k:Nat} (o:Obj) (h:k=w.heap.size):(w.alloc o).heap[k]?=some o:=by subst h;exact World.alloc_heap_new w o
theorem bld_fresh {T e:TypeId} {b:Nat} {w:World} (h:w.heap[b]?=some (.cells #[.pointer none,.slice none 0 0] T (0,0))):Lib.IsBuilderF T e b b [] w:=
 .inl ⟨Nat.le_refl _,_,h,⟨rfl,.inl ⟨rfl,rfl⟩⟩,by simp [Value.ownBlock]⟩
theorem bld_block {T e:TypeId} {B b:Nat} {bs:List Value} {w:World} (h:Lib.IsBuilderF T e B b bs w):∃c z,w.heap[b]?=some (.cells c T z):=by
 rcases h with ⟨_,v,h,_⟩ | ⟨_,v,h,_⟩
 ·exact ⟨_,_,h⟩
 ·exact ⟨_,_,h⟩
theorem put3_heap {w:World} {a:Nat} {S T U:TypeId} {x y z:Value} (h1:w.heap[a]?=some (.cells #[x] S (0,0))) (h2:w.heap[a+1]?=some (.cells #[y] T (0,0))) (h3:w.heap[a+1+1]?=some (.cells #[z] U (0,0))) (x' y' z':Value) :
  (((w.setCell ⟨a,0,none⟩ x').setCell ⟨a+1,0,none⟩ y').setCell ⟨a+1+1,0,none⟩ z').heap[a]?=some (.cells #[x'] S (0,0)) ∧
  (((w.setCell ⟨a,0,none⟩ x').setCell ⟨a+1,0,none⟩ y').setCell ⟨a+1+1,0,none⟩ z').heap[a+1]?=some (.cells #[y'] T (0,0)) ∧
  (((w.setCell ⟨a,0,none⟩ x').setCell ⟨a+1,0,none⟩ y').setCell ⟨a+1+1,0,none⟩ z').heap[a+1+1]?=some (.cells #[z'] U (0,0)):=by
 have o:=fun (w:World) (p:Addr) (v:Value) (q:Nat) (hq:q≠p.block)=>Below.heap_setCell w p v q (fun e=>hq e)
 refine ⟨?_,?_,?_⟩
 ·rw [o _ _ _ _ (by simp;omega),o _ _ _ _ (by simp)];exact heap_setCell_self h1 _
 ·rw [o _ _ _ _ (by simp)];exact heap_setCell_self ((o _ _ _ _ (by simp)).trans h2) _
 ·exact heap_setCell_self ((o _ _ _ _ (by simp)).trans ((o _ _ _ _ (by simp;omega)).trans h3)) _
theorem keep4 {W:World} {a:Nat} {x y z u:Value} (i2:W.heap[a]?=some (.cells #[x] 9 (0,0))) (i3:W.heap[a+1]?=some (.cells #[y] 3 (0,0))) (i4:W.heap[a+1+1]?=some (.cells #[z] 27 (0,0))) (i6:W.heap[a+1+1+1+1]?=some (.cells #[u] 3 (0,0)))
  (w2:World) (o1:Lib.OthersKept 5 (some (a+1+1+1)) W w2):w2.cell? ⟨a,0,none⟩=some x∧w2.cell? ⟨a+1,0,none⟩=some y∧w2.cell? ⟨a+1+1,0,none⟩=some z∧w2.cell? ⟨a+1+1+1+1,0,none⟩=some u ∧
   w2.frozen? ⟨a,0,none⟩=false∧w2.frozen? ⟨a+1,0,none⟩=false∧w2.frozen? ⟨a+1+1,0,none⟩=false:=by
 have j2:=others_keep o1 (by decide) (by omega) i2
 have j3:=others_keep o1 (by decide) (by omega) i3
 have j4:=others_keep o1 (by decide) (by omega) i4
 have j6:=others_keep o1 (by decide) (by omega) i6
 exact ⟨by rw [Lib.cell_of_heap j2];rfl,by rw [Lib.cell_of_heap j3];rfl,by rw [Lib.cell_of_heap j4];rfl,by rw [Lib.cell_of_heap j6];rfl,Lib.frozen_of_heap j2 0,Lib.frozen_of_heap j3 0,Lib.frozen_of_heap j4 0⟩
theorem readP_yes (l:List UInt8) (h0:l.length≠0) (hq:bt l 0=34):readP l=if errP (piecesP (l.drop 1))≠0 then ([],1+sizeP (piecesP (l.drop 1)),errP (piecesP (l.drop 1))) else (textP (piecesP (l.drop 1)),2+sizeP (piecesP (l.drop 1)),0):=by
 unfold readP
 rw [if_neg (fun h=>h.elim h0 (fun h=>h hq))]
theorem readV_of (l:List UInt8) (t:List UInt8) (n e:Nat) (h:readP l=(t,n,e)):readV l=.tuple #[.string ⟨t.toArray⟩,.int .i64 (n:Int),.int .i64 (e:Int)]:=by unfold readV;rw [h]
set_option maxRecDepth 100000 in
theorem read_results {tmps:Array Value} {W:World} {a:Nat} {x y z:Value} (h2:tmps.getD 2 undef=.pointer (some ⟨a,0,none⟩)) (h3:tmps.getD 3 undef=.pointer (some ⟨a+1,0,none⟩)) (h4:tmps.getD 4 undef=.pointer (some ⟨a+1+1,0,none⟩))
  (c2:W.cell? ⟨a,0,none⟩=some x) (c3:W.cell? ⟨a+1,0,none⟩=some y) (c4:W.cell? ⟨a+1+1,0,none⟩=some z):(results Tryz.f146 tmps).run Tryz.prog W=.ok (.tuple #[x,y,z]) W:=by
 have h2':tmps[2]?.getD undef=.pointer (some ⟨a,0,none⟩):=by simpa using h2
 have h3':tmps[3]?.getD undef=.pointer (some ⟨a+1,0,none⟩):=by simpa using h3
 have h4':tmps[4]?.getD undef=.pointer (some ⟨a+1+1,0,none⟩):=by simpa using h4
 simp [results,Tryz.results146,go_sem,h2',h3',h4',c2,c3,c4]
theorem read_end {n:Nat} {w W:World} {a D:Nat} {l:List UInt8} {x:List UInt8} {y z:Nat} {tmps:Array Value} (h2:tmps.getD 2 undef=.pointer (some ⟨a,0,none⟩)) (h3:tmps.getD 3 undef=.pointer (some ⟨a+1,0,none⟩)) (h4:tmps.getD 4 undef=.pointer (some ⟨a+1+1,0,none⟩))
  (i2:W.heap[a]?=some (.cells #[.string ⟨x.toArray⟩] 9 (0,0))) (i3:W.heap[a+1]?=some (.cells #[.int .i64 (y:Int)] 3 (0,0))) (i4:W.heap[a+1+1]?=some (.cells #[.int .i64 (z:Int)] 27 (0,0)))
  (hK:W.heap[D]?=some (.deferred (some []))) (hw:w.heap.size≤D) (hB:Below w.heap.size w W) (hr:readP l=(x,y,z)) :
  bodyPostM Fence.wide n Tryz.prog Tryz.f146 (fun e w'=>e=Ending.returned (readV l)∧Below w.heap.size w w') Exit.ret { tmps:=tmps,defers:=[{ target:=.collected D,args:=#[] }] } W:=by
 have o:∀q (o:Obj),W.heap[q]?=some o→(∃c T z,o=.cells c T z)→(W.putObj D (.deferred none)).heap[q]?=some o:=fun q o h hc=>(World.putObj_heap_other (fun e=>by
  subst e;rw [hK] at h;injection h with h;subst h;obtain ⟨_,_,_,h⟩:=hc;cases h)).trans h
 refine ⟨by simp,.inl ⟨_,_,rfl,run_takeDeferred hK,?_⟩⟩
 refine ⟨_,read_results h2 h3 h4 (by rw [Lib.cell_of_heap (o _ _ i2 ⟨_,_,_,rfl⟩)];rfl) (by rw [Lib.cell_of_heap (o _ _ i3 ⟨_,_,_,rfl⟩)];rfl) (by rw [Lib.cell_of_heap (o _ _ i4 ⟨_,_,_,rfl⟩)];rfl),?_,?_⟩
 ·rw [readV_of l x y z hr];rfl
 ·exact hB.trans (belowK_b (w:=w) (Nat.le_refl _) W D _ _ hw hK rfl rfl)
set_option maxRecDepth 100000 in
theorem quoPieces0_any (A:Option Addr) (n cap:Nat) (w:World) :
  Calls Tryz.prog 171 #[.slice A n cap] w fun e w'=>e=.returned (.func (.func 199) #[] #[.pointer (some ⟨w.heap.size,0,none⟩)])∧w.alloc (.cells #[.slice A n cap] 122)=w':=by
 go_enter Tryz.func171,Tryz.ntmps171
 go_wp2
 go_ret
 exact ⟨rfl,rfl⟩
set_option maxHeartbeats 4000000 in
set_option maxRecDepth 100000 in
theorem quoRead_yes (A:Option Addr) (n cap:Nat) (l:List UInt8) (w:World) (hT:Tabs w) (hR:RdB w A n l) (hn:n≤17592186044416) (hcap:n≤cap) (h0:0<n) (hq:bt l 0=34) :
  Calls Tryz.prog 146 #[.slice A n cap] w fun e w'=>e=.returned (readV l)∧Below w.heap.size w w':=by
 have hl:=hid hR.1
 have HR:=hid hR
 have HT:=hid hT
 obtain ⟨b,off,rfl,hb,hc⟩:=hR.2 h0
 have hc0:=hc 0 h0
 rw [hq,Nat.add_zero] at hc0
 have d0:((n:Int)==0)=false:=by simp;omega
 have h1n:(1:Int)≤(n:Int):=by omega
 have hRc:=hR.cut (i:=1) (by omega) hcap
 have hs1:∀w':World,(Instr.slice 122 (.slice (some ⟨b,off,none⟩) n cap) (some (.int .i64 1)) none none).run Tryz.prog w'=.ok (.slice (cutA (some ⟨b,off,none⟩) 1 cap) (n-1) (cap-1)) w':=fun w'=>sl_cut (some ⟨b,off,none⟩) n cap 1 (by omega) w'
 have hs2:∀w':World,(Instr.sliceAt 122 (.slice (some ⟨b,off,none⟩) n cap) (some (.int .i64 1)) none none).run Tryz.prog w'=.ok (.slice (cutA (some ⟨b,off,none⟩) 1 cap) (n-1) (cap-1)) w':=fun w'=>sl_cutAt (some ⟨b,off,none⟩) n cap 1 (by omega) w'
 have hc3:=cell_al (.cells #[.int .i64 0] 27) (cell_al (.cells #[.int .i64 0] 3) (cell_al (.cells #[.string ⟨#[]⟩] 9) hc0))
 have hlm:(l.drop 1).length=n-1:=by rw [List.length_drop,hl.out]
 have hrv:=readP_yes l (by rw [hl.out];omega) hq
 generalize l.drop 1=m at hRc hlm hrv
 have HC:=hid hRc
 have HLM:=hid hlm
 have HRV:=hid hrv
 clear hR hT hc hRc hlm hrv
 refine (callsIn_wide (n:=5)).1 ?_
 refine callsIn_of_wp_marks Tryz.func146 rfl trivial ?_ rfl
 simp only [Tryz.ntmps146,List.size_toArray,List.length_cons,List.length_nil,Nat.reduceAdd,Nat.reduceSub,Array.replicate_succ,Array.replicate_zero,List.push_toArray,List.append_toArray,List.nil_append,List.cons_append]
 gi_wp2_with fail
 refine ⟨trivial,callsIn_wide.2 ((quoPieces0_any _ _ _ _).mono ?_)⟩
 rintro e w' ⟨rfl,rfl⟩
 gi_wp2
 have hB5:Below w.heap.size w ((((((w.alloc (.cells #[.string ⟨#[]⟩] 9)).alloc (.cells #[.int .i64 0] 3)).alloc (.cells #[.int .i64 0] 27)).alloc (.cells #[.pointer none,.slice none 0 0] 124)).alloc (.cells #[.int .i64 1] 3)).alloc (.cells #[.slice (cutA (some ⟨b,off,none⟩) 1 cap) (n-1) (cap-1)] 122)):=
  ((((((Below.refl _ w).alloc (Nat.le_refl _) _).alloc (by simp) _).alloc (by simp;omega) _).alloc (by simp;omega) _).alloc (by simp;omega) _).alloc (by simp;omega) _
 refine wpIn_rangeFunc_ownH rfl (by omega) (gf:=199) (lb:=#[.pointer (some ⟨w.heap.size+1+1+1+1+1,0,none⟩)]) rfl trivial (enters_of Tryz.func199 (by kernel_rfl) rfl)
  (quoPieces_in (w.heap.size+1+1+1+1+1) w.heap.size (cutA (some ⟨b,off,none⟩) 1 cap) (n-1) (cap-1) m w _ rfl HT.out HC.out (by omega) (by omega) hB5 (heap_nw _ (by simp)) 4 (by omega))
  keepsP_t (keepsP_b hB5.size) (Below.refl _ _) (fun _=>rfl) (ReadI w.heap.size w) (ReadX w.heap.size w) (readI_own (Nat.le_refl _) hB5.size) (fun c=>readX_own (Nat.le_refl _) hB5.size c) ?init
  (fun x a' W=>∃g,w.heap.size+1+1+1+1<g∧OwnP W g x.1∧a'={ tmps:=#[.slice (some ⟨b,off,none⟩) n cap,undef,.pointer (some ⟨w.heap.size,0,none⟩),.pointer (some ⟨w.heap.size+1,0,none⟩),.pointer (some ⟨w.heap.size+1+1,0,none⟩),undef,
   .pointer (some ⟨w.heap.size+1+1+1,0,none⟩),.pointer (some ⟨w.heap.size+1+1+1+1,0,none⟩),.pointer (some ⟨g,0,none⟩),.slice (some ⟨b,off,none⟩) n cap,.int .i64 n,.bool false,.bool false,.slice (some ⟨b,off,none⟩) n cap,.pointer (some ⟨b,off,none⟩),.int .u8 34,.bool false,.bool false,
   undef,undef,undef,undef,.slice (some ⟨b,off,none⟩) n cap,.slice (cutA (some ⟨b,off,none⟩) 1 cap) (n-1) (cap-1),.func (.func 199) #[] #[.pointer (some ⟨w.heap.size+1+1+1+1+1,0,none⟩)],pcVal x.1,
   undef,undef,undef,undef,undef,undef,undef,undef,undef,undef,undef,undef,undef,undef,undef,undef,undef,undef,undef,undef],defers:=[] })
  ?ax ?assign ?body ?done ?stop
 case init=>
  refine ⟨fun x hx=>absurd hx (List.not_mem_nil),?_,?_,?_,?_,?_,hB5⟩
  ·exact heap_al _ (heap_al _ (heap_al _ (heap_al _ (heap_al _ (heap_nw _ rfl)))))
  ·exact heap_al _ (heap_al _ (heap_al _ (heap_al _ (heap_nw _ (by simp)))))
  ·exact heap_al _ (heap_al _ (heap_al _ (heap_nw _ (by simp))))
  ·exact bld_fresh (heap_al _ (heap_al _ (heap_nw _ (by simp))))
  ·exact heap_al _ (heap_nw _ (by simp))
 case ax=>
  rintro x a' _ W W' row ⟨g,h1,h2,h3⟩ hg hr
  exact ⟨g,h1,grown_cells hg (fun r e=>(hr r e).2) h2,h3⟩
 case assign=>
  intro L pre x W K hi hK
  obtain ⟨i1,i2,i3,i4,i5,i6,i7⟩:=hi
  have hW:w.heap.size+1+1+1+1<W.heap.size:=(Array.getElem?_eq_some_iff.1 i6).1
  have IB:=hid i5
  unfold pcVal at hK ⊢
  have HK:=hid hK
  clear hK i5
  gi_wp2
  exact HK.out _ _ ((KeepsOthers.alloc _ _).from _) (keepsP_below ((Below.refl _ W).alloc (Nat.le_refl _) _) i7.size)
   ⟨i1,heap_al _ i2,heap_al _ i3,heap_al _ i4,bld_cells IB.out (fun k c S z h=>heap_al _ h),heap_al _ i6,i7.alloc i7.size _⟩ ⟨W.heap.size,hW,Own3.new _ W _ _ _,rfl⟩
 case body=>
  rintro L pre x a' W hL ⟨r,hr⟩ ⟨i1,i2,i3,i4,i5,i6,i7⟩ ⟨g,hg,hO,rfl⟩ hlt
  have hpl:=piecesQ_len m
  rw [HLM.out] at hpl
  have hS:=sizeQ_le pre
  have hX:=textQ_le pre
  obtain ⟨⟨pt,sz,er⟩,hx⟩:=x
  have hx1:sz≤12:=hx.1
  have hx3:=(isPt_iff (pt:Int)).1 hx.2.2
  obtain ⟨k,hk⟩:∃k,1+sizeP (valsQ pre)=k:=⟨_,rfl⟩
  rw [hk] at i6
  have hkb:k≤211106232532993:=by omega
  have HK:=hid hk
  have I1:=hid i1
  have I5:=hid i5
  have hlen4:(textP (valsQ pre)).length≤70368744177664:=by omega
  clear hS hX hpl hlt hk i1 i5
  obtain ⟨c0,c1,c2,f0,f1,f2⟩:=Own3.cells hO
  have c4:W.cell? ⟨w.heap.size+1+1+1+1,0,none⟩=some (.int .i64 (k:Int)):=by rw [Lib.cell_of_heap i6];rfl
  have f4:W.frozen? ⟨w.heap.size+1+1+1+1,0,none⟩=false:=Lib.frozen_of_heap i6 0
  have i5:=I5.out
  obtain ⟨W1,hW1⟩:∃W1,W.setCell ⟨w.heap.size+1+1+1+1,0,none⟩ (.int .i64 ((k:Int)+(sz:Int)))=W1:=⟨_,rfl⟩
  have hne:∀q,q≠w.heap.size+1+1+1+1→W1.heap[q]?=W.heap[q]?:=fun q hq=>by rw [←hW1];exact Below.heap_setCell W ⟨w.heap.size+1+1+1+1,0,none⟩ _ q (fun e=>hq e)
  have j6:W1.heap[w.heap.size+1+1+1+1]?=some (.cells #[.int .i64 ((k:Int)+(sz:Int))] 3 (0,0)):=by rw [←hW1];exact heap_setCell_self i6 _
  have j2:=(hne w.heap.size (by omega)).trans i2
  have j3:=(hne (w.heap.size+1) (by omega)).trans i3
  have j4:=(hne (w.heap.size+1+1) (by omega)).trans i4
  have jO:OwnP W1 g ⟨pt,sz,er⟩:=(hne g (by omega)).trans hO
  have hB1:Below w.heap.size w W1:=by rw [←hW1];exact i7.setCell (p:=⟨w.heap.size+1+1+1+1,0,none⟩) (by simp;omega) _
  have hK1:KeepsOthers W W1:=by rw [←hW1];exact KeepsOthers.setCell _ _ _
  have hP1:KeepsP w.heap.size W W1:=by
   refine ⟨by rw [←hW1];exact (Below.refl _ W).setCell (p:=⟨w.heap.size+1+1+1+1,0,none⟩) (by simp;omega) _,fun q c T hT hq=>?_⟩
   refine (hne q (fun e=>?_)).trans hq
   subst e;rw [i6] at hq;injection hq with hq;injection hq with _ hq _;rcases hT with rfl | rfl <;> exact absurd hq (by decide)
  have j5:Lib.IsBuilderF 124 5 (w.heap.size+1+1+1) (w.heap.size+1+1+1) (Lib.byteCells (textP (valsQ pre))) W1:=
   bld_kept i5 (fun q c S z hS hq=>(hne q (fun e=>by subst e;rw [i6] at hq;injection hq with hq;injection hq with _ hq _;rcases hS with rfl | rfl <;> exact absurd hq (by decide))).trans hq)
  have J2:=hid j2
  have J3:=hid j3
  have J4:=hid j4
  have J5:=hid j5
  have J6:=hid j6
  have JO:=hid jO
  have HW1:=hid hW1
  have d2:W1.cell? ⟨w.heap.size,0,none⟩=some (.string ⟨#[]⟩):=by rw [Lib.cell_of_heap j2];rfl
  have d3:W1.cell? ⟨w.heap.size+1,0,none⟩=some (.int .i64 0):=by rw [Lib.cell_of_heap j3];rfl
  have d4:W1.cell? ⟨w.heap.size+1+1,0,none⟩=some (.int .i64 0):=by rw [Lib.cell_of_heap j4];rfl
  have d6:W1.cell? ⟨w.heap.size+1+1+1+1,0,none⟩=some (.int .i64 ((k:Int)+(sz:Int))):=by rw [Lib.cell_of_heap j6];rfl
  obtain ⟨e0,e1,e2,_,_,_⟩:=Own3.cells jO
  have g2:W1.frozen? ⟨w.heap.size,0,none⟩=false:=Lib.frozen_of_heap j2 0
  have g3:W1.frozen? ⟨w.heap.size+1,0,none⟩=false:=Lib.frozen_of_heap j3 0
  have g4:W1.frozen? ⟨w.heap.size+1+1,0,none⟩=false:=Lib.frozen_of_heap j4 0
  clear hne j2 j3 j4 j5 j6 jO i2 i3 i4 i5 i6 hO
  have htx:=textP_snoc (valsQ pre) ⟨pt,sz,er⟩
  have hsx:=sizeP_snoc (valsQ pre) ⟨pt,sz,er⟩
  have hvs:=valsQ_snoc pre ⟨⟨pt,sz,er⟩,hx⟩
  have HTX:=hid htx
  have HSX:=hid hsx
  have HVS:=hid hvs
  clear htx hsx hvs
  by_cases he:er=0
  ·have hd:((er:Int) != 0)=false:=by rw [he];rfl
   have HE:=hid he
   clear he
   have h1x:∀x∈pre++[⟨⟨pt,sz,er⟩,hx⟩],x.1.err=0:=fun x hxm=>(List.mem_append.1 hxm).elim (I1.out x) (fun h=>by rw [List.mem_singleton.1 h];exact HE.out)
   have H1X:=hid h1x
   clear h1x
   by_cases hs:0<sz
   ·have hsd:decide ((0:Int)<(sz:Int))=true:=decide_eq_true (by omega)
    have hlb:(Lib.byteCells (textP (valsQ pre))).length=(textP (valsQ pre)).length:=by simp [Lib.byteCells]
    have hblk:=bld_block J5.out
    have HBK:=hid hblk
    have HLB:=hid hlb
    clear hblk hlb
    have HS:=hid hs
    clear hs
    gi_wp2_with fail
    refine ⟨trivial,(CallsIn.inRound L (callsIn_wide.2 (bld_writeRune (w.heap.size+1+1+1) (w.heap.size+1+1+1) _ (pt:Int) (by omega) (by omega) W1 J5.out (by rw [HLB.out];omega) (by have:=(Array.getElem?_eq_some_iff.1 J6.out).1;omega)))).mono ?_⟩
    rintro e W2 ⟨rfl,hbl,hb2,ho2⟩
    gi_wp2
    obtain ⟨c,z,hbk⟩:=HBK.out
    refine ⟨(hK1.trans (others_others ho2 hb2.size hbk)).from _,keepsP_t hP1 (others_keepsP ho2 hb2 (by omega) hbk),⟨H1X.out,others_keep ho2 (by decide) (by omega) J2.out,others_keep ho2 (by decide) (by omega) J3.out,others_keep ho2 (by decide) (by omega) J4.out,?_,?_,hB1.trans (hb2.mono (by omega))⟩⟩
    ·rw [HVS.out,HTX.out,if_pos HS.out]
     refine .inr ?_
     rw [runeCells_enc _ hx.2.2] at hbl
     simpa [Lib.byteCells] using hbl
    ·rw [HVS.out,HSX.out,←Nat.add_assoc,HK.out]
     exact others_keep ho2 (by decide) (by omega) J6.out
   ·have hsd:decide ((0:Int)<(sz:Int))=false:=decide_eq_false (by omega)
    have HS:=hid hs
    clear hs
    gi_wp2
    refine ⟨hK1.from _,hP1,⟨H1X.out,J2.out,J3.out,J4.out,?_,?_,hB1⟩⟩
    ·rw [HVS.out,HTX.out,if_neg HS.out,List.append_nil];exact J5.out
    ·rw [HVS.out,HSX.out,←Nat.add_assoc,HK.out];exact J6.out
  ·have hd:((er:Int) != 0)=true:=by simp;omega
   have HE:=hid he
   clear he
   gi_wp2
   clear hW1
   have hmx:Tryz.prog.follows .mixedOrders=true:=by kernel_rfl
   have hres:=put3_heap J2.out J3.out J4.out (.string ⟨#[]⟩) (.int .i64 ((k:Int)+(sz:Int))) (.int .i64 (er:Int))
   have hfin:KeepsFrom ((((((w.alloc (.cells #[.string ⟨#[]⟩] 9)).alloc (.cells #[.int .i64 0] 3)).alloc (.cells #[.int .i64 0] 27)).alloc (.cells #[.pointer none,.slice none 0 0] 124)).alloc (.cells #[.int .i64 1] 3)).alloc (.cells #[.slice (cutA (some ⟨b,off,none⟩) 1 cap) (n-1) (cap-1)] 122)).heap.size W
     (((W1.setCell ⟨w.heap.size,0,none⟩ (.string ⟨#[]⟩)).setCell ⟨w.heap.size+1,0,none⟩ (.int .i64 ((k:Int)+(sz:Int)))).setCell ⟨w.heap.size+1+1,0,none⟩ (.int .i64 (er:Int))).drew ∧
     ReadX w.heap.size w .ret (pre++[⟨⟨pt,sz,er⟩,hx⟩]) (((W1.setCell ⟨w.heap.size,0,none⟩ (.string ⟨#[]⟩)).setCell ⟨w.heap.size+1,0,none⟩ (.int .i64 ((k:Int)+(sz:Int)))).setCell ⟨w.heap.size+1+1,0,none⟩ (.int .i64 (er:Int))).drew:=by
    refine ⟨((((hK1.trans (KeepsOthers.setCell _ _ _)).trans (KeepsOthers.setCell _ _ _)).trans (KeepsOthers.setCell _ _ _)).trans (KeepsOthers.drew _)).from _,rfl,⟨pre,_,rfl,I1.out,HE.out,hres.1,?_,hres.2.2⟩,?_⟩
    ·rw [HVS.out,HSX.out,←Nat.add_assoc,HK.out];exact hres.2.1
    ·exact (((hB1.setCell (p:=⟨w.heap.size,0,none⟩) (Nat.le_refl _) _).setCell (p:=⟨w.heap.size+1,0,none⟩) (by simp) _).setCell (p:=⟨w.heap.size+1+1,0,none⟩) (by simp;omega) _).drew
   have FIN:=hid hfin
   clear hfin hres
   gi_region_with_o (fail)
   all_goals gi_wp2
   all_goals (try go_bits)
   all_goals exact FIN.out
 case done=>
  rintro D ys W hD rfl ⟨i1,i2,i3,i4,i5,i6,i7⟩ hK
  have I1:=hid i1
  have I5:=hid i5
  obtain ⟨k,hk⟩:∃k,1+sizeP (valsQ (piecesQ m))=k:=⟨_,rfl⟩
  rw [hk] at i6
  have hpl:=piecesQ_len m
  rw [HLM.out] at hpl
  have hS:=sizeQ_le (piecesQ m)
  have hkb:k≤211106232532993:=by omega
  have HK:=hid hk
  clear hk hpl hS i1 i5
  have c6:W.cell? ⟨w.heap.size+1+1+1+1,0,none⟩=some (.int .i64 (k:Int)):=by rw [Lib.cell_of_heap i6];rfl
  have hmx:Tryz.prog.follows .mixedOrders=true:=by kernel_rfl
  have hws:w.heap.size+1+1+1≤W.heap.size:=by have:=(Array.getElem?_eq_some_iff.1 i6).1;omega
  have hwr:IntKind.i64.wrap ((k:Int)+1)=(k:Int)+1:=IntWalk.i64_in _ (by omega)
  gi_wp2
  have I5d:Hid (Lib.IsBuilderF 124 5 (w.heap.size+1+1+1) (w.heap.size+1+1+1) (Lib.byteCells (textP (valsQ (piecesQ m)))) W.drew):=hid I5.out
  have KS:=hid (keep4 (W:=W.drew) i2 i3 i4 i6)
  first | (gi_region_with_o (refine ⟨trivial,?_⟩;gi_at_call 115;refine (callsIn_wide.2 (Tryz.Builder_String_any_k (w.heap.size+1+1+1) (w.heap.size+1+1+1) _ _ I5d.out hws)).mono ?_;rintro e w2 ⟨rfl,_,b1,o1⟩;obtain ⟨d2,d3,d4,d6,g2,g3,g4⟩:=KS.out w2 o1)) | fail
  all_goals gi_wp2
  all_goals
   have j2:=others_keep o1 (by decide) (by omega) i2
   have j3:=others_keep o1 (by decide) (by omega) i3
   have j4:=others_keep o1 (by decide) (by omega) i4
   have hr:=put3_heap j2 j3 j4 (.string ⟨(textP (valsQ (piecesQ m))).toArray⟩) (.int .i64 ((k:Int)+1)) (.int .i64 0)
   have hKD:w2.heap[D]?=some (.deferred (some [])):=o1 D _ hK (fun e=>by injection e with e;simp at hD;omega) (fun _ _ e=>by cases e)
   refine read_end (x:=textP (valsQ (piecesQ m))) (y:=k+1) (z:=0) rfl rfl rfl hr.1 hr.2.1 hr.2.2 (((((KeepsOthers.setCell _ _ _).trans (KeepsOthers.setCell _ _ _)).trans (KeepsOthers.setCell _ _ _))).same D _ hKD rfl) (by simp at hD;omega) ?_ ?_
   ·exact ((((i7.drew).trans (b1.mono (by omega))).setCell (p:=⟨w.heap.size,0,none⟩) (Nat.le_refl _) _).setCell (p:=⟨w.heap.size+1,0,none⟩) (by simp) _).setCell (p:=⟨w.heap.size+1+1,0,none⟩) (by simp;omega) _
   ·have hno:errP (piecesP m)=0:=by
     refine errP_none _ (fun p hp=>?_)
     rw [←valsQ_all] at hp
     obtain ⟨q,hq,rfl⟩:=List.mem_map.1 hp
     exact I1.out q hq
    rw [HRV.out,if_neg (fun h=>h hno),valsQ_all,←HK.out,valsQ_all,show 1+sizeP (piecesP m)+1=2+sizeP (piecesP m) by omega]
 case stop=>
  rintro D c pre W hD hpf ⟨rfl,⟨q,p,rfl,hq0,hp0,i2,i3,i4⟩,i7⟩ hK
  have hps:=piecesQ_stop m q p hpf hp0
  have HPS:=hid hps
  have HQ:=hid hq0
  have HP0:=hid hp0
  clear hps hq0 hp0 hpf
  gi_wp2
  refine read_end (x:=[]) (y:=1+sizeP (valsQ (q++[p]))) (z:=p.1.err) rfl rfl rfl i2 i3 i4 hK (by simp at hD;omega) i7 ?_
  have he:errP (piecesP m)=p.1.err:=by
   rw [HPS.out,valsQ_snoc]
   refine errP_snoc _ _ (fun x hx=>?_) HP0.out
   obtain ⟨y,hy,rfl⟩:=List.mem_map.1 hx
   exact HQ.out y hy
  rw [HRV.out,he,if_pos HP0.out,HPS.out]
end Go.Proofs.YtmbeicndhigklaaGreatDoor
namespace Go.Proofs.YtmbeicndhigklaaGreatDoor
open Lib (hid)
open Go.RowKit Go.Shelf
theorem readP_no (l:List UInt8) (h:l.length=0∨bt l 0≠34):readP l=([],0,(faultP l 0).err):=by unfold readP;rw [if_pos h]
theorem res3 {w w1:World} (h:Below (((w.alloc (.cells #[.string ⟨#[]⟩] 9)).alloc (.cells #[.int .i64 0] 3)).alloc (.cells #[.int .i64 0] 27)).heap.size (((w.alloc (.cells #[.string ⟨#[]⟩] 9)).alloc (.cells #[.int .i64 0] 3)).alloc (.cells #[.int .i64 0] 27)) w1) :
  w1.heap[w.heap.size]?=some (.cells #[.string ⟨#[]⟩] 9 (0,0))∧w1.heap[w.heap.size+1]?=some (.cells #[.int .i64 0] 3 (0,0))∧w1.heap[w.heap.size+1+1]?=some (.cells #[.int .i64 0] 27 (0,0))∧w.heap.size+1+1<w1.heap.size:=by
 have hs:=h.size
 simp only [World.size_alloc] at hs
 refine ⟨(h.block _ (by simp;omega)).trans (heap_al _ (heap_al _ (heap_nw _ rfl))),(h.block _ (by simp)).trans (heap_al _ (heap_nw _ (by simp))),(h.block _ (by simp)).trans (heap_nw _ (by simp)),by omega⟩
set_option maxHeartbeats 4000000 in
set_option maxRecDepth 100000 in
theorem quoRead_no (A:Option Addr) (n cap:Nat) (l:List UInt8) (w:World) (hR:RdB w A n l) (hn:n≤17592186044416) (hq:n=0∨bt l 0≠34) :
  Calls Tryz.prog 146 #[.slice A n cap] w fun e w'=>e=.returned (readV l)∧Below w.heap.size w w':=by
 have hl:=hid hR.1
 have HR:=hid hR
 have hrv:=readV_of l _ _ _ (readP_no l (by rw [hl.out];exact hq))
 have HRV:=hid hrv
 have k3:=fun (w':World) (hw:RdB w' A n l)=>quoFault_any _ n cap _ 0 w' hw hn (Nat.zero_le _)
 have K3:=hid k3
 have hB3:Below w.heap.size w (((w.alloc (.cells #[.string ⟨#[]⟩] 9)).alloc (.cells #[.int .i64 0] 3)).alloc (.cells #[.int .i64 0] 27)):=
  (((Below.refl _ w).alloc (Nat.le_refl _) _).alloc (by simp) _).alloc (by simp;omega) _
 clear k3 hrv
 generalize faultP l 0=p at K3 HRV
 by_cases h0:n=0
 ·subst h0
  clear hn hq hR
  go_enter Tryz.func146,Tryz.ntmps146
  go_wp2_with (go_at_call 170;refine (K3.out _ (HR.out.below hB3)).mono ?_)
  rintro e w1 ⟨rfl,hb1⟩
  obtain ⟨j2,j3,j4,hz⟩:=res3 hb1
  unfold pcVal
  obtain ⟨W2,hW2⟩:∃W2,w1.alloc (.cells #[.int .i64 (p.point:Int),.int .i64 (p.size:Int),.int .i64 (p.err:Int)] 183)=W2:=⟨_,rfl⟩
  have j2:W2.heap[w.heap.size]?=some (.cells #[.string ⟨#[]⟩] 9 (0,0)):=by rw [←hW2];exact heap_al _ j2
  have j3:W2.heap[w.heap.size+1]?=some (.cells #[.int .i64 0] 3 (0,0)):=by rw [←hW2];exact heap_al _ j3
  have j4:W2.heap[w.heap.size+1+1]?=some (.cells #[.int .i64 0] 27 (0,0)):=by rw [←hW2];exact heap_al _ j4
  have jp:OwnP W2 w1.heap.size p:=by rw [←hW2];exact Own3.new _ w1 _ _ _
  have hB2:Below w.heap.size w W2:=by rw [←hW2];exact (hB3.trans (hb1.mono hB3.size)).alloc (by omega) _
  obtain ⟨_,_,e2,_,_,_⟩:=Own3.cells jp
  have J2:=hid j2
  have J3:=hid j3
  have J4:=hid j4
  have HB2:=hid hB2
  have d2:W2.cell? ⟨w.heap.size,0,none⟩=some (.string ⟨#[]⟩):=by rw [Lib.cell_of_heap j2];rfl
  have d3:W2.cell? ⟨w.heap.size+1,0,none⟩=some (.int .i64 0):=by rw [Lib.cell_of_heap j3];rfl
  have d4:W2.cell? ⟨w.heap.size+1+1,0,none⟩=some (.int .i64 0):=by rw [Lib.cell_of_heap j4];rfl
  have g2:W2.frozen? ⟨w.heap.size,0,none⟩=false:=Lib.frozen_of_heap j2 0
  have g3:W2.frozen? ⟨w.heap.size+1,0,none⟩=false:=Lib.frozen_of_heap j3 0
  have g4:W2.frozen? ⟨w.heap.size+1+1,0,none⟩=false:=Lib.frozen_of_heap j4 0
  clear j2 j3 j4 jp hB2
  go_wp2
  clear hW2
  go_region
  all_goals go_wp2
  all_goals
   have hr:=put3_heap J2.out J3.out J4.out (.string ⟨#[]⟩) (.int .i64 0) (.int .i64 (p.err:Int))
   refine bodyPost_ret (read_results rfl rfl rfl (x:=.string ⟨#[]⟩) (y:=.int .i64 0) (z:=.int .i64 (p.err:Int)) ((Lib.cell_of_heap (w:=World.drew _) hr.1 0).trans rfl) ((Lib.cell_of_heap (w:=World.drew _) hr.2.1 0).trans rfl) ((Lib.cell_of_heap (w:=World.drew _) hr.2.2 0).trans rfl)) rfl ⟨by rw [HRV.out];rfl,?_⟩
   exact (((HB2.out.setCell (p:=⟨w.heap.size,0,none⟩) (Nat.le_refl _) _).setCell (p:=⟨w.heap.size+1,0,none⟩) (by simp) _).setCell (p:=⟨w.heap.size+1+1,0,none⟩) (by simp;omega) _).drew
 ·have h0':0<n:=by omega
  have hq':bt l 0≠34:=hq.resolve_left h0
  obtain ⟨b,off,rfl,hb,hc⟩:=hR.2 h0'
  have hc0:=hc 0 h0'
  rw [Nat.add_zero] at hc0
  have hx:=bt_lt l 0
  generalize bt l 0=c at hc0 hq' hx
  have d0:((n:Int)==0)=false:=by simp;omega
  have d1:((c:Int) != 34)=true:=by simp;omega
  have hc3:=cell_al (.cells #[.int .i64 0] 27) (cell_al (.cells #[.int .i64 0] 3) (cell_al (.cells #[.string ⟨#[]⟩] 9) hc0))
  clear hn hq hR hc hq' h0
  go_enter Tryz.func146,Tryz.ntmps146
  go_wp2_with (go_at_call 170;refine (K3.out _ (HR.out.below hB3)).mono ?_)
  rintro e w1 ⟨rfl,hb1⟩
  obtain ⟨j2,j3,j4,hz⟩:=res3 hb1
  unfold pcVal
  obtain ⟨W2,hW2⟩:∃W2,w1.alloc (.cells #[.int .i64 (p.point:Int),.int .i64 (p.size:Int),.int .i64 (p.err:Int)] 183)=W2:=⟨_,rfl⟩
  have j2:W2.heap[w.heap.size]?=some (.cells #[.string ⟨#[]⟩] 9 (0,0)):=by rw [←hW2];exact heap_al _ j2
  have j3:W2.heap[w.heap.size+1]?=some (.cells #[.int .i64 0] 3 (0,0)):=by rw [←hW2];exact heap_al _ j3
  have j4:W2.heap[w.heap.size+1+1]?=some (.cells #[.int .i64 0] 27 (0,0)):=by rw [←hW2];exact heap_al _ j4
  have jp:OwnP W2 w1.heap.size p:=by rw [←hW2];exact Own3.new _ w1 _ _ _
  have hB2:Below w.heap.size w W2:=by rw [←hW2];exact (hB3.trans (hb1.mono hB3.size)).alloc (by omega) _
  obtain ⟨_,_,e2,_,_,_⟩:=Own3.cells jp
  have J2:=hid j2
  have J3:=hid j3
  have J4:=hid j4
  have HB2:=hid hB2
  have d2:W2.cell? ⟨w.heap.size,0,none⟩=some (.string ⟨#[]⟩):=by rw [Lib.cell_of_heap j2];rfl
  have d3:W2.cell? ⟨w.heap.size+1,0,none⟩=some (.int .i64 0):=by rw [Lib.cell_of_heap j3];rfl
  have d4:W2.cell? ⟨w.heap.size+1+1,0,none⟩=some (.int .i64 0):=by rw [Lib.cell_of_heap j4];rfl
  have g2:W2.frozen? ⟨w.heap.size,0,none⟩=false:=Lib.frozen_of_heap j2 0
  have g3:W2.frozen? ⟨w.heap.size+1,0,none⟩=false:=Lib.frozen_of_heap j3 0
  have g4:W2.frozen? ⟨w.heap.size+1+1,0,none⟩=false:=Lib.frozen_of_heap j4 0
  clear j2 j3 j4 jp hB2
  go_wp2
  clear hW2
  go_region
  all_goals go_wp2
  all_goals
   have hr:=put3_heap J2.out J3.out J4.out (.string ⟨#[]⟩) (.int .i64 0) (.int .i64 (p.err:Int))
   refine bodyPost_ret (read_results rfl rfl rfl (x:=.string ⟨#[]⟩) (y:=.int .i64 0) (z:=.int .i64 (p.err:Int)) ((Lib.cell_of_heap (w:=World.drew _) hr.1 0).trans rfl) ((Lib.cell_of_heap (w:=World.drew _) hr.2.1 0).trans rfl) ((Lib.cell_of_heap (w:=World.drew _) hr.2.2 0).trans rfl)) rfl ⟨by rw [HRV.out];rfl,?_⟩
   exact (((HB2.out.setCell (p:=⟨w.heap.size,0,none⟩) (Nat.le_refl _) _).setCell (p:=⟨w.heap.size+1,0,none⟩) (by simp) _).setCell (p:=⟨w.heap.size+1+1,0,none⟩) (by simp;omega) _).drew
theorem quoRead_any (A:Option Addr) (n cap:Nat) (l:List UInt8) (w:World) (hT:Tabs w) (hR:RdB w A n l) (hn:n≤17592186044416) (hcap:n≤cap) :
  Calls Tryz.prog 146 #[.slice A n cap] w fun e w'=>e=.returned (readV l)∧Below w.heap.size w w':=by
 by_cases h:n=0∨bt l 0≠34
 ·exact quoRead_no A n cap l w hR hn h
 ·exact quoRead_yes A n cap l w hT hR hn hcap (by omega) (by omega)
end Go.Proofs.YtmbeicndhigklaaGreatDoor
