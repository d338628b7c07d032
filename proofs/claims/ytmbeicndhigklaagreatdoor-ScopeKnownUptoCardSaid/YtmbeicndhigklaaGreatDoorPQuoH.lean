/-
The walk of quote's next (chapter 5): a piece.
-/
import Derived.Test.YtmbeicndhigklaaGreatDoorPQuoVh
import Derived.RangeFuncNested
import Derived.RangeFuncBound
import Derived.RangeFuncCalls
import Derived.RangeFuncLeaves
import Derived.Shelf.Abstract
import Derived.Shelf.RegionOpen
import Derived.WalkKit
import Derived.OwnWalkIn
import Derived.TacticsInMore
import Derived.LoopNIn
import Derived.LoopIn
import Derived.Test.YtmbeicndhigklaaGreatDoorPUtfC
namespace Go.Proofs.YtmbeicndhigklaaGreatDoor
open Lib (hid)
open Go.RowKit
theorem nextP_eq (l:List UInt8):nextP l=if l.length=0 then faultP l 0
 else if bt l 0=34 then ⟨0,0,0⟩
 else if bt l 0=92 then escapedP l
 else if bt l 0<32 then faultP l 0
 else if decOk (l.take 4) then ⟨(dec (l.take 4)).1,(dec (l.take 4)).2,0⟩
 else if beginsP l then faultP l l.length
 else faultP l 0:=rfl
set_option maxHeartbeats 4000000 in
set_option maxRecDepth 100000 in
theorem quoNext_any (A:Option Addr) (n cap:Nat) (l:List UInt8) (w:World) (hT:Tabs w) (hR:RdB w A n l) (hn:n≤17592186044416) (hcap:n≤cap) :
  Calls Tryz.prog 200 #[.slice A n cap] w fun e w'=>e=.returned (pcVal (nextP l))∧Below w.heap.size w w':=by
 have hl:=hid hR.1
 have HR:=hid hR
 have HT:=hid hT
 have hb1:Below w.heap.size w (w.alloc (.cells #[.int .i64 0,.int .i64 0,.int .i64 0] 183)):=(Below.refl _ w).alloc (Nat.le_refl _) _
 have k3:=fun (m:Nat) (w':World) (hw:RdB w' A n l) (hm:m≤n)=>quoFault_any _ n cap _ m w' hw hn hm
 have K3:=hid k3
 clear k3
 have hep:=nextP_eq l
 rw [hl.out] at hep
 have HP:=hid hep
 clear hep
 generalize nextP l=V at HP ⊢
 by_cases h0:n=0
 ·rw [if_pos h0] at HP
  subst h0
  clear hR hT hn hcap
  go_enter Tryz.func200,Tryz.ntmps200
  go_wp2_with (go_at_call 170;refine (K3.out 0 _ (HR.out.below hb1) (by omega)).mono ?_)
  rintro e w2 ⟨rfl,hb2⟩
  rw [←HP.out]
  unfold pcVal
  have O:=hid ((Own3.new 183 w (.int .i64 0) (.int .i64 0) (.int .i64 0)).below hb2)
  obtain ⟨c0,c1,c2,f0,f1,f2⟩:=O.out.cells
  go_wp2
  exact ret_piece rfl (OwnP.put O.out V) rfl rfl ⟨rfl,below_put3 (below_new hb2) (Nat.le_refl _) _ _ _⟩
 rw [if_neg h0] at HP
 have h1:0<n:=by omega
 have k4:=fun (w':World) (hw:RdB w' A n l)=>quoEscaped_any _ n cap _ w' hw hn hcap h1
 have K4:=hid k4
 clear k4
 obtain ⟨b,off,rfl,hb,hc⟩:=hR.2 h1
 have hc0:=hc 0 h1
 rw [Nat.add_zero] at hc0
 have hx:=bt_lt l 0
 generalize hC:bt l 0=c at HP hc0 hx
 clear hC hc
 have d0:((n:Int)==0)=false:=by simp;omega
 by_cases q1:c=34
 ·rw [if_pos q1] at HP
  subst q1
  clear hn hcap hR hT
  go_enter Tryz.func200,Tryz.ntmps200
  go_wp2
  exact ret_piece rfl (OwnP.mk' ⟨0,0,0⟩ rfl rfl rfl) rfl rfl ⟨by rw [HP.out],(Below.refl _ w).alloc (Nat.le_refl _) _⟩
 rw [if_neg q1] at HP
 have d1:((c:Int)==34)=false:=eq_false_of (k:=34) q1
 by_cases q2:c=92
 ·rw [if_pos q2] at HP
  subst q2
  clear hn hcap hR hT q1
  go_enter Tryz.func200,Tryz.ntmps200
  go_wp2_with (go_at_call 223;refine (K4.out _ (HR.out.below hb1)).mono ?_)
  rintro e w2 ⟨rfl,hb2⟩
  rw [←HP.out]
  unfold pcVal
  have O:=hid ((Own3.new 183 w (.int .i64 0) (.int .i64 0) (.int .i64 0)).below hb2)
  obtain ⟨c0,c1,c2,f0,f1,f2⟩:=O.out.cells
  go_wp2
  exact ret_piece rfl (OwnP.put O.out V) rfl rfl ⟨rfl,below_put3 (below_new hb2) (Nat.le_refl _) _ _ _⟩
 rw [if_neg q2] at HP
 have d2:((c:Int)==92)=false:=eq_false_of (k:=92) q2
 clear q1 q2
 by_cases q3:c<32
 ·rw [if_pos q3] at HP
  have d3:decide ((c:Int)<32)=true:=decide_eq_true (by omega)
  clear hn hcap hR hT
  go_enter Tryz.func200,Tryz.ntmps200
  go_wp2_with (go_at_call 170;refine (K3.out 0 _ (HR.out.below hb1) (by omega)).mono ?_)
  rintro e w2 ⟨rfl,hb2⟩
  rw [←HP.out]
  unfold pcVal
  have O:=hid ((Own3.new 183 w (.int .i64 0) (.int .i64 0) (.int .i64 0)).below hb2)
  obtain ⟨c0,c1,c2,f0,f1,f2⟩:=O.out.cells
  go_wp2
  exact ret_piece rfl (OwnP.put O.out V) rfl rfl ⟨rfl,below_put3 (below_new hb2) (Nat.le_refl _) _ _ _⟩
 rw [if_neg q3] at HP
 have d3:decide ((c:Int)<32)=false:=decide_eq_false (by omega)
 clear q3
 have k5:=fun (w':World) (ht:Tabs w') (hw:RdB w' (some ⟨b,off,none⟩) n l)=>quoBegins_any _ n cap _ w' ht hw h1 hn
 have K5:=hid k5
 clear k5
 have hdv:decVal (l.take 4)=.tuple #[.int .i64 ((dec (l.take 4)).1:Int),.int .i64 ((dec (l.take 4)).2:Int),.bool (decOk (l.take 4))]:=rfl
 have k6:=fun (w':World) (ht:Tabs w')=>utfDecode_any ⟨(l.take 4).toArray⟩ w' ht
 rw [show (⟨(l.take 4).toArray⟩:ByteArray).data.toList=l.take 4 from rfl,hdv] at k6
 clear hdv
 have K6:=hid k6
 clear k6
 have HT4:=hid (hR.take (m:=min 4 n) (Nat.min_le_right _ _))
 have ht4:l.take (min 4 n)=l.take 4:=by
  by_cases h:4≤n
  ·rw [Nat.min_eq_left h]
  ·rw [Nat.min_eq_right (by omega),List.take_of_length_le (by rw [hl.out];exact Nat.le_refl _),List.take_of_length_le (by rw [hl.out];omega)]
 rw [ht4] at HT4
 clear ht4
 have hcv:=fun (w':World) (hw:RdB w' (some ⟨b,off,none⟩) (min 4 n) (l.take 4))=>hw.conv (cap:=cap) Tryz.underlying122 Tryz.underlying5 Tryz.underlying9 (by omega)
 have hcv1:=hcv _ (HT4.out.below hb1)
 clear hcv hn hR hT
 have hmin:min (4:Int) (n:Int)=((min 4 n:Nat):Int):=by omega
 go_enter Tryz.func200,Tryz.ntmps200
 generalize dec (l.take 4)=D at K6 HP
 generalize decOk (l.take 4)=Q at K6 HP
 generalize beginsP l=G at K5 HP
 obtain ⟨p,q⟩:=D
 simp only [] at K6 HP
 clear h0
 go_wp2_with fail
 refine (K6.out _ (HT.out.below hb1 (Nat.le_refl _))).mono ?_
 rintro e w3 ⟨rfl,hb3⟩
 have hB3:Below w.heap.size w w3:=below_new hb3
 cases Q with
 | true=>
  rw [if_pos rfl] at HP
  have O:=hid ((Own3.new 183 w (.int .i64 0) (.int .i64 0) (.int .i64 0)).below hb3)
  obtain ⟨c0,c1,c2,f0,f1,f2⟩:=O.out.cells
  go_wp2
  exact ret_piece rfl (OwnP.put O.out ⟨p,q,0⟩) rfl rfl ⟨by rw [HP.out],below_put3 hB3 (Nat.le_refl _) _ _ _⟩
 | false=>
  rw [if_neg (by decide)] at HP
  go_wp2_with (go_at_call 224;refine (K5.out _ (HT.out.below hB3 (Nat.le_refl _)) (HR.out.below hB3)).mono ?_)
  rintro e w4 ⟨rfl,hb4⟩
  have hb34:=hb3.trans (hb4.mono hb3.size)
  clear hb3 hb4 hB3
  have hb3:=hb34
  clear hb34
  have hB3:Below w.heap.size w w4:=below_new hb3
  cases G with
  | true=>
   rw [if_pos rfl] at HP
   go_wp2_with (go_at_call 170;refine (K3.out n _ (HR.out.below hB3) (Nat.le_refl _)).mono ?_)
   rintro e w2 ⟨rfl,hb2⟩
   rw [←HP.out]
   unfold pcVal
   have O:=hid (((Own3.new 183 w (.int .i64 0) (.int .i64 0) (.int .i64 0)).below hb3).below hb2)
   obtain ⟨c0,c1,c2,f0,f1,f2⟩:=O.out.cells
   go_wp2
   exact ret_piece rfl (OwnP.put O.out V) rfl rfl ⟨rfl,below_put3 (below_new (hb3.trans (hb2.mono hb3.size))) (Nat.le_refl _) _ _ _⟩
  | false=>
   rw [if_neg (by decide)] at HP
   go_wp2_with (go_at_call 170;refine (K3.out 0 _ (HR.out.below hB3) (Nat.zero_le _)).mono ?_)
   rintro e w2 ⟨rfl,hb2⟩
   rw [←HP.out]
   unfold pcVal
   have O:=hid (((Own3.new 183 w (.int .i64 0) (.int .i64 0) (.int .i64 0)).below hb3).below hb2)
   obtain ⟨c0,c1,c2,f0,f1,f2⟩:=O.out.cells
   go_wp2
   exact ret_piece rfl (OwnP.put O.out V) rfl rfl ⟨rfl,below_put3 (below_new (hb3.trans (hb2.mono hb3.size))) (Nat.le_refl _) _ _ _⟩
end Go.Proofs.YtmbeicndhigklaaGreatDoor
namespace Go.Proofs.YtmbeicndhigklaaGreatDoor
open Lib (hid)
open Go.RowKit Go.Shelf
attribute [local go_sem] Oper.semAt_some
theorem piecesQ_last (l:List UInt8) (h:lastP (nextP l)):piecesQ l=[⟨nextP l,nextP_ok l⟩]:=by
 refine (List.map_inj_right (f:=fun x:Pq=>x.1) (fun _ _ h=>Subtype.ext h)).1 ?_
 show (piecesQ l).map (·.1) = _
 rw [piecesQ_val,piecesP_last l h];rfl
theorem piecesQ_cons (l:List UInt8) (h:¬lastP (nextP l)):piecesQ l=⟨nextP l,nextP_ok l⟩::piecesQ (l.drop (nextP l).size):=by
 refine (List.map_inj_right (f:=fun x:Pq=>x.1) (fun _ _ h=>Subtype.ext h)).1 ?_
 show (piecesQ l).map (·.1) = _
 rw [piecesQ_val,piecesP_cons l h,←piecesQ_val];rfl
theorem piecesQ_len (l:List UInt8):(piecesQ l).length≤l.length+1:=by
 have:=piecesP_len l.length l (Nat.le_refl _)
 rw [←piecesQ_val,List.length_map] at this
 exact this
def KeepsP (n₀:Nat) (W W':World):Prop:=Below n₀ W W'∧∀(b:Nat) (c:Array Value) (T:TypeId),(T=183∨T=122)→W.heap[b]?=some (Obj.cells c T (0,0))→W'.heap[b]?=some (Obj.cells c T (0,0))
theorem keepsP_t {n₀:Nat} {A B C:World} (h:KeepsP n₀ A B) (k:KeepsP n₀ B C):KeepsP n₀ A C:=⟨h.1.trans k.1,fun b c T ht hb=>k.2 b c T ht (h.2 b c T ht hb)⟩
theorem keepsP_b {n₀:Nat} {w:World} (hn:n₀≤w.heap.size) (W:World) (l:Nat) (o o':Obj) (hl:w.heap.size≤l) (h:W.heap[l]?=some o) (hc:o.isCells=false) (hw:o.isWalk=false):KeepsP n₀ W (W.putObj l o'):=by
 refine ⟨belowK_b hn W l o o' hl h hc hw,fun b c T _ hb=>?_⟩
 by_cases e:b=l
 ·subst e;rw [h] at hb;injection hb with hb;subst hb;cases hc
 ·exact (World.putObj_heap_other e).trans hb
theorem keepsP_below {n₀:Nat} {W W':World} (h:Below W.heap.size W W') (hn:n₀≤W.heap.size):KeepsP n₀ W W':=
 ⟨h.mono hn,fun b _ _ _ hb=>(h.block b (Array.getElem?_eq_some_iff.1 hb).1).trans hb⟩
set_option maxRecDepth 100000 in
theorem sl_cut (A:Option Addr) (n cap k:Nat) (hk:k≤n) (w:World) :
  (Instr.slice 122 (.slice A n cap) (some (.int .i64 (k:Int))) none none).run Tryz.prog w=.ok (.slice (cutA A k cap) (n-k) (cap-k)) w:=by
 rw [run_slice_l (P:=Tryz.prog) w 122 A n cap Tryz.underlying122 .i64 (k:Int) (by omega) (by omega)]
 rw [show (sizeOf (Tryz.prog.elem 122)).run Tryz.prog w=.ok 1 w by kernel_rfl]
 simp [Result.andThen,sliced,cutA]
set_option maxRecDepth 100000 in
theorem sl_cutAt (A:Option Addr) (n cap k:Nat) (hk:k≤n) (w:World) :
  (Instr.sliceAt 122 (.slice A n cap) (some (.int .i64 (k:Int))) none none).run Tryz.prog w=.ok (.slice (cutA A k cap) (n-k) (cap-k)) w:=by
 rw [run_sliceAt_slice (P:=Tryz.prog) _ _ _ _ _ _ Tryz.underlying122]
 exact sl_cut A n cap k hk w
set_option maxHeartbeats 2000000 in
set_option maxRecDepth 100000 in
theorem quoPieces_in (Bs n₀:Nat) (A:Option Addr) (n cap:Nat) (l:List UInt8) (w0 w:World) (hn₀:n₀=w0.heap.size) (hT:Tabs w0) (hR:RdB w0 A n l) (hn:n≤17592186044416) (hcap:n≤cap) (h0w:Below n₀ w0 w)
  (hBs:w.heap[Bs]?=some (.cells #[.slice A n cap] 122 (0,0))) (m:Nat) (hm:1≤m) :
  SeqStopsK Fence.wide m Tryz.prog 199 #[.pointer (some ⟨Bs,0,none⟩)] (fun p:Pq=>#[pcVal p.1]) (KeepsP n₀) (fun ys=>ys=piecesQ l) (fun pre=>pre <+: piecesQ l) (piecesQ l).length w:=fun L J Jx W hW hJ hJx hY hJ0=>by
 subst hn₀
 have HT:=hid hT
 have HR:=hid hR
 have hlen:=hid hR.1
 have hBW:W.heap[Bs]?=some (.cells #[.slice A n cap] 122 (0,0)):=(hW.block Bs (Array.getElem?_eq_some_iff.1 hBs).1).trans hBs
 have h0W:Below w0.heap.size w0 W:=h0w.trans (hW.mono h0w.size)
 clear hT hR hBs h0w hW
 refine callsIn_of_wp Tryz.func199 rfl trivial ?_ rfl
 simp only [Tryz.ntmps199,List.size_toArray,List.length_cons,List.length_nil,Nat.reduceAdd,Nat.reduceSub,Array.replicate_succ,Array.replicate_zero,List.push_toArray,List.append_toArray,List.nil_append,List.cons_append]
 gi_wp2
 gi_loopw [3] (fun a wr=>∃(pre:List Pq) (k:Nat),a=.int .i64 k∧k≤n∧Hid (pre++piecesQ (l.drop k)=piecesQ l)∧J pre wr∧Below w0.heap.size w0 wr∧wr.heap[Bs]?=some (.cells #[.slice A n cap] 122 (0,0)))
  (fun a _=>n-(intOf a).toNat)
 case atStart=>exact ⟨[],0,rfl,Nat.zero_le _,hid (by simp),hJ0,h0W,hBW⟩
 case round=>
  obtain ⟨pre,k,rfl,hk,hpre,hJs,hb,hbx⟩:=hrel
  have hcB:wr.cell? ⟨Bs,0,none⟩=some (.slice A n cap):=by rw [Lib.cell_of_heap hbx];rfl
  have hs1:=sl_cut A n cap k hk wr
  have hs2:=sl_cutAt A n cap k hk wr
  have k1:=fun (w':World) (ht:Tabs w') (hr:RdB w' A n l)=>quoNext_any (cutA A k cap) (n-k) (cap-k) (l.drop k) w' ht (hr.cut hk hcap) (by omega) (by omega)
  have K1:=hid k1
  clear k1
  have hpk:=nextP_ok (l.drop k)
  have hlast:lastP (nextP (l.drop k))→piecesQ l=pre++[⟨nextP (l.drop k),hpk⟩]:=fun h=>by rw [←hpre.out,piecesQ_last _ h]
  have hmore:¬lastP (nextP (l.drop k))→(pre++[⟨nextP (l.drop k),hpk⟩])++piecesQ (l.drop (k+(nextP (l.drop k)).size))=piecesQ l∧k+(nextP (l.drop k)).size≤n:=fun h=>by
   rw [←hpre.out,piecesQ_cons _ h,List.drop_drop,List.append_assoc]
   refine ⟨rfl,?_⟩
   have:=nextP_size (l.drop k) (by unfold lastP at h;omega)
   rw [List.length_drop,hlen.out] at this
   omega
  have hlt:pre.length<(piecesQ l).length:=by
   by_cases h:lastP (nextP (l.drop k))
   ·rw [hlast h];simp
   ·rw [←(hmore h).1];simp
  have HLA:=hid hlast
  have HMO:=hid hmore
  clear hlast hmore
  generalize nextP (l.drop k)=p at K1 hpk HLA HMO
  gi_wp2_with fail
  refine ⟨trivial,callsIn_wide.2 ((K1.out _ (HT.out.below hb (Nat.le_refl _)) (HR.out.below hb)).mono ?_)⟩
  rintro e w1 ⟨rfl,hb1⟩
  have hJ1:J pre (w1.alloc (.cells #[.int .i64 (p.point:Int),.int .i64 (p.size:Int),.int .i64 (p.err:Int)] 183)):=
   hJ pre wr _ none hJs (((Below.refl _ wr).trans hb1).alloc hb1.size _ |> fun h=>⟨h.os,h.tape,h.output,h.size,fun i hi _=>h.block i hi⟩) (fun r e=>by cases e)
  obtain ⟨fn,tmps,assign,body,hy,hRr⟩:=hY pre ⟨p,hpk⟩ _ hJ1 hlt
  have hsz:p.size≤12:=hpk.1
  have hkn:k≤17592186044416:=Nat.le_trans hk hn
  unfold pcVal at hy ⊢
  gi_wp2
  refine hRr.mono ?_
  rintro e W3 (⟨rfl,hJ3,hk3⟩ | ⟨rfl,hJx3⟩)
  ·have hO:Own3 183 W3 w1.heap.size (.int .i64 (p.point:Int)) (.int .i64 (p.size:Int)) (.int .i64 (p.err:Int)):=hk3.2 _ _ _ (.inl rfl) (Own3.new _ w1 _ _ _)
   obtain ⟨c0,c1,c2,_,_,_⟩:=hO.cells
   have hb3:Below w0.heap.size w0 W3:=((hb.trans (hb1.mono hb.size)).alloc (Nat.le_trans hb.size hb1.size) _).trans hk3.1
   have hbx3:W3.heap[Bs]?=some (.cells #[.slice A n cap] 122 (0,0)):=by
    refine hk3.2 _ _ _ (.inr rfl) ?_
    have h1:w1.heap[Bs]?=some (.cells #[.slice A n cap] 122 (0,0)):=(hb1.block Bs (Array.getElem?_eq_some_iff.1 hbx).1).trans hbx
    exact (Below.heap_alloc w1 _ Bs (Array.getElem?_eq_some_iff.1 h1).1).trans h1
   have HB3:=hid hbx3
   clear hbx3 hO hk3 hJ1 hRr hbx hcB hs1 hs2 hBW hJs
   by_cases he:p.err=0
   ·have d1:(((p.err:Nat):Int) != 0)=false:=by rw [he];rfl
    by_cases hs:p.size=0
    ·have d2:(((p.size:Nat):Int)==0)=true:=by rw [hs];rfl
     have hl:=HLA.out (.inr hs)
     have HL:=hid hl
     clear hl he hs
     gi_wp2
     refine bodyPost_ret (results_none rfl _ _ _) rfl ?_
     exact ⟨⟨_,rfl⟩,.inl ⟨_,HL.out.symm,hJ3⟩⟩
    ·have d2:(((p.size:Nat):Int)==0)=false:=eq_false_of (k:=0) hs
     obtain ⟨h1,h2⟩:=HMO.out (by unfold lastP;omega)
     have H1:=hid h1
     have hs':0<p.size:=by omega
     clear h1 he hs
     gi_wp2
     go_roundw
     case rel=>exact ⟨pre++[⟨p,hpk⟩],k+p.size,by go_num,h2,H1,hJ3,hb3,HB3.out⟩
     case measure=>simp [intOf];omega
   ·have d1:(((p.err:Nat):Int) != 0)=true:=by simp;omega
    have hl:=HLA.out (.inl he)
    have HL:=hid hl
    clear hl he
    gi_wp2
    refine bodyPost_ret (results_none rfl _ _ _) rfl ?_
    exact ⟨⟨_,rfl⟩,.inl ⟨_,HL.out.symm,hJ3⟩⟩
  ·have hpf:pre++[⟨p,hpk⟩] <+: piecesQ l:=by
    by_cases h:lastP p
    ·rw [HLA.out h];exact List.prefix_refl _
    ·rw [←(HMO.out h).1];exact List.prefix_append _ _
   have HPF:=hid hpf
   clear hpf
   gi_wp2
   refine bodyPost_ret (results_none rfl _ _ _) rfl ?_
   exact ⟨⟨_,rfl⟩,.inr ⟨_,HPF.out,hJx3⟩⟩
end Go.Proofs.YtmbeicndhigklaaGreatDoor
namespace Go.Proofs.YtmbeicndhigklaaGreatDoor
open Lib (hid)
open Go.RowKit Go.Shelf
def valsQ (ps:List Pq):List Pc:=ps.map (·.1)
theorem valsQ_snoc (ps:List Pq) (p:Pq):valsQ (ps++[p])=valsQ ps++[p.1]:=by simp [valsQ]
theorem valsQ_all (l:List UInt8):valsQ (piecesQ l)=piecesP l:=piecesQ_val l
theorem sizeQ_le (ps:List Pq):sizeP (valsQ ps)≤12 * ps.length:=by
 induction ps with
 | nil=>exact Nat.le_refl _
 | cons p ps ih=>
  have:=p.2.1
  show sizeP (p.1::valsQ ps)≤_
  rw [sizeP_cons,List.length_cons]
  omega
theorem textQ_le (ps:List Pq):(textP (valsQ ps)).length≤4 * ps.length:=by
 induction ps with
 | nil=>exact Nat.le_refl _
 | cons p ps ih=>
  show (textP (p.1::valsQ ps)).length≤_
  rw [textP_cons,List.length_append,List.length_cons]
  have:=(enc_pos (p.1.point:Int)).2
  split
  ·omega
  ·simp only [List.length_nil];omega
def readP (l:List UInt8):List UInt8×Nat×Nat:=
 if l.length=0∨bt l 0≠34 then ([],0,(faultP l 0).err)
 else if errP (piecesP (l.drop 1))≠0 then ([],1+sizeP (piecesP (l.drop 1)),errP (piecesP (l.drop 1)))
 else (textP (piecesP (l.drop 1)),2+sizeP (piecesP (l.drop 1)),0)
def readV (l:List UInt8):Value:=.tuple #[.string ⟨(readP l).1.toArray⟩,.int .i64 ((readP l).2.1:Int),.int .i64 ((readP l).2.2:Int)]
theorem errP_none (ps:List Pc) (h:∀p∈ps,p.err=0):errP ps=0:=by
 unfold errP
 rw [List.find?_eq_none.2 (fun p hp=>by simp [h p hp])];rfl
theorem errP_snoc (ps:List Pc) (p:Pc) (h:∀q∈ps,q.err=0) (hp:p.err≠0):errP (ps++[p])=p.err:=by
 unfold errP
 rw [List.find?_append,List.find?_eq_none.2 (fun q hq=>by simp [h q hq])]
 simp [hp]
theorem piecesP_stop:∀(k:Nat) (l:List UInt8),l.length≤k→∀(pre:List Pc) (p:Pc) (more:List Pc),piecesP l=pre++p::more→p.err≠0→more=[]
 | k,l,hk,pre,p,more,h,he=>by
  by_cases hl:lastP (nextP l)
  ·rw [piecesP_last l hl] at h
   cases pre with
   | nil=>injection h with _ h;exact h.symm
   | cons q pre=>injection h with _ h;simp at h
  ·rw [piecesP_cons l hl] at h
   have h1:(nextP l).err=0∧(nextP l).size≠0:=by unfold lastP at hl;omega
   cases pre with
   | nil=>injection h with h _;rw [h] at h1;exact absurd h1.1 he
   | cons q pre=>
    injection h with _ h
    have hs:=nextP_size l h1.1
    cases k with
    | zero=>omega
    | succ k=>exact piecesP_stop k _ (by rw [List.length_drop];omega) pre p more h he
theorem piecesQ_stop (l:List UInt8) (pre:List Pq) (p:Pq) (h:pre++[p] <+: piecesQ l) (he:p.1.err≠0):piecesP l=valsQ (pre++[p]):=by
 obtain ⟨more,hm⟩:=h
 have:piecesP l=valsQ pre++p.1::valsQ more:=by
  rw [←valsQ_all,←hm];simp [valsQ]
 have hn:=piecesP_stop l.length l (Nat.le_refl _) _ _ _ this he
 rw [this,hn,valsQ_snoc]
theorem grown_cells {W W':World} {row:Option Nat} (hg:W.grownBy W' row) (hr:∀r,row=some r→∃o:Obj,W.heap[r]?=some o∧o.isCells=false) {k:Nat} {c:Array Value} {T:TypeId} {z:Nat×Nat} (h:W.heap[k]?=some (.cells c T z)) :
  W'.heap[k]?=some (.cells c T z):=by
 refine (hg.block k (Array.getElem?_eq_some_iff.1 h).1 (fun e=>?_)).trans h
 obtain ⟨o,ho,hc⟩:=hr k e.symm
 rw [h] at ho;injection ho with ho;subst ho;cases hc
theorem bld_kept {T e:TypeId} {B b:Nat} {bs:List Value} {w w':World} (h:Lib.IsBuilderF T e B b bs w) (hk:∀(k:Nat) (c:Array Value) (S:TypeId) (z:Nat×Nat),(S=T∨S=e)→w.heap[k]?=some (Obj.cells c S z)→w'.heap[k]?=some (Obj.cells c S z)):Lib.IsBuilderF T e B b bs w':=by
 rcases h with h | h
 ·left
  obtain ⟨hB,v,hbk,hown,hne⟩:=h
  refine ⟨hB,v,hk _ _ _ _ (.inl rfl) hbk,⟨hown.1,?_⟩,hne⟩
  rcases hown.2 with h2 | ⟨g,cap,cur,fz,hv,hg,hh,r⟩
  ·exact .inl h2
  ·exact .inr ⟨g,cap,cur,fz,hv,hg,hk _ _ _ _ (.inr rfl) hh,r⟩
 ·right
  obtain ⟨hB,v,hbk,hown,hne⟩:=h
  refine ⟨hB,v,hk _ _ _ _ (.inl rfl) hbk,⟨hown.1,?_⟩,hne⟩
  rcases hown.2 with h2 | ⟨g,cap,cur,fz,hv,hg,hh,r⟩
  ·exact .inl h2
  ·exact .inr ⟨g,cap,cur,fz,hv,hg,hk _ _ _ _ (.inr rfl) hh,r⟩
theorem bld_cells {T e:TypeId} {B b:Nat} {bs:List Value} {w w':World} (h:Lib.IsBuilderF T e B b bs w) (hk:∀(k:Nat) (c:Array Value) (S:TypeId) (z:Nat×Nat),w.heap[k]?=some (Obj.cells c S z)→w'.heap[k]?=some (Obj.cells c S z)):Lib.IsBuilderF T e B b bs w':=
 bld_kept h (fun k c S z _ h=>hk k c S z h)
def ReadI (h0:Nat) (w:World) (pre:List Pq) (W:World):Prop:=
 (∀x∈pre,x.1.err=0)∧W.heap[h0]?=some (.cells #[.string ⟨#[]⟩] 9 (0,0))∧W.heap[h0+1]?=some (.cells #[.int .i64 0] 3 (0,0))∧W.heap[h0+1+1]?=some (.cells #[.int .i64 0] 27 (0,0)) ∧
 Lib.IsBuilderF 124 5 (h0+1+1+1) (h0+1+1+1) (Lib.byteCells (textP (valsQ pre))) W∧W.heap[h0+1+1+1+1]?=some (.cells #[.int .i64 ((1+sizeP (valsQ pre):Nat):Int)] 3 (0,0))∧Below h0 w W
def ReadX (h0:Nat) (w:World) (c:Code) (pre:List Pq) (W:World):Prop:=
 c=.ret∧(∃q p,pre=q++[p]∧(∀x∈q,x.1.err=0)∧p.1.err≠0∧W.heap[h0]?=some (.cells #[.string ⟨#[]⟩] 9 (0,0))∧W.heap[h0+1]?=some (.cells #[.int .i64 ((1+sizeP (valsQ pre):Nat):Int)] 3 (0,0))∧W.heap[h0+1+1]?=some (.cells #[.int .i64 (p.1.err:Int)] 27 (0,0)))∧Below h0 w W
theorem readI_own {B h0:Nat} {w:World} (h1:h0≤w.heap.size) (h2:h0≤B):OwnFrom B (ReadI h0 w):=fun s W W' row hs hg hr=>by
 have hc:=fun r e=>(hr r e).2
 obtain ⟨a,b,c,d,e,f,g⟩:=hs
 exact ⟨a,grown_cells hg hc b,grown_cells hg hc c,grown_cells hg hc d,bld_cells e (fun k x S z h=>grown_cells hg hc h),grown_cells hg hc f,g.grown hg (Nat.le_trans h1 g.size) (fun k e=>Nat.le_trans h2 (hr k e).1)⟩
theorem readX_own {B h0:Nat} {w:World} (h1:h0≤w.heap.size) (h2:h0≤B) (c:Code):OwnFrom B (ReadX h0 w c):=fun s W W' row hs hg hr=>by
 have hc:=fun r e=>(hr r e).2
 obtain ⟨rfl,⟨q,p,e1,e2,e3,a,b,d⟩,g⟩:=hs
 exact ⟨rfl,⟨q,p,e1,e2,e3,grown_cells hg hc a,grown_cells hg hc b,grown_cells hg hc d⟩,g.grown hg (Nat.le_trans h1 g.size) (fun k e=>Nat.le_trans h2 (hr k e).1)⟩
theorem others_keep {W W':World} {b:Nat} {T:TypeId} {c:Array Value} {z:Nat×Nat} (h:Lib.OthersKept 5 (some b) W W') (hT:T≠5) {k:Nat} (hk:k≠b) (h1:W.heap[k]?=some (.cells c T z)):W'.heap[k]?=some (.cells c T z):=
 h k _ h1 (fun e=>hk (by injection e)) (fun c' fz e=>by injection e with _ e _;exact hT e)
theorem others_others {W W':World} {b:Nat} (h:Lib.OthersKept 5 (some b) W W') (hs:W.heap.size≤W'.heap.size) {c:Array Value} {T:TypeId} {z:Nat×Nat} (hb:W.heap[b]?=some (.cells c T z)):KeepsOthers W W':=
 ⟨hs,fun k o hk ho=>h k o hk (fun e=>by injection e with e;subst e;rw [hb] at hk;injection hk with hk;subst hk;cases ho) (fun c fz e=>by subst e;cases ho)⟩
theorem others_keepsP {n₀:Nat} {W W':World} {b B:Nat} (h:Lib.OthersKept 5 (some b) W W') (hB:Below B W W') (hn:n₀≤B) {c:Array Value} {z:Nat×Nat} (hb:W.heap[b]?=some (.cells c 124 z)):KeepsP n₀ W W':=
 ⟨hB.mono hn,fun k c' T hT hk=>others_keep h (by rcases hT with rfl | rfl <;> decide) (fun e=>by
  subst e;rw [hb] at hk;injection hk with hk;injection hk with _ hk _;rcases hT with rfl | rfl <;> exact absurd hk (by decide)) hk⟩
end Go.Proofs.YtmbeicndhigklaaGreatDoor
namespace Go.Proofs.YtmbeicndhigklaaGreatDoor
open Lib (hid)
def letB (c:Nat):Bool:=(decide (97≤c)&&decide (c≤122))||(decide (65≤c)&&decide (c≤90))||c==95
def digB (c:Nat):Bool:=decide (48≤c)&&decide (c≤57)
def nameF:Bool→List UInt8→Nat
 | _,[]=>0
 | k,c::r=>if letB c.toNat||(k&&digB c.toNat) then 1+nameF true r else 0
def nameN (l:List UInt8):Nat:=nameF false l
def digN:List UInt8→Nat
 | []=>0
 | c::r=>if digB c.toNat then 1+digN r else 0
def fracN (l:List UInt8) (n:Nat):Nat:=if bt l n=46∧0<digN (l.drop (n+1)) then n+1+digN (l.drop (n+1)) else n
def expoAt (l:List UInt8) (n:Nat):Nat:=if bt l (n+1)=43∨bt l (n+1)=45 then n+2 else n+1
def expoN (l:List UInt8) (n:Nat):Nat:=if (bt l n=101∨bt l n=69)∧0<digN (l.drop (expoAt l n)) then expoAt l n+digN (l.drop (expoAt l n)) else n
def numN (l:List UInt8):Nat:=expoN l (fracN l (digN l))
def signs2:List (List UInt8):=[[47,47,61],[124,61],[43,61],[45,61],[42,61],[47,61],[37,61],[47,47],[61,61],[33,61],[60,61],[62,61],[46,46]]
def signs1:List UInt8:=[46,91,93,123,125,40,41,124,44,61,60,62,43,45,42,47,37,63,58,59]
def signL (l:List UInt8):List UInt8:=((signs2.find? fun t=>t.isPrefixOf l).getD (match l with | []=>[] | c::_=>if c∈signs1 then [c] else []))
def skipF:Bool→List UInt8→Nat
 | _,[]=>0
 | false,c::r=>if c=32∨c=9∨c=10∨c=13 then 1+skipF false r else if c=35 then 1+skipF true r else 0
 | true,c::r=>if c=10 then 1+skipF false r else 1+skipF true r
def skipN (l:List UInt8):Nat:=skipF false l
def pieceP (l:List UInt8):List UInt8×Nat:=if (escapedP l).err=0 then (enc ((escapedP l).point:Int),(escapedP l).size) else ([],0)
def tooShort (l:List UInt8):Bool:=(readP (34::l.take 6)).2.1==1+l.length
def scanF:Nat→List UInt8→Nat×Nat×List UInt8
 | 0,_=>(2,0,[])
 | f+1,l=>
  if l.length=0 then (2,0,[])
  else if bt l 0=34 then (0,0,[])
  else if bt l 0=92∧bt l 1=40 then (1,0,[])
  else if bt l 0=92 then
   if (pieceP l).2=0 then (if tooShort l then 2 else 3,0,[])
   else ((scanF f (l.drop (pieceP l).2)).1,(pieceP l).2+(scanF f (l.drop (pieceP l).2)).2.1,(pieceP l).1++(scanF f (l.drop (pieceP l).2)).2.2)
  else ((scanF f (l.drop (dec l).2)).1,(dec l).2+(scanF f (l.drop (dec l).2)).2.1,l.take (dec l).2++(scanF f (l.drop (dec l).2)).2.2)
def scanT (l:List UInt8):Nat×Nat×List UInt8:=scanF l.length l
structure Tk where
 kind:Nat
 text:List UInt8
 pos:Nat
deriving DecidableEq
structure LS where
 pos:Nat
 toks:List Tk
 texts:List Nat
 err:Nat
def failS (s:LS) (a e:Nat):LS:={ s with pos:=a,err:=e }
def putS (s:LS) (k:Nat) (t:List UInt8) (n:Nat):LS:={ s with toks:=s.toks++[⟨k,t,s.pos⟩],pos:=s.pos+n }
def skipS (l:List UInt8) (s:LS):LS:={ s with pos:=s.pos+skipN (l.drop s.pos) }
def markS (l:List UInt8) (s:LS) (k:Nat) (keep:List UInt8):LS:=
 if nameN (l.drop (s.pos+1))=0 then failS s s.pos 2
 else putS s k (keep++(l.drop (s.pos+1)).take (nameN (l.drop (s.pos+1)))) (1+nameN (l.drop (s.pos+1)))
def flushS (s:LS) (n:Nat) (o:List UInt8):LS:=if 0<n then { s with toks:=s.toks++[⟨8,o,s.pos⟩],pos:=s.pos+n } else s
def textS (l:List UInt8) (s:LS):LS:=
 let r:=scanT (l.drop s.pos)
 if r.1=0 then { putS (flushS s r.2.1 r.2.2) 11 [] 1 with texts:=s.texts.tail }
 else if r.1=1 then putS (flushS s r.2.1 r.2.2) 9 [] 2
 else if r.1=2 then failS s l.length 5
 else failS s (s.pos+r.2.1) 2
def signS (l:List UInt8) (s:LS) (t:List UInt8):LS:=
 if t=[] then failS s s.pos 2
 else match s.texts with
  | []=>putS s 6 t t.length
  | x::ts=>
   if t=[40] then putS { s with texts:=(x+1)::ts } 6 t t.length
   else if t=[41] then (if x=0 then textS l (putS s 10 [] 1) else putS { s with texts:=(x-1)::ts } 6 t t.length)
   else putS s 6 t t.length
def tokenS (l:List UInt8) (s:LS):LS:=
 let r:=l.drop s.pos
 if bt r 0=34 then (if 50≤s.texts.length then failS s s.pos 6 else textS l { putS s 7 [] 1 with texts:=0::s.texts })
 else if digB (bt r 0) then putS s 1 (r.take (numN r)) (numN r)
 else if letB (bt r 0) then putS s 2 (r.take (nameN r)) (nameN r)
 else if bt r 0=36 then markS l s 4 []
 else if bt r 0=64 then markS l s 5 [64]
 else if bt r 0=46∧letB (bt r 1) then markS l s 3 []
 else signS l s (signL r)
def runF:Nat→List UInt8→LS→LS
 | 0,_,s=>s
 | f+1,l,s=>
  if l.length≤(skipS l s).pos then skipS l s
  else if (tokenS l (skipS l s)).err≠0 then tokenS l (skipS l s)
  else runF f l (tokenS l (skipS l s))
def runS (l:List UInt8):LS:=runF (l.length+1) l ⟨0,[],[],0⟩
def tokensV (l:List UInt8):List Tk×Nat×Nat:=
 if 100000<l.length then ([],0,10)
 else if valid l<l.length then ([],valid l,7)
 else if (runS l).err≠0 then ([],(runS l).pos,(runS l).err)
 else if (runS l).texts≠[] then ([],l.length,5)
 else ((runS l).toks,0,0)
end Go.Proofs.YtmbeicndhigklaaGreatDoor
