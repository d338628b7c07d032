/-
The walk of the closure flush (chapter 14).
-/
import Derived.Test.YtmbeicndhigklaaGreatDoorPLexV
import Derived.StillTailTactics
namespace Go.Proofs.YtmbeicndhigklaaGreatDoor
open Lib (hid)
open Go.RowKit
set_option maxHeartbeats 32000000 in
set_option maxRecDepth 100000 in
theorem lexFlush_any (w0:World) (g br bf bb:Nat) (S:ByteArray) (s:LS) (p:Nat) (o:List UInt8) (w:World) (hp0:s.pos≤p) (hp:p≤1073741824) (ht:s.toks.length≤1073741824) (h:TxV w0 g br bf bb S { s with pos:=p } s.pos o w) :
  Calls Tryz.prog 114 #[.pointer (some ⟨br,0,none⟩),.pointer (some ⟨bf,0,none⟩),.pointer (some ⟨bb,0,none⟩)] w fun e w'=>e=.returned (.tuple #[])∧LxV w0 g S (flushS s (p-s.pos) o) w'∧w'.heap[br]?=some (.cells #[.pointer (some ⟨g,0,none⟩)] 80 (0,0)):=by
 have H:=hid h
 have cr:=h.cr
 have cf:=h.cf
 have c1:=h.reader.c1
 simp only at c1
 by_cases hpos:s.pos<p
 ·obtain ⟨i0,hi,hz0,hz1,hz2⟩:=info_parts infoToken
  have g2:=h.reader.frozen 2
  obtain ⟨tv,xv,hh,c2,c3,hot,hox⟩:=h.reader.rows
  have hbs:=h.reader.size
  have hne1:br≠g:=fun e=>by have:=h.2.2.1;rw [e,hh] at this;injection this with this;injection this with _ this _;exact absurd this (by decide)
  have hne2:bf≠g:=fun e=>by have:=h.2.2.2.1;rw [e,hh] at this;injection this with this;injection this with _ this _;exact absurd this (by decide)
  have ks:∀m,Calls Tryz.prog 115 #[.pointer (some ⟨bb,0,none⟩)] (w.drewN m) fun e w'=>e=.returned (.string ⟨o.toArray⟩)∧TxV w0 g br bf bb S { s with pos:=p } s.pos o w'∧w'.cell? ⟨g,2,none⟩=some tv∧w.heap.size≤w'.heap.size:=fun m=>(Tryz.Builder_String_any_k w0.heap.size bb o (w.drewN m) (h.drewN m).bld hbs.2.2).mono (by
   rintro e w' ⟨rfl,h1,h2,h3⟩
   refine ⟨rfl,(h.drewN m).written h2 h3 h1,?_,h2.size⟩
   obtain ⟨c0,z0,hbb⟩:=lbld_block h.bld
   have hg:w'.heap[g]? = _:=others_keep (W:=w.drewN m) h3 (by decide) (fun e=>by subst e;rw [hbb] at hh;injection hh with hh;injection hh with _ hh _;exact absurd hh (by decide)) hh
   rw [Lib.cell_of_heap hg];rfl)
  have KS:=hid ks
  have HNE:=hid hne1
  have hfl:flushS s (p-s.pos) o={ pos:=p,toks:=s.toks++[⟨8,o,s.pos⟩],texts:=s.texts,err:=s.err }:=by
   unfold flushS
   rw [if_pos (by omega),show s.pos+(p-s.pos)=p by omega]
  have HF:=hid hfl
  clear h hh hox c3 hot ks hne1 hne2 hfl
  go_enter Tryz.func114,Tryz.ntmps114
  go_wp2
  go_quiet (fail)
  go_wp2
  clear c1 g2 hpos
  go_region_law
   (first
   | (refine lstep_append_own _ rfl (.tmp 13) (.tmp 17) 51 rfl w0.heap.size 86 i0 (.agg #[.int .i64 0,.string ⟨#[]⟩,.int .i64 0]) 3 32 Tryz.underlying51 hi hz0 hz1 hz2 rfl (by decide) tv s.toks.length (tkCells s.toks) (by simp [Act.eval]) (lowns_below (H1.out.reader.row_of E2.out) ((Below.refl _ w1).alloc (Nat.le_refl _) _)) ⟨w1.heap.size,0,none⟩ 1 1 [.int .i64 ((8:Nat):Int),.string ⟨o.toArray⟩,.int .i64 (s.pos:Int)] (by simp [Act.eval]) rfl (news3' w1 _ _ _ _) (one3 _ _ _ _) (by unfold maxLen;omega) (by omega) (by simp;omega) ?_;intro v5 w5 hown5 hgrow5;obtain ⟨e6,e7,e8⟩:=H1.out.reader.grows0 E2.out hgrow5;have E8:=hid (e8 v5 ⟨8,o,s.pos⟩ hown5);clear e8;have h5:=H1.out.reader.grown_far E2.out hgrow5 (by decide) H1.out.2.2.1;have h6:=H1.out.reader.grown_far E2.out hgrow5 (by decide) H1.out.2.2.2.1;have H5:=hid h5;have cr5:w5.cell? ⟨br,0,none⟩=some (.pointer (some ⟨g,0,none⟩)):=(by rw [Lib.cell_of_heap h5];rfl);have cf5:w5.cell? ⟨bf,0,none⟩=some (.int .i64 (s.pos:Int)):=(by rw [Lib.cell_of_heap h6];rfl);clear h5 h6;obtain ⟨A5,cap5,rfl⟩:=lowns_slice hown5)
   | (go_simp;go_at_call 115;refine (KS.out _).mono ?_;rintro e w1 ⟨rfl,h1,e2,hs1⟩;have H1:=hid h1;have cr1:=h1.cr;have cf1:=h1.cf;have g21:=h1.reader.frozen 2;have E2:=hid e2;have cr21:∀ob:Obj,(w1.alloc ob).cell? ⟨br,0,none⟩=some (.pointer (some ⟨g,0,none⟩)):=(fun ob=>by rw [World.cell?_alloc_past (hn:=(Array.getElem?_eq_some_iff.1 h1.2.2.1).1)];exact cr1);have c21:∀ob:Obj,(w1.alloc ob).cell? ⟨g,2,none⟩=some tv:=(fun ob=>by rw [World.cell?_alloc_past (hn:=h1.reader.size.2.1)];exact e2);clear h1))
  all_goals
   go_wp2
   go_returns
   exact ⟨rfl,by rw [HF.out];exact E8.out,(lheap_far (fun e=>HNE.out e.symm)).trans H5.out⟩
 ·obtain rfl:s.pos=p:=by omega
  clear h
  go_enter Tryz.func114,Tryz.ntmps114
  go_wp2
  go_quiet (fail)
  go_wp2
  go_returns
  exact ⟨rfl,by rw [Nat.sub_self];exact (H.out.drewN _).reader,H.out.2.2.1⟩
end Go.Proofs.YtmbeicndhigklaaGreatDoor
namespace Go.Proofs.YtmbeicndhigklaaGreatDoor
open Lib (hid)
open Go.RowKit
theorem txCells_cons (x:Nat) (ts:List Nat):txCells (x::ts)=txCells ts++[Value.int .i64 (x:Int)]:=by unfold txCells;simp
theorem lowns_shrink {w:World} {B:Nat} {E:TypeId} {A:Option Addr} {m cap:Nat} {xs:List Value} {x:Value} (h:w.ownsRow B E 1 (.slice A (m+1) cap) (m+1) (xs++[x])):w.ownsRow B E 1 (.slice A m cap) m xs:=by
 have hl:xs.length=m:=by have:=h.1;rw [List.length_append,Nat.mul_one] at this;simpa using this
 refine ⟨by rw [hl,Nat.mul_one],.inr ?_⟩
 rcases h.2 with ⟨_,h0⟩ | ⟨g,cap',cur,hv,hg,hh,h1,h2,h3,h4⟩
 ·omega
 ·injection hv with e1 e2 e3
  subst e1 e3
  refine ⟨g,cap,cur,rfl,hg,hh,by omega,h2,h3,?_⟩
  have h5:cur.toList.take (m+1)=xs++[x]:=by rw [Nat.mul_one] at h4;exact h4
  have h6:=congrArg (List.take m) h5
  have h7:(xs++[x]).take m=xs:=by rw [List.take_append_of_le_length (by omega),List.take_of_length_le (by omega)]
  rw [List.take_take,Nat.min_eq_left (by omega),h7] at h6
  rw [Nat.mul_one]
  exact h6
section
variable {w0 w:World} {g:Nat} {S:ByteArray} {s:LS}
theorem LxV.put_texts (h:LxV w0 g S s w) {xv:Value} {ts:List Nat} (hx:w.ownsRow w0.heap.size 3 1 xv ts.length (txCells ts)):LxV w0 g S { s with texts:=ts } (w.setCell ⟨g,3,none⟩ xv):=by
 obtain ⟨h1,h2,tv,xv',hh,ht,_⟩:=h
 exact ⟨h1.setCell (p:=⟨g,3,none⟩) h2 _,h2,tv,xv,lheap_set hh _,lowns_far ht hh (by decide) _,lowns_far hx hh (by decide) _⟩
end
def RetE (v:Value) (X:World→Prop) (e:Ending) (w':World):Prop:=e=.returned v∧X w'
theorem RetE.of {P:Program} {f:FuncId} {args:Array Value} {w:World} {v:Value} {X:World→Prop} (h:Calls P f args w fun e w'=>e=.returned v∧X w'):Calls P f args w (RetE v X):=h
theorem textS_of (l:List UInt8) (s:LS) (r:Nat×Nat×List UInt8) (h:scanT (l.drop s.pos)=r):textS l s =
  if r.1=0 then { putS (flushS s r.2.1 r.2.2) 11 [] 1 with texts:=s.texts.tail }
  else if r.1=1 then putS (flushS s r.2.1 r.2.2) 9 [] 2
  else if r.1=2 then failS s l.length 5
  else failS s (s.pos+r.2.1) 2:=by subst h;rfl
theorem tx_start {w0 w:World} {g:Nat} {S:ByteArray} {s:LS} (h:LxV w0 g S s w):TxV w0 g w.heap.size (w.heap.size+1) (w.heap.size+1+1) S s s.pos []
  (((w.alloc (.cells #[.pointer (some ⟨g,0,none⟩)] 80)).alloc (.cells #[.int .i64 (s.pos:Int)] 3)).alloc (.cells #[.pointer none,.slice none 0 0] 124)):=by
 have hsz:=h.size
 have b1:Below w.heap.size w (w.alloc (.cells #[.pointer (some ⟨g,0,none⟩)] 80)):=(Below.refl _ w).alloc (Nat.le_refl _) _
 have b2:=b1.alloc (by rw [World.size_alloc];omega) (.cells #[.int .i64 (s.pos:Int)] 3)
 have b3:=b2.alloc (by rw [World.size_alloc,World.size_alloc];omega) (.cells #[.pointer none,.slice none 0 0] 124)
 refine ⟨h.below b3,hsz.2.2,?_,?_,.inl ⟨by omega,.slice none 0 0,?_,⟨rfl,.inl ⟨rfl,rfl⟩⟩,by simp [Value.ownBlock]⟩⟩
 ·rw [Below.heap_alloc _ _ _ (by rw [World.size_alloc,World.size_alloc];omega),Below.heap_alloc _ _ _ (by rw [World.size_alloc];omega)]
  exact World.alloc_heap_new w _
 ·rw [Below.heap_alloc _ _ _ (by rw [World.size_alloc,World.size_alloc];omega)]
  have:=World.alloc_heap_new (w.alloc (.cells #[.pointer (some ⟨g,0,none⟩)] 80)) (.cells #[.int .i64 (s.pos:Int)] 3)
  rwa [World.size_alloc] at this
 ·have:=World.alloc_heap_new ((w.alloc (.cells #[.pointer (some ⟨g,0,none⟩)] 80)).alloc (.cells #[.int .i64 (s.pos:Int)] 3)) (.cells #[.pointer none,.slice none 0 0] 124)
  rwa [World.size_alloc,World.size_alloc] at this
theorem pieceP_text (l:List UInt8):(pieceP l).1.length≤4:=by
 by_cases h:(escapedP l).err=0
 ·simp only [pieceP,if_pos h];exact (enc_pos _).2
 ·simp only [pieceP,if_neg h];exact Nat.zero_le _
theorem hp_two (x:List UInt8):Lib.hasPrefix x [92,40]=decide (bt x 0=92∧bt x 1=40):=by
 unfold Lib.hasPrefix bt
 match x with
 | []=>rfl
 | [a]=>simp [List.isPrefixOf]
 | a::b::r=>
  rw [Bool.eq_iff_iff]
  simp only [List.isPrefixOf,Bool.and_true,Bool.and_eq_true,beq_iff_eq,decide_eq_true_eq]
  constructor
  ·rintro ⟨rfl,rfl⟩;exact ⟨rfl,rfl⟩
  ·intro h
   exact ⟨(UInt8.toNat_inj.1 h.1).symm,(UInt8.toNat_inj.1 h.2).symm⟩
theorem flush_le (s:LS) (n:Nat) (o:List UInt8):(flushS s n o).pos=s.pos+n∧(flushS s n o).toks.length≤s.toks.length+1∧(flushS s n o).texts=s.texts:=by
 unfold flushS;split
 ·refine ⟨rfl,by simp,rfl⟩
 ·refine ⟨by omega,by omega,rfl⟩
set_option maxHeartbeats 4000000 in
set_option maxRecDepth 100000 in
theorem lexText_any (w0:World) (hT:Tabs w0) (g:Nat) (S:ByteArray) (s:LS) (x0:Nat) (ts:List Nat) (hts:s.texts=x0::ts) (h50:ts.length≤100) (w:World) (hp:s.pos≤S.size) (hS:S.size≤16777216) (ht:s.toks.length≤16777216) (h:LxV w0 g S s w) :
  Calls Tryz.prog 81 #[.pointer (some ⟨g,0,none⟩)] w fun e w'=>e=.returned (.tuple #[])∧LxV w0 g S (textS S.data.toList s) w':=by
 have HT0:=hid (tx_start h)
 have HTT:=hid hT
 have HB:=hid (bt_s S)
 have HL:=hid (Lib.size_eq S)
 have hsz:=h.size
 have c1:=h.c1
 have HTS:=hid hts
 have hend:∀r,scanT (S.data.toList.drop s.pos)=r→_:=fun r hr=>textS_of S.data.toList s r hr
 have HE:=hid hend
 have hw0:w0.heap.size≤w.heap.size:=hsz.2.2
 clear h hts hend hT
 generalize textS S.data.toList s=F at HE ⊢
 go_enter Tryz.func81,Tryz.ntmps81
 go_wp2
 go_loopw [] (fun wr=>∃(p:Nat) (o:List UInt8),s.pos≤p∧p≤S.size∧o.length≤4 * p∧TxV w0 g w.heap.size (w.heap.size+1) (w.heap.size+1+1) S { s with pos:=p } s.pos o wr ∧
  Hid (scanT (S.data.toList.drop s.pos)=((scanT (S.data.toList.drop p)).1,(p-s.pos)+(scanT (S.data.toList.drop p)).2.1,o++(scanT (S.data.toList.drop p)).2.2))) (fun wr=>S.size-lxPos g wr)
 case atStart=>exact ⟨s.pos,[],Nat.le_refl _,hp,Nat.zero_le _,HT0.out,hid (by rw [Nat.sub_self,Nat.zero_add];rfl)⟩
 case round=>
  obtain ⟨p,o,hp0,hpS,hol,hv,hk⟩:=hrel
  have HV:=hid hv
  have cr:=hv.cr
  have c0:=hv.reader.c0
  have c1:=hv.reader.c1
  have hps:=hv.reader.pos_of
  clear hv
  simp only at c1 hps
  by_cases hlt:p<S.size
  ·go_wp2
   go_quiet (fail)
   go_wp2
   go_quiet (fail)
   obtain ⟨R,hR⟩:∃R,S.extract p S.size=R:=⟨_,rfl⟩
   rw [hR]
   have hRx:R.data.toList=S.data.toList.drop p:=by rw [←hR];exact ext_drop S p
   have hRs:R.size=S.size-p:=by rw [Lib.size_eq,hRx,List.length_drop,←HL.out]
   obtain ⟨W,hW,hv⟩:∃W,(wr.drewN _).drewN nq=W∧TxV w0 g w.heap.size (w.heap.size+1) (w.heap.size+1+1) S { s with pos:=p } s.pos o W:=⟨_,rfl,(HV.out.drewN _).drewN nq⟩
   rw [hW]
   clear cr c0 c1 hW HV
   have HV:=hid hv
   have cr:=hv.cr
   have c0:=hv.reader.c0
   have c1:=hv.reader.c1
   have g1:=hv.reader.frozen 1
   have hTW:Tabs W:=HTT.out.below hv.reader.1 (Nat.le_refl _)
   have HTW:=hid hTW
   have hWs:=hv.reader.1.size
   have HWS:=hid hWs
   simp only at c1
   obtain ⟨x,hx⟩:∃x,S.data.toList.drop p=x:=⟨_,rfl⟩
   rw [hx] at hk hRx
   have hxl:x.length=S.size-p:=by rw [←hx,List.length_drop,←HL.out]
   have hR0:0<R.size:=by omega
   have hb:R[0].toNat=bt x 0:=by rw [←hRx];exact (bt_s R 0 hR0).symm
   have hsc:=scanT_eq x
   rw [if_neg (by omega)] at hsc
   have hround:∀(W':World) (n:Nat) (t:List UInt8) (z:Int),TxV w0 g w.heap.size (w.heap.size+1) (w.heap.size+1+1) S { s with pos:=p } s.pos (o++t) W'→z=((p+n:Nat):Int)→0<n→p+n≤S.size→t.length≤4 * n→scanT x=((scanT (x.drop n)).1,n+(scanT (x.drop n)).2.1,t++(scanT (x.drop n)).2.2) →
    (∃(q:Nat) (o':List UInt8),s.pos≤q∧q≤S.size∧o'.length≤4 * q∧TxV w0 g w.heap.size (w.heap.size+1) (w.heap.size+1+1) S { s with pos:=q } s.pos o' (W'.setCell ⟨g,1,none⟩ (.int .i64 z)) ∧
     Hid (scanT (S.data.toList.drop s.pos)=((scanT (S.data.toList.drop q)).1,(q-s.pos)+(scanT (S.data.toList.drop q)).2.1,o'++(scanT (S.data.toList.drop q)).2.2)))∧S.size-lxPos g (W'.setCell ⟨g,1,none⟩ (.int .i64 z))<S.size-lxPos g wr:=fun W' n t z h1 hz h2 h3 h4 h5=>by
    subst hz
    have hq:x.drop n=S.data.toList.drop (p+n):=by rw [←hx,List.drop_drop]
    rw [hq] at h5
    have h6:=h1.put_pos (p+n)
    refine ⟨⟨p+n,o++t,by omega,h3,by rw [List.length_append];omega,h6,hid ?_⟩,?_⟩
    ·rw [hk.out,h5]
     simp only [List.append_assoc,Prod.mk.injEq,and_true,true_and];omega
    ·rw [h6.reader.pos_of,hps];simp only;omega
   have HRD:=hid hround
   have KF:=hid (lexFlush_any w0 g w.heap.size (w.heap.size+1) (w.heap.size+1+1) S s p o W hp0 (by omega) (by omega) hv)
   have hfl:=flush_le s (p-s.pos) o
   have KP:=hid (fun (k n:Nat) (hn:n≤2) (W':World) (h:LxV w0 g S (flushS s (p-s.pos) o) W')=>lexPut_all w0 g S (flushS s (p-s.pos) o) W' k [] n (by omega) (by omega) (by omega) h)
   have HFT:=hid (hfl.2.2.trans HTS.out)
   have KH:=hid (fun W'=>(Tryz.strings_HasPrefix R ⟨#[92,40]⟩ W').mono (R':=fun e w'=>e=.returned (.bool (decide (bt x 0=92∧bt x 1=40)))∧W'=w') (by rintro e w' ⟨rfl,rfl⟩;rw [hRx];exact ⟨by rw [←hp_two],rfl⟩))
   clear hround hv hTW hWs hfl hR
   have HK:=hid hk.out
   have HSC:=hid hsc
   have HX:=hid hx
   have HRX:=hid hRx
   have HXL:=hid hxl
   have HRS:=hid hRs
   have hRs2:R.size≤16777216:=by omega
   clear hk hsc hx hRx hxl hRs
   have hfin:∀c:Nat,scanT x=(c,0,[])→F=if c=0 then { putS (flushS s (p-s.pos) o) 11 [] 1 with texts:=ts } else if c=1 then putS (flushS s (p-s.pos) o) 9 [] 2 else if c=2 then failS s S.size 5 else failS s p 2:=fun c h=>by
    have h1:=HK.out
    rw [h] at h1
    have h2:=HE.out _ h1
    simp only [Nat.add_zero,List.append_nil] at h2
    rw [h2,HTS.out,←HL.out,show s.pos+(p-s.pos)=p by omega];rfl
   have HFIN:=hid hfin
   clear hfin
   generalize flushS s (p-s.pos) o=FS at KF KP HFT HFIN
   by_cases hq:bt x 0=34
   ·have z1:((R[0].toNat:Int)==34)=true:=by rw [hb,hq];rfl
    have HQ:=hid hq
    clear hq hb
    have HF:Hid (F={ putS FS 11 [] 1 with texts:=ts }):=HFIN.out 0 (by rw [HSC.out,if_pos HQ.out])
    go_wp2_with (go_at_call 114;refine (RetE.of KF.out).mono ?_)
    rintro e w1 ⟨rfl,h1,hbr1⟩
    have cr1:w1.cell? ⟨w.heap.size,0,none⟩=some (.pointer (some ⟨g,0,none⟩)):=by rw [Lib.cell_of_heap hbr1];rfl
    have H1:=hid h1
    have HBR1:=hid hbr1
    clear h1 hbr1
    go_wp2_with (go_at_call 80;refine (RetE.of (KP.out 11 1 (by omega) _ H1.out)).mono ?_)
    rintro e w2 ⟨rfl,h2,hk2⟩
    have hbr2:w2.heap[w.heap.size]?=some (.cells #[.pointer (some ⟨g,0,none⟩)] 80 (0,0)):=hk2 _ _ HBR1.out (fun e=>by
     injection e with e
     obtain ⟨_,_,tv,xv,hh,_⟩:=H1.out
     rw [←e,HBR1.out] at hh;injection hh with hh;injection hh with _ hh _;exact absurd hh (by decide)) (fun c z e=>by injection e with _ e _;exact absurd e (by decide))
    have cr2:w2.cell? ⟨w.heap.size,0,none⟩=some (.pointer (some ⟨g,0,none⟩)):=by rw [Lib.cell_of_heap hbr2];rfl
    have g23:=h2.frozen 3
    obtain ⟨tv,xv,_,_,c3,_,hxo⟩:=h2.rows
    have hl2:(putS FS 11 [] 1).texts=x0::ts:=HFT.out
    rw [hl2] at hxo
    obtain ⟨A3,cap3,rfl⟩:=lowns_slice hxo
    have hcap:ts.length+1≤cap3:=by
     rcases hxo.2 with ⟨hv,h0⟩ | ⟨q,cap',cur,hv,_,_,h5,_⟩
     ·simp at h0
     ·injection hv with e1 e2 e3
      subst e3
      exact h5
    rw [txCells_cons] at hxo
    have H2:=hid h2
    have HX3:=hid hxo
    clear h2 hk2 hbr2 hxo hl2
    simp only [List.length_cons] at c3
    have hts1:((ts.length+1:Nat):Int)-1=(ts.length:Int):=by omega
    have hi0:(0:Int)≤(ts.length:Int):=Int.natCast_nonneg _
    have hi1:(ts.length:Int)≤(cap3:Int):=Int.ofNat_le.2 (by omega)
    obtain ⟨hwr2,hwr⟩:wrap64 (ts.length:Int)=(ts.length:Int)∧IntKind.i64.wrap (ts.length:Int)=(ts.length:Int):=⟨IntWalk.wrap64_in _ ⟨by omega,by omega⟩,IntWalk.i64_in _ (by omega)⟩
    go_wp2
    go_still_tail 14,(by kernel_rfl)
    clear hwr hwr2
    go_wp2
    go_returns
    exact ⟨rfl,by rw [HF.out];exact (H2.out.put_texts (lowns_shrink HX3.out)).drew⟩
   ·have z1:((R[0].toNat:Int)==34)=false:=by rw [hb];exact beq_false_of_ne (by omega)
    have HQ:=hid hq
    clear hq
    by_cases hin:bt x 0=92∧bt x 1=40
    ·have KH2:=hid (fun W'=>(RetE.of (KH.out W')).mono (R':=RetE (.bool true) (fun w'=>W'=w')) (by rintro e w' ⟨rfl,h⟩;exact ⟨by rw [decide_eq_true hin],h⟩))
     have HF:Hid (F=putS FS 9 [] 2):=HFIN.out 1 (by rw [HSC.out,if_neg HQ.out,if_pos hin])
     clear hin hb
     go_wp2_with (go_at_call 116;refine (KH2.out _).mono ?_)
     rintro e w1 ⟨rfl,rfl⟩
     go_wp2_with (go_at_call 114;refine (RetE.of KF.out).mono ?_)
     rintro e w1 ⟨rfl,h1,hbr1⟩
     have cr1:w1.cell? ⟨w.heap.size,0,none⟩=some (.pointer (some ⟨g,0,none⟩)):=by rw [Lib.cell_of_heap hbr1];rfl
     have H1:=hid h1
     clear h1 hbr1
     go_wp2_with (go_at_call 80;refine (RetE.of (KP.out 9 2 (by omega) _ H1.out)).mono ?_)
     rintro e w2 ⟨rfl,h2,hk2⟩
     have H2:=hid h2
     clear h2 hk2
     go_wp2
     go_returns
     exact ⟨rfl,by rw [HF.out];exact H2.out⟩
    ·have KH2:=hid (fun W'=>(RetE.of (KH.out W')).mono (R':=RetE (.bool false) (fun w'=>W'=w')) (by rintro e w' ⟨rfl,h⟩;exact ⟨by rw [decide_eq_false hin],h⟩))
     have HIN:=hid hin
     clear hin
     by_cases h92:bt x 0=92
     ·have z2:((R[0].toNat:Int)==92)=true:=by rw [hb,h92];rfl
      have hpp:=pieceP_text x
      have hpn:=pieceP_size x
      have kpc:=lexPiece_any R W HTW.out (by omega)
      rw [HRX.out,pieceR_eq x h92] at kpc
      have HTS:=hid (show tooShort x=((readP (34::x.take 6)).2.1==1+x.length) from rfl)
      have kvi:=lexViable_any R
      rw [HRX.out] at kvi
      generalize (readP (34::x.take 6)).2.1=V at kvi HTS
      have H92:=hid h92
      clear h92 hb
      rw [if_neg HQ.out,if_neg HIN.out,if_pos H92.out] at HSC
      generalize pieceP x=Pc at kpc hpp hpn HSC
      have KPC:=hid (RetE.of (v:=.tuple #[.string ⟨Pc.1.toArray⟩,.int .i64 (Pc.2:Int)]) kpc)
      have KVI:=hid kvi
      clear kpc kvi
      by_cases hn:Pc.2=0
      ·have HN:=hid hn
       have zn:((Pc.2:Int)==0)=true:=by rw [hn];rfl
       clear hn hpn hpp
       go_wp2_with (go_at_call 116;refine (KH2.out _).mono ?_)
       rintro e w1 ⟨rfl,rfl⟩
       go_wp2_with (go_at_call 117;refine KPC.out.mono ?_)
       rintro e w1 ⟨rfl,hb1⟩
       have hv1:=HV.out.below hb1
       have hTW1:=HTT.out.below hv1.reader.1 (Nat.le_refl _)
       have KVI2:=hid (RetE.of (KVI.out w1 hTW1 (by omega)))
       have HV1:=hid hv1
       clear hb1 hv1 hTW1
       have KFL:=hid (fun (q c:Nat) (W':World) (h:LxV w0 g S { s with pos:=p } W')=>RetE.of (lexFail_any w0 g S { s with pos:=p } W' q c h))
       by_cases hsh:V=1+R.size
       ·have HF:Hid (F=failS s S.size 5):=HFIN.out 2 (by rw [HSC.out,if_pos HN.out,HTS.out,HXL.out,←HRS.out,hsh];simp)
        have zs:((V:Int)-1==(R.size:Int))=true:=by rw [hsh];simp;omega
        clear hsh
        go_wp2_with (go_at_call 118;refine KVI2.out.mono ?_)
        rintro e w2 ⟨rfl,hb2⟩
        have hv2:=HV1.out.below hb2
        have HV2:=hid hv2
        have cr2:=hv2.cr
        have c02:=hv2.reader.c0
        clear hv2 hb2
        go_wp2
        go_still_tail 6,(by kernel_rfl)
        go_wp2_with (go_at_call 59;refine (KFL.out S.size 5 _ HV2.out.reader.drew).mono ?_)
        rintro e w3 ⟨rfl,h3⟩
        go_wp2
        go_returns
        exact ⟨rfl,by rw [HF.out];exact h3⟩
       ·have HF:Hid (F=failS s p 2):=HFIN.out 3 (by rw [HSC.out,if_pos HN.out,HTS.out,HXL.out,←HRS.out,if_neg (by simpa using hsh)])
        have zs:((V:Int)-1==(R.size:Int))=false:=beq_false_of_ne (by omega)
        clear hsh
        go_wp2_with (go_at_call 118;refine KVI2.out.mono ?_)
        rintro e w2 ⟨rfl,hb2⟩
        have hv2:=HV1.out.below hb2
        have HV2:=hid hv2
        have cr2:=hv2.cr
        have c12:=hv2.reader.c1
        simp only at c12
        clear hv2 hb2
        go_wp2
        go_still_tail 5,(by kernel_rfl)
        go_wp2_with (go_at_call 59;refine (KFL.out p 2 _ HV2.out.reader.drew).mono ?_)
        rintro e w3 ⟨rfl,h3⟩
        go_wp2
        go_returns
        exact ⟨rfl,by rw [HF.out];exact h3⟩
      ·have zn:((Pc.2:Int)==0)=false:=beq_false_of_ne (by omega)
       have hps2:=hpn hn
       rw [if_neg hn] at HSC
       have hle2:Pc.2≤x.length∧0<Pc.2∧Pc.1.length≤4:=⟨hps2.2.1,by omega,hpp⟩
       have HLE:=hid hle2
       have hpc1:Pc.2≤R.size:=by have:=HXL.out;have:=HRS.out;omega
       clear hn hpn hpp hps2 hle2
       go_wp2_with (go_at_call 116;refine (KH2.out _).mono ?_)
       rintro e w1 ⟨rfl,rfl⟩
       go_wp2_with (go_at_call 117;refine KPC.out.mono ?_)
       rintro e w1 ⟨rfl,hb1⟩
       have hv1:=HV.out.below hb1
       have HV1:=hid hv1
       have HW1:=hid hv1.reader.1.size
       clear hb1 hv1
       have kws:=bld_writeString w0.heap.size (w.heap.size+1+1) _ ⟨Pc.1.toArray⟩ w1 HV1.out.bld (by rw [Lib.byteCells_length];have h1:=HLE.out.2.2;have:(⟨Pc.1.toArray⟩:ByteArray).size=Pc.1.length:=rfl;omega) HW1.out
       have KWS:=hid kws
       clear kws
       go_wp2_with (go_at_call 119;refine (RetE.of KWS.out).mono ?_)
       rintro e w2 ⟨rfl,hB2,hb2,hk2⟩
       have hv2:=HV1.out.written (o':=o++Pc.1) hb2 hk2 (.inr (by rw [Lib.byteCells_append];exact hB2))
       have HV2:=hid hv2
       have cr2:=hv2.cr
       have c12:=hv2.reader.c1
       have g12:=hv2.reader.frozen 1
       simp only at c12
       clear hv2 hb2 hB2 hk2
       go_wp2
       exact HRD.out w2 Pc.2 Pc.1 _ HV2.out (by omega) HLE.out.2.1 (by have:=HLE.out.1;rw [HXL.out] at this;omega) (by have:=HLE.out;omega) HSC.out
     ·have z2:((R[0].toNat:Int)==92)=false:=by rw [hb];exact beq_false_of_ne (by omega)
      have kde:=utfDecode_any R W HTW.out
      have hdn:=dec_n x (by rw [HXL.out];omega)
      unfold decVal at kde
      rw [HRX.out] at kde
      rw [if_neg HQ.out,if_neg HIN.out,if_neg h92] at HSC
      clear h92 hb
      generalize (dec x).1=r at kde
      generalize decOk x=ok at kde
      have htk:∀n,(R.extract 0 n).data.toList=x.take n:=fun n=>by rw [take_ext,HRX.out]
      have HTK:=hid (htk (dec x).2)
      clear htk
      generalize (dec x).2=n at kde hdn HSC HTK
      have hN:(R.extract 0 n).size=n:=by rw [Lib.size_eq,HTK.out,List.length_take,HXL.out,Nat.min_eq_left (by have:=HXL.out;omega)]
      have HN:=hid hN
      have KDE:=hid (RetE.of kde)
      have HDN:=hid hdn
      have hn1:n≤R.size:=by have:=HXL.out;have:=HRS.out;omega
      clear kde hdn hN
      go_wp2_with (go_at_call 116;refine (KH2.out _).mono ?_)
      rintro e w1 ⟨rfl,rfl⟩
      go_wp2_with (go_at_call 78;refine KDE.out.mono ?_)
      rintro e w1 ⟨rfl,hb1⟩
      have hv1:=HV.out.below hb1
      have HV1:=hid hv1
      have HW1:=hid hv1.reader.1.size
      clear hb1 hv1
      have kws:=bld_writeString w0.heap.size (w.heap.size+1+1) _ (R.extract 0 n) w1 HV1.out.bld (by rw [Lib.byteCells_length,HN.out];omega) HW1.out
      have KWS:=hid kws
      clear kws
      go_wp2_with (go_at_call 119;refine (RetE.of KWS.out).mono ?_)
      rintro e w2 ⟨rfl,hB2,hb2,hk2⟩
      have hv2:=HV1.out.written (o':=o++x.take n) hb2 hk2 (.inr (by rw [Lib.byteCells_append,←HTK.out];exact hB2))
      have HV2:=hid hv2
      have cr2:=hv2.cr
      have c12:=hv2.reader.c1
      have g12:=hv2.reader.frozen 1
      simp only at c12
      clear hv2 hb2 hB2 hk2
      go_wp2
      exact HRD.out w2 n (x.take n) _ HV2.out (by omega) (by have:=HDN.out;omega) (by have:=HRS.out;omega) (by rw [List.length_take];omega) HSC.out
  ·have hlt':decide ((p:Int)<(S.size:Int))=false:=decide_eq_false (by omega)
   have hx0:scanT (S.data.toList.drop p)=(2,0,[]):=by
    rw [scanT_eq,if_pos (by rw [List.length_drop,←HL.out];omega)]
   have HF:Hid (F=failS s S.size 5):=by
    have h1:=hk.out
    rw [hx0] at h1
    have h2:=HE.out _ h1
    rw [h2,←HL.out];rfl
   have KFL:=hid (fun (q c:Nat) (W':World) (h:LxV w0 g S { s with pos:=p } W')=>RetE.of (lexFail_any w0 g S { s with pos:=p } W' q c h))
   clear hk hx0
   go_wp2
   go_quiet (fail)
   go_wp2
   clear cr c0 c1
   obtain ⟨W,hW,hv⟩:∃W,wr.drewN _ = W∧TxV w0 g w.heap.size (w.heap.size+1) (w.heap.size+1+1) S { s with pos:=p } s.pos o W:=⟨_,rfl,HV.out.drewN nq⟩
   rw [hW]
   have HV2:=hid hv
   have cr:=hv.cr
   have c0:=hv.reader.c0
   clear hW hv
   go_still_tail 6,(by kernel_rfl)
   go_wp2_with (go_at_call 59;refine (KFL.out S.size 5 _ HV2.out.reader.drew).mono ?_)
   rintro e w3 ⟨rfl,h3⟩
   go_wp2
   go_returns
   exact ⟨rfl,by rw [HF.out];exact h3⟩
end Go.Proofs.YtmbeicndhigklaaGreatDoor
