/-
The walk of Tokens (chapter 14).
-/
import Derived.Test.YtmbeicndhigklaaGreatDoorPLexJ
import Derived.Test.YtmbeicndhigklaaGreatDoorPUtfC
import Derived.Test.YtmbeicndhigklaaGreatDoorPLexA
namespace Go.Proofs.YtmbeicndhigklaaGreatDoor
open Lib (hid)
open Go.RowKit
def TokV (w0:World) (l:List UInt8) (e:Ending) (w':World):Prop:=
 ∃v,e=.returned (.tuple #[v,.int .i64 ((tokensV l).2.1:Int),.int .i64 ((tokensV l).2.2:Int)])∧w'.ownsRow w0.heap.size 86 3 v (tokensV l).1.length (tkCells (tokensV l).1)∧Below w0.heap.size w0 w'
theorem TokV.bad {w0 w':World} {l:List UInt8} {a e:Nat} (h:tokensV l=([],a,e)) (hb:Below w0.heap.size w0 w'):TokV w0 l (.returned (.tuple #[.slice none 0 0,.int .i64 (a:Int),.int .i64 (e:Int)])) w':=by
 unfold TokV;rw [h];exact ⟨_,rfl,⟨rfl,.inl ⟨rfl,rfl⟩⟩,hb⟩
theorem lx_new {w w1:World} (hb:Below w.heap.size w w1) (S:ByteArray):LxV w w1.heap.size S ⟨0,[],[],0⟩ (w1.alloc (.cells #[.string S,.int .i64 0,.slice none 0 0,.slice none 0 0,.int .i64 0] 83)):=
 ⟨hb.alloc hb.size _,hb.size,.slice none 0 0,.slice none 0 0,World.alloc_heap_new w1 _,⟨rfl,.inl ⟨rfl,rfl⟩⟩,⟨rfl,.inl ⟨rfl,rfl⟩⟩⟩
theorem tokens_of_bad (l:List UInt8) (s:LS) (h0:¬100000<l.length) (h1:¬valid l<l.length) (h:runS l=s) (he:s.err≠0):tokensV l=([],s.pos,s.err):=by
 unfold tokensV;rw [if_neg h0,if_neg h1,h,if_pos he]
theorem tokens_of_short (l:List UInt8) (s:LS) (h0:¬100000<l.length) (h1:¬valid l<l.length) (h:runS l=s) (he:s.err=0) (ht:s.texts≠[]):tokensV l=([],l.length,5):=by
 unfold tokensV;rw [if_neg h0,if_neg h1,h,if_neg (fun h=>h he),if_pos ht]
theorem tokens_of_ok (l:List UInt8) (s:LS) (h0:¬100000<l.length) (h1:¬valid l<l.length) (h:runS l=s) (he:s.err=0) (ht:s.texts=[]):tokensV l=(s.toks,0,0):=by
 unfold tokensV;rw [if_neg h0,if_neg h1,h,if_neg (fun h=>h he),if_neg (fun h=>h ht)]
set_option maxHeartbeats 4000000 in
set_option maxRecDepth 100000 in
theorem lexTokens_any (S:ByteArray) (w:World) (hT:Tabs w) (hm:S.size≤maxLen) :
  Calls Tryz.prog 26 #[.string S] w (TokV w S.data.toList):=by
 unfold maxLen at hm
 have hL:=Lib.size_eq S
 have HL:=hid hL
 by_cases hbig:100000<S.size
 ·have HB:=hid (show tokensV S.data.toList=([],0,10) by unfold tokensV;rw [if_pos (by rw [←hL];exact hbig)])
  clear hL
  go_enter Tryz.func26,Tryz.ntmps26
  go_wp2
  go_ret3
  exact TokV.bad HB.out (Below.refl _ _)
 have kv:=utfValid_any S w hT (by unfold maxLen;omega)
 have hvl:valid S.data.toList=valid S.data.toList:=rfl
 by_cases hval:valid S.data.toList<S.size
 ·have HB:=hid (show tokensV S.data.toList=([],valid S.data.toList,7) by unfold tokensV;rw [if_neg (by rw [←hL];exact hbig),if_pos (by rw [←hL];exact hval)])
  clear hL hvl
  generalize valid S.data.toList=v at *
  have KV:=hid (RetE.of kv)
  clear kv
  go_enter Tryz.func26,Tryz.ntmps26
  go_wp2_with (go_at_call 56;refine KV.out.mono ?_)
  rintro e w1 ⟨rfl,hb1⟩
  go_wp2
  go_ret3
  exact TokV.bad HB.out hb1
 have h0:¬100000<S.data.toList.length:=by rw [←hL];exact hbig
 have h1:¬valid S.data.toList<S.data.toList.length:=by rw [←hL];exact hval
 have hrun0:runS S.data.toList=runF (S.data.toList.length+1) S.data.toList ⟨0,[],[],0⟩:=rfl
 have HBAD:=hid (fun s=>tokens_of_bad S.data.toList s h0 h1)
 have HSHO:=hid (fun s=>tokens_of_short S.data.toList s h0 h1)
 have HOK:=hid (fun s=>tokens_of_ok S.data.toList s h0 h1)
 have HR0:=hid hrun0
 have HT:=hid hT
 clear hL hvl h0 h1 hrun0 hT
 generalize valid S.data.toList=v at *
 have KV:=hid (RetE.of kv)
 clear kv
 go_enter Tryz.func26,Tryz.ntmps26
 go_wp2_with (go_at_call 56;refine KV.out.mono ?_)
 rintro e w1 ⟨rfl,hb1⟩
 have HLX:=hid (lx_new hb1 S)
 have hg0:=hb1.size
 clear hb1
 have KSK:=hid (fun (s:LS) (hp:s.pos≤S.size) (W:World) (h:LxV w w1.heap.size S s W)=>RetE.of (lexSkip_any w w1.heap.size S s W hp (by omega) h))
 have KTO:=hid (fun (s:LS) (hf:FineS s) (hp:s.pos<S.size) (W:World) (h:LxV w w1.heap.size S s W)=>RetE.of (lexToken_any w HT.out w1.heap.size S s hf W hp (by omega) h))
 go_wp2_with (go_at_call 57;refine (KSK.out ⟨0,[],[],0⟩ (Nat.zero_le _) _ HLX.out).mono ?_)
 rintro e w2 ⟨rfl,h2⟩
 have H2:=hid h2
 clear h2
 go_wp2
 go_loopw [] (fun wr=>∃(s0:LS) (f:Nat),s0.pos≤S.size∧s0.err=0∧FineS s0∧S.size<f+s0.pos∧Hid (runS S.data.toList=runF f S.data.toList s0)∧LxV w w1.heap.size S (skipS S.data.toList s0) wr) (fun wr=>S.size-lxPos w1.heap.size wr)
 case atStart=>exact ⟨⟨0,[],[],0⟩,S.size+1,Nat.zero_le _,rfl,⟨Nat.le_refl _,Nat.zero_le _,fun x h=>by cases h⟩,by simp,hid (by rw [HR0.out,HL.out]),H2.out⟩
 case round=>
  obtain ⟨s0,f,hp0,he0,hf0,hfu,hrun,hv⟩:=hrel
  have hsp:=skipS_pos S.data.toList s0 (by rw [←HL.out];exact hp0)
  rw [←HL.out] at hsp
  have hfs:=hf0.skip S.data.toList
  have hes:(skipS S.data.toList s0).err=0:=he0
  obtain ⟨f',rfl⟩:∃f',f=f'+1:=⟨f-1,by omega⟩
  have hst:=hrun.out.trans (runF_step f' S.data.toList s0)
  rw [←HL.out] at hst
  generalize skipS S.data.toList s0=s at hsp hfs hes hst hv
  have HV:=hid hv
  have c1:=hv.c1
  have c4:=hv.c4
  have hps:=hv.pos_of
  rw [hes] at c4
  have HES:=hid hes
  have HFS:=hid hfs
  clear hrun hf0 he0 hes hfs
  by_cases hlt:s.pos<S.size
  ·rw [if_neg (by omega)] at hst
   have hto:=tokenS_pos S.data.toList s (by rw [←HL.out];exact hlt)
   rw [←HL.out] at hto
   have hft:=fun he=>HFS.out.token S.data.toList he (by rw [←HL.out];exact hlt)
   have KT:=hid (KTO.out s HFS.out hlt wr hv)
   generalize tokenS S.data.toList s=s1 at hto hst hft KT
   have HST:=hid hst
   have HTO:=hid hto
   have HFT:=hid hft
   clear hst hto hft hv
   go_wp2_with (go_at_call 58;refine KT.out.mono ?_)
   rintro e w3 ⟨rfl,h3⟩
   have H3:=hid h3
   have c41:=h3.c4
   have c11:=h3.c1
   clear h3
   by_cases hr:s1.err=0
   ·rw [hr] at c41
    have KS1:=hid (KSK.out s1 HTO.out.1 w3 H3.out)
    have HR:=hid hr
    clear hr
    go_wp2_with (go_at_call 57;refine KS1.out.mono ?_)
    rintro e w4 ⟨rfl,h4⟩
    have hsp1:=skipS_pos S.data.toList s1 (by rw [←HL.out];exact HTO.out.1)
    have hpo4:=h4.pos_of
    have H4:=hid h4
    have HP4:=hid hpo4
    have HPS:=hid hps
    clear h4 hpo4 hps
    go_wp2
    go_roundw
    case rel=>exact ⟨s1,f',HTO.out.1,HR.out,HFT.out HR.out,by have:=HTO.out.2 HR.out;omega,hid (by rw [HST.out,if_neg (fun h=>h HR.out)]),H4.out⟩
    case measure=>rw [HP4.out,HPS.out];have:=HTO.out.2 HR.out;omega
   ·have z1:((s1.err:Int) != 0)=true:=by rw [bne_iff_ne];omega
    have z2:((s1.err:Int)==0)=false:=beq_false_of_ne (by omega)
    have HF:=hid (HBAD.out s1 (by rw [HST.out,if_pos hr]) hr)
    clear hr
    go_wp2
    go_quiet (fail)
    go_wp2
    go_ret3
    exact TokV.bad HF.out (H3.out.drewN _).1
  ·rw [if_pos (by omega)] at hst
   have hlt':decide ((s.pos:Int)<(S.size:Int))=false:=decide_eq_false (by omega)
   obtain ⟨tv,xv,_,c2,c3,ho,hx⟩:=hv.rows
   obtain ⟨A2,cap2,rfl⟩:=lowns_slice ho
   obtain ⟨A3,cap3,rfl⟩:=lowns_slice hx
   have HO:=hid ho
   have HST:=hid hst
   by_cases htx:s.texts=[]
   ·have HF:=hid (HOK.out s hst HES.out htx)
    have hl0:s.texts.length=0:=by rw [htx];rfl
    clear htx hst hv ho hx
    go_wp2
    go_ret3
    exact ⟨_,by rw [HF.out];rfl,by rw [HF.out];exact HO.out,HV.out.1⟩
   ·have HF:=hid (HSHO.out s hst HES.out htx)
    have hl0:decide (0<s.texts.length)=true:=decide_eq_true (List.length_pos_iff.2 htx)
    have KFL:=hid (fun (q c:Nat)=>RetE.of (lexFail_any w w1.heap.size S s wr q c hv))
    clear htx hst hv ho hx
    go_wp2_with (go_at_call 59;refine (KFL.out S.size 5).mono ?_)
    rintro e w3 ⟨rfl,h3⟩
    have H3:=hid h3
    have c41:=h3.c4
    have c11:=h3.c1
    simp only [failS] at c41 c11
    clear h3
    go_wp2
    go_quiet (fail)
    go_wp2
    go_ret3
    exact TokV.bad (by rw [HF.out,←HL.out]) (H3.out.drewN _).1
end Go.Proofs.YtmbeicndhigklaaGreatDoor
