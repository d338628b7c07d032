/-
  The laws of chapter 17: what stands at their head, and what they ask of rows of texts.
  What a row of chapters 16 and 17 asks: a tree and a row of texts that come in, opened, and how much they are.
-/
import Derived.Test.YtmbeicndhigklaaGreatDoorASn
import Derived.Test.YtmbeicndhigklaaGreatDoorPSynLa
import Derived.Test.YtmbeicndhigklaaGreatDoorPRow
import Derived.Test.YtmbeicndhigklaaGreatDoorASs
import Derived.Test.YtmbeicndhigklaaGreatDoorPSynW
import Derived.ChangeArms
import Derived.Deep.Slices
namespace Go.Proofs.YtmbeicndhigklaaGreatDoor
open Go.RowKit
theorem YT.new {w:World} (k:Int) (x:List UInt8) (ps:List (Ny×Option Addr×Nat)) (h:∀p∈ps,YT w p.1 p.2.1 p.2.2) (hl:ps.length≤maxLen) :
  YT (w.alloc (.cells (ps.flatMap fun p=>yCells p.1 (.slice p.2.1 p.1.kids.length p.2.2)).toArray TN)) (.mk k x (ps.map (·.1))) (some ⟨w.heap.size,0,none⟩) ps.length:=by
 obtain ⟨W,hW⟩:∃W,W=w.alloc (.cells (ps.flatMap fun p=>yCells p.1 (.slice p.2.1 p.1.kids.length p.2.2)).toArray TN):=⟨_,rfl⟩
 have hb:Below w.heap.size w W:=by rw [hW];exact (Below.refl _ w).alloc (Nat.le_refl _) _
 have hh:W.heap[w.heap.size]?=some (.cells (ps.flatMap fun p=>yCells p.1 (.slice p.2.1 p.1.kids.length p.2.2)).toArray TN (0,0)):=by rw [hW];exact Go.heap_alloc_new w _
 rw [←hW]
 have hlev:∃n,∀p∈ps,YV (fun _=>True) W n p.1.kids (.slice p.2.1 p.1.kids.length p.2.2):=by
  clear hl hh hW
  induction ps with
  | nil=>exact ⟨0,fun p hp=>by cases hp⟩
  | cons p ps ih=>
   obtain ⟨n,hn⟩:=ih (fun q hq=>h q (List.mem_cons_of_mem _ hq))
   obtain ⟨m,hm⟩:=(YX.below (h p (List.mem_cons_self ..)) hb)
   refine ⟨max n m,fun q hq=>?_⟩
   rcases List.mem_cons.1 hq with rfl | hq
   ·exact YV.le (Nat.le_max_right ..) hm
   ·exact YV.le (Nat.le_max_left ..) (hn q hq)
 obtain ⟨n,hn⟩:=hlev
 have hcell:∀(ps:List (Ny×Option Addr×Nat)) (i:Nat) p,ps[i]?=some p→∀j v,(yCells p.1 (.slice p.2.1 p.1.kids.length p.2.2))[j]?=some v→(ps.flatMap fun p=>yCells p.1 (.slice p.2.1 p.1.kids.length p.2.2))[i * 3+j]?=some v:=by
  intro ps
  induction ps with
  | nil=>intro i p hp;cases hp
  | cons q ps ih=>
   intro i p hp j v hv
   rw [List.flatMap_cons]
   cases i with
   | zero=>
    obtain rfl:q=p:=by simpa using hp
    rw [Nat.zero_mul,Nat.zero_add,List.getElem?_append_left (List.getElem?_eq_some_iff.1 hv).1]
    exact hv
   | succ i=>
    have h3:(yCells q.1 (.slice q.2.1 q.1.kids.length q.2.2)).length=3:=rfl
    rw [List.getElem?_append_right (by rw [h3];omega),h3,show (i+1) * 3+j-3=i * 3+j by omega]
    exact ih i p hp j v hv
 refine ⟨n+1,some ⟨w.heap.size,0,none⟩,ps.length,by show Value.slice _ (ps.map (·.1)).length _ = .slice _ (ps.map (·.1)).length _;rfl,fun _=>⟨by show (ps.map (·.1)).length≤_;rw [List.length_map];exact Nat.le_refl _,hl⟩,fun _=>?_⟩
 refine ⟨w.heap.size,0,_,TN,(0,0),rfl,trivial,hh,fun i t hi=>?_⟩
 have hi':(ps.map (·.1))[i]?=some t:=hi
 rw [List.getElem?_map,Option.map_eq_some_iff] at hi'
 obtain ⟨p,hp,rfl⟩:=hi'
 refine ⟨_,fun j v hj=>?_,hn p (List.mem_of_getElem? hp)⟩
 rw [Nat.zero_add,List.getElem?_toArray]
 exact hcell ps i p hp j v hj
theorem dd0:Lib.decDigits 0=[48]:=by rw [Lib.decDigits,dif_pos (by decide)];rfl
theorem dd2:Lib.decDigits 2=[50]:=by rw [Lib.decDigits,dif_pos (by decide)];rfl
def shA:Nd:=.mk 23 [] [.mk 1 [] [],.mk 28 [120] [],.mk 15 [] [.mk 17 [43] [.mk 24 [120] [],.mk 24 [121] []],.mk 25 [102] [.mk 3 [49] [],.mk 25 [103] []]]]
def shB:Nd:=.mk 26 [102] [.mk 27 [36,97] [],.mk 27 [103] [],.mk 17 [43] [.mk 17 [43] [.mk 17 [43] [.mk 25 [102] [.mk 3 [49] [],.mk 3 [50] []],.mk 24 [97] []],.mk 25 [97] []],.mk 25 [103] []],.mk 24 [97] []]
theorem sqA:parseV numE [46,32,97,115,32,36,120,32,124,32,36,120,32,43,32,36,121,32,124,32,102,40,49,59,32,103,41]=(shA,0,0):=by kernel_rfl
theorem sqB:parseV numE [100,101,102,32,102,40,36,97,59,32,103,41,58,32,102,40,49,59,32,50,41,32,43,32,36,97,32,43,32,97,32,43,32,103,59,32,36,97]=(shB,0,0):=by kernel_rfl
theorem smA:mayY numE (toY shA)=true:=by kernel_rfl
theorem smB:mayY numE (toY shB)=true:=by kernel_rfl
theorem sfA:freeY (toY shA)=[[36,121],[102,47,50],[103,47,48]]:=by
 unfold freeY
 rw [smA,if_pos rfl]
 simp [shA,toY,toYs,useY,useYs,ownY,bndY,notIn,vrY,addN,fnN,dd0,dd2]
theorem sfB:freeY (toY shB)=[[36,97]]:=by
 unfold freeY
 rw [smB,if_pos rfl]
 simp [shB,toY,toYs,useY,useYs,ownY,bndY,notIn,addN,fnN,dd0,dd2,parNs,parN,Ny.text]
theorem sbA:blkY (toY shA)≤100000000:=by decide +kernel
theorem sbB:blkY (toY shB)≤100000000:=by decide +kernel
set_option maxHeartbeats 4000000 in
set_option maxRecDepth 100000 in
theorem scShown_any (w:World) (hT:Tb w):Calls Tryz.prog 8 #[] w (RetY (.bool true) fun w'=>Below w.heap.size w w'):=by
 obtain ⟨X1,u1⟩:∃X,X=toY shA:=⟨_,rfl⟩
 obtain ⟨X2,u2⟩:∃X,X=toY shB:=⟨_,rfl⟩
 have K1:=Lib.hid (fun W (hb:Below w.heap.size w W)=>show Calls Tryz.prog 16 #[.string ⟨#[46,32,97,115,32,36,120,32,124,32,36,120,32,43,32,36,121,32,124,32,102,40,49,59,32,103,41]⟩] W (ParY X1 0 0 W) by rw [u1];exact par_y hT.t hT.n (by decide) sqA W hb)
 have K2:=Lib.hid (fun W (hb:Below w.heap.size w W)=>show Calls Tryz.prog 16 #[.string ⟨#[100,101,102,32,102,40,36,97,59,32,103,41,58,32,102,40,49,59,32,50,41,32,43,32,36,97,32,43,32,97,32,43,32,103,59,32,36,97]⟩] W (ParY X2 0 0 W) by rw [u2];exact par_y hT.t hT.n (by decide) sqB W hb)
 have K3:=Lib.hid (fun A c W (hb:Below w.heap.size w W) (h:YT W X1 A c)=>show Calls Tryz.prog 9 #[yAgg X1 (.slice A X1.kids.length c)] W (FrR true [[36,121],[102,47,50],[103,47,48]] W) by
  have k:=scFree_any X1 (by rw [u1];exact sbA) A c W (hT.below hb (Nat.le_refl _)) h
  rwa [u1,smA,sfA,←u1] at k)
 have K4:=Lib.hid (fun A c W (hb:Below w.heap.size w W) (h:YT W X2 A c)=>show Calls Tryz.prog 9 #[yAgg X2 (.slice A X2.kids.length c)] W (FrR true [[36,97]] W) by
  have k:=scFree_any X2 (by rw [u2];exact sbB) A c W (hT.below hb (Nat.le_refl _)) h
  rwa [u2,smB,sfB,←u2] at k)
 have B0:=Lib.hid (Below.refl w.heap.size w)
 clear hT u1 u2
 simp only [yAgg] at K3 K4
 go_enter Tryz.func8,Tryz.ntmps8
 go_wp2_with (go_at_call 16;with_reducible refine (K1.out _ B0.out).mono ?_)
 rintro e w1 ⟨A1,c1,rfl,hk1,hb1⟩
 obtain ⟨V1,hV1⟩:∃V,V=w1.alloc (.cells (yCells X1 (.slice A1 X1.kids.length c1)).toArray TN):=⟨_,rfl⟩
 have P1:=Lib.hid (show YP V1 w1.heap.size X1 A1 c1 by rw [hV1];exact YP.made hk1)
 have s1:Below w.heap.size w V1:=by rw [hV1];exact hb1.alloc hb1.size _
 have B1:=Lib.hid (B0.out.trans (s1.mono B0.out.size))
 clear hk1 hb1 s1 B0
 simp only [yAgg]
 go_upto_region 2 with fail
 have e1:V1=w1.alloc (.cells #[.int .i64 X1.kind,.string ⟨X1.text.toArray⟩,.slice A1 X1.kids.length c1] TN):=hV1
 rw [←e1]
 clear e1 hV1
 go_wp2_with (go_at_call 16;with_reducible refine (K2.out _ B1.out).mono ?_)
 rintro e w2 ⟨A2,c2,rfl,hk2,hb2⟩
 obtain ⟨V2,hV2⟩:∃V,V=w2.alloc (.cells (yCells X2 (.slice A2 X2.kids.length c2)).toArray TN):=⟨_,rfl⟩
 have P2:=Lib.hid (show YP V2 w2.heap.size X2 A2 c2 by rw [hV2];exact YP.made hk2)
 have s2:Below V1.heap.size V1 V2:=by rw [hV2];exact hb2.alloc hb2.size _
 have B2:=Lib.hid (B1.out.trans (s2.mono B1.out.size))
 have P1:=Lib.hid (P1.out.below s2)
 clear hk2 hb2 s2 B1
 simp only [yAgg]
 go_upto_region 3 with fail
 have e2:V2=w2.alloc (.cells #[.int .i64 X2.kind,.string ⟨X2.text.toArray⟩,.slice A2 X2.kids.length c2] TN):=hV2
 rw [←e2]
 clear e2 hV2
 generalize w1.heap.size=q1 at *
 generalize w2.heap.size=q2 at *
 obtain ⟨d0,d1,d2⟩:=P1.out.all
 go_wp2_with (go_at_call 9;with_reducible refine (K3.out _ _ _ B2.out P1.out.kids).mono ?_)
 rintro e w3 ⟨v3,rfl,ho3,hb3⟩
 have P2:=Lib.hid (P2.out.below hb3)
 have B3:=Lib.hid (B2.out.trans (hb3.mono B2.out.size))
 obtain ⟨A3,cap3,rfl,hv3⟩:=own_str ho3
 have HV3:=Lib.hid hv3
 clear ho3 hb3 hv3 d0 d1 d2 P1
 obtain ⟨d0,d1,d2⟩:=P2.out.all
 go_wp2_with (go_at_call 9;with_reducible refine (K4.out _ _ _ B3.out P2.out.kids).mono ?_)
 rintro e w4 ⟨v4,rfl,ho4,hb4⟩
 have B4:=Lib.hid (B3.out.trans (hb4.mono B3.out.size))
 obtain ⟨A4,cap4,rfl,hv4⟩:=own_str ho4
 obtain ⟨g3,rfl,_,hc3⟩:=(HV3.out.below hb4).2 (by simp)
 obtain ⟨g4,rfl,_,hc4⟩:=hv4.2 (by simp)
 have a0:w4.cell? ⟨g3,0,none⟩=some (.string ⟨#[36,121]⟩):=hc3 0 _ rfl
 have a1:w4.cell? ⟨g3,1,none⟩=some (.string ⟨#[102,47,50]⟩):=hc3 1 _ rfl
 have a2:w4.cell? ⟨g3,2,none⟩=some (.string ⟨#[103,47,48]⟩):=hc3 2 _ rfl
 have a3:w4.cell? ⟨g4,0,none⟩=some (.string ⟨#[36,97]⟩):=hc4 0 _ rfl
 clear ho4 hb4 hv4 hc3 hc4 d0 d1 d2 P2 HV3
 go_wp2
 go_ret
 exact ⟨rfl,B4.out⟩
set_option maxHeartbeats 4000000 in
set_option maxRecDepth 100000 in
theorem scWithin_any (xs:List (List UInt8)) (x:List UInt8) (A:Option Addr) (cap:Nat) (w:World) (hv:StrW w A cap xs) (hn:xs.length≤1099511627776) :
  Calls Tryz.prog 12 #[.slice A xs.length cap,.string ⟨x.toArray⟩] w (RetY (.bool (xs.contains x)) fun w'=>w=w'):=by
 obtain ⟨b,hb⟩:∃b,b=xs.contains x:=⟨_,rfl⟩
 rw [←hb]
 have HB:=Lib.hid hb
 have HV:=Lib.hid hv
 clear hb hv
 generalize hl:xs.length=n at *
 have HL:=Lib.hid hl
 clear hl
 go_enter Tryz.func12,Tryz.ntmps12
 go_wp2
 go_loopg [5] (n+1) (fun kx v5 wr=>∃i:Nat,v5=.int .i64 (i:Int)∧i≤n∧n-i≤kx∧Hid (b=(xs.drop i).contains x)∧w=wr)
 case atStart=>exact ⟨0,rfl,Nat.zero_le _,by omega,HB,rfl⟩
 case round=>
  obtain ⟨i,rfl,hi,hik,hrel,rfl⟩:=hrel
  by_cases hlt:i<n
  ·have hlt':i<xs.length:=by rw [HL.out];exact hlt
   obtain ⟨y,hy⟩:∃y,y=xs[i]:=⟨_,rfl⟩
   have hyi:xs[i]?=some y:=by rw [hy];exact List.getElem?_eq_getElem hlt'
   obtain ⟨g,o,rfl,_,hc⟩:=HV.out.2.2 (fun e=>by rw [e] at hyi;cases hyi)
   have e0:=hc i y hyi
   have hst:b=(x==y||(xs.drop (i+1)).contains x):=by rw [hrel.out,show xs.drop i=y::xs.drop (i+1) by rw [hy];exact List.drop_eq_getElem_cons hlt',List.contains_cons]
   have HST:=Lib.hid hst
   have i0:(0:Int)≤(i:Int):=by omega
   have i1:(i:Int)<(n:Int):=by omega
   clear hst hrel hc hy hyi hlt'
   by_cases hxy:y=x
   ·have z1:(y==x)=true:=beq_iff_eq.2 hxy
    have HS2:=Lib.hid (show b=true by rw [HST.out,hxy];simp)
    clear hxy HST
    go_wp2
    go_ret
    exact ⟨by rw [HS2.out];rfl,rfl⟩
   ·have z1:(y==x)=false:=beq_eq_false_iff_ne.2 hxy
    have HS2:=Lib.hid (show b=(xs.drop (i+1)).contains x by rw [HST.out,beq_eq_false_iff_ne.2 (Ne.symm hxy),Bool.false_or])
    clear hxy HST
    go_wp2
    go_roundg (n-(i+1))
    case measure=>omega
    case rel=>exact ⟨i+1,by go_num,by omega,Nat.le_refl _,HS2,rfl⟩
  ·have hme:b=false:=by rw [hrel.out,List.drop_eq_nil_of_le (by rw [HL.out];omega)];rfl
   have HME:=Lib.hid hme
   clear hrel hme
   go_wp2
   go_ret
   exact ⟨by rw [HME.out];rfl,rfl⟩
set_option maxHeartbeats 4000000 in
set_option maxRecDepth 100000 in
theorem scSame_any (a b:List (List UInt8)) (A B:Option Addr) (ca cb:Nat) (w:World) (ha:StrW w A ca a) (hb:StrW w B cb b) (hn:a.length≤1099511627776) :
  Calls Tryz.prog 21 #[.slice A a.length ca,.slice B b.length cb] w (RetY (.bool (a==b)) fun w'=>Below w.heap.size w w'):=by
 obtain ⟨r,hr⟩:∃r,r=(a==b):=⟨_,rfl⟩
 rw [←hr]
 by_cases hl:a.length=b.length
 ·have HA:=Lib.hid ha
  have HB:=Lib.hid hb
  have HR:=Lib.hid hr
  clear ha hb hr
  generalize hla:a.length=n at *
  have HLA:=Lib.hid hla
  have HLB:=Lib.hid hl
  rw [←hl]
  clear hla hl
  go_enter Tryz.func21,Tryz.ntmps21
  go_wp2
  go_loopg [5] (n+1) (fun kx v5 wr=>∃i:Nat,v5=.int .i64 (i:Int)∧i≤n∧n-i≤kx∧Hid (r=(a.drop i==b.drop i))∧Below w.heap.size w wr)
  case atStart=>exact ⟨0,rfl,Nat.zero_le _,by omega,HR,Below.refl _ _⟩
  case round=>
   obtain ⟨i,rfl,hi,hik,hrel,hb⟩:=hrel
   have HBW:=Lib.hid hb
   clear hb
   by_cases hlt:i<n
   ·have hlt':i<a.length:=by rw [HLA.out];exact hlt
    have hltb:i<b.length:=by rw [←HLB.out];exact hlt
    obtain ⟨x,hx⟩:∃x,x=a[i]:=⟨_,rfl⟩
    obtain ⟨y,hy⟩:∃y,y=b[i]:=⟨_,rfl⟩
    have hxi:a[i]?=some x:=by rw [hx];exact List.getElem?_eq_getElem hlt'
    have hyi:b[i]?=some y:=by rw [hy];exact List.getElem?_eq_getElem hltb
    obtain ⟨g,o,rfl,_,hc⟩:=(HA.out.below HBW.out).2.2 (fun e=>by rw [e] at hxi;cases hxi)
    obtain ⟨g2,o2,rfl,_,hc2⟩:=(HB.out.below HBW.out).2.2 (fun e=>by rw [e] at hyi;cases hyi)
    have e0:=hc i x hxi
    have e1:=hc2 i y hyi
    have hst:r=(x==y&&a.drop (i+1)==b.drop (i+1)):=by
     rw [hrel.out,show a.drop i=x::a.drop (i+1) by rw [hx];exact List.drop_eq_getElem_cons hlt',show b.drop i=y::b.drop (i+1) by rw [hy];exact List.drop_eq_getElem_cons hltb];rfl
    have HST:=Lib.hid hst
    have i0:(0:Int)≤(i:Int):=by omega
    have i1:(i:Int)<(n:Int):=by omega
    clear hst hrel hc hc2 hx hxi hy hyi hlt' hltb
    by_cases hxy:x=y
    ·have z1:(x==y)=true:=beq_iff_eq.2 hxy
     have HS2:=Lib.hid (show r=(a.drop (i+1)==b.drop (i+1)) by rw [HST.out,z1,Bool.true_and])
     clear hxy HST
     go_wp2
     go_quiet (fail)
     go_wp2
     go_roundg (n-(i+1))
     case measure=>omega
     case rel=>exact ⟨i+1,by go_num,by omega,Nat.le_refl _,HS2,HBW.out.trans ⟨rfl,rfl,rfl,Nat.le_refl _,fun _ _=>rfl⟩⟩
    ·have z1:(x==y)=false:=beq_eq_false_iff_ne.2 hxy
     have HS2:=Lib.hid (show r=false by rw [HST.out,z1,Bool.false_and])
     clear hxy HST
     go_wp2
     go_quiet (fail)
     go_wp2
     go_ret
     exact ⟨by rw [HS2.out];rfl,HBW.out.trans ⟨rfl,rfl,rfl,Nat.le_refl _,fun _ _=>rfl⟩⟩
   ·have hme:r=true:=by rw [hrel.out,List.drop_eq_nil_of_le (by rw [HLA.out];omega),List.drop_eq_nil_of_le (by rw [←HLB.out];omega)];rfl
    have HME:=Lib.hid hme
    clear hrel hme
    go_wp2
    go_ret
    exact ⟨by rw [HME.out];rfl,HBW.out⟩
 ·have hme:r=false:=by
   rw [hr,beq_eq_false_iff_ne]
   exact fun e=>hl (by rw [e])
  have z1:((a.length:Int)==(b.length:Int))=false:=beq_eq_false_iff_ne.2 (by omega)
  have z2:(a.length==b.length)=false:=beq_eq_false_iff_ne.2 hl
  subst hme
  clear hr ha hb
  go_enter Tryz.func21,Tryz.ntmps21
  go_wp2
  go_ret
  exact ⟨rfl,Below.refl _ _⟩
set_option maxHeartbeats 1000000 in
theorem scTexts_any (a b:List (List UInt8)) (A B:Option Addr) (ca cb:Nat) (w:World) (ha:StrW w A ca a) (hb:StrW w B cb b) (hn:a.length≤1099511627776) :
  Calls Tryz.prog 11 #[.slice A a.length ca,.slice B b.length cb] w (RetY (.bool (a==b)) fun w'=>Below w.heap.size w w'):=by
 have K:=Lib.hid (scSame_any a b A B ca cb w ha hb hn)
 clear ha hb hn
 generalize (a==b)=r at *
 go_enter Tryz.func11,Tryz.ntmps11
 go_wp2_with (go_at_call 21;refine K.out.mono ?_)
 rintro e w1 ⟨rfl,hb1⟩
 go_wp2
 go_ret
 exact ⟨rfl,hb1⟩
theorem free_len (t:Ny):(freeY t).length≤blkY t:=by
 unfold freeY
 have h1:=addN_len [] (useY t)
 have h2:=use_len t
 rw [List.length_nil] at h1
 split
 ·omega
 ·exact Nat.zero_le _
theorem notIn_step {X Y:List (List UInt8)} {i:Nat} {y:List UInt8} (h:Y[i]?=some y):notIn X (Y.take (i+1))=notIn X (Y.take i)++if X.contains y then [] else [y]:=by
 rw [List.take_add_one,h,notIn_append]
 congr 1
 show notIn X [y] = _
 unfold notIn
 rw [List.filter_cons]
 cases X.contains y <;> rfl
open Go.ChangeShapes Go.WideShapes Go.ChangeAt Go.RowKit
theorem cellsNy:Tryz.prog.cellsOf TN=3:=by kernel_rfl
theorem list3 {cs:List Value} (h:cs.length=3):∃v0 v1 v2,cs=[v0,v1,v2]:=by
 match cs,h with
 | [v0,v1,v2],_=>exact ⟨v0,v1,v2,rfl⟩
section
variable {H:Type} {enc:TypeId×Value→H} {W:World} {base:Nat} {spare:Nat→Bool} {held:Bool}
theorem trod_i64 {P:Program} {t:TypeId} (ht:P.underlying t=some (.int .i64)) {n:Nat} {v:Value} {y:DataW H×List MemPlace} (h:DataW.trod enc P W base spare held n t [v]=some y):∃z,v=.int .i64 z:=by
 cases n with
 | zero=>simp [DataW.trod] at h
 | succ n=>
  unfold DataW.trod at h
  rw [ht] at h
  cases v <;> simp at h
  exact ⟨_,by rw [h.1.1]⟩
theorem trod_strU {P:Program} {t:TypeId} (ht:P.underlying t=some (.string)) {n:Nat} {v:Value} {y:DataW H×List MemPlace} (h:DataW.trod enc P W base spare held n t [v]=some y):∃s:List UInt8,v=.string ⟨s.toArray⟩∧s.length+1≤Rows.uptoBulk y.1:=by
 cases n with
 | zero=>simp [DataW.trod] at h
 | succ n=>
  unfold DataW.trod at h
  rw [ht] at h
  cases v <;> simp at h
  rename_i s
  refine ⟨s.data.toList,by simp,?_⟩
  rw [←h.2]
  exact Nat.le_refl _
theorem bulkAll_le {α:Type} (f:α→Nat) (F:List α→Nat) (h0:F []=0) (h1:∀a l,F (a::l)=f a+F l):∀(ks:List α) (es:List (DataW H)),ks.length=es.length→(∀(i:Nat) k e,ks[i]?=some k→es[i]?=some e→f k≤Rows.uptoBulk e)→F ks≤Rows.uptoBulkAll es
 | [],_,_,_=>by rw [h0];exact Nat.zero_le _
 | k::ks,[],h,_=>by cases h
 | k::ks,e::es,h,hp=>by
  rw [h1,Rows.uptoBulkAll]
  have a:=hp 0 k e rfl rfl
  have b:=bulkAll_le f F h0 h1 ks es (by simpa using h) (fun i k' e' hk he=>hp (i+1) k' e' hk he)
  omega
end
theorem open_nkidsU {H:Type} {enc:TypeId×Value→H} {W:World} {base:Nat} {spare:Nat→Bool} {held:Bool} {fuel:Nat}
  (ih:∀m,m<fuel→∀(cs:List Value) (x:DataW H×List MemPlace),DataW.trod enc Tryz.prog W base spare held m TN cs=some x→∃(t:Ny) (A:Option Addr) (c:Nat),cs=yCells t (.slice A t.kids.length c)∧YT W t A c∧blkY t≤Rows.uptoBulk x.1)
  {cs:List Value} {x:DataW H×List MemPlace} (h:DataW.trod enc Tryz.prog W base spare held fuel 22 cs=some x) :
  ∃(ks:List Ny) (A:Option Addr) (c n:Nat),cs=[.slice A ks.length c]∧YV (fun _=>True) W n ks (.slice A ks.length c)∧blkYs ks≤Rows.uptoBulk x.1:=by
 rcases DataW.trod_slice Tryz.underlying22 h with ⟨rfl,_⟩ | ⟨a,len,cap,elems,rest,n,hfu,rfl,hx,_,hl,hm,hlen,hel,_,_⟩
 ·exact ⟨[],none,0,0,rfl,⟨rfl,_,_,rfl⟩,by rw [blkYs];exact Nat.zero_le _⟩
 ·have hkid:∀i,i<len→∃k:Ny,∃(A:Option Addr) (c:Nat),(∀j,j<3→W.cell? (a.add (i * 3+j))=(yCells k (.slice A k.kids.length c))[j]?)∧YT W k A c∧∃y,elems[i]?=some y∧blkY k≤Rows.uptoBulk y.1:=by
   intro i hi
   have e:=hel i hi
   rw [List.getElem?_eq_getElem (by omega),Option.bind_eq_some_iff] at e
   obtain ⟨cs',e1,e2⟩:=e
   obtain ⟨_,_,hcell⟩:=World.cells?_some e1
   obtain ⟨k,A,c,rfl,hk,hb⟩:=ih n (by omega) _ _ e2
   refine ⟨k,A,c,fun j hj=>?_,hk,_,List.getElem?_eq_getElem (by omega),hb⟩
   have:=hcell j (by rw [cellsNy];exact hj)
   rw [cellsNy,Deep.add_add] at this
   exact this
  obtain ⟨f,hf⟩:=Deep.choose_lt hkid
  obtain ⟨m,hmm⟩:=Deep.fuel_lt (n:=len) (q:=fun i m=>∃(A:Option Addr) (c:Nat),(∀j,j<3→W.cell? (a.add (i * 3+j))=(yCells (f i) (.slice A (f i).kids.length c))[j]?)∧YV (fun _=>True) W m (f i).kids (.slice A (f i).kids.length c))
   (fun i x y hxy ⟨A,c,h1,h2⟩=>⟨A,c,h1,YV.le hxy h2⟩) (fun i hi=>by
    obtain ⟨A,c,h1,⟨lv,h2⟩,_⟩:=hf i hi
    exact ⟨lv,A,c,h1,h2⟩)
  have hks:((List.range len).map f).length=len:=by simp
  refine ⟨(List.range len).map f,some a,cap,m+1,by rw [hks],⟨some a,cap,rfl,fun _=>by rw [hks];omega,fun hne=>?_⟩,?_⟩
  ·have hpos:0<len:=by
    rcases Nat.eq_zero_or_pos len with h0 | h0
    ·subst h0;exact absurd rfl hne
    ·exact h0
   obtain ⟨A0,c0,h0,_⟩:=hmm 0 hpos
   have h00:=h0 0 (by omega)
   obtain ⟨b,off,spot⟩:=a
   have hspot:spot=none:=by
    have:=World.cell?_spot (h00.trans rfl)
    simpa [Addr.add] using this
   subst hspot
   have hcell:∃c T z,W.heap[b]?=some (.cells c T z):=by
    have h1:W.cell? ⟨b,off,none⟩=some (.int .i64 (f 0).kind):=by
     have:=h00
     rw [add_plain,Nat.zero_mul,Nat.zero_add,Nat.add_zero] at this
     exact this.trans rfl
    unfold World.cell? at h1
    split at h1
    ·exact ⟨_,_,_,by assumption⟩
    ·simp at h1
   obtain ⟨c,T,z,hh⟩:=hcell
   refine ⟨b,off,c,T,z,rfl,trivial,hh,fun i t hi=>?_⟩
   rw [List.getElem?_map,Option.map_eq_some_iff] at hi
   obtain ⟨i',hi1,rfl⟩:=hi
   have hil:i<len:=by
    have:=(List.getElem?_eq_some_iff.1 hi1).1
    simpa using this
   rw [List.getElem?_range hil] at hi1
   obtain rfl:=Option.some.inj hi1
   obtain ⟨A,cc,h1,h2⟩:=hmm i hil
   refine ⟨_,fun j v hj=>?_,h2⟩
   have hj3:j<3:=(List.getElem?_eq_some_iff.1 hj).1
   have:=h1 j hj3
   rw [add_plain,Lib.cell_of_heap hh,hj] at this
   exact this
  ·rw [hx,Rows.uptoBulk]
   have:=bulkAll_le (H:=H) blkY blkYs (by rw [blkYs]) (fun a l=>by rw [blkYs]) ((List.range len).map f) (elems.map (·.1)) (by rw [hks,List.length_map,hlen]) (fun i k e hk he=>by
    rw [List.getElem?_map,Option.map_eq_some_iff] at hk he
    obtain ⟨i',hi1,rfl⟩:=hk
    obtain ⟨y,hy,rfl⟩:=he
    have hil:i<len:=by
     have:=(List.getElem?_eq_some_iff.1 hi1).1
     simpa using this
    rw [List.getElem?_range hil] at hi1
    obtain rfl:=Option.some.inj hi1
    obtain ⟨_,_,_,_,y',hy',hb⟩:=hf i hil
    rw [hy] at hy'
    obtain rfl:=Option.some.inj hy'
    exact hb)
   omega
set_option maxRecDepth 100000 in
theorem open_nyU {H:Type} {enc:TypeId×Value→H} {W:World} {base:Nat} {spare:Nat→Bool} {held:Bool}:∀(fuel:Nat) (cs:List Value) (x:DataW H×List MemPlace),
  DataW.trod enc Tryz.prog W base spare held fuel TN cs=some x→∃(t:Ny) (A:Option Addr) (c:Nat),cs=yCells t (.slice A t.kids.length c)∧YT W t A c∧blkY t≤Rows.uptoBulk x.1:=by
 intro fuel
 induction fuel using Nat.strongRecOn with
 | _ fuel ih=>
  intro cs x h
  obtain ⟨xs,n,rfl,hx,hl,hxl,hf⟩:=DataW.trod_struct Tryz.underlying24 h
  rw [cellsNy] at hl
  obtain ⟨v0,v1,v2,rfl⟩:=list3 hl
  have hx3:xs.length=3:=hxl
  obtain ⟨y0,y1,y2,rfl⟩:∃y0 y1 y2,xs=[y0,y1,y2]:=by
   match xs,hx3 with
   | [y0,y1,y2],_=>exact ⟨y0,y1,y2,rfl⟩
  have g0:=hf 0 _ rfl
  have g1:=hf 1 _ rfl
  have g2:=hf 2 _ rfl
  obtain ⟨z0,rfl⟩:=trod_i64 Tryz.underlying3 (v:=v0) (by simpa [show Tryz.prog.cellsOf 3=1 from by kernel_rfl] using g0)
  obtain ⟨z1,rfl,hb1⟩:=trod_strU Tryz.underlying9 (v:=v1) (by simpa [show Tryz.prog.cellsOf 9=1 from by kernel_rfl,show Tryz.prog.cellsOf 3=1 from by kernel_rfl] using g1)
  have g2':DataW.trod enc Tryz.prog W base spare held n 22 [v2]=some y2:=by simpa [show Tryz.prog.cellsOf 22=1 from by kernel_rfl,show Tryz.prog.cellsOf 9=1 from by kernel_rfl,show Tryz.prog.cellsOf 3=1 from by kernel_rfl] using g2
  obtain ⟨ks,A,c,lv,hv2,hkv,hb2⟩:=open_nkidsU (fun m hm=>ih m (by omega)) g2'
  obtain rfl:v2=.slice A ks.length c:=by simpa using hv2
  refine ⟨.mk z0 z1 ks,A,c,rfl,⟨lv,hkv⟩,?_⟩
  rw [hx,blkY]
  simp only [List.map_cons,List.map_nil,Rows.uptoBulk,Rows.uptoBulkAll]
  omega
set_option maxRecDepth 100000 in
theorem open_nyU_arg {H:Type} {enc:TypeId×Value→H} {W:World} {base base':Nat} {spare:Nat→Bool} {held:Bool} {v:Value} {x:DataW H×List MemPlace} (hv:Value.okWide Tryz.prog W .any base TN v)
  (h:∃fuel,DataW.trod enc Tryz.prog W base' spare held fuel TN v.cells.toList=some x):∃(t:Ny) (A:Option Addr) (c:Nat),v=yAgg t (.slice A t.kids.length c)∧YT W t A c∧blkY t≤Rows.uptoBulk x.1:=by
 unfold Value.okWide at hv
 rw [Tryz.underlying24] at hv
 obtain ⟨cs,rfl,_,_⟩:=hv
 obtain ⟨fuel,h⟩:=h
 obtain ⟨t,A,c,e,h1,h2⟩:=open_nyU fuel _ _ h
 refine ⟨t,A,c,?_,h1,h2⟩
 have e':cs=(yCells t (.slice A t.kids.length c)).toArray:=by rw [←e];rfl
 rw [e']
 rfl
set_option maxRecDepth 100000 in
theorem open_strs {H:Type} {enc:TypeId×Value→H} {W:World} {base:Nat} {spare:Nat→Bool} {held:Bool} {fuel:Nat} {cs:List Value} {x:DataW H×List MemPlace} (h:DataW.trod enc Tryz.prog W base spare held fuel 26 cs=some x) :
  ∃(xs:List (List UInt8)) (A:Option Addr) (c:Nat),cs=[.slice A xs.length c]∧StrW W A c xs∧(xs.map List.length).sum+xs.length≤Rows.uptoBulk x.1:=by
 rcases DataW.trod_slice Tryz.underlying26 h with ⟨rfl,_⟩ | ⟨a,len,cap,elems,rest,n,hfu,rfl,hx,_,hl,hm,hlen,hel,_,_⟩
 ·exact ⟨[],none,0,rfl,⟨Nat.le_refl _,fun _=>rfl,fun h=>absurd rfl h⟩,Nat.zero_le _⟩
 ·have c1:Tryz.prog.cellsOf 9=1:=by kernel_rfl
  have hkid:∀i,i<len→∃s:List UInt8,W.cell? (a.add i)=some (.string ⟨s.toArray⟩)∧∃y,elems[i]?=some y∧s.length+1≤Rows.uptoBulk y.1:=by
   intro i hi
   have e:=hel i hi
   rw [List.getElem?_eq_getElem (by omega),Option.bind_eq_some_iff] at e
   obtain ⟨cs',e1,e2⟩:=e
   obtain ⟨_,hcl,hcell⟩:=World.cells?_some e1
   rw [c1] at hcl hcell
   obtain ⟨v,rfl⟩:∃v,cs'=[v]:=by
    match cs',hcl with
    | [v],_=>exact ⟨v,rfl⟩
   obtain ⟨s,rfl,hb⟩:=trod_strU Tryz.underlying9 e2
   refine ⟨s,?_,_,List.getElem?_eq_getElem (by omega),hb⟩
   have:=hcell 0 (by omega)
   rw [Deep.add_add,Nat.mul_one,Nat.add_zero] at this
   exact this
  obtain ⟨f,hf⟩:=Deep.choose_lt hkid
  have hks:((List.range len).map f).length=len:=by simp
  refine ⟨(List.range len).map f,some a,cap,by rw [hks],⟨by rw [hks];exact hl,fun h=>(by cases h),fun hne=>?_⟩,?_⟩
  ·have hpos:0<len:=by
    rcases Nat.eq_zero_or_pos len with h0 | h0
    ·subst h0;exact absurd rfl hne
    ·exact h0
   have h00:=(hf 0 hpos).1
   obtain ⟨b,off,spot⟩:=a
   have hspot:spot=none:=by
    have:=World.cell?_spot h00
    simpa [Addr.add] using this
   subst hspot
   refine ⟨b,off,rfl,?_,fun j x hj=>?_⟩
   ·have h1:=h00
    rw [add_plain] at h1
    exact World.block_lt_of_cell? W _ h1
   ·rw [List.getElem?_map,Option.map_eq_some_iff] at hj
    obtain ⟨i',hi1,rfl⟩:=hj
    have hil:j<len:=by
     have:=(List.getElem?_eq_some_iff.1 hi1).1
     simpa using this
    rw [List.getElem?_range hil] at hi1
    obtain rfl:=Option.some.inj hi1
    have:=(hf j hil).1
    rw [add_plain] at this
    exact this
  ·rw [hx,Rows.uptoBulk]
   have hF:∀l:List (List UInt8),(l.map List.length).sum+l.length=(l.map fun x=>x.length+1).sum:=fun l=>by
    induction l with
    | nil=>rfl
    | cons x l ih=>simp only [List.map_cons,List.sum_cons,List.length_cons];omega
   rw [hF]
   have:=bulkAll_le (H:=H) (fun x:List UInt8=>x.length+1) (fun l=>(l.map fun x=>x.length+1).sum) rfl (fun a l=>by simp only [List.map_cons,List.sum_cons]) ((List.range len).map f) (elems.map (·.1)) (by rw [hks,List.length_map,hlen]) (fun i k e hk he=>by
    rw [List.getElem?_map,Option.map_eq_some_iff] at hk he
    obtain ⟨i',hi1,rfl⟩:=hk
    obtain ⟨y,hy,rfl⟩:=he
    have hil:i<len:=by
     have:=(List.getElem?_eq_some_iff.1 hi1).1
     simpa using this
    rw [List.getElem?_range hil] at hi1
    obtain rfl:=Option.some.inj hi1
    obtain ⟨_,y',hy',hb⟩:=hf i hil
    rw [hy] at hy'
    obtain rfl:=Option.some.inj hy'
    exact hb)
   omega
end Go.Proofs.YtmbeicndhigklaaGreatDoor
