/-
The walk of the parser's post (chapter 15).
-/
import Derived.Test.YtmbeicndhigklaaGreatDoorPSynT
import Derived.Test.YtmbeicndhigklaaGreatDoorPSynO
import Derived.Test.YtmbeicndhigklaaGreatDoorPSynG
import Derived.Test.YtmbeicndhigklaaGreatDoorPSynJ
namespace Go.Proofs.YtmbeicndhigklaaGreatDoor
open Lib (hid)
open Go.RowKit
section
variable {numE:List UInt8→Nat} {g:Nat} {l:List Tk} {en:Nat} {R:Knot} {n:Nat}
theorem slice_pos (hR:KnotOk l en R n) (x:Nd) (s:PT) (h:s.at'≤l.length) (hm:l.length<n+s.at'):TY l en s (sliceB l R x s) (fun _=>True) 1:=by
 unfold sliceB
 split
 ·rename_i hi
  have hi:=isT_lt hi
  refine ((hR.pipe (nextT s) hi (by simp only [nextT];omega)).fromS (s:=s) (k:=1) (by simp only [nextT];omega) rfl).bind fun v s2 a2 b2 c2 d2=>?_
  exact .of a2 b2 c2 trivial
 ·refine (hR.pipe s h hm).bind fun v s2 a2 b2 c2 d2=>?_
  split
  ·rename_i hi
   have hi:=isT_lt hi
   split
   ·exact .of (by simp only [nextT];omega) hi c2 trivial
   ·refine ((hR.pipe (nextT s2) hi (by simp only [nextT];omega)).fromS (s:=s) (k:=1) (by simp only [nextT];omega) c2).bind fun v3 s3 a3 b3 c3 d3=>?_
    exact .of a3 b3 c3 trivial
  ·exact .of a2 b2 c2 trivial
theorem inner_pos (hF:FitY numE l en) (hR:KnotOk l en R n) (x:Nd) (s:PT) (hm:l.length<n+1+s.at'):TY l en s (innerB l en R x s) (fun _=>True) 1:=by
 unfold innerB
 refine (must_ty hF _ s).bind fun _ s1 a1 b1 c1 _=>?_
 split
 ·rename_i hi
  exact .of (by simp only [nextT];omega) (isT_lt hi) c1 trivial
 ·refine ((slice_pos hR x s1 b1 (by omega)).fromS (s:=s) (k:=1) (by omega) c1).bind fun v s2 a2 b2 c2 d2=>?_
  refine ((must_ty hF _ s2).fromS (s:=s) (k:=1) (by omega) c2).bind fun _ s3 a3 b3 c3 _=>?_
  exact .of a3 b3 c3 trivial
theorem and_tt {a b:Bool} (ha:a=true) (hb:b=true):(a&&b)=true:=by rw [ha,hb];rfl
theorem and_ff {a b:Bool} (ha:a=false):¬(a&&b)=true:=by rw [ha];simp
theorem and_tf {a b:Bool} (hb:b=false):¬(a&&b)=true:=by rw [hb];simp
set_option maxHeartbeats 4000000 in
set_option maxRecDepth 100000 in
theorem syPost_any (E:Env numE g l en R n) (KTm:∀(s:PT) (W:World),PrS g l en s W→s.at'≤l.length→l.length<n+1+s.at'→s.pipes≤600→Calls Tryz.prog 202 #[.pointer (some ⟨g,0,none⟩)] W (ResN g l en W (termB numE l en R s)))
  (s:PT) (w:World) (h:PrS g l en s w) (hs:s.at'≤l.length) (hm:l.length<n+1+s.at') (hp:s.pipes≤600) :
  Calls Tryz.prog 174 #[.pointer (some ⟨g,0,none⟩)] w (ResN g l en w (postB numE l en R s)):=by
 have hl:=E.len
 have KN:=hid (fun k t A n c W=>syNode_any k t A n c W)
 have KM:=hid (fun t W=>syNamed_any t W)
 have FD0:=fun a p t W=>fld0 a p t W
 have FD1:=fun a p t W=>fld1 a p t W
 have H0:=hid (Fr.start h)
 obtain ⟨r,hr⟩:∃r,r=postB numE l en R s:=⟨_,rfl⟩
 rw [←hr]
 unfold postB at hr
 have R0:=hid hr
 clear hr h
 go_enter Tryz.func174,Tryz.ntmps174
 go_wp2_with (with_reducible refine frA H0.out ?_)
 intro V1 hV
 have H2:=hid hV
 clear hV
 have k3:=fun (W:World) (h:PrS g l en s W)=>KTm s W h hs hm hp
 cases hx4:termB numE l en R s with
 | bad a m=>
  rw [hx4] at k3
  have R5:=hid (bind_bad R0.out hx4)
  have K6:=hid (show CB g l en s 202 a m [] from k3)
  clear k3 hx4
  go_wp2_with (go_at_call 202;with_reducible refine (K6.out _ H2.out.prs).mono ?_)
  rintro e V ⟨rfl,k⟩
  rw [R5.out]
  exact ⟨rfl,rfl,H2.out.pg.trans k⟩
 | ok v7 s8=>
  rw [hx4] at k3
  have R9:=hid (bind_of R0.out hx4)
  obtain ⟨a10,b11,c12,_⟩:=(term_ty E.fit E.ok s hs hm).ok v7 s8 hx4
  have K13:=hid (show CN g l en s 202 s8 v7 [] from k3)
  clear k3 hx4
  go_wp2_with (go_at_call 202;with_reducible refine (K13.out _ H2.out.prs).mono ?_)
  rintro e V14 ⟨kv,rfl,hx,hp,hg⟩
  obtain ⟨A15,m16,rfl⟩:=hx.slice
  have H17:=hid (H2.out.tree hp hg hx)
  clear hx hp hg
  clear K13
  go_wp2_with (with_reducible refine frA H17.out ?_)
  intro V18 hV
  have H19:=hid hV
  clear hV
  go_wp2_with (with_reducible refine frS 1 (nCells v7 (.slice A15 v7.kids.length m16)) H19.out ?_)
  intro V20 hV
  have H21:=hid hV
  clear hV
  go_wp2
  go_loopg [] (l.length+1) (fun kx wr=>∃(s':PT) (f:Nat) (x:Nd) (A:Option Addr) (c:Nat),f≤kx∧s.at'<s'.at'∧s'.at'≤l.length∧s'.pipes=s.pipes∧l.length<f+s'.at'∧Fr g l en w s' [(w.heap.size,zN,TN),(V14.heap.size,nCells x (.slice A x.kids.length c),TN)] [(x,.slice A x.kids.length c)] rNil [] wr∧Hid (r=sufF l en R f x s'))
  case atStart=>exact ⟨s8,l.length+1,v7,_,_,Nat.le_refl _,by omega,by omega,by omega,by omega,H21.out.drop 2 (by simp),R9.out⟩
  case round=>
   obtain ⟨s',f,x,A,c,hfk,q1,q2,q3,q4,hF,hR⟩:=hrel
   obtain ⟨f,rfl⟩:∃k,f=k+1:=⟨f-1,by omega⟩
   have HF:=hid hF
   have RF:=hid (hR.out.trans (sufF_succ l en R f x s'))
   clear hF hR
   obtain ⟨t22,ht23⟩:∃t,t=dueT l s'.at':=⟨_,rfl⟩
   have K24:=hid (show CO g l en s' 122 s' (.agg #[.int .i64 (t22.kind:Int),.string ⟨t22.text.toArray⟩,.int .i64 (t22.pos:Int)]) [] from fun W h=>ht23▸syDue_any g l en s' W h)
   have Dt22:=hid ht23
   clear ht23
   go_wp2_with (go_at_call 122;with_reducible refine (K24.out _ HF.out.prs).mono ?_)
   rintro e V25 ⟨rfl,hp,hg⟩
   have H26:=hid (HF.out.kept hp hg)
   clear hp hg K24
   have q:=RF.out
   rw [←Dt22.out] at q
   have R27:=hid q
   clear q
   go_wp2_with (with_reducible refine frAK H26.out ?_)
   intro V28 hV
   have H29:=hid hV
   clear hV
   go_wp2_with (with_reducible refine frSK 2 (tkCs t22) H29.out ?_)
   intro V30 hV
   have H31:=hid hV
   clear hV
   by_cases hk32:t22.kind=3
   ·skip
    have R33:=hid (ite_yes R27.out hk32)
    have nz34:t22.kind≠0:=by omega
    have c35:=H31.out.cell 2 rfl 0 rfl
    rw [hk32] at c35
    obtain ⟨s36,hs37⟩:∃z,z=nextT s':=⟨_,rfl⟩
    have lt39:=due_some (l:=l) (p:=s'.at') (Dt22.out▸nz34)
    have a40:s36.at'=s'.at'+1:=by rw [hs37];rfl
    have p41:s36.pipes=s'.pipes:=by rw [hs37];rfl
    have R38:=hid (hs37▸R33.out)
    have c42:=H31.out.prs.c1
    have f43:=H31.out.prs.frozen 1
    have hn:=H31.out.next
    rw [←hs37] at hn
    have H44:=hid hn
    clear hn hs37
    go_upto_region 6 with fail
    generalize V30.setCell ⟨g,1,none⟩ (.int .i64 ((s'.at':Int)+1))=V45 at *
    clear c35 c42 f43
    go_upto_region 6 with fail
    refine wp_region_s 6 (BoxS [(w.heap.size,zN,TN),(V14.heap.size,nCells x (.slice A x.kids.length c),TN),(V25.heap.size,tkCs t22,TTk)]) (by kernel_rfl) H44.out.drew.boxS (fun hS0=>?_)
    have H46:=hid H44.out.drew
    generalize V45.drew=V47 at *
    refine tk 0 (.agg (nCells x (.slice A x.kids.length c)).toArray) [4,5,6] hS0 ?_ (y:=yields_ld threeN (by kernel_rfl) _ rfl 1 (b:=(V14.heap.size,nCells x (.slice A x.kids.length c),TN)) rfl rfl rfl)
    refine tk 1 (.pointer (some ⟨V25.heap.size,1,none⟩)) [2,3,4,5,6] hS0 ?_
    refine tk 2 (.string ⟨t22.text.toArray⟩) [3,4,5,6] hS0 ?_ (y:=.inl ⟨by kernel_rfl,fun _ H=>by have cX:=H.cell 2 rfl 1 rfl;go_simp⟩)
    refine st 3 fun K hK=>?_
    go_simp
    go_at_call 203
    with_reducible refine (KM.out (t22.text) _).mono ?_
    rintro e V48 ⟨kv,rfl,hx,hb⟩
    obtain ⟨A49,m50,rfl⟩:=hx.slice
    have H51:=hid (H46.out.tree (H46.out.prs.below hb) (.of hb) hx)
    clear hx hb
    try dsimp only
    refine hK.out _ _ (fun _=>H51.out.boxS) (fun _=>?_)
    clear hK K
    refine st 4 fun K hK=>?_
    simp only [nAgg,nCells]
    go_simp
    have H52:=hid (H51.out.row [(x,.slice A x.kids.length c),(namedN (t22.text),.slice A49 (namedN (t22.text)).kids.length m50)] 2 rfl (by simp) (by decide) (.mk 10 [] [x,namedN (t22.text)]) rfl)
    refine hK.out _ _ (fun _=>H52.out.boxS) (fun _=>?_)
    clear hK K
    refine st 5 fun K hK=>?_
    go_simp
    go_at_call 92
    with_reducible refine (KN.out _ _ _ _ _ _).mono ?_
    rintro e V53 ⟨rfl,hb⟩
    have H54:=hid (H52.out.below hb)
    clear hb
    try dsimp only
    refine hK.out _ _ (fun _=>H54.out.boxS) (fun _=>?_)
    clear hK K
    refine st 6 fun K hK=>?_
    rw [if_pos (by kernel_rfl)]
    with_reducible refine fr_wpStore threeN _ _ (by with_unfolding_all rfl) 1 rfl (nCells (.mk 10 [] [x,namedN (t22.text)]) (.slice (some ⟨V48.heap.size,0,none⟩) 2 2)) (by with_unfolding_all rfl) (by with_unfolding_all rfl) rfl (n_one _ _ _ _) H54.out ?_
    intro V55 hV
    have H56:=hid hV
    clear hV
    refine hK.out _ _ (fun h=>absurd rfl h) (fun _=>?_)
    clear hK K
    refine wpAnyS_done (by kernel_rfl) ?_ _
    go_wp2_with fail
    go_roundg f
    case measure=>omega
    case rel=>exact ⟨s36,f,(.mk 10 [] [x,namedN (t22.text)]),(some ⟨V48.heap.size,0,none⟩),2,Nat.le_refl _,by omega,by omega,by omega,by omega,H56.out.drop 2 (by simp [Nd.kids,namedN]),R38.out⟩
   ·skip
    have R57:=hid (ite_no R27.out hk32)
    have z58:((t22.kind:Int)==3)=false:=beq_false_of_ne (by omega)
    have c59:=H31.out.cell 2 rfl 0 rfl
    by_cases hd60:isT l tDot s'.at'=true
    ·skip
     have lt0:=isT_lt hd60
     by_cases ha61:aheadT l 1 7 [] s'.at'=true
     ·skip
      have R62:=hid (ite_yes R57.out (and_tt hd60 ha61))
      have K63:=hid (show CO g l en s' 121 s' (.bool true) [.string ⟨#[46]⟩] from fun W h=>hd60▸syIs_any g l en s' tDot W h)
      have K64:=hid (show CO g l en s' 204 s' (.bool true) [.int .i64 1,.int .i64 7,.string ⟨#[]⟩] from fun W h=>ha61▸syAhead_any g l en s' 7 [] W h (by omega) hl)
      clear hd60 ha61
      go_wp2_with (go_at_call 121;with_reducible refine (K63.out _ H31.out.prs).mono ?_)
      rintro e V65 ⟨rfl,hp,hg⟩
      have H66:=hid (H31.out.kept hp hg)
      clear hp hg K63
      clear c59
      go_wp2_with (go_at_call 204;with_reducible refine (K64.out _ H66.out.prs).mono ?_)
      rintro e V67 ⟨rfl,hp,hg⟩
      have H68:=hid (H66.out.kept hp hg)
      clear hp hg K64
      obtain ⟨s69,hs70⟩:∃z,z=nextT s':=⟨_,rfl⟩
      have lt72:=lt0
      have a73:s69.at'=s'.at'+1:=by rw [hs70];rfl
      have p74:s69.pipes=s'.pipes:=by rw [hs70];rfl
      have R71:=hid (hs70▸R62.out)
      have c75:=H68.out.prs.c1
      have f76:=H68.out.prs.frozen 1
      have hn:=H68.out.next
      rw [←hs70] at hn
      have H77:=hid hn
      clear hn hs70
      go_upto_region 9 with fail
      generalize V67.setCell ⟨g,1,none⟩ (.int .i64 ((s'.at':Int)+1))=V78 at *
      clear c75 f76
      have k79:=fun (W:World) (h:PrS g l en s69 W)=>syText_any E [] s69 W h (by omega) (by omega) (by omega)
      cases hx80:textB l en R [] s69 with
      | bad a m=>
       rw [hx80] at k79
       have R81:=hid (bind_bad R71.out hx80)
       have K82:=hid (show CB g l en s69 205 a m [.string ⟨#[]⟩] from k79)
       clear k79 hx80
       go_upto_region 9 with fail
       refine wp_region_s 5 (BoxS [(w.heap.size,zN,TN),(V14.heap.size,nCells x (.slice A x.kids.length c),TN),(V25.heap.size,tkCs t22,TTk)]) (by kernel_rfl) H77.out.drew.boxS (fun hS0=>?_)
       have H83:=hid H77.out.drew
       generalize V78.drew=V84 at *
       refine tk 0 (.agg (nCells x (.slice A x.kids.length c)).toArray) [3,4,5] hS0 ?_ (y:=yields_ld threeN (by kernel_rfl) _ rfl 1 (b:=(V14.heap.size,nCells x (.slice A x.kids.length c),TN)) rfl rfl rfl)
       refine tk 1 (.pointer (some ⟨g,0,none⟩)) [2,3,4,5] hS0 ?_
       refine st 2 fun K hK=>?_
       go_simp
       go_at_call 205
       with_reducible refine (K82.out _ H83.out.prs).mono ?_
       rintro e V ⟨rfl,k⟩
       rw [R81.out]
       exact ⟨rfl,rfl,H83.out.pg.trans k⟩
      | ok v85 s86=>
       rw [hx80] at k79
       have R87:=hid (bind_of R71.out hx80)
       obtain ⟨a88,b89,c90,_⟩:=(text_ty E.fit E.ok [] s69 (by omega) (by omega)).ok v85 s86 hx80
       have K91:=hid (show CN g l en s69 205 s86 v85 [.string ⟨#[]⟩] from k79)
       clear k79 hx80
       go_upto_region 9 with fail
       refine wp_region_s 5 (BoxS [(w.heap.size,zN,TN),(V14.heap.size,nCells x (.slice A x.kids.length c),TN),(V25.heap.size,tkCs t22,TTk)]) (by kernel_rfl) H77.out.drew.boxS (fun hS0=>?_)
       have H92:=hid H77.out.drew
       generalize V78.drew=V93 at *
       refine tk 0 (.agg (nCells x (.slice A x.kids.length c)).toArray) [3,4,5] hS0 ?_ (y:=yields_ld threeN (by kernel_rfl) _ rfl 1 (b:=(V14.heap.size,nCells x (.slice A x.kids.length c),TN)) rfl rfl rfl)
       refine tk 1 (.pointer (some ⟨g,0,none⟩)) [2,3,4,5] hS0 ?_
       refine st 2 fun K hK=>?_
       go_simp
       go_at_call 205
       with_reducible refine (K91.out _ H92.out.prs).mono ?_
       rintro e V94 ⟨kv,rfl,hx,hp,hg⟩
       obtain ⟨A95,m96,rfl⟩:=hx.slice
       have H97:=hid (H92.out.tree hp hg hx)
       clear hx hp hg
       clear K91
       try dsimp only
       refine hK.out _ _ (fun _=>H97.out.boxS) (fun _=>?_)
       clear hK K
       refine st 3 fun K hK=>?_
       simp only [nAgg,nCells]
       go_simp
       have H98:=hid (H97.out.row [(x,.slice A x.kids.length c),(v85,.slice A95 v85.kids.length m96)] 2 rfl (by simp) (by decide) (.mk 10 [] [x,v85]) rfl)
       refine hK.out _ _ (fun _=>H98.out.boxS) (fun _=>?_)
       clear hK K
       refine st 4 fun K hK=>?_
       go_simp
       go_at_call 92
       with_reducible refine (KN.out _ _ _ _ _ _).mono ?_
       rintro e V99 ⟨rfl,hb⟩
       have H100:=hid (H98.out.below hb)
       clear hb
       try dsimp only
       refine hK.out _ _ (fun _=>H100.out.boxS) (fun _=>?_)
       clear hK K
       refine st 5 fun K hK=>?_
       rw [if_pos (by kernel_rfl)]
       with_reducible refine fr_wpStore threeN _ _ (by with_unfolding_all rfl) 1 rfl (nCells (.mk 10 [] [x,v85]) (.slice (some ⟨V94.heap.size,0,none⟩) 2 2)) (by with_unfolding_all rfl) (by with_unfolding_all rfl) rfl (n_one _ _ _ _) H100.out ?_
       intro V101 hV
       have H102:=hid hV
       clear hV
       refine hK.out _ _ (fun h=>absurd rfl h) (fun _=>?_)
       clear hK K
       refine wpAnyS_done (by kernel_rfl) ?_ _
       go_wp2_with fail
       go_roundg f
       case measure=>omega
       case rel=>exact ⟨s86,f,(.mk 10 [] [x,v85]),(some ⟨V94.heap.size,0,none⟩),2,Nat.le_refl _,by omega,by omega,by omega,by omega,H102.out.drop 2 (by simp [Nd.kids]),R87.out⟩
     ·skip
      have hf103:aheadT l 1 7 [] s'.at'=false:=by simpa using ha61
      have R104:=hid (ite_no R57.out (and_tf hf103))
      have K105:=hid (show CO g l en s' 121 s' (.bool true) [.string ⟨#[46]⟩] from fun W h=>hd60▸syIs_any g l en s' tDot W h)
      have K106:=hid (show CO g l en s' 204 s' (.bool false) [.int .i64 1,.int .i64 7,.string ⟨#[]⟩] from fun W h=>hf103▸syAhead_any g l en s' 7 [] W h (by omega) hl)
      clear hf103 ha61
      go_wp2_with (go_at_call 121;with_reducible refine (K105.out _ H31.out.prs).mono ?_)
      rintro e V107 ⟨rfl,hp,hg⟩
      have H108:=hid (H31.out.kept hp hg)
      clear hp hg K105
      clear c59
      go_wp2_with (go_at_call 204;with_reducible refine (K106.out _ H108.out.prs).mono ?_)
      rintro e V109 ⟨rfl,hp,hg⟩
      have H110:=hid (H108.out.kept hp hg)
      clear hp hg K106
      by_cases hb111:aheadT l 1 6 tBrk s'.at'=true
      ·skip
       have R112:=hid (ite_yes R104.out (and_tt hd60 hb111))
       have K113:=hid (show CO g l en s' 121 s' (.bool true) [.string ⟨#[46]⟩] from fun W h=>hd60▸syIs_any g l en s' tDot W h)
       have K114:=hid (show CO g l en s' 204 s' (.bool true) [.int .i64 1,.int .i64 6,.string ⟨#[91]⟩] from fun W h=>hb111▸syAhead_any g l en s' 6 tBrk W h (by omega) hl)
       clear hd60 hb111
       go_wp2_with (go_at_call 121;with_reducible refine (K113.out _ H110.out.prs).mono ?_)
       rintro e V115 ⟨rfl,hp,hg⟩
       have H116:=hid (H110.out.kept hp hg)
       clear hp hg K113
       go_wp2_with (go_at_call 204;with_reducible refine (K114.out _ H116.out.prs).mono ?_)
       rintro e V117 ⟨rfl,hp,hg⟩
       have H118:=hid (H116.out.kept hp hg)
       clear hp hg K114
       obtain ⟨s119,hs120⟩:∃z,z=nextT s':=⟨_,rfl⟩
       have lt122:=lt0
       have a123:s119.at'=s'.at'+1:=by rw [hs120];rfl
       have p124:s119.pipes=s'.pipes:=by rw [hs120];rfl
       have R121:=hid (hs120▸R112.out)
       have c125:=H118.out.prs.c1
       have f126:=H118.out.prs.frozen 1
       have hn:=H118.out.next
       rw [←hs120] at hn
       have H127:=hid hn
       clear hn hs120
       go_upto_region 12 with fail
       generalize V117.setCell ⟨g,1,none⟩ (.int .i64 ((s'.at':Int)+1))=V128 at *
       clear c125 f126
       have k129:=fun (W:World) (h:Fr g l en w s119 [(w.heap.size,zN,TN),(V14.heap.size,nCells x (.slice A x.kids.length c),TN),(V25.heap.size,tkCs t22,TTk)] [(x,.slice A x.kids.length c)] rNil [] W)=>syInner_any E w.heap.size V14.heap.size V25.heap.size x A c t22 s119 w W h (by omega) (by omega) (by omega)
       cases hx130:innerB l en R x s119 with
       | bad a m=>
        rw [hx130] at k129
        have R131:=hid (bind_bad R121.out hx130)
        have K132:=hid (fun (W:World) (h:Fr g l en w s119 [(w.heap.size,zN,TN),(V14.heap.size,nCells x (.slice A x.kids.length c),TN),(V25.heap.size,tkCs t22,TTk)] [(x,.slice A x.kids.length c)] rNil [] W)=>show Calls Tryz.prog 206 #[.pointer (some ⟨g,0,none⟩),.agg #[.int .i64 (x.kind:Int),.string ⟨x.text.toArray⟩,.slice A x.kids.length c]] W (BdY g a m w) from k129 W h)
        clear k129 hx130
        go_wp2_with (first
         | (with_reducible refine frL 1 H127.out ?_;dsimp only [nCells])
         | (go_at_call 206;with_reducible refine (K132.out _ H127.out).mono ?_))
        rintro e V ⟨rfl,k⟩
        rw [R131.out]
        exact ⟨rfl,rfl,k⟩
       | ok v133 s134=>
        rw [hx130] at k129
        have R135:=hid (bind_of R121.out hx130)
        obtain ⟨a136,b137,c138,_⟩:=(inner_pos E.fit E.ok x s119 (by omega)).ok v133 s134 hx130
        have K139:=hid (fun (W:World) (h:Fr g l en w s119 [(w.heap.size,zN,TN),(V14.heap.size,nCells x (.slice A x.kids.length c),TN),(V25.heap.size,tkCs t22,TTk)] [(x,.slice A x.kids.length c)] rNil [] W)=>show Calls Tryz.prog 206 #[.pointer (some ⟨g,0,none⟩),.agg #[.int .i64 (x.kind:Int),.string ⟨x.text.toArray⟩,.slice A x.kids.length c]] W (OkI g l en w [(w.heap.size,zN,TN),(V14.heap.size,nCells x (.slice A x.kids.length c),TN),(V25.heap.size,tkCs t22,TTk)] s134 v133) from k129 W h)
        clear k129 hx130
        go_wp2_with (first
         | (with_reducible refine frL 1 H127.out ?_;dsimp only [nCells])
         | (go_at_call 206;with_reducible refine (K139.out _ H127.out).mono ?_))
        rintro e V140 ⟨A141,m142,rfl,hF⟩
        have H143:=hid hF
        clear hF K139
        simp only [nAgg]
        go_wp2_with (with_reducible refine frS 1 (nCells v133 (.slice A141 v133.kids.length m142)) H143.out ?_)
        intro V144 hV
        have H145:=hid hV
        clear hV
        go_wp2_with fail
        go_roundg f
        case measure=>omega
        case rel=>exact ⟨s134,f,v133,A141,m142,Nat.le_refl _,by omega,by omega,by omega,by omega,H145.out.drop 2 (by simp [Nd.kids]),R135.out⟩
      ·skip
       have hf146:aheadT l 1 6 tBrk s'.at'=false:=by simpa using hb111
       have R147:=hid (ite_no R104.out (and_tf hf146))
       have K148:=hid (show CO g l en s' 121 s' (.bool true) [.string ⟨#[46]⟩] from fun W h=>hd60▸syIs_any g l en s' tDot W h)
       have K149:=hid (show CO g l en s' 204 s' (.bool false) [.int .i64 1,.int .i64 6,.string ⟨#[91]⟩] from fun W h=>hf146▸syAhead_any g l en s' 6 tBrk W h (by omega) hl)
       clear hd60 hb111 hf146
       go_wp2_with (go_at_call 121;with_reducible refine (K148.out _ H110.out.prs).mono ?_)
       rintro e V150 ⟨rfl,hp,hg⟩
       have H151:=hid (H110.out.kept hp hg)
       clear hp hg K148
       go_wp2_with (go_at_call 204;with_reducible refine (K149.out _ H151.out.prs).mono ?_)
       rintro e V152 ⟨rfl,hp,hg⟩
       have H153:=hid (H151.out.kept hp hg)
       clear hp hg K149
       by_cases hb154:isT l tBrk s'.at'=true
       ·skip
        have lt156:=isT_lt hb154
        have R155:=hid (ite_yes R147.out hb154)
        have K157:=hid (show CO g l en s' 121 s' (.bool true) [.string ⟨#[91]⟩] from fun W h=>hb154▸syIs_any g l en s' tBrk W h)
        clear hb154
        go_wp2_with (go_at_call 121;with_reducible refine (K157.out _ H153.out.prs).mono ?_)
        rintro e V158 ⟨rfl,hp,hg⟩
        have H159:=hid (H153.out.kept hp hg)
        clear hp hg K157
        have k160:=fun (W:World) (h:Fr g l en w s' [(w.heap.size,zN,TN),(V14.heap.size,nCells x (.slice A x.kids.length c),TN),(V25.heap.size,tkCs t22,TTk)] [(x,.slice A x.kids.length c)] rNil [] W)=>syInner_any E w.heap.size V14.heap.size V25.heap.size x A c t22 s' w W h (by omega) (by omega) (by omega)
        cases hx161:innerB l en R x s' with
        | bad a m=>
         rw [hx161] at k160
         have R162:=hid (bind_bad R155.out hx161)
         have K163:=hid (fun (W:World) (h:Fr g l en w s' [(w.heap.size,zN,TN),(V14.heap.size,nCells x (.slice A x.kids.length c),TN),(V25.heap.size,tkCs t22,TTk)] [(x,.slice A x.kids.length c)] rNil [] W)=>show Calls Tryz.prog 206 #[.pointer (some ⟨g,0,none⟩),.agg #[.int .i64 (x.kind:Int),.string ⟨x.text.toArray⟩,.slice A x.kids.length c]] W (BdY g a m w) from k160 W h)
         clear k160 hx161
         go_wp2_with (first
          | (with_reducible refine frL 1 H159.out ?_;dsimp only [nCells])
          | (go_at_call 206;with_reducible refine (K163.out _ H159.out).mono ?_))
         rintro e V ⟨rfl,k⟩
         rw [R162.out]
         exact ⟨rfl,rfl,k⟩
        | ok v164 s165=>
         rw [hx161] at k160
         have R166:=hid (bind_of R155.out hx161)
         obtain ⟨a167,b168,c169,_⟩:=(inner_pos E.fit E.ok x s' (by omega)).ok v164 s165 hx161
         have K170:=hid (fun (W:World) (h:Fr g l en w s' [(w.heap.size,zN,TN),(V14.heap.size,nCells x (.slice A x.kids.length c),TN),(V25.heap.size,tkCs t22,TTk)] [(x,.slice A x.kids.length c)] rNil [] W)=>show Calls Tryz.prog 206 #[.pointer (some ⟨g,0,none⟩),.agg #[.int .i64 (x.kind:Int),.string ⟨x.text.toArray⟩,.slice A x.kids.length c]] W (OkI g l en w [(w.heap.size,zN,TN),(V14.heap.size,nCells x (.slice A x.kids.length c),TN),(V25.heap.size,tkCs t22,TTk)] s165 v164) from k160 W h)
         clear k160 hx161
         go_wp2_with (first
          | (with_reducible refine frL 1 H159.out ?_;dsimp only [nCells])
          | (go_at_call 206;with_reducible refine (K170.out _ H159.out).mono ?_))
         rintro e V171 ⟨A172,m173,rfl,hF⟩
         have H174:=hid hF
         clear hF K170
         simp only [nAgg]
         go_wp2_with (with_reducible refine frS 1 (nCells v164 (.slice A172 v164.kids.length m173)) H174.out ?_)
         intro V175 hV
         have H176:=hid hV
         clear hV
         go_wp2_with fail
         go_roundg f
         case measure=>omega
         case rel=>exact ⟨s165,f,v164,A172,m173,Nat.le_refl _,by omega,by omega,by omega,by omega,H176.out.drop 2 (by simp [Nd.kids]),R166.out⟩
       ·skip
        have R177:=hid (ite_no R147.out hb154)
        have hf178:isT l tBrk s'.at'=false:=by simpa using hb154
        have K179:=hid (show CO g l en s' 121 s' (.bool false) [.string ⟨#[91]⟩] from fun W h=>hf178▸syIs_any g l en s' tBrk W h)
        clear hb154 hf178
        go_wp2_with (go_at_call 121;with_reducible refine (K179.out _ H153.out.prs).mono ?_)
        rintro e V180 ⟨rfl,hp,hg⟩
        have H181:=hid (H153.out.kept hp hg)
        clear hp hg K179
        by_cases hb182:isT l tQuest s'.at'=true
        ·skip
         obtain ⟨s183,hs184⟩:∃z,z=nextT s':=⟨_,rfl⟩
         have lt186:=isT_lt hb182
         have a187:s183.at'=s'.at'+1:=by rw [hs184];rfl
         have p188:s183.pipes=s'.pipes:=by rw [hs184];rfl
         have R185:=hid (hs184▸ite_yes R177.out hb182)
         have K189:=hid (tkY g en ⟨#[63]⟩ hs184 hl hb182)
         clear hb182 hs184
         go_wp2_with (go_at_call 88;with_reducible refine (K189.out _ H181.out.prs).mono ?_)
         rintro e V190 ⟨rfl,hp,hg⟩
         have H191:=hid (H181.out.kept hp hg)
         clear hp hg K189
         have H192:=hid (H191.out.row [(x,.slice A x.kids.length c)] 1 rfl (by simp) (by decide) (.mk 13 [] [x]) rfl)
         go_wp2_with (first
          | (with_reducible refine frL 1 H191.out ?_;dsimp only [nCells])
          | (go_at_call 92;with_reducible refine (KN.out _ _ _ _ _ _).mono ?_))
         rintro e V193 ⟨rfl,hb⟩
         have H194:=hid (H192.out.below (V:=V193) (by first | exact hb | (rw [World.size_alloc];exact hb)))
         clear hb
         go_wp2_with (with_reducible refine frS 1 (nCells (.mk 13 [] [x]) (.slice (some ⟨V190.heap.size,0,none⟩) 1 1)) H194.out ?_)
         intro V195 hV
         have H196:=hid hV
         clear hV
         go_wp2_with fail
         go_roundg f
         case measure=>omega
         case rel=>exact ⟨s183,f,(.mk 13 [] [x]),(some ⟨V190.heap.size,0,none⟩),1,Nat.le_refl _,by omega,by omega,by omega,by omega,H196.out.drop 2 (by simp [Nd.kids]),R185.out⟩
        ·skip
         have R197:=hid (ite_no R177.out hb182)
         have K198:=hid (tkN g en ⟨#[63]⟩ hb182)
         clear hb182
         go_wp2_with (go_at_call 88;with_reducible refine (K198.out _ H181.out.prs).mono ?_)
         rintro e V199 ⟨rfl,hp,hg⟩
         have H200:=hid (H181.out.kept hp hg)
         clear hp hg K198
         go_wp2_with (first
          | (with_reducible refine frL 1 H200.out ?_)
          | (with_reducible refine frS 0 (nCells x (.slice A x.kids.length c)) H200.out ?_))
         intro V201 hV
         have H202:=hid hV
         clear hV
         go_wp2
         rw [R197.out]
         exact ret_n Tryz.results174 (k:=0) rfl H202.out (by with_unfolding_all rfl) rfl ⟨_,rfl,H202.out.give (t:=x) (by simp),H202.out.prs,H202.out.pg⟩
    ·skip
     have hf203:isT l tDot s'.at'=false:=by simpa using hd60
     have R204:=hid (ite_no (ite_no R57.out (and_ff hf203)) (and_ff hf203))
     have K205:=hid (show CO g l en s' 121 s' (.bool false) [.string ⟨#[46]⟩] from fun W h=>hf203▸syIs_any g l en s' tDot W h)
     have K206:=hid (show CO g l en s' 121 s' (.bool false) [.string ⟨#[46]⟩] from fun W h=>hf203▸syIs_any g l en s' tDot W h)
     clear hd60 hf203
     go_wp2_with (go_at_call 121;with_reducible refine (K205.out _ H31.out.prs).mono ?_)
     rintro e V207 ⟨rfl,hp,hg⟩
     have H208:=hid (H31.out.kept hp hg)
     clear hp hg K205
     clear c59
     go_wp2_with (go_at_call 121;with_reducible refine (K206.out _ H208.out.prs).mono ?_)
     rintro e V209 ⟨rfl,hp,hg⟩
     have H210:=hid (H208.out.kept hp hg)
     clear hp hg K206
     by_cases hb211:isT l tBrk s'.at'=true
     ·skip
      have lt213:=isT_lt hb211
      have R212:=hid (ite_yes R204.out hb211)
      have K214:=hid (show CO g l en s' 121 s' (.bool true) [.string ⟨#[91]⟩] from fun W h=>hb211▸syIs_any g l en s' tBrk W h)
      clear hb211
      go_wp2_with (go_at_call 121;with_reducible refine (K214.out _ H210.out.prs).mono ?_)
      rintro e V215 ⟨rfl,hp,hg⟩
      have H216:=hid (H210.out.kept hp hg)
      clear hp hg K214
      have k217:=fun (W:World) (h:Fr g l en w s' [(w.heap.size,zN,TN),(V14.heap.size,nCells x (.slice A x.kids.length c),TN),(V25.heap.size,tkCs t22,TTk)] [(x,.slice A x.kids.length c)] rNil [] W)=>syInner_any E w.heap.size V14.heap.size V25.heap.size x A c t22 s' w W h (by omega) (by omega) (by omega)
      cases hx218:innerB l en R x s' with
      | bad a m=>
       rw [hx218] at k217
       have R219:=hid (bind_bad R212.out hx218)
       have K220:=hid (fun (W:World) (h:Fr g l en w s' [(w.heap.size,zN,TN),(V14.heap.size,nCells x (.slice A x.kids.length c),TN),(V25.heap.size,tkCs t22,TTk)] [(x,.slice A x.kids.length c)] rNil [] W)=>show Calls Tryz.prog 206 #[.pointer (some ⟨g,0,none⟩),.agg #[.int .i64 (x.kind:Int),.string ⟨x.text.toArray⟩,.slice A x.kids.length c]] W (BdY g a m w) from k217 W h)
       clear k217 hx218
       go_wp2_with (first
        | (with_reducible refine frL 1 H216.out ?_;dsimp only [nCells])
        | (go_at_call 206;with_reducible refine (K220.out _ H216.out).mono ?_))
       rintro e V ⟨rfl,k⟩
       rw [R219.out]
       exact ⟨rfl,rfl,k⟩
      | ok v221 s222=>
       rw [hx218] at k217
       have R223:=hid (bind_of R212.out hx218)
       obtain ⟨a224,b225,c226,_⟩:=(inner_pos E.fit E.ok x s' (by omega)).ok v221 s222 hx218
       have K227:=hid (fun (W:World) (h:Fr g l en w s' [(w.heap.size,zN,TN),(V14.heap.size,nCells x (.slice A x.kids.length c),TN),(V25.heap.size,tkCs t22,TTk)] [(x,.slice A x.kids.length c)] rNil [] W)=>show Calls Tryz.prog 206 #[.pointer (some ⟨g,0,none⟩),.agg #[.int .i64 (x.kind:Int),.string ⟨x.text.toArray⟩,.slice A x.kids.length c]] W (OkI g l en w [(w.heap.size,zN,TN),(V14.heap.size,nCells x (.slice A x.kids.length c),TN),(V25.heap.size,tkCs t22,TTk)] s222 v221) from k217 W h)
       clear k217 hx218
       go_wp2_with (first
        | (with_reducible refine frL 1 H216.out ?_;dsimp only [nCells])
        | (go_at_call 206;with_reducible refine (K227.out _ H216.out).mono ?_))
       rintro e V228 ⟨A229,m230,rfl,hF⟩
       have H231:=hid hF
       clear hF K227
       simp only [nAgg]
       go_wp2_with (with_reducible refine frS 1 (nCells v221 (.slice A229 v221.kids.length m230)) H231.out ?_)
       intro V232 hV
       have H233:=hid hV
       clear hV
       go_wp2_with fail
       go_roundg f
       case measure=>omega
       case rel=>exact ⟨s222,f,v221,A229,m230,Nat.le_refl _,by omega,by omega,by omega,by omega,H233.out.drop 2 (by simp [Nd.kids]),R223.out⟩
     ·skip
      have R234:=hid (ite_no R204.out hb211)
      have hf235:isT l tBrk s'.at'=false:=by simpa using hb211
      have K236:=hid (show CO g l en s' 121 s' (.bool false) [.string ⟨#[91]⟩] from fun W h=>hf235▸syIs_any g l en s' tBrk W h)
      clear hb211 hf235
      go_wp2_with (go_at_call 121;with_reducible refine (K236.out _ H210.out.prs).mono ?_)
      rintro e V237 ⟨rfl,hp,hg⟩
      have H238:=hid (H210.out.kept hp hg)
      clear hp hg K236
      by_cases hb239:isT l tQuest s'.at'=true
      ·skip
       obtain ⟨s240,hs241⟩:∃z,z=nextT s':=⟨_,rfl⟩
       have lt243:=isT_lt hb239
       have a244:s240.at'=s'.at'+1:=by rw [hs241];rfl
       have p245:s240.pipes=s'.pipes:=by rw [hs241];rfl
       have R242:=hid (hs241▸ite_yes R234.out hb239)
       have K246:=hid (tkY g en ⟨#[63]⟩ hs241 hl hb239)
       clear hb239 hs241
       go_wp2_with (go_at_call 88;with_reducible refine (K246.out _ H238.out.prs).mono ?_)
       rintro e V247 ⟨rfl,hp,hg⟩
       have H248:=hid (H238.out.kept hp hg)
       clear hp hg K246
       have H249:=hid (H248.out.row [(x,.slice A x.kids.length c)] 1 rfl (by simp) (by decide) (.mk 13 [] [x]) rfl)
       go_wp2_with (first
        | (with_reducible refine frL 1 H248.out ?_;dsimp only [nCells])
        | (go_at_call 92;with_reducible refine (KN.out _ _ _ _ _ _).mono ?_))
       rintro e V250 ⟨rfl,hb⟩
       have H251:=hid (H249.out.below (V:=V250) (by first | exact hb | (rw [World.size_alloc];exact hb)))
       clear hb
       go_wp2_with (with_reducible refine frS 1 (nCells (.mk 13 [] [x]) (.slice (some ⟨V247.heap.size,0,none⟩) 1 1)) H251.out ?_)
       intro V252 hV
       have H253:=hid hV
       clear hV
       go_wp2_with fail
       go_roundg f
       case measure=>omega
       case rel=>exact ⟨s240,f,(.mk 13 [] [x]),(some ⟨V247.heap.size,0,none⟩),1,Nat.le_refl _,by omega,by omega,by omega,by omega,H253.out.drop 2 (by simp [Nd.kids]),R242.out⟩
      ·skip
       have R254:=hid (ite_no R234.out hb239)
       have K255:=hid (tkN g en ⟨#[63]⟩ hb239)
       clear hb239
       go_wp2_with (go_at_call 88;with_reducible refine (K255.out _ H238.out.prs).mono ?_)
       rintro e V256 ⟨rfl,hp,hg⟩
       have H257:=hid (H238.out.kept hp hg)
       clear hp hg K255
       go_wp2_with (first
        | (with_reducible refine frL 1 H257.out ?_)
        | (with_reducible refine frS 0 (nCells x (.slice A x.kids.length c)) H257.out ?_))
       intro V258 hV
       have H259:=hid hV
       clear hV
       go_wp2
       rw [R254.out]
       exact ret_n Tryz.results174 (k:=0) rfl H259.out (by with_unfolding_all rfl) rfl ⟨_,rfl,H259.out.give (t:=x) (by simp),H259.out.prs,H259.out.pg⟩
end
end Go.Proofs.YtmbeicndhigklaaGreatDoor
