/-
The walk of the parser's def (chapter 15).
-/
import Derived.Test.YtmbeicndhigklaaGreatDoorPSynI
namespace Go.Proofs.YtmbeicndhigklaaGreatDoor
open Lib (hid)
open Go.RowKit
section
variable {numE:List UInt8→Nat} {g:Nat} {l:List Tk} {en:Nat} {R:Knot} {n:Nat}
section
variable {s:PT} {r:PY Nd}
theorem param_var {t:Tk} {K:Nd→PT→PY Nd} (h:r=(paramB l en s).bind K) (ht:t=dueT l s.at') (hk:t.kind=4):r=K (.mk 27 (tDoll++t.text) []) (nextT s):=by
 subst ht
 rw [h,paramB,if_pos hk];rfl
theorem param_name {t:Tk} {K:Nd→PT→PY Nd} (h:r=(paramB l en s).bind K) (ht:t=dueT l s.at') (hk:¬t.kind=4):r=(kindT l en 2 s).bind fun t s=>K (.mk 27 t.text []) s:=by
 subst ht
 rw [h,paramB,if_neg hk,bind_assoc'];rfl
theorem params_yes {D:List Nd→PT→PY Nd} (h:r=(paramsB l en s).bind D) (hb:isT l tOpen s.at'=true):r=(listF l tSemi (paramB l en) (l.length+1) (nextT s)).bind fun ns s=>(mustT l en tShut s).bind fun _ s=>D ns s:=by
 rw [h,paramsB,if_pos hb];simp only [bind_assoc'];rfl
theorem params_no {D:List Nd→PT→PY Nd} (h:r=(paramsB l en s).bind D) (hb:¬isT l tOpen s.at'=true):r=D [] s:=by
 rw [h,paramsB,if_neg hb];rfl
end
theorem doll_add (t:List UInt8):(⟨#[36]⟩:ByteArray)++⟨t.toArray⟩=⟨(tDoll++t).toArray⟩:=by
 apply ByteArray.ext
 simp [tDoll]
set_option maxHeartbeats 4000000 in
set_option maxRecDepth 100000 in
theorem syDef_any (E:Env numE g l en R n) (KT:∀p,(dueT l p).kind=4→(dueT l p).text.length≤10000000) (s:PT) (w:World) (h:PrS g l en s w) (_hs:s.at'≤l.length) (hm:l.length<n+s.at') (hp:s.pipes≤600) :
  Calls Tryz.prog 89 #[.pointer (some ⟨g,0,none⟩)] w (ResN g l en w (defB l en R s)):=by
 have hl:=E.len
 have KN:=hid (fun k t A n c W=>syNode_any k t A n c W)
 have KM:=hid (fun t W=>syNamed_any t W)
 have FD0:=fun a p t W=>fld0 a p t W
 have FD1:=fun a p t W=>fld1 a p t W
 have H0:=hid (Fr.start h)
 obtain ⟨r,hr⟩:∃r,r=defB l en R s:=⟨_,rfl⟩
 rw [←hr]
 unfold defB at hr
 have R0:=hid hr
 clear hr h
 go_enter Tryz.func89,Tryz.ntmps89
 go_wp2_with (with_reducible refine frA H0.out ?_)
 intro V1 hV
 have H2:=hid hV
 clear hV
 have k3:=fun (W:World) (h:PrS g l en s W)=>syKind_any g l en s W 2 h hl (by decide)
 cases hx4:kindT l en 2 s with
 | bad a m=>
  rw [hx4] at k3
  have R5:=hid (bind_bad R0.out hx4)
  have K6:=hid (show CB g l en s 90 a m [.int .i64 2] from k3)
  clear k3 hx4
  go_wp2_with (go_at_call 90;with_reducible refine (K6.out _ H2.out.prs).mono ?_)
  rintro e V ⟨rfl,k⟩
  rw [R5.out]
  exact ⟨rfl,rfl,H2.out.pg.trans k⟩
 | ok t7 s8=>
  rw [hx4] at k3
  have R9:=hid (bind_of R0.out hx4)
  obtain ⟨a10,b11,c12,_⟩:=(kind_ty E.fit (by decide) s).ok t7 s8 hx4
  have K13:=hid (show CO g l en s 90 s8 (.agg #[.int .i64 (t7.kind:Int),.string ⟨t7.text.toArray⟩,.int .i64 (t7.pos:Int)]) [.int .i64 2] from k3)
  clear k3 hx4
  go_wp2_with (go_at_call 90;with_reducible refine (K13.out _ H2.out.prs).mono ?_)
  rintro e V14 ⟨rfl,hp,hg⟩
  have H15:=hid (H2.out.kept hp hg)
  clear hp hg K13
  go_wp2_with (go_at_call 92;with_reducible refine (KN.out _ _ _ _ _ _).mono ?_)
  rintro e V16 ⟨rfl,hb⟩
  have H17:=hid (H15.out.below hb)
  clear hb
  go_wp2_with (with_reducible refine frA H17.out ?_)
  intro V18 hV
  have H19:=hid hV
  clear hV
  go_wp2_with (with_reducible refine frS 1 (nCells (.mk 26 t7.text []) rNil) H19.out ?_)
  intro V20 hV
  have H21:=hid hV
  clear hV
  obtain ⟨DD,hDD⟩:∃K:List Nd→PT→PY Nd,K=fun ns s=>(mustT l en tColon s).bind fun _ s=>(R.pipe s).bind fun b s=>(mustT l en tSemi s).bind fun _ s=>(R.pipe s).bind fun r s=>.ok (.mk 26 t7.text (ns++[b,r])) s:=⟨_,rfl⟩
  have RD:=hid (show r=(paramsB l en s8).bind DD by rw [hDD];exact R9.out)
  have HDD:=hid hDD
  clear hDD
  by_cases hb22:isT l tOpen s8.at'=true
  ·skip
   obtain ⟨s23,hs24⟩:∃z,z=nextT s8:=⟨_,rfl⟩
   have lt26:=isT_lt hb22
   have a27:s23.at'=s8.at'+1:=by rw [hs24];rfl
   have p28:s23.pipes=s8.pipes:=by rw [hs24];rfl
   have R25:=hid (hs24▸params_yes RD.out hb22)
   have K29:=hid (tkY g en ⟨#[40]⟩ hs24 hl hb22)
   clear hb22 hs24
   go_wp2_with (go_at_call 88;with_reducible refine (K29.out _ H21.out.prs).mono ?_)
   rintro e V30 ⟨rfl,hp,hg⟩
   have H31:=hid (H21.out.kept hp hg)
   clear hp hg K29
   obtain ⟨KK,hKK⟩:∃K:List Nd→PT→PY Nd,K=fun ns s=>(mustT l en tShut s).bind fun _ s=>DD ns s:=⟨_,rfl⟩
   have RK:=hid (show r=(listF l tSemi (paramB l en) (l.length+1) s23).bind KK by rw [hKK];exact R25.out)
   have HKK:=hid hKK
   clear hKK
   go_wp2
   go_loopg [] (l.length+1) (fun kx wr=>∃(s':PT) (f:Nat) (zs:List (Nd×Value)) (A:Option Addr) (c:Nat),f≤kx∧s.at'≤s'.at'∧s23.at'≤s'.at'∧s'.at'≤l.length∧s'.pipes=s.pipes∧l.length<f+s'.at'∧zs.length≤s'.at'∧Fr g l en w s' [(w.heap.size,zN,TN),(V16.heap.size,nCells (.mk 26 t7.text []) (.slice A zs.length c),TN)] [] (.slice A zs.length c) zs wr∧Hid (r=(listF l tSemi (paramB l en) f s').bind fun ns s=>KK (zs.map Prod.fst++ns) s))
   case atStart=>exact ⟨s23,l.length+1,[],none,0,Nat.le_refl _,by omega,by omega,by omega,by omega,by omega,Nat.zero_le _,H31.out.drop 2 (by simp),RK.out⟩
   case round=>
    obtain ⟨s',f,zs,A,c,hfk,q1,q1b,q2,q3,q4,q5,hF,hR⟩:=hrel
    obtain ⟨f,rfl⟩:∃k,f=k+1:=⟨f-1,by omega⟩
    have HF:=hid hF
    have RF:=hid (list_one hR.out)
    clear hF hR
    obtain ⟨t32,ht33⟩:∃t,t=dueT l s'.at':=⟨_,rfl⟩
    have K34:=hid (show CO g l en s' 122 s' (.agg #[.int .i64 (t32.kind:Int),.string ⟨t32.text.toArray⟩,.int .i64 (t32.pos:Int)]) [] from fun W h=>ht33▸syDue_any g l en s' W h)
    have Dt32:=hid ht33
    clear ht33
    go_wp2_with (go_at_call 122;with_reducible refine (K34.out _ HF.out.prs).mono ?_)
    rintro e V35 ⟨rfl,hp,hg⟩
    have H36:=hid (HF.out.kept hp hg)
    clear hp hg K34
    go_wp2_with (with_reducible refine frAK H36.out ?_)
    intro V37 hV
    have H38:=hid hV
    clear hV
    go_wp2_with (with_reducible refine frSK 2 (tkCs t32) H38.out ?_)
    intro V39 hV
    have H40:=hid hV
    clear hV
    by_cases k4:t32.kind=4
    ·skip
     have nz:t32.kind≠0:=by omega
     have hT:t32.text.length≤10000000:=by have:=KT _ (Dt32.out▸k4);rw [←Dt32.out] at this;exact this
     have c41:=H40.out.cell 2 rfl 0 rfl
     rw [k4] at c41
     obtain ⟨s42,hs43⟩:∃z,z=nextT s':=⟨_,rfl⟩
     have lt45:=due_some (l:=l) (p:=s'.at') (Dt32.out▸nz)
     have a46:s42.at'=s'.at'+1:=by rw [hs43];rfl
     have p47:s42.pipes=s'.pipes:=by rw [hs43];rfl
     have R44:=hid (hs43▸param_var RF.out Dt32.out k4)
     have c48:=H40.out.prs.c1
     have f49:=H40.out.prs.frozen 1
     have hn:=H40.out.next
     rw [←hs43] at hn
     have H50:=hid hn
     clear hn hs43
     go_upto_region 6 with fail
     generalize V39.setCell ⟨g,1,none⟩ (.int .i64 ((s'.at':Int)+1))=V51 at *
     clear c41 c48 f49
     have H52:=hid (H50.out.leaf (.mk 27 (tDoll++t32.text) []) rfl)
     go_upto_region 6 with fail
     refine wp_region_s 9 (BoxS [(w.heap.size,zN,TN),(V16.heap.size,nCells (.mk 26 t7.text []) (.slice A zs.length c),TN),(V35.heap.size,tkCs t32,TTk)]) (by kernel_rfl) H52.out.drew.boxS (fun hS0=>?_)
     have H53:=hid H52.out.drew
     generalize V51.drew=V54 at *
     refine tk 0 (.pointer (some ⟨V16.heap.size,2,none⟩)) [1,7,9] hS0 ?_
     refine tk12 1 (.slice A zs.length c) [7,9] hS0 ?_
     refine tk 2 (.pointer (some ⟨V35.heap.size,1,none⟩)) [3,4,5,6,7,9] hS0 ?_
     refine tk 3 (.string ⟨t32.text.toArray⟩) [4,5,6,7,9] hS0 ?_ (y:=.inl ⟨by kernel_rfl,fun _ H=>by have cX:=H.cell 2 rfl 1 rfl;go_simp⟩)
     refine tk 4 (.string ⟨(tDoll++t32.text).toArray⟩) [5,6,7,9] hS0 ?_ (y:=.inl ⟨by kernel_rfl,fun _ _=>by go_simp;rw [doll_add];exact if_neg (by omega)⟩)
     refine st 5 fun K hK=>?_
     go_simp
     go_at_call 92
     with_reducible refine (KN.out _ _ _ _ _ _).mono ?_
     rintro e V55 ⟨rfl,hb⟩
     have H56:=hid (H53.out.below hb)
     clear hb
     try dsimp only
     refine hK.out _ _ (fun _=>H56.out.boxS) (fun _=>?_)
     clear hK K
     refine st 6 fun K hK=>?_
     simp only
     go_simp
     refine hK.out _ (V55.alloc (.cells (nCells (.mk 27 (tDoll++t32.text) []) rNil).toArray TN)) (fun _=>(H56.out.below ((Below.refl _ V55).alloc (Nat.le_refl _) _)).boxS) (fun _=>?_)
     clear hK K
     refine st 7 fun K hK=>?_
     rw [if_pos (by kernel_rfl)]
     with_reducible refine fr_wpAppend _ _ (by with_unfolding_all rfl) (t:=.mk 27 (tDoll++t32.text) []) (A:=none) (c:=0) (by simp) (by with_unfolding_all rfl) (by with_unfolding_all rfl) H56.out (by omega) ?_
     rintro _ V60 hV ⟨A57,m58,rfl⟩
     obtain ⟨zs61,hz⟩:∃z:List (Nd×Value),z=zs++[(.mk 27 (tDoll++t32.text) [],rNil)]:=⟨_,rfl⟩
     rw [←hz] at hV ⊢
     have Ezs61:=hid hz
     clear hz
     have H62:=hid hV
     clear hV
     refine hK.out _ _ (fun _=>H62.out.boxS) (fun _=>?_)
     clear hK K
     refine tk 8 (.pointer (some ⟨V16.heap.size,2,none⟩)) [9] H62.out.boxS ?_
     refine st 9 fun K hK=>?_
     have cS:=H62.out.cell 1 rfl 2 rfl
     have fS:=H62.out.frozen 1 rfl 2
     go_simp
     have hV:Fr g l en w s42 [(w.heap.size,zN,TN),(V16.heap.size,nCells (.mk 26 t7.text []) (.slice A57 zs61.length m58),TN),(V35.heap.size,tkCs t32,TTk)] [(.mk 27 (tDoll++t32.text) [],rNil)] (.slice A57 zs61.length m58) zs61 (V60.setCell ⟨V16.heap.size,2,none⟩ (.slice A57 zs61.length m58)):=H62.out.setC 1 rfl 2 _
     generalize V60.setCell ⟨V16.heap.size,2,none⟩ (.slice A57 zs61.length m58)=V63 at *
     have H64:=hid hV
     clear hV cS fS
     refine hK.out _ _ (fun h=>absurd rfl h) (fun _=>?_)
     clear hK K
     refine wpAnyS_done (by kernel_rfl) ?_ _
     by_cases hb65:isT l tSemi s42.at'=true
     ·skip
      obtain ⟨s66,hs67⟩:∃z,z=nextT s42:=⟨_,rfl⟩
      have lt69:=isT_lt hb65
      have a70:s66.at'=s42.at'+1:=by rw [hs67];rfl
      have p71:s66.pipes=s42.pipes:=by rw [hs67];rfl
      have R68:=hid (hs67▸list_yes R44.out hb65)
      have K72:=hid (tkY g en ⟨#[59]⟩ hs67 hl hb65)
      clear hb65 hs67
      go_wp2_with (go_at_call 88;with_reducible refine (K72.out _ H64.out.prs).mono ?_)
      rintro e V73 ⟨rfl,hp,hg⟩
      have H74:=hid (H64.out.kept hp hg)
      clear hp hg K72
      have R75:=hid (show r=(listF l tSemi (paramB l en) f s66).bind fun ns s=>KK (zs61.map Prod.fst++ns) s by rw [Ezs61.out];simpa using R68.out)
      go_wp2_with fail
      go_roundg f
      case measure=>omega
      case rel=>exact ⟨s66,f,zs61,A57,m58,Nat.le_refl _,by omega,by omega,by omega,by omega,by omega,by rw [Ezs61.out,List.length_append,List.length_singleton];omega,H74.out.drop 2 (by simp),R75.out⟩
     ·skip
      have R76:=hid (list_no R44.out hb65)
      have K77:=hid (tkN g en ⟨#[59]⟩ hb65)
      clear hb65
      go_wp2_with (go_at_call 88;with_reducible refine (K77.out _ H64.out.prs).mono ?_)
      rintro e V78 ⟨rfl,hp,hg⟩
      have H79:=hid (H64.out.kept hp hg)
      clear hp hg K77
      have R80:=hid (show r=KK (zs61.map Prod.fst) s42 by rw [Ezs61.out];simpa using R76.out)
      have Lzs61:zs61.length≤s42.at':=by rw [Ezs61.out,List.length_append,List.length_singleton];omega
      have R81:=hid (show r=(mustT l en tShut s42).bind fun _ s=>DD (zs61.map Prod.fst) s by have:=R80.out;rw [HKK.out] at this;exact this)
      have k82:=fun (W:World) (h:PrS g l en s42 W)=>syMust_any g l en s42 W tShut h hl
      cases hx83:mustT l en tShut s42 with
      | bad a m=>
       rw [hx83] at k82
       have R84:=hid (bind_bad R81.out hx83)
       have K85:=hid (show CB g l en s42 91 a m [.string ⟨#[41]⟩] from k82)
       clear k82 hx83
       go_wp2_with (go_at_call 91;with_reducible refine (K85.out _ H79.out.prs).mono ?_)
       rintro e V ⟨rfl,k⟩
       rw [R84.out]
       exact ⟨rfl,rfl,H79.out.pg.trans k⟩
      | ok u86 s87=>
       rw [hx83] at k82
       have R88:=hid (bind_of R81.out hx83)
       obtain ⟨a89,b90,c91,_⟩:=(must_ty E.fit tShut s42).ok u86 s87 hx83
       have K92:=hid (show CO g l en s42 91 s87 (.tuple #[]) [.string ⟨#[41]⟩] from k82)
       clear k82 hx83
       go_wp2_with (go_at_call 91;with_reducible refine (K92.out _ H79.out.prs).mono ?_)
       rintro e V93 ⟨rfl,hp,hg⟩
       have H94:=hid (H79.out.kept hp hg)
       clear hp hg K92
       have R95:=hid (show r=(mustT l en tColon s87).bind fun _ s=>(R.pipe s).bind fun b s=>(mustT l en tSemi s).bind fun _ s=>(R.pipe s).bind fun r s=>.ok (.mk 26 t7.text ((zs61.map Prod.fst)++[b,r])) s by have:=R88.out;rw [HDD.out] at this;exact this)
       have k96:=fun (W:World) (h:PrS g l en s87 W)=>syMust_any g l en s87 W tColon h hl
       cases hx97:mustT l en tColon s87 with
       | bad a m=>
        rw [hx97] at k96
        have R98:=hid (bind_bad R95.out hx97)
        have K99:=hid (show CB g l en s87 91 a m [.string ⟨#[58]⟩] from k96)
        clear k96 hx97
        go_wp2_with (go_at_call 91;with_reducible refine (K99.out _ H94.out.prs).mono ?_)
        rintro e V ⟨rfl,k⟩
        rw [R98.out]
        exact ⟨rfl,rfl,H94.out.pg.trans k⟩
       | ok u100 s101=>
        rw [hx97] at k96
        have R102:=hid (bind_of R95.out hx97)
        obtain ⟨a103,b104,c105,_⟩:=(must_ty E.fit tColon s87).ok u100 s101 hx97
        have K106:=hid (show CO g l en s87 91 s101 (.tuple #[]) [.string ⟨#[58]⟩] from k96)
        clear k96 hx97
        go_wp2_with (go_at_call 91;with_reducible refine (K106.out _ H94.out.prs).mono ?_)
        rintro e V107 ⟨rfl,hp,hg⟩
        have H108:=hid (H94.out.kept hp hg)
        clear hp hg K106
        have k109:=fun (W:World) (h:PrS g l en s101 W)=>E.walk.pipe s101 W h (by omega) (by omega) (by omega)
        cases hx110:R.pipe s101 with
        | bad a m=>
         rw [hx110] at k109
         have R111:=hid (bind_bad R102.out hx110)
         have K112:=hid (show CB g l en s101 28 a m [] from k109)
         clear k109 hx110
         go_upto_region 11 with fail
         refine wp_region_s 7 (BoxS [(w.heap.size,zN,TN),(V16.heap.size,nCells (.mk 26 t7.text []) (.slice A57 zs61.length m58),TN),(V35.heap.size,tkCs t32,TTk)]) (by kernel_rfl) H108.out.drew.boxS (fun hS0=>?_)
         have H113:=hid H108.out.drew
         generalize V107.drew=V114 at *
         refine tk 0 (.pointer (some ⟨V16.heap.size,2,none⟩)) [1,5,7] hS0 ?_
         refine tk12 1 (.slice A57 zs61.length m58) [5,7] hS0 ?_
         refine tk 2 (.pointer (some ⟨g,0,none⟩)) [3,4,5,7] hS0 ?_
         refine st 3 fun K hK=>?_
         go_simp
         go_at_call 28
         with_reducible refine (K112.out _ H113.out.prs).mono ?_
         rintro e V ⟨rfl,k⟩
         rw [R111.out]
         exact ⟨rfl,rfl,H113.out.pg.trans k⟩
        | ok v115 s116=>
         rw [hx110] at k109
         have R117:=hid (bind_of R102.out hx110)
         obtain ⟨a118,b119,c120,_⟩:=(E.ok.pipe s101 (by omega) (by omega)).ok v115 s116 hx110
         have K121:=hid (show CN g l en s101 28 s116 v115 [] from k109)
         clear k109 hx110
         go_upto_region 11 with fail
         refine wp_region_s 7 (BoxS [(w.heap.size,zN,TN),(V16.heap.size,nCells (.mk 26 t7.text []) (.slice A57 zs61.length m58),TN),(V35.heap.size,tkCs t32,TTk)]) (by kernel_rfl) H108.out.drew.boxS (fun hS0=>?_)
         have H122:=hid H108.out.drew
         generalize V107.drew=V123 at *
         refine tk 0 (.pointer (some ⟨V16.heap.size,2,none⟩)) [1,5,7] hS0 ?_
         refine tk12 1 (.slice A57 zs61.length m58) [5,7] hS0 ?_
         refine tk 2 (.pointer (some ⟨g,0,none⟩)) [3,4,5,7] hS0 ?_
         refine st 3 fun K hK=>?_
         go_simp
         go_at_call 28
         with_reducible refine (K121.out _ H122.out.prs).mono ?_
         rintro e V124 ⟨kv,rfl,hx,hp,hg⟩
         obtain ⟨A125,m126,rfl⟩:=hx.slice
         have H127:=hid (H122.out.tree hp hg hx)
         clear hx hp hg
         clear K121
         try dsimp only
         refine hK.out _ _ (fun _=>H127.out.boxS) (fun _=>?_)
         clear hK K
         refine st 4 fun K hK=>?_
         simp only [nAgg]
         go_simp
         refine hK.out _ (V124.alloc (.cells (nCells v115 (.slice A125 v115.kids.length m126)).toArray TN)) (fun _=>(H127.out.below ((Below.refl _ V124).alloc (Nat.le_refl _) _)).boxS) (fun _=>?_)
         clear hK K
         refine st 5 fun K hK=>?_
         rw [if_pos (by kernel_rfl)]
         with_reducible refine fr_wpAppend _ _ (by with_unfolding_all rfl) (t:=v115) (A:=A125) (c:=m126) (by simp) (by with_unfolding_all rfl) (by with_unfolding_all rfl) H127.out (by omega) ?_
         rintro _ V131 hV ⟨A128,m129,rfl⟩
         obtain ⟨zs132,hz⟩:∃z:List (Nd×Value),z=zs61++[(v115,.slice A125 v115.kids.length m126)]:=⟨_,rfl⟩
         rw [←hz] at hV ⊢
         have Ezs132:=hid hz
         clear hz
         have H133:=hid hV
         clear hV
         refine hK.out _ _ (fun _=>H133.out.boxS) (fun _=>?_)
         clear hK K
         refine tk 6 (.pointer (some ⟨V16.heap.size,2,none⟩)) [7] H133.out.boxS ?_
         refine st 7 fun K hK=>?_
         have cS:=H133.out.cell 1 rfl 2 rfl
         have fS:=H133.out.frozen 1 rfl 2
         go_simp
         have hV:Fr g l en w s116 [(w.heap.size,zN,TN),(V16.heap.size,nCells (.mk 26 t7.text []) (.slice A128 zs132.length m129),TN),(V35.heap.size,tkCs t32,TTk)] [(v115,.slice A125 v115.kids.length m126),(.mk 27 (tDoll++t32.text) [],rNil)] (.slice A128 zs132.length m129) zs132 (V131.setCell ⟨V16.heap.size,2,none⟩ (.slice A128 zs132.length m129)):=H133.out.setC 1 rfl 2 _
         generalize V131.setCell ⟨V16.heap.size,2,none⟩ (.slice A128 zs132.length m129)=V134 at *
         have H135:=hid hV
         clear hV cS fS
         refine hK.out _ _ (fun h=>absurd rfl h) (fun _=>?_)
         clear hK K
         refine wpAnyS_done (by kernel_rfl) ?_ _
         have k136:=fun (W:World) (h:PrS g l en s116 W)=>syMust_any g l en s116 W tSemi h hl
         cases hx137:mustT l en tSemi s116 with
         | bad a m=>
          rw [hx137] at k136
          have R138:=hid (bind_bad R117.out hx137)
          have K139:=hid (show CB g l en s116 91 a m [.string ⟨#[59]⟩] from k136)
          clear k136 hx137
          go_wp2_with (go_at_call 91;with_reducible refine (K139.out _ H135.out.prs).mono ?_)
          rintro e V ⟨rfl,k⟩
          rw [R138.out]
          exact ⟨rfl,rfl,H135.out.pg.trans k⟩
         | ok u140 s141=>
          rw [hx137] at k136
          have R142:=hid (bind_of R117.out hx137)
          obtain ⟨a143,b144,c145,_⟩:=(must_ty E.fit tSemi s116).ok u140 s141 hx137
          have K146:=hid (show CO g l en s116 91 s141 (.tuple #[]) [.string ⟨#[59]⟩] from k136)
          clear k136 hx137
          go_wp2_with (go_at_call 91;with_reducible refine (K146.out _ H135.out.prs).mono ?_)
          rintro e V147 ⟨rfl,hp,hg⟩
          have H148:=hid (H135.out.kept hp hg)
          clear hp hg K146
          have k149:=fun (W:World) (h:PrS g l en s141 W)=>E.walk.pipe s141 W h (by omega) (by omega) (by omega)
          cases hx150:R.pipe s141 with
          | bad a m=>
           rw [hx150] at k149
           have R151:=hid (bind_bad R142.out hx150)
           have K152:=hid (show CB g l en s141 28 a m [] from k149)
           clear k149 hx150
           go_upto_region 13 with fail
           refine wp_region_s 7 (BoxS [(w.heap.size,zN,TN),(V16.heap.size,nCells (.mk 26 t7.text []) (.slice A128 zs132.length m129),TN),(V35.heap.size,tkCs t32,TTk)]) (by kernel_rfl) H148.out.drew.boxS (fun hS0=>?_)
           have H153:=hid H148.out.drew
           generalize V147.drew=V154 at *
           refine tk 0 (.pointer (some ⟨V16.heap.size,2,none⟩)) [1,5,7] hS0 ?_
           refine tk12 1 (.slice A128 zs132.length m129) [5,7] hS0 ?_
           refine tk 2 (.pointer (some ⟨g,0,none⟩)) [3,4,5,7] hS0 ?_
           refine st 3 fun K hK=>?_
           go_simp
           go_at_call 28
           with_reducible refine (K152.out _ H153.out.prs).mono ?_
           rintro e V ⟨rfl,k⟩
           rw [R151.out]
           exact ⟨rfl,rfl,H153.out.pg.trans k⟩
          | ok v155 s156=>
           rw [hx150] at k149
           have R157:=hid (bind_of R142.out hx150)
           obtain ⟨a158,b159,c160,_⟩:=(E.ok.pipe s141 (by omega) (by omega)).ok v155 s156 hx150
           have K161:=hid (show CN g l en s141 28 s156 v155 [] from k149)
           clear k149 hx150
           go_upto_region 13 with fail
           refine wp_region_s 7 (BoxS [(w.heap.size,zN,TN),(V16.heap.size,nCells (.mk 26 t7.text []) (.slice A128 zs132.length m129),TN),(V35.heap.size,tkCs t32,TTk)]) (by kernel_rfl) H148.out.drew.boxS (fun hS0=>?_)
           have H162:=hid H148.out.drew
           generalize V147.drew=V163 at *
           refine tk 0 (.pointer (some ⟨V16.heap.size,2,none⟩)) [1,5,7] hS0 ?_
           refine tk12 1 (.slice A128 zs132.length m129) [5,7] hS0 ?_
           refine tk 2 (.pointer (some ⟨g,0,none⟩)) [3,4,5,7] hS0 ?_
           refine st 3 fun K hK=>?_
           go_simp
           go_at_call 28
           with_reducible refine (K161.out _ H162.out.prs).mono ?_
           rintro e V164 ⟨kv,rfl,hx,hp,hg⟩
           obtain ⟨A165,m166,rfl⟩:=hx.slice
           have H167:=hid (H162.out.tree hp hg hx)
           clear hx hp hg
           clear K161
           try dsimp only
           refine hK.out _ _ (fun _=>H167.out.boxS) (fun _=>?_)
           clear hK K
           refine st 4 fun K hK=>?_
           simp only [nAgg]
           go_simp
           refine hK.out _ (V164.alloc (.cells (nCells v155 (.slice A165 v155.kids.length m166)).toArray TN)) (fun _=>(H167.out.below ((Below.refl _ V164).alloc (Nat.le_refl _) _)).boxS) (fun _=>?_)
           clear hK K
           refine st 5 fun K hK=>?_
           rw [if_pos (by kernel_rfl)]
           with_reducible refine fr_wpAppend _ _ (by with_unfolding_all rfl) (t:=v155) (A:=A165) (c:=m166) (by simp) (by with_unfolding_all rfl) (by with_unfolding_all rfl) H167.out (by rw [Ezs132.out];simp;omega) ?_
           rintro _ V171 hV ⟨A168,m169,rfl⟩
           obtain ⟨zs172,hz⟩:∃z:List (Nd×Value),z=zs132++[(v155,.slice A165 v155.kids.length m166)]:=⟨_,rfl⟩
           rw [←hz] at hV ⊢
           have Ezs172:=hid hz
           clear hz
           have H173:=hid hV
           clear hV
           refine hK.out _ _ (fun _=>H173.out.boxS) (fun _=>?_)
           clear hK K
           refine tk 6 (.pointer (some ⟨V16.heap.size,2,none⟩)) [7] H173.out.boxS ?_
           refine st 7 fun K hK=>?_
           have cS:=H173.out.cell 1 rfl 2 rfl
           have fS:=H173.out.frozen 1 rfl 2
           go_simp
           have hV:Fr g l en w s156 [(w.heap.size,zN,TN),(V16.heap.size,nCells (.mk 26 t7.text []) (.slice A168 zs172.length m169),TN),(V35.heap.size,tkCs t32,TTk)] [(v155,.slice A165 v155.kids.length m166),(v115,.slice A125 v115.kids.length m126),(.mk 27 (tDoll++t32.text) [],rNil)] (.slice A168 zs172.length m169) zs172 (V171.setCell ⟨V16.heap.size,2,none⟩ (.slice A168 zs172.length m169)):=H173.out.setC 1 rfl 2 _
           generalize V171.setCell ⟨V16.heap.size,2,none⟩ (.slice A168 zs172.length m169)=V174 at *
           have H175:=hid hV
           clear hV cS fS
           refine hK.out _ _ (fun h=>absurd rfl h) (fun _=>?_)
           clear hK K
           refine wpAnyS_done (by kernel_rfl) ?_ _
           go_wp2_with (first
            | (with_reducible refine frL 1 H175.out ?_)
            | (with_reducible refine frS 0 (nCells (.mk 26 t7.text ((zs61.map Prod.fst)++[v115,v155])) (.slice A168 zs172.length m169)) H175.out ?_))
           intro V176 hV
           have H177:=hid hV
           clear hV
           go_wp2
           rw [R157.out]
           exact ret_n Tryz.results89 (k:=0) rfl H177.out (by with_unfolding_all rfl) rfl ⟨_,rfl,H177.out.end _ (by rw [Ezs172.out,Ezs132.out];simp [Nd.kids]),H177.out.prs,H177.out.pg⟩
    ·skip
     have R178:=hid (param_name RF.out Dt32.out k4)
     have z4:((t32.kind:Int)==4)=false:=beq_false_of_ne (by omega)
     have c179:=H40.out.cell 2 rfl 0 rfl
     have k180:=fun (W:World) (h:PrS g l en s' W)=>syKind_any g l en s' W 2 h hl (by decide)
     cases hx181:kindT l en 2 s' with
     | bad a m=>
      rw [hx181] at k180
      have R182:=hid (bind_bad R178.out hx181)
      have K183:=hid (show CB g l en s' 90 a m [.int .i64 2] from k180)
      clear k180 hx181
      go_upto_region 7 with fail
      refine wp_region_s 9 (BoxS [(w.heap.size,zN,TN),(V16.heap.size,nCells (.mk 26 t7.text []) (.slice A zs.length c),TN),(V35.heap.size,tkCs t32,TTk)]) (by kernel_rfl) H40.out.drew.boxS (fun hS0=>?_)
      have H184:=hid H40.out.drew
      generalize V39.drew=V185 at *
      clear c179
      refine tk 0 (.pointer (some ⟨V16.heap.size,2,none⟩)) [1,7,9] hS0 ?_
      refine tk12 1 (.slice A zs.length c) [7,9] hS0 ?_
      refine tk 2 (.pointer (some ⟨g,0,none⟩)) [3,4,5,6,7,9] hS0 ?_
      refine st 3 fun K hK=>?_
      go_simp
      go_at_call 90
      with_reducible refine (K183.out _ H184.out.prs).mono ?_
      rintro e V ⟨rfl,k⟩
      rw [R182.out]
      exact ⟨rfl,rfl,H184.out.pg.trans k⟩
     | ok t186 s187=>
      rw [hx181] at k180
      have R188:=hid (bind_of R178.out hx181)
      obtain ⟨a189,b190,c191,_⟩:=(kind_ty E.fit (by decide) s').ok t186 s187 hx181
      have K192:=hid (show CO g l en s' 90 s187 (.agg #[.int .i64 (t186.kind:Int),.string ⟨t186.text.toArray⟩,.int .i64 (t186.pos:Int)]) [.int .i64 2] from k180)
      clear k180 hx181
      have H193:=hid (H40.out.leaf (.mk 27 t186.text []) rfl)
      go_upto_region 7 with fail
      refine wp_region_s 9 (BoxS [(w.heap.size,zN,TN),(V16.heap.size,nCells (.mk 26 t7.text []) (.slice A zs.length c),TN),(V35.heap.size,tkCs t32,TTk)]) (by kernel_rfl) H193.out.drew.boxS (fun hS0=>?_)
      have H194:=hid H193.out.drew
      generalize V39.drew=V195 at *
      clear c179
      refine tk 0 (.pointer (some ⟨V16.heap.size,2,none⟩)) [1,7,9] hS0 ?_
      refine tk12 1 (.slice A zs.length c) [7,9] hS0 ?_
      refine tk 2 (.pointer (some ⟨g,0,none⟩)) [3,4,5,6,7,9] hS0 ?_
      refine st 3 fun K hK=>?_
      go_simp
      go_at_call 90
      with_reducible refine (K192.out _ H194.out.prs).mono ?_
      rintro e V196 ⟨rfl,hp,hg⟩
      have H197:=hid (H194.out.kept hp hg)
      clear hp hg K192
      try dsimp only
      refine hK.out _ _ (fun _=>H197.out.boxS) (fun _=>?_)
      clear hK K
      refine tk 4 (.string ⟨t186.text.toArray⟩) [5,6,7,9] H197.out.boxS ?_
      refine st 5 fun K hK=>?_
      go_simp
      go_at_call 92
      with_reducible refine (KN.out _ _ _ _ _ _).mono ?_
      rintro e V198 ⟨rfl,hb⟩
      have H199:=hid (H197.out.below hb)
      clear hb
      try dsimp only
      refine hK.out _ _ (fun _=>H199.out.boxS) (fun _=>?_)
      clear hK K
      refine st 6 fun K hK=>?_
      simp only
      go_simp
      refine hK.out _ (V198.alloc (.cells (nCells (.mk 27 t186.text []) rNil).toArray TN)) (fun _=>(H199.out.below ((Below.refl _ V198).alloc (Nat.le_refl _) _)).boxS) (fun _=>?_)
      clear hK K
      refine st 7 fun K hK=>?_
      rw [if_pos (by kernel_rfl)]
      with_reducible refine fr_wpAppend _ _ (by with_unfolding_all rfl) (t:=.mk 27 t186.text []) (A:=none) (c:=0) (by simp) (by with_unfolding_all rfl) (by with_unfolding_all rfl) H199.out (by omega) ?_
      rintro _ V203 hV ⟨A200,m201,rfl⟩
      obtain ⟨zs204,hz⟩:∃z:List (Nd×Value),z=zs++[(.mk 27 t186.text [],rNil)]:=⟨_,rfl⟩
      rw [←hz] at hV ⊢
      have Ezs204:=hid hz
      clear hz
      have H205:=hid hV
      clear hV
      refine hK.out _ _ (fun _=>H205.out.boxS) (fun _=>?_)
      clear hK K
      refine tk 8 (.pointer (some ⟨V16.heap.size,2,none⟩)) [9] H205.out.boxS ?_
      refine st 9 fun K hK=>?_
      have cS:=H205.out.cell 1 rfl 2 rfl
      have fS:=H205.out.frozen 1 rfl 2
      go_simp
      have hV:Fr g l en w s187 [(w.heap.size,zN,TN),(V16.heap.size,nCells (.mk 26 t7.text []) (.slice A200 zs204.length m201),TN),(V35.heap.size,tkCs t32,TTk)] [(.mk 27 t186.text [],rNil)] (.slice A200 zs204.length m201) zs204 (V203.setCell ⟨V16.heap.size,2,none⟩ (.slice A200 zs204.length m201)):=H205.out.setC 1 rfl 2 _
      generalize V203.setCell ⟨V16.heap.size,2,none⟩ (.slice A200 zs204.length m201)=V206 at *
      have H207:=hid hV
      clear hV cS fS
      refine hK.out _ _ (fun h=>absurd rfl h) (fun _=>?_)
      clear hK K
      refine wpAnyS_done (by kernel_rfl) ?_ _
      by_cases hb208:isT l tSemi s187.at'=true
      ·skip
       obtain ⟨s209,hs210⟩:∃z,z=nextT s187:=⟨_,rfl⟩
       have lt212:=isT_lt hb208
       have a213:s209.at'=s187.at'+1:=by rw [hs210];rfl
       have p214:s209.pipes=s187.pipes:=by rw [hs210];rfl
       have R211:=hid (hs210▸list_yes R188.out hb208)
       have K215:=hid (tkY g en ⟨#[59]⟩ hs210 hl hb208)
       clear hb208 hs210
       go_wp2_with (go_at_call 88;with_reducible refine (K215.out _ H207.out.prs).mono ?_)
       rintro e V216 ⟨rfl,hp,hg⟩
       have H217:=hid (H207.out.kept hp hg)
       clear hp hg K215
       have R218:=hid (show r=(listF l tSemi (paramB l en) f s209).bind fun ns s=>KK (zs204.map Prod.fst++ns) s by rw [Ezs204.out];simpa using R211.out)
       go_wp2_with fail
       go_roundg f
       case measure=>omega
       case rel=>exact ⟨s209,f,zs204,A200,m201,Nat.le_refl _,by omega,by omega,by omega,by omega,by omega,by rw [Ezs204.out,List.length_append,List.length_singleton];omega,H217.out.drop 2 (by simp),R218.out⟩
      ·skip
       have R219:=hid (list_no R188.out hb208)
       have K220:=hid (tkN g en ⟨#[59]⟩ hb208)
       clear hb208
       go_wp2_with (go_at_call 88;with_reducible refine (K220.out _ H207.out.prs).mono ?_)
       rintro e V221 ⟨rfl,hp,hg⟩
       have H222:=hid (H207.out.kept hp hg)
       clear hp hg K220
       have R223:=hid (show r=KK (zs204.map Prod.fst) s187 by rw [Ezs204.out];simpa using R219.out)
       have Lzs204:zs204.length≤s187.at':=by rw [Ezs204.out,List.length_append,List.length_singleton];omega
       have R224:=hid (show r=(mustT l en tShut s187).bind fun _ s=>DD (zs204.map Prod.fst) s by have:=R223.out;rw [HKK.out] at this;exact this)
       have k225:=fun (W:World) (h:PrS g l en s187 W)=>syMust_any g l en s187 W tShut h hl
       cases hx226:mustT l en tShut s187 with
       | bad a m=>
        rw [hx226] at k225
        have R227:=hid (bind_bad R224.out hx226)
        have K228:=hid (show CB g l en s187 91 a m [.string ⟨#[41]⟩] from k225)
        clear k225 hx226
        go_wp2_with (go_at_call 91;with_reducible refine (K228.out _ H222.out.prs).mono ?_)
        rintro e V ⟨rfl,k⟩
        rw [R227.out]
        exact ⟨rfl,rfl,H222.out.pg.trans k⟩
       | ok u229 s230=>
        rw [hx226] at k225
        have R231:=hid (bind_of R224.out hx226)
        obtain ⟨a232,b233,c234,_⟩:=(must_ty E.fit tShut s187).ok u229 s230 hx226
        have K235:=hid (show CO g l en s187 91 s230 (.tuple #[]) [.string ⟨#[41]⟩] from k225)
        clear k225 hx226
        go_wp2_with (go_at_call 91;with_reducible refine (K235.out _ H222.out.prs).mono ?_)
        rintro e V236 ⟨rfl,hp,hg⟩
        have H237:=hid (H222.out.kept hp hg)
        clear hp hg K235
        have R238:=hid (show r=(mustT l en tColon s230).bind fun _ s=>(R.pipe s).bind fun b s=>(mustT l en tSemi s).bind fun _ s=>(R.pipe s).bind fun r s=>.ok (.mk 26 t7.text ((zs204.map Prod.fst)++[b,r])) s by have:=R231.out;rw [HDD.out] at this;exact this)
        have k239:=fun (W:World) (h:PrS g l en s230 W)=>syMust_any g l en s230 W tColon h hl
        cases hx240:mustT l en tColon s230 with
        | bad a m=>
         rw [hx240] at k239
         have R241:=hid (bind_bad R238.out hx240)
         have K242:=hid (show CB g l en s230 91 a m [.string ⟨#[58]⟩] from k239)
         clear k239 hx240
         go_wp2_with (go_at_call 91;with_reducible refine (K242.out _ H237.out.prs).mono ?_)
         rintro e V ⟨rfl,k⟩
         rw [R241.out]
         exact ⟨rfl,rfl,H237.out.pg.trans k⟩
        | ok u243 s244=>
         rw [hx240] at k239
         have R245:=hid (bind_of R238.out hx240)
         obtain ⟨a246,b247,c248,_⟩:=(must_ty E.fit tColon s230).ok u243 s244 hx240
         have K249:=hid (show CO g l en s230 91 s244 (.tuple #[]) [.string ⟨#[58]⟩] from k239)
         clear k239 hx240
         go_wp2_with (go_at_call 91;with_reducible refine (K249.out _ H237.out.prs).mono ?_)
         rintro e V250 ⟨rfl,hp,hg⟩
         have H251:=hid (H237.out.kept hp hg)
         clear hp hg K249
         have k252:=fun (W:World) (h:PrS g l en s244 W)=>E.walk.pipe s244 W h (by omega) (by omega) (by omega)
         cases hx253:R.pipe s244 with
         | bad a m=>
          rw [hx253] at k252
          have R254:=hid (bind_bad R245.out hx253)
          have K255:=hid (show CB g l en s244 28 a m [] from k252)
          clear k252 hx253
          go_upto_region 11 with fail
          refine wp_region_s 7 (BoxS [(w.heap.size,zN,TN),(V16.heap.size,nCells (.mk 26 t7.text []) (.slice A200 zs204.length m201),TN),(V35.heap.size,tkCs t32,TTk)]) (by kernel_rfl) H251.out.drew.boxS (fun hS0=>?_)
          have H256:=hid H251.out.drew
          generalize V250.drew=V257 at *
          refine tk 0 (.pointer (some ⟨V16.heap.size,2,none⟩)) [1,5,7] hS0 ?_
          refine tk12 1 (.slice A200 zs204.length m201) [5,7] hS0 ?_
          refine tk 2 (.pointer (some ⟨g,0,none⟩)) [3,4,5,7] hS0 ?_
          refine st 3 fun K hK=>?_
          go_simp
          go_at_call 28
          with_reducible refine (K255.out _ H256.out.prs).mono ?_
          rintro e V ⟨rfl,k⟩
          rw [R254.out]
          exact ⟨rfl,rfl,H256.out.pg.trans k⟩
         | ok v258 s259=>
          rw [hx253] at k252
          have R260:=hid (bind_of R245.out hx253)
          obtain ⟨a261,b262,c263,_⟩:=(E.ok.pipe s244 (by omega) (by omega)).ok v258 s259 hx253
          have K264:=hid (show CN g l en s244 28 s259 v258 [] from k252)
          clear k252 hx253
          go_upto_region 11 with fail
          refine wp_region_s 7 (BoxS [(w.heap.size,zN,TN),(V16.heap.size,nCells (.mk 26 t7.text []) (.slice A200 zs204.length m201),TN),(V35.heap.size,tkCs t32,TTk)]) (by kernel_rfl) H251.out.drew.boxS (fun hS0=>?_)
          have H265:=hid H251.out.drew
          generalize V250.drew=V266 at *
          refine tk 0 (.pointer (some ⟨V16.heap.size,2,none⟩)) [1,5,7] hS0 ?_
          refine tk12 1 (.slice A200 zs204.length m201) [5,7] hS0 ?_
          refine tk 2 (.pointer (some ⟨g,0,none⟩)) [3,4,5,7] hS0 ?_
          refine st 3 fun K hK=>?_
          go_simp
          go_at_call 28
          with_reducible refine (K264.out _ H265.out.prs).mono ?_
          rintro e V267 ⟨kv,rfl,hx,hp,hg⟩
          obtain ⟨A268,m269,rfl⟩:=hx.slice
          have H270:=hid (H265.out.tree hp hg hx)
          clear hx hp hg
          clear K264
          try dsimp only
          refine hK.out _ _ (fun _=>H270.out.boxS) (fun _=>?_)
          clear hK K
          refine st 4 fun K hK=>?_
          simp only [nAgg]
          go_simp
          refine hK.out _ (V267.alloc (.cells (nCells v258 (.slice A268 v258.kids.length m269)).toArray TN)) (fun _=>(H270.out.below ((Below.refl _ V267).alloc (Nat.le_refl _) _)).boxS) (fun _=>?_)
          clear hK K
          refine st 5 fun K hK=>?_
          rw [if_pos (by kernel_rfl)]
          with_reducible refine fr_wpAppend _ _ (by with_unfolding_all rfl) (t:=v258) (A:=A268) (c:=m269) (by simp) (by with_unfolding_all rfl) (by with_unfolding_all rfl) H270.out (by omega) ?_
          rintro _ V274 hV ⟨A271,m272,rfl⟩
          obtain ⟨zs275,hz⟩:∃z:List (Nd×Value),z=zs204++[(v258,.slice A268 v258.kids.length m269)]:=⟨_,rfl⟩
          rw [←hz] at hV ⊢
          have Ezs275:=hid hz
          clear hz
          have H276:=hid hV
          clear hV
          refine hK.out _ _ (fun _=>H276.out.boxS) (fun _=>?_)
          clear hK K
          refine tk 6 (.pointer (some ⟨V16.heap.size,2,none⟩)) [7] H276.out.boxS ?_
          refine st 7 fun K hK=>?_
          have cS:=H276.out.cell 1 rfl 2 rfl
          have fS:=H276.out.frozen 1 rfl 2
          go_simp
          have hV:Fr g l en w s259 [(w.heap.size,zN,TN),(V16.heap.size,nCells (.mk 26 t7.text []) (.slice A271 zs275.length m272),TN),(V35.heap.size,tkCs t32,TTk)] [(v258,.slice A268 v258.kids.length m269),(.mk 27 t186.text [],rNil)] (.slice A271 zs275.length m272) zs275 (V274.setCell ⟨V16.heap.size,2,none⟩ (.slice A271 zs275.length m272)):=H276.out.setC 1 rfl 2 _
          generalize V274.setCell ⟨V16.heap.size,2,none⟩ (.slice A271 zs275.length m272)=V277 at *
          have H278:=hid hV
          clear hV cS fS
          refine hK.out _ _ (fun h=>absurd rfl h) (fun _=>?_)
          clear hK K
          refine wpAnyS_done (by kernel_rfl) ?_ _
          have k279:=fun (W:World) (h:PrS g l en s259 W)=>syMust_any g l en s259 W tSemi h hl
          cases hx280:mustT l en tSemi s259 with
          | bad a m=>
           rw [hx280] at k279
           have R281:=hid (bind_bad R260.out hx280)
           have K282:=hid (show CB g l en s259 91 a m [.string ⟨#[59]⟩] from k279)
           clear k279 hx280
           go_wp2_with (go_at_call 91;with_reducible refine (K282.out _ H278.out.prs).mono ?_)
           rintro e V ⟨rfl,k⟩
           rw [R281.out]
           exact ⟨rfl,rfl,H278.out.pg.trans k⟩
          | ok u283 s284=>
           rw [hx280] at k279
           have R285:=hid (bind_of R260.out hx280)
           obtain ⟨a286,b287,c288,_⟩:=(must_ty E.fit tSemi s259).ok u283 s284 hx280
           have K289:=hid (show CO g l en s259 91 s284 (.tuple #[]) [.string ⟨#[59]⟩] from k279)
           clear k279 hx280
           go_wp2_with (go_at_call 91;with_reducible refine (K289.out _ H278.out.prs).mono ?_)
           rintro e V290 ⟨rfl,hp,hg⟩
           have H291:=hid (H278.out.kept hp hg)
           clear hp hg K289
           have k292:=fun (W:World) (h:PrS g l en s284 W)=>E.walk.pipe s284 W h (by omega) (by omega) (by omega)
           cases hx293:R.pipe s284 with
           | bad a m=>
            rw [hx293] at k292
            have R294:=hid (bind_bad R285.out hx293)
            have K295:=hid (show CB g l en s284 28 a m [] from k292)
            clear k292 hx293
            go_upto_region 13 with fail
            refine wp_region_s 7 (BoxS [(w.heap.size,zN,TN),(V16.heap.size,nCells (.mk 26 t7.text []) (.slice A271 zs275.length m272),TN),(V35.heap.size,tkCs t32,TTk)]) (by kernel_rfl) H291.out.drew.boxS (fun hS0=>?_)
            have H296:=hid H291.out.drew
            generalize V290.drew=V297 at *
            refine tk 0 (.pointer (some ⟨V16.heap.size,2,none⟩)) [1,5,7] hS0 ?_
            refine tk12 1 (.slice A271 zs275.length m272) [5,7] hS0 ?_
            refine tk 2 (.pointer (some ⟨g,0,none⟩)) [3,4,5,7] hS0 ?_
            refine st 3 fun K hK=>?_
            go_simp
            go_at_call 28
            with_reducible refine (K295.out _ H296.out.prs).mono ?_
            rintro e V ⟨rfl,k⟩
            rw [R294.out]
            exact ⟨rfl,rfl,H296.out.pg.trans k⟩
           | ok v298 s299=>
            rw [hx293] at k292
            have R300:=hid (bind_of R285.out hx293)
            obtain ⟨a301,b302,c303,_⟩:=(E.ok.pipe s284 (by omega) (by omega)).ok v298 s299 hx293
            have K304:=hid (show CN g l en s284 28 s299 v298 [] from k292)
            clear k292 hx293
            go_upto_region 13 with fail
            refine wp_region_s 7 (BoxS [(w.heap.size,zN,TN),(V16.heap.size,nCells (.mk 26 t7.text []) (.slice A271 zs275.length m272),TN),(V35.heap.size,tkCs t32,TTk)]) (by kernel_rfl) H291.out.drew.boxS (fun hS0=>?_)
            have H305:=hid H291.out.drew
            generalize V290.drew=V306 at *
            refine tk 0 (.pointer (some ⟨V16.heap.size,2,none⟩)) [1,5,7] hS0 ?_
            refine tk12 1 (.slice A271 zs275.length m272) [5,7] hS0 ?_
            refine tk 2 (.pointer (some ⟨g,0,none⟩)) [3,4,5,7] hS0 ?_
            refine st 3 fun K hK=>?_
            go_simp
            go_at_call 28
            with_reducible refine (K304.out _ H305.out.prs).mono ?_
            rintro e V307 ⟨kv,rfl,hx,hp,hg⟩
            obtain ⟨A308,m309,rfl⟩:=hx.slice
            have H310:=hid (H305.out.tree hp hg hx)
            clear hx hp hg
            clear K304
            try dsimp only
            refine hK.out _ _ (fun _=>H310.out.boxS) (fun _=>?_)
            clear hK K
            refine st 4 fun K hK=>?_
            simp only [nAgg]
            go_simp
            refine hK.out _ (V307.alloc (.cells (nCells v298 (.slice A308 v298.kids.length m309)).toArray TN)) (fun _=>(H310.out.below ((Below.refl _ V307).alloc (Nat.le_refl _) _)).boxS) (fun _=>?_)
            clear hK K
            refine st 5 fun K hK=>?_
            rw [if_pos (by kernel_rfl)]
            with_reducible refine fr_wpAppend _ _ (by with_unfolding_all rfl) (t:=v298) (A:=A308) (c:=m309) (by simp) (by with_unfolding_all rfl) (by with_unfolding_all rfl) H310.out (by rw [Ezs275.out];simp;omega) ?_
            rintro _ V314 hV ⟨A311,m312,rfl⟩
            obtain ⟨zs315,hz⟩:∃z:List (Nd×Value),z=zs275++[(v298,.slice A308 v298.kids.length m309)]:=⟨_,rfl⟩
            rw [←hz] at hV ⊢
            have Ezs315:=hid hz
            clear hz
            have H316:=hid hV
            clear hV
            refine hK.out _ _ (fun _=>H316.out.boxS) (fun _=>?_)
            clear hK K
            refine tk 6 (.pointer (some ⟨V16.heap.size,2,none⟩)) [7] H316.out.boxS ?_
            refine st 7 fun K hK=>?_
            have cS:=H316.out.cell 1 rfl 2 rfl
            have fS:=H316.out.frozen 1 rfl 2
            go_simp
            have hV:Fr g l en w s299 [(w.heap.size,zN,TN),(V16.heap.size,nCells (.mk 26 t7.text []) (.slice A311 zs315.length m312),TN),(V35.heap.size,tkCs t32,TTk)] [(v298,.slice A308 v298.kids.length m309),(v258,.slice A268 v258.kids.length m269),(.mk 27 t186.text [],rNil)] (.slice A311 zs315.length m312) zs315 (V314.setCell ⟨V16.heap.size,2,none⟩ (.slice A311 zs315.length m312)):=H316.out.setC 1 rfl 2 _
            generalize V314.setCell ⟨V16.heap.size,2,none⟩ (.slice A311 zs315.length m312)=V317 at *
            have H318:=hid hV
            clear hV cS fS
            refine hK.out _ _ (fun h=>absurd rfl h) (fun _=>?_)
            clear hK K
            refine wpAnyS_done (by kernel_rfl) ?_ _
            go_wp2_with (first
             | (with_reducible refine frL 1 H318.out ?_)
             | (with_reducible refine frS 0 (nCells (.mk 26 t7.text ((zs204.map Prod.fst)++[v258,v298])) (.slice A311 zs315.length m312)) H318.out ?_))
            intro V319 hV
            have H320:=hid hV
            clear hV
            go_wp2
            rw [R300.out]
            exact ret_n Tryz.results89 (k:=0) rfl H320.out (by with_unfolding_all rfl) rfl ⟨_,rfl,H320.out.end _ (by rw [Ezs315.out,Ezs275.out];simp [Nd.kids]),H320.out.prs,H320.out.pg⟩
  ·skip
   have R321:=hid (params_no RD.out hb22)
   have K322:=hid (tkN g en ⟨#[40]⟩ hb22)
   clear hb22
   go_wp2_with (go_at_call 88;with_reducible refine (K322.out _ H21.out.prs).mono ?_)
   rintro e V323 ⟨rfl,hp,hg⟩
   have H324:=hid (H21.out.kept hp hg)
   clear hp hg K322
   have R325:=hid (show r=(mustT l en tColon s8).bind fun _ s=>(R.pipe s).bind fun b s=>(mustT l en tSemi s).bind fun _ s=>(R.pipe s).bind fun r s=>.ok (.mk 26 t7.text ([]++[b,r])) s by have:=R321.out;rw [HDD.out] at this;exact this)
   have k326:=fun (W:World) (h:PrS g l en s8 W)=>syMust_any g l en s8 W tColon h hl
   cases hx327:mustT l en tColon s8 with
   | bad a m=>
    rw [hx327] at k326
    have R328:=hid (bind_bad R325.out hx327)
    have K329:=hid (show CB g l en s8 91 a m [.string ⟨#[58]⟩] from k326)
    clear k326 hx327
    go_wp2_with (go_at_call 91;with_reducible refine (K329.out _ H324.out.prs).mono ?_)
    rintro e V ⟨rfl,k⟩
    rw [R328.out]
    exact ⟨rfl,rfl,H324.out.pg.trans k⟩
   | ok u330 s331=>
    rw [hx327] at k326
    have R332:=hid (bind_of R325.out hx327)
    obtain ⟨a333,b334,c335,_⟩:=(must_ty E.fit tColon s8).ok u330 s331 hx327
    have K336:=hid (show CO g l en s8 91 s331 (.tuple #[]) [.string ⟨#[58]⟩] from k326)
    clear k326 hx327
    go_wp2_with (go_at_call 91;with_reducible refine (K336.out _ H324.out.prs).mono ?_)
    rintro e V337 ⟨rfl,hp,hg⟩
    have H338:=hid (H324.out.kept hp hg)
    clear hp hg K336
    have k339:=fun (W:World) (h:PrS g l en s331 W)=>E.walk.pipe s331 W h (by omega) (by omega) (by omega)
    cases hx340:R.pipe s331 with
    | bad a m=>
     rw [hx340] at k339
     have R341:=hid (bind_bad R332.out hx340)
     have K342:=hid (show CB g l en s331 28 a m [] from k339)
     clear k339 hx340
     go_upto_region 11 with fail
     refine wp_region_s 7 (BoxS [(w.heap.size,zN,TN),(V16.heap.size,nCells (.mk 26 t7.text []) rNil,TN)]) (by kernel_rfl) H338.out.drew.boxS (fun hS0=>?_)
     have H343:=hid H338.out.drew
     generalize V337.drew=V344 at *
     refine tk 0 (.pointer (some ⟨V16.heap.size,2,none⟩)) [1,5,7] hS0 ?_
     refine tk12 1 rNil [5,7] hS0 ?_
     refine tk 2 (.pointer (some ⟨g,0,none⟩)) [3,4,5,7] hS0 ?_
     refine st 3 fun K hK=>?_
     go_simp
     go_at_call 28
     with_reducible refine (K342.out _ H343.out.prs).mono ?_
     rintro e V ⟨rfl,k⟩
     rw [R341.out]
     exact ⟨rfl,rfl,H343.out.pg.trans k⟩
    | ok v345 s346=>
     rw [hx340] at k339
     have R347:=hid (bind_of R332.out hx340)
     obtain ⟨a348,b349,c350,_⟩:=(E.ok.pipe s331 (by omega) (by omega)).ok v345 s346 hx340
     have K351:=hid (show CN g l en s331 28 s346 v345 [] from k339)
     clear k339 hx340
     go_upto_region 11 with fail
     refine wp_region_s 7 (BoxS [(w.heap.size,zN,TN),(V16.heap.size,nCells (.mk 26 t7.text []) rNil,TN)]) (by kernel_rfl) H338.out.drew.boxS (fun hS0=>?_)
     have H352:=hid H338.out.drew
     generalize V337.drew=V353 at *
     refine tk 0 (.pointer (some ⟨V16.heap.size,2,none⟩)) [1,5,7] hS0 ?_
     refine tk12 1 rNil [5,7] hS0 ?_
     refine tk 2 (.pointer (some ⟨g,0,none⟩)) [3,4,5,7] hS0 ?_
     refine st 3 fun K hK=>?_
     go_simp
     go_at_call 28
     with_reducible refine (K351.out _ H352.out.prs).mono ?_
     rintro e V354 ⟨kv,rfl,hx,hp,hg⟩
     obtain ⟨A355,m356,rfl⟩:=hx.slice
     have H357:=hid (H352.out.tree hp hg hx)
     clear hx hp hg
     clear K351
     try dsimp only
     refine hK.out _ _ (fun _=>H357.out.boxS) (fun _=>?_)
     clear hK K
     refine st 4 fun K hK=>?_
     simp only [nAgg]
     go_simp
     refine hK.out _ (V354.alloc (.cells (nCells v345 (.slice A355 v345.kids.length m356)).toArray TN)) (fun _=>(H357.out.below ((Below.refl _ V354).alloc (Nat.le_refl _) _)).boxS) (fun _=>?_)
     clear hK K
     refine st 5 fun K hK=>?_
     rw [if_pos (by kernel_rfl)]
     with_reducible refine fr_wpAppend _ _ (by with_unfolding_all rfl) (t:=v345) (A:=A355) (c:=m356) (by simp) (by with_unfolding_all rfl) (by with_unfolding_all rfl) H357.out (by simp) ?_
     rintro _ V361 hV ⟨A358,m359,rfl⟩
     obtain ⟨zs362,hz⟩:∃z:List (Nd×Value),z=([])++[(v345,.slice A355 v345.kids.length m356)]:=⟨_,rfl⟩
     rw [←hz] at hV ⊢
     have Ezs362:=hid hz
     clear hz
     have H363:=hid hV
     clear hV
     refine hK.out _ _ (fun _=>H363.out.boxS) (fun _=>?_)
     clear hK K
     refine tk 6 (.pointer (some ⟨V16.heap.size,2,none⟩)) [7] H363.out.boxS ?_
     refine st 7 fun K hK=>?_
     have cS:=H363.out.cell 1 rfl 2 rfl
     have fS:=H363.out.frozen 1 rfl 2
     go_simp
     have hV:Fr g l en w s346 [(w.heap.size,zN,TN),(V16.heap.size,nCells (.mk 26 t7.text []) (.slice A358 zs362.length m359),TN)] [(v345,.slice A355 v345.kids.length m356)] (.slice A358 zs362.length m359) zs362 (V361.setCell ⟨V16.heap.size,2,none⟩ (.slice A358 zs362.length m359)):=H363.out.setC 1 rfl 2 _
     generalize V361.setCell ⟨V16.heap.size,2,none⟩ (.slice A358 zs362.length m359)=V364 at *
     have H365:=hid hV
     clear hV cS fS
     refine hK.out _ _ (fun h=>absurd rfl h) (fun _=>?_)
     clear hK K
     refine wpAnyS_done (by kernel_rfl) ?_ _
     have k366:=fun (W:World) (h:PrS g l en s346 W)=>syMust_any g l en s346 W tSemi h hl
     cases hx367:mustT l en tSemi s346 with
     | bad a m=>
      rw [hx367] at k366
      have R368:=hid (bind_bad R347.out hx367)
      have K369:=hid (show CB g l en s346 91 a m [.string ⟨#[59]⟩] from k366)
      clear k366 hx367
      go_wp2_with (go_at_call 91;with_reducible refine (K369.out _ H365.out.prs).mono ?_)
      rintro e V ⟨rfl,k⟩
      rw [R368.out]
      exact ⟨rfl,rfl,H365.out.pg.trans k⟩
     | ok u370 s371=>
      rw [hx367] at k366
      have R372:=hid (bind_of R347.out hx367)
      obtain ⟨a373,b374,c375,_⟩:=(must_ty E.fit tSemi s346).ok u370 s371 hx367
      have K376:=hid (show CO g l en s346 91 s371 (.tuple #[]) [.string ⟨#[59]⟩] from k366)
      clear k366 hx367
      go_wp2_with (go_at_call 91;with_reducible refine (K376.out _ H365.out.prs).mono ?_)
      rintro e V377 ⟨rfl,hp,hg⟩
      have H378:=hid (H365.out.kept hp hg)
      clear hp hg K376
      have k379:=fun (W:World) (h:PrS g l en s371 W)=>E.walk.pipe s371 W h (by omega) (by omega) (by omega)
      cases hx380:R.pipe s371 with
      | bad a m=>
       rw [hx380] at k379
       have R381:=hid (bind_bad R372.out hx380)
       have K382:=hid (show CB g l en s371 28 a m [] from k379)
       clear k379 hx380
       go_upto_region 13 with fail
       refine wp_region_s 7 (BoxS [(w.heap.size,zN,TN),(V16.heap.size,nCells (.mk 26 t7.text []) (.slice A358 zs362.length m359),TN)]) (by kernel_rfl) H378.out.drew.boxS (fun hS0=>?_)
       have H383:=hid H378.out.drew
       generalize V377.drew=V384 at *
       refine tk 0 (.pointer (some ⟨V16.heap.size,2,none⟩)) [1,5,7] hS0 ?_
       refine tk12 1 (.slice A358 zs362.length m359) [5,7] hS0 ?_
       refine tk 2 (.pointer (some ⟨g,0,none⟩)) [3,4,5,7] hS0 ?_
       refine st 3 fun K hK=>?_
       go_simp
       go_at_call 28
       with_reducible refine (K382.out _ H383.out.prs).mono ?_
       rintro e V ⟨rfl,k⟩
       rw [R381.out]
       exact ⟨rfl,rfl,H383.out.pg.trans k⟩
      | ok v385 s386=>
       rw [hx380] at k379
       have R387:=hid (bind_of R372.out hx380)
       obtain ⟨a388,b389,c390,_⟩:=(E.ok.pipe s371 (by omega) (by omega)).ok v385 s386 hx380
       have K391:=hid (show CN g l en s371 28 s386 v385 [] from k379)
       clear k379 hx380
       go_upto_region 13 with fail
       refine wp_region_s 7 (BoxS [(w.heap.size,zN,TN),(V16.heap.size,nCells (.mk 26 t7.text []) (.slice A358 zs362.length m359),TN)]) (by kernel_rfl) H378.out.drew.boxS (fun hS0=>?_)
       have H392:=hid H378.out.drew
       generalize V377.drew=V393 at *
       refine tk 0 (.pointer (some ⟨V16.heap.size,2,none⟩)) [1,5,7] hS0 ?_
       refine tk12 1 (.slice A358 zs362.length m359) [5,7] hS0 ?_
       refine tk 2 (.pointer (some ⟨g,0,none⟩)) [3,4,5,7] hS0 ?_
       refine st 3 fun K hK=>?_
       go_simp
       go_at_call 28
       with_reducible refine (K391.out _ H392.out.prs).mono ?_
       rintro e V394 ⟨kv,rfl,hx,hp,hg⟩
       obtain ⟨A395,m396,rfl⟩:=hx.slice
       have H397:=hid (H392.out.tree hp hg hx)
       clear hx hp hg
       clear K391
       try dsimp only
       refine hK.out _ _ (fun _=>H397.out.boxS) (fun _=>?_)
       clear hK K
       refine st 4 fun K hK=>?_
       simp only [nAgg]
       go_simp
       refine hK.out _ (V394.alloc (.cells (nCells v385 (.slice A395 v385.kids.length m396)).toArray TN)) (fun _=>(H397.out.below ((Below.refl _ V394).alloc (Nat.le_refl _) _)).boxS) (fun _=>?_)
       clear hK K
       refine st 5 fun K hK=>?_
       rw [if_pos (by kernel_rfl)]
       with_reducible refine fr_wpAppend _ _ (by with_unfolding_all rfl) (t:=v385) (A:=A395) (c:=m396) (by simp) (by with_unfolding_all rfl) (by with_unfolding_all rfl) H397.out (by rw [Ezs362.out];simp) ?_
       rintro _ V401 hV ⟨A398,m399,rfl⟩
       obtain ⟨zs402,hz⟩:∃z:List (Nd×Value),z=zs362++[(v385,.slice A395 v385.kids.length m396)]:=⟨_,rfl⟩
       rw [←hz] at hV ⊢
       have Ezs402:=hid hz
       clear hz
       have H403:=hid hV
       clear hV
       refine hK.out _ _ (fun _=>H403.out.boxS) (fun _=>?_)
       clear hK K
       refine tk 6 (.pointer (some ⟨V16.heap.size,2,none⟩)) [7] H403.out.boxS ?_
       refine st 7 fun K hK=>?_
       have cS:=H403.out.cell 1 rfl 2 rfl
       have fS:=H403.out.frozen 1 rfl 2
       go_simp
       have hV:Fr g l en w s386 [(w.heap.size,zN,TN),(V16.heap.size,nCells (.mk 26 t7.text []) (.slice A398 zs402.length m399),TN)] [(v385,.slice A395 v385.kids.length m396),(v345,.slice A355 v345.kids.length m356)] (.slice A398 zs402.length m399) zs402 (V401.setCell ⟨V16.heap.size,2,none⟩ (.slice A398 zs402.length m399)):=H403.out.setC 1 rfl 2 _
       generalize V401.setCell ⟨V16.heap.size,2,none⟩ (.slice A398 zs402.length m399)=V404 at *
       have H405:=hid hV
       clear hV cS fS
       refine hK.out _ _ (fun h=>absurd rfl h) (fun _=>?_)
       clear hK K
       refine wpAnyS_done (by kernel_rfl) ?_ _
       go_wp2_with (first
        | (with_reducible refine frL 1 H405.out ?_)
        | (with_reducible refine frS 0 (nCells (.mk 26 t7.text ([]++[v345,v385])) (.slice A398 zs402.length m399)) H405.out ?_))
       intro V406 hV
       have H407:=hid hV
       clear hV
       go_wp2
       rw [R387.out]
       exact ret_n Tryz.results89 (k:=0) rfl H407.out (by with_unfolding_all rfl) rfl ⟨_,rfl,H407.out.end _ (by rw [Ezs402.out,Ezs362.out];simp [Nd.kids]),H407.out.prs,H407.out.pg⟩
end
end Go.Proofs.YtmbeicndhigklaaGreatDoor
