/-
The walks of the parser's call, choice (chapter 15).
-/
import Derived.Test.YtmbeicndhigklaaGreatDoorPSynA
namespace Go.Proofs.YtmbeicndhigklaaGreatDoor
open Lib (hid)
open Go.RowKit
section
variable {numE:List UInt8→Nat} {g:Nat} {l:List Tk} {en:Nat} {R:Knot} {n:Nat}
set_option maxHeartbeats 4000000 in
set_option maxRecDepth 100000 in
theorem syCall_any (E:Env numE g l en R n) (s:PT) (w:World) (h:PrS g l en s w) (_hs:s.at'≤l.length) (hm:l.length<n+1+s.at') (hp:s.pipes≤600) :
  Calls Tryz.prog 227 #[.pointer (some ⟨g,0,none⟩)] w (ResN g l en w (callB l en R s)):=by
 have hl:=E.len
 have KN:=hid (fun k t A n c W=>syNode_any k t A n c W)
 have KM:=hid (fun t W=>syNamed_any t W)
 have FD0:=fun a p t W=>fld0 a p t W
 have FD1:=fun a p t W=>fld1 a p t W
 have H0:=hid (Fr.start h)
 obtain ⟨r,hr⟩:∃r,r=callB l en R s:=⟨_,rfl⟩
 rw [←hr]
 unfold callB at hr
 have R0:=hid hr
 clear hr h
 go_enter Tryz.func227,Tryz.ntmps227
 go_wp2_with (with_reducible refine frA H0.out ?_)
 intro V1 hV
 have H2:=hid hV
 clear hV
 have k3:=fun (W:World) (h:PrS g l en s W)=>syKind_any g l en s W 2 h hl (by decide)
 cases hx4:kindT l en 2 s with
 | bad a m=>
  rw [hx4] at k3
  have R5:=hid (bind_bad R0.out hx4)
  have K6:=hid (show CB g l en s 90 a m [.int .i64 2] from k3)
  clear k3 hx4
  go_wp2_with (go_at_call 90;with_reducible refine (K6.out _ H2.out.prs).mono ?_)
  rintro e V ⟨rfl,k⟩
  rw [R5.out]
  exact ⟨rfl,rfl,H2.out.pg.trans k⟩
 | ok t7 s8=>
  rw [hx4] at k3
  have R9:=hid (bind_of R0.out hx4)
  obtain ⟨a10,b11,c12,_⟩:=(kind_ty E.fit (by decide) s).ok t7 s8 hx4
  have K13:=hid (show CO g l en s 90 s8 (.agg #[.int .i64 (t7.kind:Int),.string ⟨t7.text.toArray⟩,.int .i64 (t7.pos:Int)]) [.int .i64 2] from k3)
  clear k3 hx4
  go_wp2_with (go_at_call 90;with_reducible refine (K13.out _ H2.out.prs).mono ?_)
  rintro e V14 ⟨rfl,hp,hg⟩
  have H15:=hid (H2.out.kept hp hg)
  clear hp hg K13
  go_wp2_with (go_at_call 92;with_reducible refine (KN.out _ _ _ _ _ _).mono ?_)
  rintro e V16 ⟨rfl,hb⟩
  have H17:=hid (H15.out.below hb)
  clear hb
  go_wp2_with (with_reducible refine frA H17.out ?_)
  intro V18 hV
  have H19:=hid hV
  clear hV
  go_wp2_with (with_reducible refine frS 1 (nCells (.mk 25 t7.text []) rNil) H19.out ?_)
  intro V20 hV
  have H21:=hid hV
  clear hV
  by_cases hb22:isT l tOpen s8.at'=true
  ·skip
   obtain ⟨s23,hs24⟩:∃z,z=nextT s8:=⟨_,rfl⟩
   have lt26:=isT_lt hb22
   have a27:s23.at'=s8.at'+1:=by rw [hs24];rfl
   have p28:s23.pipes=s8.pipes:=by rw [hs24];rfl
   have R25:=hid (hs24▸ite_yes R9.out hb22)
   have K29:=hid (tkY g en ⟨#[40]⟩ hs24 hl hb22)
   clear hb22 hs24
   go_wp2_with (go_at_call 88;with_reducible refine (K29.out _ H21.out.prs).mono ?_)
   rintro e V30 ⟨rfl,hp,hg⟩
   have H31:=hid (H21.out.kept hp hg)
   clear hp hg K29
   obtain ⟨KK,hKK⟩:∃K:List Nd→PT→PY Nd,K=fun ns s=>(mustT l en tShut s).bind fun _ s=>.ok (.mk 25 t7.text ns) s:=⟨_,rfl⟩
   have RK:=hid (show r=(listF l tSemi R.pipe (l.length+1) s23).bind KK by rw [hKK];exact R25.out)
   have HKK:=hid hKK
   clear hKK
   go_wp2
   go_loopg [] (l.length+1) (fun kx wr=>∃(s':PT) (f:Nat) (zs:List (Nd×Value)) (A:Option Addr) (c:Nat),f≤kx∧s.at'≤s'.at'∧s23.at'≤s'.at'∧s'.at'≤l.length∧s'.pipes=s.pipes∧l.length<f+s'.at'∧zs.length≤s'.at'∧Fr g l en w s' [(w.heap.size,zN,TN),(V16.heap.size,nCells (.mk 25 t7.text []) (.slice A zs.length c),TN)] [] (.slice A zs.length c) zs wr∧Hid (r=(listF l tSemi R.pipe f s').bind fun ns s=>KK (zs.map Prod.fst++ns) s))
   case atStart=>exact ⟨s23,l.length+1,[],none,0,Nat.le_refl _,by omega,by omega,by omega,by omega,by omega,Nat.zero_le _,H31.out.drop 2 (by simp),RK.out⟩
   case round=>
    obtain ⟨s',f,zs,A,c,hfk,q1,q1b,q2,q3,q4,q5,hF,hR⟩:=hrel
    obtain ⟨f,rfl⟩:∃k,f=k+1:=⟨f-1,by omega⟩
    have HF:=hid hF
    have RF:=hid (list_one hR.out)
    clear hF hR
    have k32:=fun (W:World) (h:PrS g l en s' W)=>E.walk.pipe s' W h (by omega) (by omega) (by omega)
    cases hx33:R.pipe s' with
    | bad a m=>
     rw [hx33] at k32
     have R34:=hid (bind_bad RF.out hx33)
     have K35:=hid (show CB g l en s' 28 a m [] from k32)
     clear k32 hx33
     go_upto_region 3 with fail
     refine wp_region_s 7 (BoxS [(w.heap.size,zN,TN),(V16.heap.size,nCells (.mk 25 t7.text []) (.slice A zs.length c),TN)]) (by kernel_rfl) HF.out.drew.boxS (fun hS0=>?_)
     have H36:=hid HF.out.drew
     generalize wr.drew=V37 at *
     refine tk 0 (.pointer (some ⟨V16.heap.size,2,none⟩)) [1,5,7] hS0 ?_
     refine tk12 1 (.slice A zs.length c) [5,7] hS0 ?_
     refine tk 2 (.pointer (some ⟨g,0,none⟩)) [3,4,5,7] hS0 ?_
     refine st 3 fun K hK=>?_
     go_simp
     go_at_call 28
     with_reducible refine (K35.out _ H36.out.prs).mono ?_
     rintro e V ⟨rfl,k⟩
     rw [R34.out]
     exact ⟨rfl,rfl,H36.out.pg.trans k⟩
    | ok v38 s39=>
     rw [hx33] at k32
     have R40:=hid (bind_of RF.out hx33)
     obtain ⟨a41,b42,c43,_⟩:=(E.ok.pipe s' (by omega) (by omega)).ok v38 s39 hx33
     have K44:=hid (show CN g l en s' 28 s39 v38 [] from k32)
     clear k32 hx33
     go_upto_region 3 with fail
     refine wp_region_s 7 (BoxS [(w.heap.size,zN,TN),(V16.heap.size,nCells (.mk 25 t7.text []) (.slice A zs.length c),TN)]) (by kernel_rfl) HF.out.drew.boxS (fun hS0=>?_)
     have H45:=hid HF.out.drew
     generalize wr.drew=V46 at *
     refine tk 0 (.pointer (some ⟨V16.heap.size,2,none⟩)) [1,5,7] hS0 ?_
     refine tk12 1 (.slice A zs.length c) [5,7] hS0 ?_
     refine tk 2 (.pointer (some ⟨g,0,none⟩)) [3,4,5,7] hS0 ?_
     refine st 3 fun K hK=>?_
     go_simp
     go_at_call 28
     with_reducible refine (K44.out _ H45.out.prs).mono ?_
     rintro e V47 ⟨kv,rfl,hx,hp,hg⟩
     obtain ⟨A48,m49,rfl⟩:=hx.slice
     have H50:=hid (H45.out.tree hp hg hx)
     clear hx hp hg
     clear K44
     try dsimp only
     refine hK.out _ _ (fun _=>H50.out.boxS) (fun _=>?_)
     clear hK K
     refine st 4 fun K hK=>?_
     simp only [nAgg]
     go_simp
     refine hK.out _ (V47.alloc (.cells (nCells v38 (.slice A48 v38.kids.length m49)).toArray TN)) (fun _=>(H50.out.below ((Below.refl _ V47).alloc (Nat.le_refl _) _)).boxS) (fun _=>?_)
     clear hK K
     refine st 5 fun K hK=>?_
     rw [if_pos (by kernel_rfl)]
     with_reducible refine fr_wpAppend _ _ (by with_unfolding_all rfl) (t:=v38) (A:=A48) (c:=m49) (by simp) (by with_unfolding_all rfl) (by with_unfolding_all rfl) H50.out (by omega) ?_
     rintro _ V54 hV ⟨A51,m52,rfl⟩
     obtain ⟨zs55,hz⟩:∃z:List (Nd×Value),z=zs++[(v38,.slice A48 v38.kids.length m49)]:=⟨_,rfl⟩
     rw [←hz] at hV ⊢
     have Ezs55:=hid hz
     clear hz
     have H56:=hid hV
     clear hV
     refine hK.out _ _ (fun _=>H56.out.boxS) (fun _=>?_)
     clear hK K
     refine tk 6 (.pointer (some ⟨V16.heap.size,2,none⟩)) [7] H56.out.boxS ?_
     refine st 7 fun K hK=>?_
     have cS:=H56.out.cell 1 rfl 2 rfl
     have fS:=H56.out.frozen 1 rfl 2
     go_simp
     have hV:Fr g l en w s39 [(w.heap.size,zN,TN),(V16.heap.size,nCells (.mk 25 t7.text []) (.slice A51 zs55.length m52),TN)] [(v38,.slice A48 v38.kids.length m49)] (.slice A51 zs55.length m52) zs55 (V54.setCell ⟨V16.heap.size,2,none⟩ (.slice A51 zs55.length m52)):=H56.out.setC 1 rfl 2 _
     generalize V54.setCell ⟨V16.heap.size,2,none⟩ (.slice A51 zs55.length m52)=V57 at *
     have H58:=hid hV
     clear hV cS fS
     refine hK.out _ _ (fun h=>absurd rfl h) (fun _=>?_)
     clear hK K
     refine wpAnyS_done (by kernel_rfl) ?_ _
     by_cases hb59:isT l tSemi s39.at'=true
     ·skip
      obtain ⟨s60,hs61⟩:∃z,z=nextT s39:=⟨_,rfl⟩
      have lt63:=isT_lt hb59
      have a64:s60.at'=s39.at'+1:=by rw [hs61];rfl
      have p65:s60.pipes=s39.pipes:=by rw [hs61];rfl
      have R62:=hid (hs61▸list_yes R40.out hb59)
      have K66:=hid (tkY g en ⟨#[59]⟩ hs61 hl hb59)
      clear hb59 hs61
      go_wp2_with (go_at_call 88;with_reducible refine (K66.out _ H58.out.prs).mono ?_)
      rintro e V67 ⟨rfl,hp,hg⟩
      have H68:=hid (H58.out.kept hp hg)
      clear hp hg K66
      have R69:=hid (show r=(listF l tSemi R.pipe f s60).bind fun ns s=>KK (zs55.map Prod.fst++ns) s by rw [Ezs55.out];simpa using R62.out)
      go_wp2_with fail
      go_roundg f
      case measure=>omega
      case rel=>exact ⟨s60,f,zs55,A51,m52,Nat.le_refl _,by omega,by omega,by omega,by omega,by omega,by rw [Ezs55.out,List.length_append,List.length_singleton];omega,H68.out.drop 2 (by simp),R69.out⟩
     ·skip
      have R70:=hid (list_no R40.out hb59)
      have K71:=hid (tkN g en ⟨#[59]⟩ hb59)
      clear hb59
      go_wp2_with (go_at_call 88;with_reducible refine (K71.out _ H58.out.prs).mono ?_)
      rintro e V72 ⟨rfl,hp,hg⟩
      have H73:=hid (H58.out.kept hp hg)
      clear hp hg K71
      have R74:=hid (show r=KK (zs55.map Prod.fst) s39 by rw [Ezs55.out];simpa using R70.out)
      have R75:=hid (show r=(mustT l en tShut s39).bind fun _ s=>.ok (.mk 25 t7.text (zs55.map Prod.fst)) s by have:=R74.out;rw [HKK.out] at this;exact this)
      have k76:=fun (W:World) (h:PrS g l en s39 W)=>syMust_any g l en s39 W tShut h hl
      cases hx77:mustT l en tShut s39 with
      | bad a m=>
       rw [hx77] at k76
       have R78:=hid (bind_bad R75.out hx77)
       have K79:=hid (show CB g l en s39 91 a m [.string ⟨#[41]⟩] from k76)
       clear k76 hx77
       go_wp2_with (go_at_call 91;with_reducible refine (K79.out _ H73.out.prs).mono ?_)
       rintro e V ⟨rfl,k⟩
       rw [R78.out]
       exact ⟨rfl,rfl,H73.out.pg.trans k⟩
      | ok u80 s81=>
       rw [hx77] at k76
       have R82:=hid (bind_of R75.out hx77)
       obtain ⟨a83,b84,c85,_⟩:=(must_ty E.fit tShut s39).ok u80 s81 hx77
       have K86:=hid (show CO g l en s39 91 s81 (.tuple #[]) [.string ⟨#[41]⟩] from k76)
       clear k76 hx77
       go_wp2_with (go_at_call 91;with_reducible refine (K86.out _ H73.out.prs).mono ?_)
       rintro e V87 ⟨rfl,hp,hg⟩
       have H88:=hid (H73.out.kept hp hg)
       clear hp hg K86
       go_wp2_with (first
        | (with_reducible refine frL 1 H88.out ?_)
        | (with_reducible refine frS 0 (nCells (.mk 25 t7.text (zs55.map Prod.fst)) (.slice A51 zs55.length m52)) H88.out ?_))
       intro V89 hV
       have H90:=hid hV
       clear hV
       go_wp2
       rw [R82.out]
       exact ret_n Tryz.results227 (k:=0) rfl H90.out (by with_unfolding_all rfl) rfl ⟨_,rfl,H90.out.end _ (rfl),H90.out.prs,H90.out.pg⟩
  ·skip
   have R91:=hid (ite_no R9.out hb22)
   have K92:=hid (tkN g en ⟨#[40]⟩ hb22)
   clear hb22
   go_wp2_with (go_at_call 88;with_reducible refine (K92.out _ H21.out.prs).mono ?_)
   rintro e V93 ⟨rfl,hp,hg⟩
   have H94:=hid (H21.out.kept hp hg)
   clear hp hg K92
   have H95:=hid (H94.out.leaf (.mk 25 t7.text []) rfl)
   go_wp2_with (first
    | (with_reducible refine frL 1 H95.out ?_)
    | (with_reducible refine frS 0 (nCells (.mk 25 t7.text []) rNil) H95.out ?_))
   intro V96 hV
   have H97:=hid hV
   clear hV
   go_wp2
   rw [R91.out]
   exact ret_n Tryz.results227 (k:=0) rfl H97.out (by with_unfolding_all rfl) rfl ⟨_,rfl,H97.out.give (t:=(.mk 25 t7.text [])) (by simp),H97.out.prs,H97.out.pg⟩
set_option maxHeartbeats 4000000 in
set_option maxRecDepth 100000 in
theorem syChoice_succ (E:Env numE g l en R n) (f:Nat) (IH:∀(s:PT) (W:World),l.length<f+s.at'→PrS g l en s W→s.at'≤l.length→l.length<n+s.at'→s.pipes≤600→Calls Tryz.prog 236 #[.pointer (some ⟨g,0,none⟩)] W (ResN g l en W (choF l en R f s)))
  (s:PT) (w:World) (h:PrS g l en s w) (hs:s.at'≤l.length) (hm:l.length<n+s.at') (hf:l.length<f+1+s.at') (hp:s.pipes≤600) :
  Calls Tryz.prog 236 #[.pointer (some ⟨g,0,none⟩)] w (ResN g l en w (choF l en R (f+1) s)):=by
 have hl:=E.len
 have KN:=hid (fun k t A n c W=>syNode_any k t A n c W)
 have KM:=hid (fun t W=>syNamed_any t W)
 have FD0:=fun a p t W=>fld0 a p t W
 have FD1:=fun a p t W=>fld1 a p t W
 have H0:=hid (Fr.start h)
 obtain ⟨r,hr⟩:∃r,r=choF l en R (f+1) s:=⟨_,rfl⟩
 rw [←hr]
 have R0:=hid (hr.trans (choF_succ l en R f s))
 clear hr h
 go_enter Tryz.func236,Tryz.ntmps236
 go_wp2_with (with_reducible refine frA H0.out ?_)
 intro V1 hV
 have H2:=hid hV
 clear hV
 have k3:=fun (W:World) (h:PrS g l en s W)=>E.walk.pipe s W h (by omega) (by omega) (by omega)
 cases hx4:R.pipe s with
 | bad a m=>
  rw [hx4] at k3
  have R5:=hid (bind_bad R0.out hx4)
  have K6:=hid (show CB g l en s 28 a m [] from k3)
  clear k3 hx4
  go_wp2_with (go_at_call 28;with_reducible refine (K6.out _ H2.out.prs).mono ?_)
  rintro e V ⟨rfl,k⟩
  rw [R5.out]
  exact ⟨rfl,rfl,H2.out.pg.trans k⟩
 | ok v7 s8=>
  rw [hx4] at k3
  have R9:=hid (bind_of R0.out hx4)
  obtain ⟨a10,b11,c12,_⟩:=(E.ok.pipe s (by omega) (by omega)).ok v7 s8 hx4
  have K13:=hid (show CN g l en s 28 s8 v7 [] from k3)
  clear k3 hx4
  go_wp2_with (go_at_call 28;with_reducible refine (K13.out _ H2.out.prs).mono ?_)
  rintro e V14 ⟨kv,rfl,hx,hp,hg⟩
  obtain ⟨A15,m16,rfl⟩:=hx.slice
  have H17:=hid (H2.out.tree hp hg hx)
  clear hx hp hg
  clear K13
  simp only [nAgg]
  have H18:=hid (H17.out.begin [(v7,.slice A15 v7.kids.length m16)] 1 rfl (by simp) (by decide))
  go_wp2_with (go_at_call 92;with_reducible refine (KN.out _ _ _ _ _ _).mono ?_)
  rintro e V19 ⟨rfl,hb⟩
  have H20:=hid (H18.out.below hb)
  clear hb
  go_wp2_with (with_reducible refine frA H20.out ?_)
  intro V21 hV
  have H22:=hid hV
  clear hV
  go_wp2_with (with_reducible refine frS 1 (nCells (.mk 18 [] []) (.slice (some ⟨V14.heap.size,0,none⟩) 1 1)) H22.out ?_)
  intro V23 hV
  have H24:=hid hV
  clear hV
  have k25:=fun (W:World) (h:PrS g l en s8 W)=>syMust_any g l en s8 W tThen h hl
  cases hx26:mustT l en tThen s8 with
  | bad a m=>
   rw [hx26] at k25
   have R27:=hid (bind_bad R9.out hx26)
   have K28:=hid (show CB g l en s8 91 a m [.string ⟨#[116,104,101,110]⟩] from k25)
   clear k25 hx26
   go_wp2_with (go_at_call 91;with_reducible refine (K28.out _ H24.out.prs).mono ?_)
   rintro e V ⟨rfl,k⟩
   rw [R27.out]
   exact ⟨rfl,rfl,H24.out.pg.trans k⟩
  | ok u29 s30=>
   rw [hx26] at k25
   have R31:=hid (bind_of R9.out hx26)
   obtain ⟨a32,b33,c34,_⟩:=(must_ty E.fit tThen s8).ok u29 s30 hx26
   have K35:=hid (show CO g l en s8 91 s30 (.tuple #[]) [.string ⟨#[116,104,101,110]⟩] from k25)
   clear k25 hx26
   go_wp2_with (go_at_call 91;with_reducible refine (K35.out _ H24.out.prs).mono ?_)
   rintro e V36 ⟨rfl,hp,hg⟩
   have H37:=hid (H24.out.kept hp hg)
   clear hp hg K35
   have k38:=fun (W:World) (h:PrS g l en s30 W)=>E.walk.pipe s30 W h (by omega) (by omega) (by omega)
   cases hx39:R.pipe s30 with
   | bad a m=>
    rw [hx39] at k38
    have R40:=hid (bind_bad R31.out hx39)
    have K41:=hid (show CB g l en s30 28 a m [] from k38)
    clear k38 hx39
    go_upto_region 3 with fail
    refine wp_region_s 7 (BoxS [(w.heap.size,zN,TN),(V19.heap.size,nCells (.mk 18 [] []) (.slice (some ⟨V14.heap.size,0,none⟩) 1 1),TN)]) (by kernel_rfl) H37.out.drew.boxS (fun hS0=>?_)
    have H42:=hid H37.out.drew
    generalize V36.drew=V43 at *
    refine tk 0 (.pointer (some ⟨V19.heap.size,2,none⟩)) [1,5,7] hS0 ?_
    refine tk12 1 (.slice (some ⟨V14.heap.size,0,none⟩) 1 1) [5,7] hS0 ?_
    refine tk 2 (.pointer (some ⟨g,0,none⟩)) [3,4,5,7] hS0 ?_
    refine st 3 fun K hK=>?_
    go_simp
    go_at_call 28
    with_reducible refine (K41.out _ H42.out.prs).mono ?_
    rintro e V ⟨rfl,k⟩
    rw [R40.out]
    exact ⟨rfl,rfl,H42.out.pg.trans k⟩
   | ok v44 s45=>
    rw [hx39] at k38
    have R46:=hid (bind_of R31.out hx39)
    obtain ⟨a47,b48,c49,_⟩:=(E.ok.pipe s30 (by omega) (by omega)).ok v44 s45 hx39
    have K50:=hid (show CN g l en s30 28 s45 v44 [] from k38)
    clear k38 hx39
    go_upto_region 3 with fail
    refine wp_region_s 7 (BoxS [(w.heap.size,zN,TN),(V19.heap.size,nCells (.mk 18 [] []) (.slice (some ⟨V14.heap.size,0,none⟩) 1 1),TN)]) (by kernel_rfl) H37.out.drew.boxS (fun hS0=>?_)
    have H51:=hid H37.out.drew
    generalize V36.drew=V52 at *
    refine tk 0 (.pointer (some ⟨V19.heap.size,2,none⟩)) [1,5,7] hS0 ?_
    refine tk12 1 (.slice (some ⟨V14.heap.size,0,none⟩) 1 1) [5,7] hS0 ?_
    refine tk 2 (.pointer (some ⟨g,0,none⟩)) [3,4,5,7] hS0 ?_
    refine st 3 fun K hK=>?_
    go_simp
    go_at_call 28
    with_reducible refine (K50.out _ H51.out.prs).mono ?_
    rintro e V53 ⟨kv,rfl,hx,hp,hg⟩
    obtain ⟨A54,m55,rfl⟩:=hx.slice
    have H56:=hid (H51.out.tree hp hg hx)
    clear hx hp hg
    clear K50
    try dsimp only
    refine hK.out _ _ (fun _=>H56.out.boxS) (fun _=>?_)
    clear hK K
    refine st 4 fun K hK=>?_
    simp only [nAgg]
    go_simp
    refine hK.out _ (V53.alloc (.cells (nCells v44 (.slice A54 v44.kids.length m55)).toArray TN)) (fun _=>(H56.out.below ((Below.refl _ V53).alloc (Nat.le_refl _) _)).boxS) (fun _=>?_)
    clear hK K
    refine st 5 fun K hK=>?_
    rw [if_pos (by kernel_rfl)]
    with_reducible refine fr_wpAppend _ _ (by with_unfolding_all rfl) (t:=v44) (A:=A54) (c:=m55) (by simp) (by with_unfolding_all rfl) (by with_unfolding_all rfl) H56.out (by simp) ?_
    rintro _ V60 hV ⟨A57,m58,rfl⟩
    obtain ⟨zs61,hz⟩:∃z:List (Nd×Value),z=([(v7,.slice A15 v7.kids.length m16)])++[(v44,.slice A54 v44.kids.length m55)]:=⟨_,rfl⟩
    rw [←hz] at hV ⊢
    have Ezs61:=hid hz
    clear hz
    have H62:=hid hV
    clear hV
    refine hK.out _ _ (fun _=>H62.out.boxS) (fun _=>?_)
    clear hK K
    refine tk 6 (.pointer (some ⟨V19.heap.size,2,none⟩)) [7] H62.out.boxS ?_
    refine st 7 fun K hK=>?_
    have cS:=H62.out.cell 1 rfl 2 rfl
    have fS:=H62.out.frozen 1 rfl 2
    go_simp
    have hV:Fr g l en w s45 [(w.heap.size,zN,TN),(V19.heap.size,nCells (.mk 18 [] []) (.slice A57 zs61.length m58),TN)] [(v44,.slice A54 v44.kids.length m55),(v7,.slice A15 v7.kids.length m16)] (.slice A57 zs61.length m58) zs61 (V60.setCell ⟨V19.heap.size,2,none⟩ (.slice A57 zs61.length m58)):=H62.out.setC 1 rfl 2 _
    generalize V60.setCell ⟨V19.heap.size,2,none⟩ (.slice A57 zs61.length m58)=V63 at *
    have H64:=hid hV
    clear hV cS fS
    refine hK.out _ _ (fun h=>absurd rfl h) (fun _=>?_)
    clear hK K
    refine wpAnyS_done (by kernel_rfl) ?_ _
    by_cases hb65:isT l tElif s45.at'=true
    ·skip
     obtain ⟨s66,hs67⟩:∃z,z=nextT s45:=⟨_,rfl⟩
     have lt69:=isT_lt hb65
     have a70:s66.at'=s45.at'+1:=by rw [hs67];rfl
     have p71:s66.pipes=s45.pipes:=by rw [hs67];rfl
     have R68:=hid (hs67▸ite_yes R46.out hb65)
     have K72:=hid (tkY g en ⟨#[101,108,105,102]⟩ hs67 hl hb65)
     clear hb65 hs67
     go_wp2_with (go_at_call 88;with_reducible refine (K72.out _ H64.out.prs).mono ?_)
     rintro e V73 ⟨rfl,hp,hg⟩
     have H74:=hid (H64.out.kept hp hg)
     clear hp hg K72
     have k75:=fun (W:World) (h:PrS g l en s66 W)=>IH s66 W (by omega) h (by omega) (by omega) (by omega)
     cases hx76:choF l en R f s66 with
     | bad a m=>
      rw [hx76] at k75
      have R77:=hid (bind_bad R68.out hx76)
      have K78:=hid (show CB g l en s66 236 a m [] from k75)
      clear k75 hx76
      go_upto_region 6 with fail
      refine wp_region_s 7 (BoxS [(w.heap.size,zN,TN),(V19.heap.size,nCells (.mk 18 [] []) (.slice A57 zs61.length m58),TN)]) (by kernel_rfl) H74.out.drew.boxS (fun hS0=>?_)
      have H79:=hid H74.out.drew
      generalize V73.drew=V80 at *
      refine tk 0 (.pointer (some ⟨V19.heap.size,2,none⟩)) [1,5,7] hS0 ?_
      refine tk12 1 (.slice A57 zs61.length m58) [5,7] hS0 ?_
      refine tk 2 (.pointer (some ⟨g,0,none⟩)) [3,4,5,7] hS0 ?_
      refine st 3 fun K hK=>?_
      go_simp
      go_at_call 236
      with_reducible refine (K78.out _ H79.out.prs).mono ?_
      rintro e V ⟨rfl,k⟩
      rw [R77.out]
      exact ⟨rfl,rfl,H79.out.pg.trans k⟩
     | ok v81 s82=>
      rw [hx76] at k75
      have R83:=hid (bind_of R68.out hx76)
      obtain ⟨a84,b85,c86,_⟩:=(cho_ty E.fit E.ok f s66 (by omega) (by omega) (by omega)).ok v81 s82 hx76
      have K87:=hid (show CN g l en s66 236 s82 v81 [] from k75)
      clear k75 hx76
      go_upto_region 6 with fail
      refine wp_region_s 7 (BoxS [(w.heap.size,zN,TN),(V19.heap.size,nCells (.mk 18 [] []) (.slice A57 zs61.length m58),TN)]) (by kernel_rfl) H74.out.drew.boxS (fun hS0=>?_)
      have H88:=hid H74.out.drew
      generalize V73.drew=V89 at *
      refine tk 0 (.pointer (some ⟨V19.heap.size,2,none⟩)) [1,5,7] hS0 ?_
      refine tk12 1 (.slice A57 zs61.length m58) [5,7] hS0 ?_
      refine tk 2 (.pointer (some ⟨g,0,none⟩)) [3,4,5,7] hS0 ?_
      refine st 3 fun K hK=>?_
      go_simp
      go_at_call 236
      with_reducible refine (K87.out _ H88.out.prs).mono ?_
      rintro e V90 ⟨kv,rfl,hx,hp,hg⟩
      obtain ⟨A91,m92,rfl⟩:=hx.slice
      have H93:=hid (H88.out.tree hp hg hx)
      clear hx hp hg
      clear K87
      try dsimp only
      refine hK.out _ _ (fun _=>H93.out.boxS) (fun _=>?_)
      clear hK K
      refine st 4 fun K hK=>?_
      simp only [nAgg]
      go_simp
      refine hK.out _ (V90.alloc (.cells (nCells v81 (.slice A91 v81.kids.length m92)).toArray TN)) (fun _=>(H93.out.below ((Below.refl _ V90).alloc (Nat.le_refl _) _)).boxS) (fun _=>?_)
      clear hK K
      refine st 5 fun K hK=>?_
      rw [if_pos (by kernel_rfl)]
      with_reducible refine fr_wpAppend _ _ (by with_unfolding_all rfl) (t:=v81) (A:=A91) (c:=m92) (by simp) (by with_unfolding_all rfl) (by with_unfolding_all rfl) H93.out (by rw [Ezs61.out];simp) ?_
      rintro _ V97 hV ⟨A94,m95,rfl⟩
      obtain ⟨zs98,hz⟩:∃z:List (Nd×Value),z=zs61++[(v81,.slice A91 v81.kids.length m92)]:=⟨_,rfl⟩
      rw [←hz] at hV ⊢
      have Ezs98:=hid hz
      clear hz
      have H99:=hid hV
      clear hV
      refine hK.out _ _ (fun _=>H99.out.boxS) (fun _=>?_)
      clear hK K
      refine tk 6 (.pointer (some ⟨V19.heap.size,2,none⟩)) [7] H99.out.boxS ?_
      refine st 7 fun K hK=>?_
      have cS:=H99.out.cell 1 rfl 2 rfl
      have fS:=H99.out.frozen 1 rfl 2
      go_simp
      have hV:Fr g l en w s82 [(w.heap.size,zN,TN),(V19.heap.size,nCells (.mk 18 [] []) (.slice A94 zs98.length m95),TN)] [(v81,.slice A91 v81.kids.length m92),(v44,.slice A54 v44.kids.length m55),(v7,.slice A15 v7.kids.length m16)] (.slice A94 zs98.length m95) zs98 (V97.setCell ⟨V19.heap.size,2,none⟩ (.slice A94 zs98.length m95)):=H99.out.setC 1 rfl 2 _
      generalize V97.setCell ⟨V19.heap.size,2,none⟩ (.slice A94 zs98.length m95)=V100 at *
      have H101:=hid hV
      clear hV cS fS
      refine hK.out _ _ (fun h=>absurd rfl h) (fun _=>?_)
      clear hK K
      refine wpAnyS_done (by kernel_rfl) ?_ _
      go_wp2_with (first
       | (with_reducible refine frL 1 H101.out ?_)
       | (with_reducible refine frS 0 (nCells (.mk 18 [] [v7,v44,v81]) (.slice A94 zs98.length m95)) H101.out ?_))
      intro V102 hV
      have H103:=hid hV
      clear hV
      go_wp2
      rw [R83.out]
      exact ret_n Tryz.results236 (k:=0) rfl H103.out (by with_unfolding_all rfl) rfl ⟨_,rfl,H103.out.end _ (by rw [Ezs98.out,Ezs61.out];rfl),H103.out.prs,H103.out.pg⟩
    ·skip
     have R104:=hid (ite_no R46.out hb65)
     have K105:=hid (tkN g en ⟨#[101,108,105,102]⟩ hb65)
     clear hb65
     go_wp2_with (go_at_call 88;with_reducible refine (K105.out _ H64.out.prs).mono ?_)
     rintro e V106 ⟨rfl,hp,hg⟩
     have H107:=hid (H64.out.kept hp hg)
     clear hp hg K105
     by_cases hb108:isT l tElse s45.at'=true
     ·skip
      obtain ⟨s109,hs110⟩:∃z,z=nextT s45:=⟨_,rfl⟩
      have lt112:=isT_lt hb108
      have a113:s109.at'=s45.at'+1:=by rw [hs110];rfl
      have p114:s109.pipes=s45.pipes:=by rw [hs110];rfl
      have R111:=hid (hs110▸ite_yes R104.out hb108)
      have K115:=hid (tkY g en ⟨#[101,108,115,101]⟩ hs110 hl hb108)
      clear hb108 hs110
      go_wp2_with (go_at_call 88;with_reducible refine (K115.out _ H107.out.prs).mono ?_)
      rintro e V116 ⟨rfl,hp,hg⟩
      have H117:=hid (H107.out.kept hp hg)
      clear hp hg K115
      have k118:=fun (W:World) (h:PrS g l en s109 W)=>E.walk.pipe s109 W h (by omega) (by omega) (by omega)
      cases hx119:R.pipe s109 with
      | bad a m=>
       rw [hx119] at k118
       have R120:=hid (bind_bad R111.out hx119)
       have K121:=hid (show CB g l en s109 28 a m [] from k118)
       clear k118 hx119
       go_upto_region 9 with fail
       refine wp_region_s 7 (BoxS [(w.heap.size,zN,TN),(V19.heap.size,nCells (.mk 18 [] []) (.slice A57 zs61.length m58),TN)]) (by kernel_rfl) H117.out.drew.boxS (fun hS0=>?_)
       have H122:=hid H117.out.drew
       generalize V116.drew=V123 at *
       refine tk 0 (.pointer (some ⟨V19.heap.size,2,none⟩)) [1,5,7] hS0 ?_
       refine tk12 1 (.slice A57 zs61.length m58) [5,7] hS0 ?_
       refine tk 2 (.pointer (some ⟨g,0,none⟩)) [3,4,5,7] hS0 ?_
       refine st 3 fun K hK=>?_
       go_simp
       go_at_call 28
       with_reducible refine (K121.out _ H122.out.prs).mono ?_
       rintro e V ⟨rfl,k⟩
       rw [R120.out]
       exact ⟨rfl,rfl,H122.out.pg.trans k⟩
      | ok v124 s125=>
       rw [hx119] at k118
       have R126:=hid (bind_of R111.out hx119)
       obtain ⟨a127,b128,c129,_⟩:=(E.ok.pipe s109 (by omega) (by omega)).ok v124 s125 hx119
       have K130:=hid (show CN g l en s109 28 s125 v124 [] from k118)
       clear k118 hx119
       go_upto_region 9 with fail
       refine wp_region_s 7 (BoxS [(w.heap.size,zN,TN),(V19.heap.size,nCells (.mk 18 [] []) (.slice A57 zs61.length m58),TN)]) (by kernel_rfl) H117.out.drew.boxS (fun hS0=>?_)
       have H131:=hid H117.out.drew
       generalize V116.drew=V132 at *
       refine tk 0 (.pointer (some ⟨V19.heap.size,2,none⟩)) [1,5,7] hS0 ?_
       refine tk12 1 (.slice A57 zs61.length m58) [5,7] hS0 ?_
       refine tk 2 (.pointer (some ⟨g,0,none⟩)) [3,4,5,7] hS0 ?_
       refine st 3 fun K hK=>?_
       go_simp
       go_at_call 28
       with_reducible refine (K130.out _ H131.out.prs).mono ?_
       rintro e V133 ⟨kv,rfl,hx,hp,hg⟩
       obtain ⟨A134,m135,rfl⟩:=hx.slice
       have H136:=hid (H131.out.tree hp hg hx)
       clear hx hp hg
       clear K130
       try dsimp only
       refine hK.out _ _ (fun _=>H136.out.boxS) (fun _=>?_)
       clear hK K
       refine st 4 fun K hK=>?_
       simp only [nAgg]
       go_simp
       refine hK.out _ (V133.alloc (.cells (nCells v124 (.slice A134 v124.kids.length m135)).toArray TN)) (fun _=>(H136.out.below ((Below.refl _ V133).alloc (Nat.le_refl _) _)).boxS) (fun _=>?_)
       clear hK K
       refine st 5 fun K hK=>?_
       rw [if_pos (by kernel_rfl)]
       with_reducible refine fr_wpAppend _ _ (by with_unfolding_all rfl) (t:=v124) (A:=A134) (c:=m135) (by simp) (by with_unfolding_all rfl) (by with_unfolding_all rfl) H136.out (by rw [Ezs61.out];simp) ?_
       rintro _ V140 hV ⟨A137,m138,rfl⟩
       obtain ⟨zs141,hz⟩:∃z:List (Nd×Value),z=zs61++[(v124,.slice A134 v124.kids.length m135)]:=⟨_,rfl⟩
       rw [←hz] at hV ⊢
       have Ezs141:=hid hz
       clear hz
       have H142:=hid hV
       clear hV
       refine hK.out _ _ (fun _=>H142.out.boxS) (fun _=>?_)
       clear hK K
       refine tk 6 (.pointer (some ⟨V19.heap.size,2,none⟩)) [7] H142.out.boxS ?_
       refine st 7 fun K hK=>?_
       have cS:=H142.out.cell 1 rfl 2 rfl
       have fS:=H142.out.frozen 1 rfl 2
       go_simp
       have hV:Fr g l en w s125 [(w.heap.size,zN,TN),(V19.heap.size,nCells (.mk 18 [] []) (.slice A137 zs141.length m138),TN)] [(v124,.slice A134 v124.kids.length m135),(v44,.slice A54 v44.kids.length m55),(v7,.slice A15 v7.kids.length m16)] (.slice A137 zs141.length m138) zs141 (V140.setCell ⟨V19.heap.size,2,none⟩ (.slice A137 zs141.length m138)):=H142.out.setC 1 rfl 2 _
       generalize V140.setCell ⟨V19.heap.size,2,none⟩ (.slice A137 zs141.length m138)=V143 at *
       have H144:=hid hV
       clear hV cS fS
       refine hK.out _ _ (fun h=>absurd rfl h) (fun _=>?_)
       clear hK K
       refine wpAnyS_done (by kernel_rfl) ?_ _
       have k145:=fun (W:World) (h:PrS g l en s125 W)=>syMust_any g l en s125 W tEnd h hl
       cases hx146:mustT l en tEnd s125 with
       | bad a m=>
        rw [hx146] at k145
        have R147:=hid (bind_bad R126.out hx146)
        have K148:=hid (show CB g l en s125 91 a m [.string ⟨#[101,110,100]⟩] from k145)
        clear k145 hx146
        go_wp2_with (go_at_call 91;with_reducible refine (K148.out _ H144.out.prs).mono ?_)
        rintro e V ⟨rfl,k⟩
        rw [R147.out]
        exact ⟨rfl,rfl,H144.out.pg.trans k⟩
       | ok u149 s150=>
        rw [hx146] at k145
        have R151:=hid (bind_of R126.out hx146)
        obtain ⟨a152,b153,c154,_⟩:=(must_ty E.fit tEnd s125).ok u149 s150 hx146
        have K155:=hid (show CO g l en s125 91 s150 (.tuple #[]) [.string ⟨#[101,110,100]⟩] from k145)
        clear k145 hx146
        go_wp2_with (go_at_call 91;with_reducible refine (K155.out _ H144.out.prs).mono ?_)
        rintro e V156 ⟨rfl,hp,hg⟩
        have H157:=hid (H144.out.kept hp hg)
        clear hp hg K155
        go_wp2_with (first
         | (with_reducible refine frL 1 H157.out ?_)
         | (with_reducible refine frS 0 (nCells (.mk 18 [] [v7,v44,v124]) (.slice A137 zs141.length m138)) H157.out ?_))
        intro V158 hV
        have H159:=hid hV
        clear hV
        go_wp2
        rw [R151.out]
        exact ret_n Tryz.results236 (k:=0) rfl H159.out (by with_unfolding_all rfl) rfl ⟨_,rfl,H159.out.end _ (by rw [Ezs141.out,Ezs61.out];rfl),H159.out.prs,H159.out.pg⟩
     ·skip
      have R160:=hid (ite_no R104.out hb108)
      have K161:=hid (tkN g en ⟨#[101,108,115,101]⟩ hb108)
      clear hb108
      go_wp2_with (go_at_call 88;with_reducible refine (K161.out _ H107.out.prs).mono ?_)
      rintro e V162 ⟨rfl,hp,hg⟩
      have H163:=hid (H107.out.kept hp hg)
      clear hp hg K161
      have H164:=hid (H163.out.leaf ndNone rfl)
      go_upto_region 4 with fail
      refine wp_region_s 6 (BoxS [(w.heap.size,zN,TN),(V19.heap.size,nCells (.mk 18 [] []) (.slice A57 zs61.length m58),TN)]) (by kernel_rfl) H164.out.drew.boxS (fun hS0=>?_)
      have H165:=hid H164.out.drew
      generalize V162.drew=V166 at *
      refine tk 0 (.pointer (some ⟨V19.heap.size,2,none⟩)) [1,4,6] hS0 ?_
      refine tk12 1 (.slice A57 zs61.length m58) [4,6] hS0 ?_
      refine st 2 fun K hK=>?_
      go_simp
      go_at_call 92
      with_reducible refine (KN.out _ _ _ _ _ _).mono ?_
      rintro e V167 ⟨rfl,hb⟩
      have H168:=hid (H165.out.below hb)
      clear hb
      try dsimp only
      refine hK.out _ _ (fun _=>H168.out.boxS) (fun _=>?_)
      clear hK K
      refine st 3 fun K hK=>?_
      simp only
      go_simp
      refine hK.out _ (V167.alloc (.cells (nCells ndNone rNil).toArray TN)) (fun _=>(H168.out.below ((Below.refl _ V167).alloc (Nat.le_refl _) _)).boxS) (fun _=>?_)
      clear hK K
      refine st 4 fun K hK=>?_
      rw [if_pos (by kernel_rfl)]
      with_reducible refine fr_wpAppend _ _ (by with_unfolding_all rfl) (t:=ndNone) (A:=none) (c:=0) (by simp) (by with_unfolding_all rfl) (by with_unfolding_all rfl) H168.out (by rw [Ezs61.out];simp) ?_
      rintro _ V172 hV ⟨A169,m170,rfl⟩
      obtain ⟨zs173,hz⟩:∃z:List (Nd×Value),z=zs61++[(ndNone,rNil)]:=⟨_,rfl⟩
      rw [←hz] at hV ⊢
      have Ezs173:=hid hz
      clear hz
      have H174:=hid hV
      clear hV
      refine hK.out _ _ (fun _=>H174.out.boxS) (fun _=>?_)
      clear hK K
      refine tk 5 (.pointer (some ⟨V19.heap.size,2,none⟩)) [6] H174.out.boxS ?_
      refine st 6 fun K hK=>?_
      have cS:=H174.out.cell 1 rfl 2 rfl
      have fS:=H174.out.frozen 1 rfl 2
      go_simp
      have hV:Fr g l en w s45 [(w.heap.size,zN,TN),(V19.heap.size,nCells (.mk 18 [] []) (.slice A169 zs173.length m170),TN)] [(ndNone,rNil),(v44,.slice A54 v44.kids.length m55),(v7,.slice A15 v7.kids.length m16)] (.slice A169 zs173.length m170) zs173 (V172.setCell ⟨V19.heap.size,2,none⟩ (.slice A169 zs173.length m170)):=H174.out.setC 1 rfl 2 _
      generalize V172.setCell ⟨V19.heap.size,2,none⟩ (.slice A169 zs173.length m170)=V175 at *
      have H176:=hid hV
      clear hV cS fS
      refine hK.out _ _ (fun h=>absurd rfl h) (fun _=>?_)
      clear hK K
      refine wpAnyS_done (by kernel_rfl) ?_ _
      have k177:=fun (W:World) (h:PrS g l en s45 W)=>syMust_any g l en s45 W tEnd h hl
      cases hx178:mustT l en tEnd s45 with
      | bad a m=>
       rw [hx178] at k177
       have R179:=hid (bind_bad R160.out hx178)
       have K180:=hid (show CB g l en s45 91 a m [.string ⟨#[101,110,100]⟩] from k177)
       clear k177 hx178
       go_wp2_with (go_at_call 91;with_reducible refine (K180.out _ H176.out.prs).mono ?_)
       rintro e V ⟨rfl,k⟩
       rw [R179.out]
       exact ⟨rfl,rfl,H176.out.pg.trans k⟩
      | ok u181 s182=>
       rw [hx178] at k177
       have R183:=hid (bind_of R160.out hx178)
       obtain ⟨a184,b185,c186,_⟩:=(must_ty E.fit tEnd s45).ok u181 s182 hx178
       have K187:=hid (show CO g l en s45 91 s182 (.tuple #[]) [.string ⟨#[101,110,100]⟩] from k177)
       clear k177 hx178
       go_wp2_with (go_at_call 91;with_reducible refine (K187.out _ H176.out.prs).mono ?_)
       rintro e V188 ⟨rfl,hp,hg⟩
       have H189:=hid (H176.out.kept hp hg)
       clear hp hg K187
       go_wp2_with (first
        | (with_reducible refine frL 1 H189.out ?_)
        | (with_reducible refine frS 0 (nCells (.mk 18 [] [v7,v44,ndNone]) (.slice A169 zs173.length m170)) H189.out ?_))
       intro V190 hV
       have H191:=hid hV
       clear hV
       go_wp2
       rw [R183.out]
       exact ret_n Tryz.results236 (k:=0) rfl H191.out (by with_unfolding_all rfl) rfl ⟨_,rfl,H191.out.end _ (by rw [Ezs173.out,Ezs61.out];rfl),H191.out.prs,H191.out.pg⟩
set_option maxHeartbeats 4000000 in
set_option maxRecDepth 100000 in
theorem syFold_any (E:Env numE g l en R n) (k:Nat) (s:PT) (w:World) (h:PrS g l en s w) (hs:s.at'≤l.length) (hm:l.length<n+s.at') (hp:s.pipes≤600) :
  Calls Tryz.prog 237 #[.pointer (some ⟨g,0,none⟩),.int .i64 (k:Int)] w (ResF g l en k w (foldB l en R s)):=by
 have hl:=E.len
 have KN:=hid (fun k t A n c W=>syNode_any k t A n c W)
 have KM:=hid (fun t W=>syNamed_any t W)
 have FD0:=fun a p t W=>fld0 a p t W
 have FD1:=fun a p t W=>fld1 a p t W
 have H0:=hid (Fr.start h)
 obtain ⟨r,hr⟩:∃r,r=foldB l en R s:=⟨_,rfl⟩
 rw [←hr]
 unfold foldB at hr
 have R0:=hid hr
 clear hr h
 go_enter Tryz.func237,Tryz.ntmps237
 go_wp2_with (with_reducible refine frA H0.out ?_)
 intro V1 hV
 have H2:=hid hV
 clear hV
 have k3:=fun (W:World) (h:PrS g l en s W)=>E.walk.post s W h (by omega) (by omega) (by omega)
 cases hx4:R.post s with
 | bad a m=>
  rw [hx4] at k3
  have R5:=hid (bind_bad R0.out hx4)
  have K6:=hid (show CB g l en s 174 a m [] from k3)
  clear k3 hx4
  go_wp2_with (go_at_call 174;with_reducible refine (K6.out _ H2.out.prs).mono ?_)
  rintro e V ⟨rfl,k⟩
  rw [R5.out]
  exact ⟨rfl,rfl,H2.out.pg.trans k⟩
 | ok v7 s8=>
  rw [hx4] at k3
  have R9:=hid (bind_of R0.out hx4)
  obtain ⟨a10,b11,c12,_⟩:=(E.ok.post s (by omega) (by omega)).ok v7 s8 hx4
  have K13:=hid (show CN g l en s 174 s8 v7 [] from k3)
  clear k3 hx4
  go_wp2_with (go_at_call 174;with_reducible refine (K13.out _ H2.out.prs).mono ?_)
  rintro e V14 ⟨kv,rfl,hx,hp,hg⟩
  obtain ⟨A15,m16,rfl⟩:=hx.slice
  have H17:=hid (H2.out.tree hp hg hx)
  clear hx hp hg
  clear K13
  simp only [nAgg]
  have H18:=hid (H17.out.begin [(v7,.slice A15 v7.kids.length m16)] 1 rfl (by simp) (by decide))
  go_wp2_with (go_at_call 92;with_reducible refine (KN.out _ _ _ _ _ _).mono ?_)
  rintro e V19 ⟨rfl,hb⟩
  have H20:=hid (H18.out.below hb)
  clear hb
  go_wp2_with (with_reducible refine frA H20.out ?_)
  intro V21 hV
  have H22:=hid hV
  clear hV
  go_wp2_with (with_reducible refine frS 1 (nCells (.mk k [] []) (.slice (some ⟨V14.heap.size,0,none⟩) 1 1)) H22.out ?_)
  intro V23 hV
  have H24:=hid hV
  clear hV
  have k25:=fun (W:World) (h:PrS g l en s8 W)=>syMust_any g l en s8 W tAs h hl
  cases hx26:mustT l en tAs s8 with
  | bad a m=>
   rw [hx26] at k25
   have R27:=hid (bind_bad R9.out hx26)
   have K28:=hid (show CB g l en s8 91 a m [.string ⟨#[97,115]⟩] from k25)
   clear k25 hx26
   go_wp2_with (go_at_call 91;with_reducible refine (K28.out _ H24.out.prs).mono ?_)
   rintro e V ⟨rfl,k⟩
   rw [R27.out]
   exact ⟨rfl,rfl,H24.out.pg.trans k⟩
  | ok u29 s30=>
   rw [hx26] at k25
   have R31:=hid (bind_of R9.out hx26)
   obtain ⟨a32,b33,c34,_⟩:=(must_ty E.fit tAs s8).ok u29 s30 hx26
   have K35:=hid (show CO g l en s8 91 s30 (.tuple #[]) [.string ⟨#[97,115]⟩] from k25)
   clear k25 hx26
   go_wp2_with (go_at_call 91;with_reducible refine (K35.out _ H24.out.prs).mono ?_)
   rintro e V36 ⟨rfl,hp,hg⟩
   have H37:=hid (H24.out.kept hp hg)
   clear hp hg K35
   have k38:=fun (W:World) (h:PrS g l en s30 W)=>E.walk.pat s30 W h (by omega) (by omega) (by omega)
   cases hx39:R.pat s30 with
   | bad a m=>
    rw [hx39] at k38
    have R40:=hid (bind_bad R31.out hx39)
    have K41:=hid (show CB g l en s30 175 a m [] from k38)
    clear k38 hx39
    go_upto_region 3 with fail
    refine wp_region_s 7 (BoxS [(w.heap.size,zN,TN),(V19.heap.size,nCells (.mk k [] []) (.slice (some ⟨V14.heap.size,0,none⟩) 1 1),TN)]) (by kernel_rfl) H37.out.drew.boxS (fun hS0=>?_)
    have H42:=hid H37.out.drew
    generalize V36.drew=V43 at *
    refine tk 0 (.pointer (some ⟨V19.heap.size,2,none⟩)) [1,5,7] hS0 ?_
    refine tk12 1 (.slice (some ⟨V14.heap.size,0,none⟩) 1 1) [5,7] hS0 ?_
    refine tk 2 (.pointer (some ⟨g,0,none⟩)) [3,4,5,7] hS0 ?_
    refine st 3 fun K hK=>?_
    go_simp
    go_at_call 175
    with_reducible refine (K41.out _ H42.out.prs).mono ?_
    rintro e V ⟨rfl,k⟩
    rw [R40.out]
    exact ⟨rfl,rfl,H42.out.pg.trans k⟩
   | ok v44 s45=>
    rw [hx39] at k38
    have R46:=hid (bind_of R31.out hx39)
    obtain ⟨a47,b48,c49,_⟩:=(E.ok.pat s30 (by omega) (by omega)).ok v44 s45 hx39
    have K50:=hid (show CN g l en s30 175 s45 v44 [] from k38)
    clear k38 hx39
    go_upto_region 3 with fail
    refine wp_region_s 7 (BoxS [(w.heap.size,zN,TN),(V19.heap.size,nCells (.mk k [] []) (.slice (some ⟨V14.heap.size,0,none⟩) 1 1),TN)]) (by kernel_rfl) H37.out.drew.boxS (fun hS0=>?_)
    have H51:=hid H37.out.drew
    generalize V36.drew=V52 at *
    refine tk 0 (.pointer (some ⟨V19.heap.size,2,none⟩)) [1,5,7] hS0 ?_
    refine tk12 1 (.slice (some ⟨V14.heap.size,0,none⟩) 1 1) [5,7] hS0 ?_
    refine tk 2 (.pointer (some ⟨g,0,none⟩)) [3,4,5,7] hS0 ?_
    refine st 3 fun K hK=>?_
    go_simp
    go_at_call 175
    with_reducible refine (K50.out _ H51.out.prs).mono ?_
    rintro e V53 ⟨kv,rfl,hx,hp,hg⟩
    obtain ⟨A54,m55,rfl⟩:=hx.slice
    have H56:=hid (H51.out.tree hp hg hx)
    clear hx hp hg
    clear K50
    try dsimp only
    refine hK.out _ _ (fun _=>H56.out.boxS) (fun _=>?_)
    clear hK K
    refine st 4 fun K hK=>?_
    simp only [nAgg]
    go_simp
    refine hK.out _ (V53.alloc (.cells (nCells v44 (.slice A54 v44.kids.length m55)).toArray TN)) (fun _=>(H56.out.below ((Below.refl _ V53).alloc (Nat.le_refl _) _)).boxS) (fun _=>?_)
    clear hK K
    refine st 5 fun K hK=>?_
    rw [if_pos (by kernel_rfl)]
    with_reducible refine fr_wpAppend _ _ (by with_unfolding_all rfl) (t:=v44) (A:=A54) (c:=m55) (by simp) (by with_unfolding_all rfl) (by with_unfolding_all rfl) H56.out (by simp) ?_
    rintro _ V60 hV ⟨A57,m58,rfl⟩
    obtain ⟨zs61,hz⟩:∃z:List (Nd×Value),z=([(v7,.slice A15 v7.kids.length m16)])++[(v44,.slice A54 v44.kids.length m55)]:=⟨_,rfl⟩
    rw [←hz] at hV ⊢
    have Ezs61:=hid hz
    clear hz
    have H62:=hid hV
    clear hV
    refine hK.out _ _ (fun _=>H62.out.boxS) (fun _=>?_)
    clear hK K
    refine tk 6 (.pointer (some ⟨V19.heap.size,2,none⟩)) [7] H62.out.boxS ?_
    refine st 7 fun K hK=>?_
    have cS:=H62.out.cell 1 rfl 2 rfl
    have fS:=H62.out.frozen 1 rfl 2
    go_simp
    have hV:Fr g l en w s45 [(w.heap.size,zN,TN),(V19.heap.size,nCells (.mk k [] []) (.slice A57 zs61.length m58),TN)] [(v44,.slice A54 v44.kids.length m55),(v7,.slice A15 v7.kids.length m16)] (.slice A57 zs61.length m58) zs61 (V60.setCell ⟨V19.heap.size,2,none⟩ (.slice A57 zs61.length m58)):=H62.out.setC 1 rfl 2 _
    generalize V60.setCell ⟨V19.heap.size,2,none⟩ (.slice A57 zs61.length m58)=V63 at *
    have H64:=hid hV
    clear hV cS fS
    refine hK.out _ _ (fun h=>absurd rfl h) (fun _=>?_)
    clear hK K
    refine wpAnyS_done (by kernel_rfl) ?_ _
    have k65:=fun (W:World) (h:PrS g l en s45 W)=>syMust_any g l en s45 W tOpen h hl
    cases hx66:mustT l en tOpen s45 with
    | bad a m=>
     rw [hx66] at k65
     have R67:=hid (bind_bad R46.out hx66)
     have K68:=hid (show CB g l en s45 91 a m [.string ⟨#[40]⟩] from k65)
     clear k65 hx66
     go_wp2_with (go_at_call 91;with_reducible refine (K68.out _ H64.out.prs).mono ?_)
     rintro e V ⟨rfl,k⟩
     rw [R67.out]
     exact ⟨rfl,rfl,H64.out.pg.trans k⟩
    | ok u69 s70=>
     rw [hx66] at k65
     have R71:=hid (bind_of R46.out hx66)
     obtain ⟨a72,b73,c74,_⟩:=(must_ty E.fit tOpen s45).ok u69 s70 hx66
     have K75:=hid (show CO g l en s45 91 s70 (.tuple #[]) [.string ⟨#[40]⟩] from k65)
     clear k65 hx66
     go_wp2_with (go_at_call 91;with_reducible refine (K75.out _ H64.out.prs).mono ?_)
     rintro e V76 ⟨rfl,hp,hg⟩
     have H77:=hid (H64.out.kept hp hg)
     clear hp hg K75
     have k78:=fun (W:World) (h:PrS g l en s70 W)=>E.walk.pipe s70 W h (by omega) (by omega) (by omega)
     cases hx79:R.pipe s70 with
     | bad a m=>
      rw [hx79] at k78
      have R80:=hid (bind_bad R71.out hx79)
      have K81:=hid (show CB g l en s70 28 a m [] from k78)
      clear k78 hx79
      go_upto_region 5 with fail
      refine wp_region_s 7 (BoxS [(w.heap.size,zN,TN),(V19.heap.size,nCells (.mk k [] []) (.slice A57 zs61.length m58),TN)]) (by kernel_rfl) H77.out.drew.boxS (fun hS0=>?_)
      have H82:=hid H77.out.drew
      generalize V76.drew=V83 at *
      refine tk 0 (.pointer (some ⟨V19.heap.size,2,none⟩)) [1,5,7] hS0 ?_
      refine tk12 1 (.slice A57 zs61.length m58) [5,7] hS0 ?_
      refine tk 2 (.pointer (some ⟨g,0,none⟩)) [3,4,5,7] hS0 ?_
      refine st 3 fun K hK=>?_
      go_simp
      go_at_call 28
      with_reducible refine (K81.out _ H82.out.prs).mono ?_
      rintro e V ⟨rfl,k⟩
      rw [R80.out]
      exact ⟨rfl,rfl,H82.out.pg.trans k⟩
     | ok v84 s85=>
      rw [hx79] at k78
      have R86:=hid (bind_of R71.out hx79)
      obtain ⟨a87,b88,c89,_⟩:=(E.ok.pipe s70 (by omega) (by omega)).ok v84 s85 hx79
      have K90:=hid (show CN g l en s70 28 s85 v84 [] from k78)
      clear k78 hx79
      go_upto_region 5 with fail
      refine wp_region_s 7 (BoxS [(w.heap.size,zN,TN),(V19.heap.size,nCells (.mk k [] []) (.slice A57 zs61.length m58),TN)]) (by kernel_rfl) H77.out.drew.boxS (fun hS0=>?_)
      have H91:=hid H77.out.drew
      generalize V76.drew=V92 at *
      refine tk 0 (.pointer (some ⟨V19.heap.size,2,none⟩)) [1,5,7] hS0 ?_
      refine tk12 1 (.slice A57 zs61.length m58) [5,7] hS0 ?_
      refine tk 2 (.pointer (some ⟨g,0,none⟩)) [3,4,5,7] hS0 ?_
      refine st 3 fun K hK=>?_
      go_simp
      go_at_call 28
      with_reducible refine (K90.out _ H91.out.prs).mono ?_
      rintro e V93 ⟨kv,rfl,hx,hp,hg⟩
      obtain ⟨A94,m95,rfl⟩:=hx.slice
      have H96:=hid (H91.out.tree hp hg hx)
      clear hx hp hg
      clear K90
      try dsimp only
      refine hK.out _ _ (fun _=>H96.out.boxS) (fun _=>?_)
      clear hK K
      refine st 4 fun K hK=>?_
      simp only [nAgg]
      go_simp
      refine hK.out _ (V93.alloc (.cells (nCells v84 (.slice A94 v84.kids.length m95)).toArray TN)) (fun _=>(H96.out.below ((Below.refl _ V93).alloc (Nat.le_refl _) _)).boxS) (fun _=>?_)
      clear hK K
      refine st 5 fun K hK=>?_
      rw [if_pos (by kernel_rfl)]
      with_reducible refine fr_wpAppend _ _ (by with_unfolding_all rfl) (t:=v84) (A:=A94) (c:=m95) (by simp) (by with_unfolding_all rfl) (by with_unfolding_all rfl) H96.out (by rw [Ezs61.out];simp) ?_
      rintro _ V100 hV ⟨A97,m98,rfl⟩
      obtain ⟨zs101,hz⟩:∃z:List (Nd×Value),z=zs61++[(v84,.slice A94 v84.kids.length m95)]:=⟨_,rfl⟩
      rw [←hz] at hV ⊢
      have Ezs101:=hid hz
      clear hz
      have H102:=hid hV
      clear hV
      refine hK.out _ _ (fun _=>H102.out.boxS) (fun _=>?_)
      clear hK K
      refine tk 6 (.pointer (some ⟨V19.heap.size,2,none⟩)) [7] H102.out.boxS ?_
      refine st 7 fun K hK=>?_
      have cS:=H102.out.cell 1 rfl 2 rfl
      have fS:=H102.out.frozen 1 rfl 2
      go_simp
      have hV:Fr g l en w s85 [(w.heap.size,zN,TN),(V19.heap.size,nCells (.mk k [] []) (.slice A97 zs101.length m98),TN)] [(v84,.slice A94 v84.kids.length m95),(v44,.slice A54 v44.kids.length m55),(v7,.slice A15 v7.kids.length m16)] (.slice A97 zs101.length m98) zs101 (V100.setCell ⟨V19.heap.size,2,none⟩ (.slice A97 zs101.length m98)):=H102.out.setC 1 rfl 2 _
      generalize V100.setCell ⟨V19.heap.size,2,none⟩ (.slice A97 zs101.length m98)=V103 at *
      have H104:=hid hV
      clear hV cS fS
      refine hK.out _ _ (fun h=>absurd rfl h) (fun _=>?_)
      clear hK K
      refine wpAnyS_done (by kernel_rfl) ?_ _
      have k105:=fun (W:World) (h:PrS g l en s85 W)=>syMust_any g l en s85 W tSemi h hl
      cases hx106:mustT l en tSemi s85 with
      | bad a m=>
       rw [hx106] at k105
       have R107:=hid (bind_bad R86.out hx106)
       have K108:=hid (show CB g l en s85 91 a m [.string ⟨#[59]⟩] from k105)
       clear k105 hx106
       go_wp2_with (go_at_call 91;with_reducible refine (K108.out _ H104.out.prs).mono ?_)
       rintro e V ⟨rfl,k⟩
       rw [R107.out]
       exact ⟨rfl,rfl,H104.out.pg.trans k⟩
      | ok u109 s110=>
       rw [hx106] at k105
       have R111:=hid (bind_of R86.out hx106)
       obtain ⟨a112,b113,c114,_⟩:=(must_ty E.fit tSemi s85).ok u109 s110 hx106
       have K115:=hid (show CO g l en s85 91 s110 (.tuple #[]) [.string ⟨#[59]⟩] from k105)
       clear k105 hx106
       go_wp2_with (go_at_call 91;with_reducible refine (K115.out _ H104.out.prs).mono ?_)
       rintro e V116 ⟨rfl,hp,hg⟩
       have H117:=hid (H104.out.kept hp hg)
       clear hp hg K115
       have k118:=fun (W:World) (h:PrS g l en s110 W)=>E.walk.pipe s110 W h (by omega) (by omega) (by omega)
       cases hx119:R.pipe s110 with
       | bad a m=>
        rw [hx119] at k118
        have R120:=hid (bind_bad R111.out hx119)
        have K121:=hid (show CB g l en s110 28 a m [] from k118)
        clear k118 hx119
        go_upto_region 7 with fail
        refine wp_region_s 7 (BoxS [(w.heap.size,zN,TN),(V19.heap.size,nCells (.mk k [] []) (.slice A97 zs101.length m98),TN)]) (by kernel_rfl) H117.out.drew.boxS (fun hS0=>?_)
        have H122:=hid H117.out.drew
        generalize V116.drew=V123 at *
        refine tk 0 (.pointer (some ⟨V19.heap.size,2,none⟩)) [1,5,7] hS0 ?_
        refine tk12 1 (.slice A97 zs101.length m98) [5,7] hS0 ?_
        refine tk 2 (.pointer (some ⟨g,0,none⟩)) [3,4,5,7] hS0 ?_
        refine st 3 fun K hK=>?_
        go_simp
        go_at_call 28
        with_reducible refine (K121.out _ H122.out.prs).mono ?_
        rintro e V ⟨rfl,k⟩
        rw [R120.out]
        exact ⟨rfl,rfl,H122.out.pg.trans k⟩
       | ok v124 s125=>
        rw [hx119] at k118
        have R126:=hid (bind_of R111.out hx119)
        obtain ⟨a127,b128,c129,_⟩:=(E.ok.pipe s110 (by omega) (by omega)).ok v124 s125 hx119
        have K130:=hid (show CN g l en s110 28 s125 v124 [] from k118)
        clear k118 hx119
        go_upto_region 7 with fail
        refine wp_region_s 7 (BoxS [(w.heap.size,zN,TN),(V19.heap.size,nCells (.mk k [] []) (.slice A97 zs101.length m98),TN)]) (by kernel_rfl) H117.out.drew.boxS (fun hS0=>?_)
        have H131:=hid H117.out.drew
        generalize V116.drew=V132 at *
        refine tk 0 (.pointer (some ⟨V19.heap.size,2,none⟩)) [1,5,7] hS0 ?_
        refine tk12 1 (.slice A97 zs101.length m98) [5,7] hS0 ?_
        refine tk 2 (.pointer (some ⟨g,0,none⟩)) [3,4,5,7] hS0 ?_
        refine st 3 fun K hK=>?_
        go_simp
        go_at_call 28
        with_reducible refine (K130.out _ H131.out.prs).mono ?_
        rintro e V133 ⟨kv,rfl,hx,hp,hg⟩
        obtain ⟨A134,m135,rfl⟩:=hx.slice
        have H136:=hid (H131.out.tree hp hg hx)
        clear hx hp hg
        clear K130
        try dsimp only
        refine hK.out _ _ (fun _=>H136.out.boxS) (fun _=>?_)
        clear hK K
        refine st 4 fun K hK=>?_
        simp only [nAgg]
        go_simp
        refine hK.out _ (V133.alloc (.cells (nCells v124 (.slice A134 v124.kids.length m135)).toArray TN)) (fun _=>(H136.out.below ((Below.refl _ V133).alloc (Nat.le_refl _) _)).boxS) (fun _=>?_)
        clear hK K
        refine st 5 fun K hK=>?_
        rw [if_pos (by kernel_rfl)]
        with_reducible refine fr_wpAppend _ _ (by with_unfolding_all rfl) (t:=v124) (A:=A134) (c:=m135) (by simp) (by with_unfolding_all rfl) (by with_unfolding_all rfl) H136.out (by rw [Ezs101.out,Ezs61.out];simp) ?_
        rintro _ V140 hV ⟨A137,m138,rfl⟩
        obtain ⟨zs141,hz⟩:∃z:List (Nd×Value),z=zs101++[(v124,.slice A134 v124.kids.length m135)]:=⟨_,rfl⟩
        rw [←hz] at hV ⊢
        have Ezs141:=hid hz
        clear hz
        have H142:=hid hV
        clear hV
        refine hK.out _ _ (fun _=>H142.out.boxS) (fun _=>?_)
        clear hK K
        refine tk 6 (.pointer (some ⟨V19.heap.size,2,none⟩)) [7] H142.out.boxS ?_
        refine st 7 fun K hK=>?_
        have cS:=H142.out.cell 1 rfl 2 rfl
        have fS:=H142.out.frozen 1 rfl 2
        go_simp
        have hV:Fr g l en w s125 [(w.heap.size,zN,TN),(V19.heap.size,nCells (.mk k [] []) (.slice A137 zs141.length m138),TN)] [(v124,.slice A134 v124.kids.length m135),(v84,.slice A94 v84.kids.length m95),(v44,.slice A54 v44.kids.length m55),(v7,.slice A15 v7.kids.length m16)] (.slice A137 zs141.length m138) zs141 (V140.setCell ⟨V19.heap.size,2,none⟩ (.slice A137 zs141.length m138)):=H142.out.setC 1 rfl 2 _
        generalize V140.setCell ⟨V19.heap.size,2,none⟩ (.slice A137 zs141.length m138)=V143 at *
        have H144:=hid hV
        clear hV cS fS
        refine hK.out _ _ (fun h=>absurd rfl h) (fun _=>?_)
        clear hK K
        refine wpAnyS_done (by kernel_rfl) ?_ _
        go_wp2_with (first
         | (with_reducible refine frL 1 H144.out ?_)
         | (with_reducible refine frS 0 (nCells (.mk k [] []) (.slice A137 zs141.length m138)) H144.out ?_))
        intro V145 hV
        have H146:=hid hV
        clear hV
        go_wp2
        rw [R126.out]
        exact ret_n Tryz.results237 (k:=0) rfl H146.out (by with_unfolding_all rfl) rfl ⟨A137,m138,zs141,rfl,(by rw [Ezs141.out,Ezs101.out,Ezs61.out];rfl),H146.out.nrow,H146.out.prs,H146.out.pg⟩
theorem syChoice_any (E:Env numE g l en R n):∀(f:Nat) (s:PT) (W:World),l.length<f+s.at'→PrS g l en s W→s.at'≤l.length→l.length<n+s.at'→s.pipes≤600→Calls Tryz.prog 236 #[.pointer (some ⟨g,0,none⟩)] W (ResN g l en W (choF l en R f s))
 | 0,s,W,hf,h,hs,hm,hp=>by omega
 | f+1,s,W,hf,h,hs,hm,hp=>syChoice_succ E f (syChoice_any E f) s W h hs hm hf hp
end
end Go.Proofs.YtmbeicndhigklaaGreatDoor
