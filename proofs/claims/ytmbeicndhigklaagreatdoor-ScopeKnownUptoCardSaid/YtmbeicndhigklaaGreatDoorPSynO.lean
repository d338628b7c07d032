/-
The walk of the parser's inner (chapter 15).
-/
import Derived.Test.YtmbeicndhigklaaGreatDoorPSynT
import Derived.Test.YtmbeicndhigklaaGreatDoorPSynL
namespace Go.Proofs.YtmbeicndhigklaaGreatDoor
open Lib (hid)
open Go.RowKit
section
variable {numE:List UInt8→Nat} {g:Nat} {l:List Tk} {en:Nat} {R:Knot} {n:Nat}
theorem slice_from {x:Nd} {s:PT} {K:Nd→PT→PY Nd} {r:PY Nd} (h:r=(sliceB l R x s).bind K) (hb:isT l tColon s.at'=true):r=(R.pipe (nextT s)).bind fun m s=>K (.mk 11 [] [x,ndNone,m]) s:=by
 rw [h,sliceB,if_pos hb,bind_assoc'];rfl
theorem slice_one {x:Nd} {s:PT} {K:Nd→PT→PY Nd} {r:PY Nd} (h:r=(sliceB l R x s).bind K) (hb:¬isT l tColon s.at'=true):r=(R.pipe s).bind fun m s=>(if isT l tColon s.at'=true then
   if isT l tKrb (s.at'+1)=true then .ok (.mk 11 [] [x,m,ndNone]) (nextT s)
   else (R.pipe (nextT s)).bind fun k s=>.ok (.mk 11 [] [x,m,k]) s
  else .ok (.mk 10 [] [x,m]) s).bind K:=by
 rw [h,sliceB,if_neg hb,bind_assoc']
theorem slice_yes {x m:Nd} {s:PT} {K:Nd→PT→PY Nd} {r:PY Nd} (h:r=(if isT l tColon s.at'=true then
   if isT l tKrb (s.at'+1)=true then .ok (.mk 11 [] [x,m,ndNone]) (nextT s)
   else (R.pipe (nextT s)).bind fun k s=>.ok (.mk 11 [] [x,m,k]) s
  else .ok (.mk 10 [] [x,m]) s:PY Nd).bind K) (hb:isT l tColon s.at'=true):r=if isT l tKrb (s.at'+1)=true then K (.mk 11 [] [x,m,ndNone]) (nextT s) else (R.pipe (nextT s)).bind fun k s=>K (.mk 11 [] [x,m,k]) s:=by
 rw [h,if_pos hb]
 split
 ·rfl
 ·rw [bind_assoc'];rfl
theorem slice_no {x m:Nd} {s:PT} {K:Nd→PT→PY Nd} {r:PY Nd} (h:r=(if isT l tColon s.at'=true then
   if isT l tKrb (s.at'+1)=true then .ok (.mk 11 [] [x,m,ndNone]) (nextT s)
   else (R.pipe (nextT s)).bind fun k s=>.ok (.mk 11 [] [x,m,k]) s
  else .ok (.mk 10 [] [x,m]) s:PY Nd).bind K) (hb:¬isT l tColon s.at'=true):r=K (.mk 10 [] [x,m]) s:=by
 rw [h,if_neg hb];rfl
set_option maxHeartbeats 4000000 in
set_option maxRecDepth 100000 in
theorem syInner_any (E:Env numE g l en R n) (b0 b1 b2:Nat) (x:Nd) (A:Option Addr) (c:Nat) (t:Tk) (s:PT) (w W:World) (h:Fr g l en w s [(b0,zN,TN),(b1,nCells x (.slice A x.kids.length c),TN),(b2,tkCs t,TTk)] [(x,.slice A x.kids.length c)] rNil [] W) (_hs:s.at'≤l.length) (hm:l.length<n+1+s.at') (hp:s.pipes≤600) :
  Calls Tryz.prog 206 #[.pointer (some ⟨g,0,none⟩),nAgg x (.slice A x.kids.length c)] W (ResI g l en w [(b0,zN,TN),(b1,nCells x (.slice A x.kids.length c),TN),(b2,tkCs t,TTk)] (innerB l en R x s)):=by
 have hl:=E.len
 have KN:=hid (fun k t A n c W=>syNode_any k t A n c W)
 have FD0:=fun a p t W=>fld0 a p t W
 have FD1:=fun a p t W=>fld1 a p t W
 have H0:=hid h
 obtain ⟨r,hr⟩:∃r,r=innerB l en R x s:=⟨_,rfl⟩
 rw [←hr]
 unfold innerB at hr
 have R0:=hid hr
 clear hr h
 simp only [nAgg]
 go_enter Tryz.func206,Tryz.ntmps206
 go_wp2_with (with_reducible refine fr_box (T:=TN) (by with_reducible rfl) _ (by with_reducible rfl) (nCells x (.slice A x.kids.length c)) (by with_unfolding_all rfl) rfl H0.out ?_)
 intro V1 hV
 have H2:=hid hV
 clear hV
 go_wp2_with (with_reducible refine frA H2.out ?_)
 intro V3 hV
 have H4:=hid hV
 clear hV
 have k5:=fun (W:World) (h:PrS g l en s W)=>syMust_any g l en s W tBrk h hl
 cases hx6:mustT l en tBrk s with
 | bad a m=>
  rw [hx6] at k5
  have R7:=hid (bind_bad R0.out hx6)
  have K8:=hid (show CB g l en s 91 a m [.string ⟨#[91]⟩] from k5)
  clear k5 hx6
  go_wp2_with (go_at_call 91;with_reducible refine (K8.out _ H4.out.prs).mono ?_)
  rintro e V ⟨rfl,k⟩
  rw [R7.out]
  exact ⟨rfl,rfl,H4.out.pg.trans k⟩
 | ok u9 s10=>
  rw [hx6] at k5
  have R11:=hid (bind_of R0.out hx6)
  obtain ⟨a12,b13,c14,_⟩:=(must_ty E.fit tBrk s).ok u9 s10 hx6
  have K15:=hid (show CO g l en s 91 s10 (.tuple #[]) [.string ⟨#[91]⟩] from k5)
  clear k5 hx6
  go_wp2_with (go_at_call 91;with_reducible refine (K15.out _ H4.out.prs).mono ?_)
  rintro e V16 ⟨rfl,hp,hg⟩
  have H17:=hid (H4.out.kept hp hg)
  clear hp hg K15
  go_wp2_with (go_at_call 92;with_reducible refine (KN.out _ _ _ _ _ _).mono ?_)
  rintro e V18 ⟨rfl,hb⟩
  have H19:=hid (H17.out.below hb)
  clear hb
  have H20:=hid (H19.out.leaf ndNone rfl)
  go_wp2_with (with_reducible refine frA H20.out ?_)
  intro V21 hV
  have H22:=hid hV
  clear hV
  go_wp2_with (with_reducible refine frS 5 (nCells ndNone rNil) H22.out ?_)
  intro V23 hV
  have H24:=hid hV
  clear hV
  go_wp2_with (with_reducible refine frA H24.out ?_)
  intro V25 hV
  have H26:=hid hV
  clear hV
  by_cases hb27:isT l tKrb s10.at'=true
  ·skip
   obtain ⟨s28,hs29⟩:∃z,z=nextT s10:=⟨_,rfl⟩
   have lt31:=isT_lt hb27
   have a32:s28.at'=s10.at'+1:=by rw [hs29];rfl
   have p33:s28.pipes=s10.pipes:=by rw [hs29];rfl
   have R30:=hid (hs29▸ite_yes R11.out hb27)
   have K34:=hid (tkY g en ⟨#[93]⟩ hs29 hl hb27)
   clear hb27 hs29
   go_wp2_with (go_at_call 88;with_reducible refine (K34.out _ H26.out.prs).mono ?_)
   rintro e V35 ⟨rfl,hp,hg⟩
   have H36:=hid (H26.out.kept hp hg)
   clear hp hg K34
   have H37:=hid (H36.out.row [(x,.slice A x.kids.length c)] 1 rfl (by simp) (by decide) (.mk 12 [] [x]) rfl)
   go_wp2_with (first
    | (with_reducible refine frL 3 H36.out ?_;dsimp only [nCells])
    | (go_at_call 92;with_reducible refine (KN.out _ _ _ _ _ _).mono ?_))
   rintro e V38 ⟨rfl,hb⟩
   have H39:=hid (H37.out.below (V:=V38) (by first | exact hb | (rw [World.size_alloc];exact hb)))
   clear hb
   go_wp2_with (with_reducible refine frS 4 (nCells (.mk 12 [] [x]) (.slice (some ⟨V35.heap.size,0,none⟩) 1 1)) H39.out ?_)
   intro V40 hV
   have H41:=hid hV
   clear hV
   go_wp2
   rw [R30.out]
   exact ret_n Tryz.results206 (k:=4) rfl H41.out (by with_unfolding_all rfl) rfl ⟨(some ⟨V35.heap.size,0,none⟩),1,rfl,H41.out.drop 3 (by simp [Nd.kids])⟩
  ·skip
   have R42:=hid (ite_no R11.out hb27)
   have K43:=hid (tkN g en ⟨#[93]⟩ hb27)
   clear hb27
   go_wp2_with (go_at_call 88;with_reducible refine (K43.out _ H26.out.prs).mono ?_)
   rintro e V44 ⟨rfl,hp,hg⟩
   have H45:=hid (H26.out.kept hp hg)
   clear hp hg K43
   by_cases hb46:isT l tColon s10.at'=true
   ·skip
    obtain ⟨s47,hs48⟩:∃z,z=nextT s10:=⟨_,rfl⟩
    have lt50:=isT_lt hb46
    have a51:s47.at'=s10.at'+1:=by rw [hs48];rfl
    have p52:s47.pipes=s10.pipes:=by rw [hs48];rfl
    have R49:=hid (hs48▸slice_from R42.out hb46)
    have K53:=hid (tkY g en ⟨#[58]⟩ hs48 hl hb46)
    clear hb46 hs48
    go_wp2_with (go_at_call 88;with_reducible refine (K53.out _ H45.out.prs).mono ?_)
    rintro e V54 ⟨rfl,hp,hg⟩
    have H55:=hid (H45.out.kept hp hg)
    clear hp hg K53
    have k56:=fun (W:World) (h:PrS g l en s47 W)=>E.walk.pipe s47 W h (by omega) (by omega) (by omega)
    cases hx57:R.pipe s47 with
    | bad a m=>
     rw [hx57] at k56
     have R58:=hid (bind_bad R49.out hx57)
     have K59:=hid (show CB g l en s47 28 a m [] from k56)
     clear k56 hx57
     go_upto_region 13 with fail
     refine wp_region_s 6 (BoxS [(b0,zN,TN),(b1,nCells x (.slice A x.kids.length c),TN),(b2,tkCs t,TTk),(W.heap.size,nCells x (.slice A x.kids.length c),TN),(V1.heap.size,zN,TN),(V18.heap.size,nCells ndNone rNil,TN),(V23.heap.size,zN,TN)]) (by kernel_rfl) H55.out.drew.boxS (fun hS0=>?_)
     have H60:=hid H55.out.drew
     generalize V54.drew=V61 at *
     refine tk 0 (.agg (nCells x (.slice A x.kids.length c)).toArray) [4,5,6] hS0 ?_ (y:=yields_ld threeN (by kernel_rfl) _ rfl 3 (b:=(W.heap.size,nCells x (.slice A x.kids.length c),TN)) rfl rfl rfl)
     refine tk 1 (.agg (nCells ndNone rNil).toArray) [4,5,6] hS0 ?_ (y:=yields_ld threeN (by kernel_rfl) _ rfl 5 (b:=(V18.heap.size,nCells ndNone rNil,TN)) rfl rfl rfl)
     refine tk 2 (.pointer (some ⟨g,0,none⟩)) [3,4,5,6] hS0 ?_
     refine st 3 fun K hK=>?_
     go_simp
     go_at_call 28
     with_reducible refine (K59.out _ H60.out.prs).mono ?_
     rintro e V ⟨rfl,k⟩
     rw [R58.out]
     exact ⟨rfl,rfl,H60.out.pg.trans k⟩
    | ok v62 s63=>
     rw [hx57] at k56
     have R64:=hid (bind_of R49.out hx57)
     obtain ⟨a65,b66,c67,_⟩:=(E.ok.pipe s47 (by omega) (by omega)).ok v62 s63 hx57
     have K68:=hid (show CN g l en s47 28 s63 v62 [] from k56)
     clear k56 hx57
     go_upto_region 13 with fail
     refine wp_region_s 6 (BoxS [(b0,zN,TN),(b1,nCells x (.slice A x.kids.length c),TN),(b2,tkCs t,TTk),(W.heap.size,nCells x (.slice A x.kids.length c),TN),(V1.heap.size,zN,TN),(V18.heap.size,nCells ndNone rNil,TN),(V23.heap.size,zN,TN)]) (by kernel_rfl) H55.out.drew.boxS (fun hS0=>?_)
     have H69:=hid H55.out.drew
     generalize V54.drew=V70 at *
     refine tk 0 (.agg (nCells x (.slice A x.kids.length c)).toArray) [4,5,6] hS0 ?_ (y:=yields_ld threeN (by kernel_rfl) _ rfl 3 (b:=(W.heap.size,nCells x (.slice A x.kids.length c),TN)) rfl rfl rfl)
     refine tk 1 (.agg (nCells ndNone rNil).toArray) [4,5,6] hS0 ?_ (y:=yields_ld threeN (by kernel_rfl) _ rfl 5 (b:=(V18.heap.size,nCells ndNone rNil,TN)) rfl rfl rfl)
     refine tk 2 (.pointer (some ⟨g,0,none⟩)) [3,4,5,6] hS0 ?_
     refine st 3 fun K hK=>?_
     go_simp
     go_at_call 28
     with_reducible refine (K68.out _ H69.out.prs).mono ?_
     rintro e V71 ⟨kv,rfl,hx,hp,hg⟩
     obtain ⟨A72,m73,rfl⟩:=hx.slice
     have H74:=hid (H69.out.tree hp hg hx)
     clear hx hp hg
     clear K68
     try dsimp only
     refine hK.out _ _ (fun _=>H74.out.boxS) (fun _=>?_)
     clear hK K
     refine st 4 fun K hK=>?_
     simp only [nAgg,nCells]
     go_simp
     have H75:=hid (H74.out.row [(x,.slice A x.kids.length c),(ndNone,rNil),(v62,.slice A72 v62.kids.length m73)] 3 rfl (by simp) (by decide) (.mk 11 [] [x,ndNone,v62]) rfl)
     refine hK.out _ _ (fun _=>H75.out.boxS) (fun _=>?_)
     clear hK K
     refine st 5 fun K hK=>?_
     go_simp
     go_at_call 92
     with_reducible refine (KN.out _ _ _ _ _ _).mono ?_
     rintro e V76 ⟨rfl,hb⟩
     have H77:=hid (H75.out.below hb)
     clear hb
     try dsimp only
     refine hK.out _ _ (fun _=>H77.out.boxS) (fun _=>?_)
     clear hK K
     refine st 6 fun K hK=>?_
     rw [if_pos (by kernel_rfl)]
     with_reducible refine fr_wpStore threeN _ _ (by with_unfolding_all rfl) 6 rfl (nCells (.mk 11 [] [x,ndNone,v62]) (.slice (some ⟨V71.heap.size,0,none⟩) 3 3)) (by with_unfolding_all rfl) (by with_unfolding_all rfl) rfl (n_one _ _ _ _) H77.out ?_
     intro V78 hV
     have H79:=hid hV
     clear hV
     refine hK.out _ _ (fun h=>absurd rfl h) (fun _=>?_)
     clear hK K
     refine wpAnyS_done (by kernel_rfl) ?_ _
     have k80:=fun (W:World) (h:PrS g l en s63 W)=>syMust_any g l en s63 W tKrb h hl
     cases hx81:mustT l en tKrb s63 with
     | bad a m=>
      rw [hx81] at k80
      have R82:=hid (bind_bad R64.out hx81)
      have K83:=hid (show CB g l en s63 91 a m [.string ⟨#[93]⟩] from k80)
      clear k80 hx81
      go_wp2_with (go_at_call 91;with_reducible refine (K83.out _ H79.out.prs).mono ?_)
      rintro e V ⟨rfl,k⟩
      rw [R82.out]
      exact ⟨rfl,rfl,H79.out.pg.trans k⟩
     | ok u84 s85=>
      rw [hx81] at k80
      have R86:=hid (bind_of R64.out hx81)
      obtain ⟨a87,b88,c89,_⟩:=(must_ty E.fit tKrb s63).ok u84 s85 hx81
      have K90:=hid (show CO g l en s63 91 s85 (.tuple #[]) [.string ⟨#[93]⟩] from k80)
      clear k80 hx81
      go_wp2_with (go_at_call 91;with_reducible refine (K90.out _ H79.out.prs).mono ?_)
      rintro e V91 ⟨rfl,hp,hg⟩
      have H92:=hid (H79.out.kept hp hg)
      clear hp hg K90
      go_wp2_with (first
       | (with_reducible refine frL 6 H92.out ?_)
       | (with_reducible refine frS 4 (nCells (.mk 11 [] [x,ndNone,v62]) (.slice (some ⟨V71.heap.size,0,none⟩) 3 3)) H92.out ?_))
      intro V93 hV
      have H94:=hid hV
      clear hV
      go_wp2
      rw [R86.out]
      exact ret_n Tryz.results206 (k:=4) rfl H94.out (by with_unfolding_all rfl) rfl ⟨(some ⟨V71.heap.size,0,none⟩),3,rfl,H94.out.drop 3 (by simp [Nd.kids])⟩
   ·skip
    have R95:=hid (slice_one R42.out hb46)
    have K96:=hid (tkN g en ⟨#[58]⟩ hb46)
    clear hb46
    go_wp2_with (go_at_call 88;with_reducible refine (K96.out _ H45.out.prs).mono ?_)
    rintro e V97 ⟨rfl,hp,hg⟩
    have H98:=hid (H45.out.kept hp hg)
    clear hp hg K96
    have k99:=fun (W:World) (h:PrS g l en s10 W)=>E.walk.pipe s10 W h (by omega) (by omega) (by omega)
    cases hx100:R.pipe s10 with
    | bad a m=>
     rw [hx100] at k99
     have R101:=hid (bind_bad R95.out hx100)
     have K102:=hid (show CB g l en s10 28 a m [] from k99)
     clear k99 hx100
     go_upto_region 4 with fail
     refine wp_region_s 5 (BoxS [(b0,zN,TN),(b1,nCells x (.slice A x.kids.length c),TN),(b2,tkCs t,TTk),(W.heap.size,nCells x (.slice A x.kids.length c),TN),(V1.heap.size,zN,TN),(V18.heap.size,nCells ndNone rNil,TN),(V23.heap.size,zN,TN)]) (by kernel_rfl) H98.out.drew.boxS (fun hS0=>?_)
     have H103:=hid H98.out.drew
     generalize V97.drew=V104 at *
     refine tk 0 (.agg (nCells x (.slice A x.kids.length c)).toArray) [3,4,5] hS0 ?_ (y:=yields_ld threeN (by kernel_rfl) _ rfl 3 (b:=(W.heap.size,nCells x (.slice A x.kids.length c),TN)) rfl rfl rfl)
     refine tk 1 (.pointer (some ⟨g,0,none⟩)) [2,3,4,5] hS0 ?_
     refine st 2 fun K hK=>?_
     go_simp
     go_at_call 28
     with_reducible refine (K102.out _ H103.out.prs).mono ?_
     rintro e V ⟨rfl,k⟩
     rw [R101.out]
     exact ⟨rfl,rfl,H103.out.pg.trans k⟩
    | ok v105 s106=>
     rw [hx100] at k99
     have R107:=hid (bind_of R95.out hx100)
     obtain ⟨a108,b109,c110,_⟩:=(E.ok.pipe s10 (by omega) (by omega)).ok v105 s106 hx100
     have K111:=hid (show CN g l en s10 28 s106 v105 [] from k99)
     clear k99 hx100
     go_upto_region 4 with fail
     refine wp_region_s 5 (BoxS [(b0,zN,TN),(b1,nCells x (.slice A x.kids.length c),TN),(b2,tkCs t,TTk),(W.heap.size,nCells x (.slice A x.kids.length c),TN),(V1.heap.size,zN,TN),(V18.heap.size,nCells ndNone rNil,TN),(V23.heap.size,zN,TN)]) (by kernel_rfl) H98.out.drew.boxS (fun hS0=>?_)
     have H112:=hid H98.out.drew
     generalize V97.drew=V113 at *
     refine tk 0 (.agg (nCells x (.slice A x.kids.length c)).toArray) [3,4,5] hS0 ?_ (y:=yields_ld threeN (by kernel_rfl) _ rfl 3 (b:=(W.heap.size,nCells x (.slice A x.kids.length c),TN)) rfl rfl rfl)
     refine tk 1 (.pointer (some ⟨g,0,none⟩)) [2,3,4,5] hS0 ?_
     refine st 2 fun K hK=>?_
     go_simp
     go_at_call 28
     with_reducible refine (K111.out _ H112.out.prs).mono ?_
     rintro e V114 ⟨kv,rfl,hx,hp,hg⟩
     obtain ⟨A115,m116,rfl⟩:=hx.slice
     have H117:=hid (H112.out.tree hp hg hx)
     clear hx hp hg
     clear K111
     try dsimp only
     refine hK.out _ _ (fun _=>H117.out.boxS) (fun _=>?_)
     clear hK K
     refine st 3 fun K hK=>?_
     simp only [nAgg,nCells]
     go_simp
     have H118:=hid (H117.out.begin [(x,.slice A x.kids.length c),(v105,.slice A115 v105.kids.length m116)] 2 rfl (by simp) (by decide))
     refine hK.out _ _ (fun _=>H118.out.boxS) (fun _=>?_)
     clear hK K
     refine st 4 fun K hK=>?_
     go_simp
     go_at_call 92
     with_reducible refine (KN.out _ _ _ _ _ _).mono ?_
     rintro e V119 ⟨rfl,hb⟩
     have H120:=hid (H118.out.below hb)
     clear hb
     try dsimp only
     refine hK.out _ _ (fun _=>H120.out.boxS) (fun _=>?_)
     clear hK K
     refine st 5 fun K hK=>?_
     rw [if_pos (by kernel_rfl)]
     with_reducible refine fr_wpStore threeN _ _ (by with_unfolding_all rfl) 6 rfl (nCells (.mk 10 [] []) (.slice (some ⟨V114.heap.size,0,none⟩) 2 2)) (by with_unfolding_all rfl) (by with_unfolding_all rfl) rfl (n_one _ _ _ _) H120.out ?_
     intro V121 hV
     have H122:=hid hV
     clear hV
     refine hK.out _ _ (fun h=>absurd rfl h) (fun _=>?_)
     clear hK K
     refine wpAnyS_done (by kernel_rfl) ?_ _
     by_cases hb123:isT l tColon s106.at'=true
     ·skip
      obtain ⟨s124,hs125⟩:∃z,z=nextT s106:=⟨_,rfl⟩
      have lt127:=isT_lt hb123
      have a128:s124.at'=s106.at'+1:=by rw [hs125];rfl
      have p129:s124.pipes=s106.pipes:=by rw [hs125];rfl
      have R126:=hid (hs125▸slice_yes R107.out hb123)
      have K130:=hid (tkY g en ⟨#[58]⟩ hs125 hl hb123)
      clear hb123 hs125
      go_wp2_with (go_at_call 88;with_reducible refine (K130.out _ H122.out.prs).mono ?_)
      rintro e V131 ⟨rfl,hp,hg⟩
      have H132:=hid (H122.out.kept hp hg)
      clear hp hg K130
      have q:=R126.out
      rw [←a128] at q
      have R133:=hid q
      clear q
      have cA:=H132.out.cell 6 rfl 0 rfl
      have fA:=H132.out.frozen 6 rfl 0
      have hV:Fr g l en w s124 [(b0,zN,TN),(b1,nCells x (.slice A x.kids.length c),TN),(b2,tkCs t,TTk),(W.heap.size,nCells x (.slice A x.kids.length c),TN),(V1.heap.size,zN,TN),(V18.heap.size,nCells ndNone rNil,TN),(V23.heap.size,nCells (.mk 11 [] []) (.slice (some ⟨V114.heap.size,0,none⟩) 2 2),TN)] [(v105,.slice A115 v105.kids.length m116),(ndNone,rNil),(x,.slice A x.kids.length c)] (.slice (some ⟨V114.heap.size,0,none⟩) 2 2) [(x,.slice A x.kids.length c),(v105,.slice A115 v105.kids.length m116)] (V131.setCell ⟨V23.heap.size,0,none⟩ (.int .i64 11)):=H132.out.setC 6 rfl 0 _
      go_upto_region 7 with fail
      generalize V131.setCell ⟨V23.heap.size,0,none⟩ (.int .i64 11)=V134 at *
      have H135:=hid hV
      clear hV cA fA
      by_cases hb136:isT l tKrb s124.at'=true
      ·skip
       have lt138:=isT_lt hb136
       have R137:=hid (ite_yes R133.out hb136)
       have K139:=hid (show CO g l en s124 121 s124 (.bool true) [.string ⟨#[93]⟩] from fun W h=>hb136▸syIs_any g l en s124 tKrb W h)
       clear hb136
       go_wp2_with (go_at_call 121;with_reducible refine (K139.out _ H135.out.prs).mono ?_)
       rintro e V140 ⟨rfl,hp,hg⟩
       have H141:=hid (H135.out.kept hp hg)
       clear hp hg K139
       have cA:=H141.out.cell 6 rfl 2 rfl
       go_wp2_with (first
        | (with_reducible refine frL 5 H141.out ?_;dsimp only [nCells])
        | (with_reducible refine fr_append (by with_reducible rfl) _ _ (by with_reducible rfl) (t:=ndNone) (A:=none) (c:=0) (by simp) (by with_unfolding_all rfl) (by with_unfolding_all rfl) H141.out (by simp) ?_))
       rintro _ V142 hV A143 m144 rfl
       clear cA
       have H146:=hid hV
       clear hV
       have cS:=H146.out.cell 6 rfl 2 rfl
       have fS:=H146.out.frozen 6 rfl 2
       have hV:Fr g l en w s124 [(b0,zN,TN),(b1,nCells x (.slice A x.kids.length c),TN),(b2,tkCs t,TTk),(W.heap.size,nCells x (.slice A x.kids.length c),TN),(V1.heap.size,zN,TN),(V18.heap.size,nCells ndNone rNil,TN),(V23.heap.size,nCells (.mk 11 [] []) (.slice A143 3 m144),TN)] [(v105,.slice A115 v105.kids.length m116),(ndNone,rNil),(x,.slice A x.kids.length c)] (.slice A143 3 m144) [(x,.slice A x.kids.length c),(v105,.slice A115 v105.kids.length m116),(ndNone,.slice none 0 0)] (V142.setCell ⟨V23.heap.size,2,none⟩ (.slice A143 3 m144)):=H146.out.setC 6 rfl 2 _
       go_upto_region 14 with fail
       generalize V142.setCell ⟨V23.heap.size,2,none⟩ (.slice A143 3 m144)=V147 at *
       have H148:=hid hV
       clear hV cS fS
       have k149:=fun (W:World) (h:PrS g l en s124 W)=>syMust_any g l en s124 W tKrb h hl
       cases hx150:mustT l en tKrb s124 with
       | bad a m=>
        rw [hx150] at k149
        have R151:=hid (bind_bad R137.out hx150)
        have K152:=hid (show CB g l en s124 91 a m [.string ⟨#[93]⟩] from k149)
        clear k149 hx150
        go_wp2_with (go_at_call 91;with_reducible refine (K152.out _ H148.out.prs).mono ?_)
        rintro e V ⟨rfl,k⟩
        rw [R151.out]
        exact ⟨rfl,rfl,H148.out.pg.trans k⟩
       | ok u153 s154=>
        rw [hx150] at k149
        have R155:=hid (bind_of R137.out hx150)
        obtain ⟨a156,b157,c158,_⟩:=(must_ty E.fit tKrb s124).ok u153 s154 hx150
        have K159:=hid (show CO g l en s124 91 s154 (.tuple #[]) [.string ⟨#[93]⟩] from k149)
        clear k149 hx150
        go_wp2_with (go_at_call 91;with_reducible refine (K159.out _ H148.out.prs).mono ?_)
        rintro e V160 ⟨rfl,hp,hg⟩
        have H161:=hid (H148.out.kept hp hg)
        clear hp hg K159
        go_wp2_with (first
         | (with_reducible refine frL 6 H161.out ?_)
         | (with_reducible refine frS 4 (nCells (.mk 11 [] [x,v105,ndNone]) (.slice A143 3 m144)) H161.out ?_))
        intro V162 hV
        have H163:=hid hV
        clear hV
        go_wp2
        rw [R155.out]
        exact ret_n Tryz.results206 (k:=4) rfl H163.out (by with_unfolding_all rfl) rfl ⟨A143,m144,rfl,(H163.out.endRow (.mk 11 [] [x,v105,ndNone]) rfl).drop 3 (us:=[(.mk 11 [] [x,v105,ndNone],.slice A143 3 m144)]) (by simp)⟩
      ·skip
       have R164:=hid (ite_no R133.out hb136)
       have hf165:isT l tKrb s124.at'=false:=by simpa using hb136
       have K166:=hid (show CO g l en s124 121 s124 (.bool false) [.string ⟨#[93]⟩] from fun W h=>hf165▸syIs_any g l en s124 tKrb W h)
       clear hb136 hf165
       go_wp2_with (go_at_call 121;with_reducible refine (K166.out _ H135.out.prs).mono ?_)
       rintro e V167 ⟨rfl,hp,hg⟩
       have H168:=hid (H135.out.kept hp hg)
       clear hp hg K166
       have k169:=fun (W:World) (h:PrS g l en s124 W)=>E.walk.pipe s124 W h (by omega) (by omega) (by omega)
       cases hx170:R.pipe s124 with
       | bad a m=>
        rw [hx170] at k169
        have R171:=hid (bind_bad R164.out hx170)
        have K172:=hid (show CB g l en s124 28 a m [] from k169)
        clear k169 hx170
        go_wp2_with (go_at_call 28;with_reducible refine (K172.out _ H168.out.prs).mono ?_)
        rintro e V ⟨rfl,k⟩
        rw [R171.out]
        exact ⟨rfl,rfl,H168.out.pg.trans k⟩
       | ok v173 s174=>
        rw [hx170] at k169
        have R175:=hid (bind_of R164.out hx170)
        obtain ⟨a176,b177,c178,_⟩:=(E.ok.pipe s124 (by omega) (by omega)).ok v173 s174 hx170
        have K179:=hid (show CN g l en s124 28 s174 v173 [] from k169)
        clear k169 hx170
        go_wp2_with (go_at_call 28;with_reducible refine (K179.out _ H168.out.prs).mono ?_)
        rintro e V180 ⟨kv,rfl,hx,hp,hg⟩
        obtain ⟨A181,m182,rfl⟩:=hx.slice
        have H183:=hid (H168.out.tree hp hg hx)
        clear hx hp hg
        clear K179
        go_wp2_with (with_reducible refine frS 5 (nCells v173 (.slice A181 v173.kids.length m182)) H183.out ?_)
        intro V184 hV
        have H185:=hid hV
        clear hV
        have cA:=H185.out.cell 6 rfl 2 rfl
        go_wp2_with (first
         | (with_reducible refine frL 5 H185.out ?_;dsimp only [nCells])
         | (with_reducible refine fr_append (by with_reducible rfl) _ _ (by with_reducible rfl) (t:=v173) (A:=A181) (c:=m182) (by simp) (by with_unfolding_all rfl) (by with_unfolding_all rfl) H185.out (by simp) ?_))
        rintro _ V186 hV A187 m188 rfl
        clear cA
        have H190:=hid hV
        clear hV
        have cS:=H190.out.cell 6 rfl 2 rfl
        have fS:=H190.out.frozen 6 rfl 2
        have hV:Fr g l en w s174 [(b0,zN,TN),(b1,nCells x (.slice A x.kids.length c),TN),(b2,tkCs t,TTk),(W.heap.size,nCells x (.slice A x.kids.length c),TN),(V1.heap.size,zN,TN),(V18.heap.size,nCells v173 (.slice A181 v173.kids.length m182),TN),(V23.heap.size,nCells (.mk 11 [] []) (.slice A187 3 m188),TN)] [(v173,.slice A181 v173.kids.length m182),(v105,.slice A115 v105.kids.length m116),(ndNone,rNil),(x,.slice A x.kids.length c)] (.slice A187 3 m188) [(x,.slice A x.kids.length c),(v105,.slice A115 v105.kids.length m116),(v173,.slice A181 v173.kids.length m182)] (V186.setCell ⟨V23.heap.size,2,none⟩ (.slice A187 3 m188)):=H190.out.setC 6 rfl 2 _
        go_upto_region 14 with fail
        generalize V186.setCell ⟨V23.heap.size,2,none⟩ (.slice A187 3 m188)=V191 at *
        have H192:=hid hV
        clear hV cS fS
        have k193:=fun (W:World) (h:PrS g l en s174 W)=>syMust_any g l en s174 W tKrb h hl
        cases hx194:mustT l en tKrb s174 with
        | bad a m=>
         rw [hx194] at k193
         have R195:=hid (bind_bad R175.out hx194)
         have K196:=hid (show CB g l en s174 91 a m [.string ⟨#[93]⟩] from k193)
         clear k193 hx194
         go_wp2_with (go_at_call 91;with_reducible refine (K196.out _ H192.out.prs).mono ?_)
         rintro e V ⟨rfl,k⟩
         rw [R195.out]
         exact ⟨rfl,rfl,H192.out.pg.trans k⟩
        | ok u197 s198=>
         rw [hx194] at k193
         have R199:=hid (bind_of R175.out hx194)
         obtain ⟨a200,b201,c202,_⟩:=(must_ty E.fit tKrb s174).ok u197 s198 hx194
         have K203:=hid (show CO g l en s174 91 s198 (.tuple #[]) [.string ⟨#[93]⟩] from k193)
         clear k193 hx194
         go_wp2_with (go_at_call 91;with_reducible refine (K203.out _ H192.out.prs).mono ?_)
         rintro e V204 ⟨rfl,hp,hg⟩
         have H205:=hid (H192.out.kept hp hg)
         clear hp hg K203
         go_wp2_with (first
          | (with_reducible refine frL 6 H205.out ?_)
          | (with_reducible refine frS 4 (nCells (.mk 11 [] [x,v105,v173]) (.slice A187 3 m188)) H205.out ?_))
         intro V206 hV
         have H207:=hid hV
         clear hV
         go_wp2
         rw [R199.out]
         exact ret_n Tryz.results206 (k:=4) rfl H207.out (by with_unfolding_all rfl) rfl ⟨A187,m188,rfl,(H207.out.endRow (.mk 11 [] [x,v105,v173]) rfl).drop 3 (us:=[(.mk 11 [] [x,v105,v173],.slice A187 3 m188)]) (by simp)⟩
     ·skip
      have R208:=hid (slice_no R107.out hb123)
      have K209:=hid (tkN g en ⟨#[58]⟩ hb123)
      clear hb123
      go_wp2_with (go_at_call 88;with_reducible refine (K209.out _ H122.out.prs).mono ?_)
      rintro e V210 ⟨rfl,hp,hg⟩
      have H211:=hid (H122.out.kept hp hg)
      clear hp hg K209
      have k212:=fun (W:World) (h:PrS g l en s106 W)=>syMust_any g l en s106 W tKrb h hl
      cases hx213:mustT l en tKrb s106 with
      | bad a m=>
       rw [hx213] at k212
       have R214:=hid (bind_bad R208.out hx213)
       have K215:=hid (show CB g l en s106 91 a m [.string ⟨#[93]⟩] from k212)
       clear k212 hx213
       go_wp2_with (go_at_call 91;with_reducible refine (K215.out _ H211.out.prs).mono ?_)
       rintro e V ⟨rfl,k⟩
       rw [R214.out]
       exact ⟨rfl,rfl,H211.out.pg.trans k⟩
      | ok u216 s217=>
       rw [hx213] at k212
       have R218:=hid (bind_of R208.out hx213)
       obtain ⟨a219,b220,c221,_⟩:=(must_ty E.fit tKrb s106).ok u216 s217 hx213
       have K222:=hid (show CO g l en s106 91 s217 (.tuple #[]) [.string ⟨#[93]⟩] from k212)
       clear k212 hx213
       go_wp2_with (go_at_call 91;with_reducible refine (K222.out _ H211.out.prs).mono ?_)
       rintro e V223 ⟨rfl,hp,hg⟩
       have H224:=hid (H211.out.kept hp hg)
       clear hp hg K222
       go_wp2_with (first
        | (with_reducible refine frL 6 H224.out ?_)
        | (with_reducible refine frS 4 (nCells (.mk 10 [] [x,v105]) (.slice (some ⟨V114.heap.size,0,none⟩) 2 2)) H224.out ?_))
       intro V225 hV
       have H226:=hid hV
       clear hV
       go_wp2
       rw [R218.out]
       exact ret_n Tryz.results206 (k:=4) rfl H226.out (by with_unfolding_all rfl) rfl ⟨(some ⟨V114.heap.size,0,none⟩),2,rfl,(H226.out.endRow (.mk 10 [] [x,v105]) rfl).drop 3 (us:=[(.mk 10 [] [x,v105],.slice (some ⟨V114.heap.size,0,none⟩) 2 2)]) (by simp)⟩
end
end Go.Proofs.YtmbeicndhigklaaGreatDoor
