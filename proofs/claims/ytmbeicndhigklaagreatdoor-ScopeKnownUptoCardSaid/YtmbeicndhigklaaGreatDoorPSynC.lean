/-
The walks of the parser's alt, neg (chapter 15).
-/
import Derived.Test.YtmbeicndhigklaaGreatDoorPSynA
namespace Go.Proofs.YtmbeicndhigklaaGreatDoor
open Lib (hid)
open Go.RowKit
section
variable {numE:List UInt8→Nat} {g:Nat} {l:List Tk} {en:Nat} {R:Knot} {n:Nat}
set_option maxHeartbeats 4000000 in
set_option maxRecDepth 100000 in
theorem syAlt_any (E:Env numE g l en R n) (KO:∀(s:PT) (W:World),PrS g l en s W→s.at'≤l.length→l.length<n+1+s.at'→s.pipes≤600→Calls Tryz.prog 123 #[.pointer (some ⟨g,0,none⟩),.int .i64 1] W (ResN g l en W (opB numE l en R 6 s)))
  (s:PT) (w:World) (h:PrS g l en s w) (hs:s.at'≤l.length) (hm:l.length<n+1+s.at') (hp:s.pipes≤600) :
  Calls Tryz.prog 93 #[.pointer (some ⟨g,0,none⟩)] w (ResN g l en w (altB numE l en R s)):=by
 have hl:=E.len
 have KN:=hid (fun k t A n c W=>syNode_any k t A n c W)
 have KM:=hid (fun t W=>syNamed_any t W)
 have FD0:=fun a p t W=>fld0 a p t W
 have FD1:=fun a p t W=>fld1 a p t W
 have H0:=hid (Fr.start h)
 obtain ⟨r,hr⟩:∃r,r=altB numE l en R s:=⟨_,rfl⟩
 rw [←hr]
 unfold altB at hr
 have R0:=hid hr
 clear hr h
 go_enter Tryz.func93,Tryz.ntmps93
 go_wp2_with (with_reducible refine frA H0.out ?_)
 intro V1 hV
 have H2:=hid hV
 clear hV
 have k3:=fun (W:World) (h:PrS g l en s W)=>KO s W h hs hm hp
 cases hx4:opB numE l en R 6 s with
 | bad a m=>
  rw [hx4] at k3
  have R5:=hid (bind_bad R0.out hx4)
  have K6:=hid (show CB g l en s 123 a m [.int .i64 1] from k3)
  clear k3 hx4
  go_wp2_with (go_at_call 123;with_reducible refine (K6.out _ H2.out.prs).mono ?_)
  rintro e V ⟨rfl,k⟩
  rw [R5.out]
  exact ⟨rfl,rfl,H2.out.pg.trans k⟩
 | ok v7 s8=>
  rw [hx4] at k3
  have R9:=hid (bind_of R0.out hx4)
  obtain ⟨a10,b11,c12,_⟩:=(op_ty E.fit E.ok 6 (Nat.le_refl _) s hs hm).ok v7 s8 hx4
  have K13:=hid (show CN g l en s 123 s8 v7 [.int .i64 1] from k3)
  clear k3 hx4
  go_wp2_with (go_at_call 123;with_reducible refine (K13.out _ H2.out.prs).mono ?_)
  rintro e V14 ⟨kv,rfl,hx,hp,hg⟩
  obtain ⟨A15,m16,rfl⟩:=hx.slice
  have H17:=hid (H2.out.tree hp hg hx)
  clear hx hp hg
  clear K13
  go_wp2_with (with_reducible refine frA H17.out ?_)
  intro V18 hV
  have H19:=hid hV
  clear hV
  go_wp2_with (with_reducible refine frS 1 (nCells v7 (.slice A15 v7.kids.length m16)) H19.out ?_)
  intro V20 hV
  have H21:=hid hV
  clear hV
  by_cases hb22:isT l tAlt s8.at'=true
  ·skip
   obtain ⟨s23,hs24⟩:∃s',s'=nextT s8:=⟨_,rfl⟩
   have lt26:=isT_lt hb22
   have a27:s23.at'=s8.at'+1:=by rw [hs24];rfl
   have p28:s23.pipes=s8.pipes:=by rw [hs24];rfl
   have R25:=hid (hs24▸ite_yes R9.out hb22)
   have K29:=hid (tkY g en ⟨#[47,47]⟩ hs24 hl hb22)
   clear hb22 hs24
   go_wp2_with (go_at_call 88;with_reducible refine (K29.out _ H21.out.prs).mono ?_)
   rintro e V30 ⟨rfl,hp,hg⟩
   have H31:=hid (H21.out.kept hp hg)
   clear hp hg K29
   have k32:=fun (W:World) (h:PrS g l en s23 W)=>E.walk.alt s23 W h (by omega) (by omega) (by omega)
   cases hx33:R.alt s23 with
   | bad a m=>
    rw [hx33] at k32
    have R34:=hid (bind_bad R25.out hx33)
    have K35:=hid (show CB g l en s23 93 a m [] from k32)
    clear k32 hx33
    go_upto_region 3 with fail
    refine wp_region_s 5 (BoxS [(w.heap.size,zN,TN),(V14.heap.size,nCells v7 (.slice A15 v7.kids.length m16),TN)]) (by kernel_rfl) H31.out.drew.boxS (fun hS0=>?_)
    have H36:=hid H31.out.drew
    generalize V30.drew=V37 at *
    refine tk 0 (.agg (nCells v7 (.slice A15 v7.kids.length m16)).toArray) [3,4,5] hS0 ?_ (y:=yields_ld threeN (by kernel_rfl) _ rfl 1 (b:=(V14.heap.size,nCells v7 (.slice A15 v7.kids.length m16),TN)) rfl rfl rfl)
    refine tk 1 (.pointer (some ⟨g,0,none⟩)) [2,3,4,5] hS0 ?_
    refine st 2 fun K hK=>?_
    go_simp
    go_at_call 93
    with_reducible refine (K35.out _ H36.out.prs).mono ?_
    rintro e V ⟨rfl,k⟩
    rw [R34.out]
    exact ⟨rfl,rfl,H36.out.pg.trans k⟩
   | ok v38 s39=>
    rw [hx33] at k32
    have R40:=hid (bind_of R25.out hx33)
    obtain ⟨a41,b42,c43,_⟩:=(E.ok.alt s23 (by omega) (by omega)).ok v38 s39 hx33
    have K44:=hid (show CN g l en s23 93 s39 v38 [] from k32)
    clear k32 hx33
    go_upto_region 3 with fail
    refine wp_region_s 5 (BoxS [(w.heap.size,zN,TN),(V14.heap.size,nCells v7 (.slice A15 v7.kids.length m16),TN)]) (by kernel_rfl) H31.out.drew.boxS (fun hS0=>?_)
    have H45:=hid H31.out.drew
    generalize V30.drew=V46 at *
    refine tk 0 (.agg (nCells v7 (.slice A15 v7.kids.length m16)).toArray) [3,4,5] hS0 ?_ (y:=yields_ld threeN (by kernel_rfl) _ rfl 1 (b:=(V14.heap.size,nCells v7 (.slice A15 v7.kids.length m16),TN)) rfl rfl rfl)
    refine tk 1 (.pointer (some ⟨g,0,none⟩)) [2,3,4,5] hS0 ?_
    refine st 2 fun K hK=>?_
    go_simp
    go_at_call 93
    with_reducible refine (K44.out _ H45.out.prs).mono ?_
    rintro e V47 ⟨kv,rfl,hx,hp,hg⟩
    obtain ⟨A48,m49,rfl⟩:=hx.slice
    have H50:=hid (H45.out.tree hp hg hx)
    clear hx hp hg
    clear K44
    try dsimp only
    refine hK.out _ _ (fun _=>H50.out.boxS) (fun _=>?_)
    clear hK K
    refine st 3 fun K hK=>?_
    simp only [nAgg,nCells]
    go_simp
    have H51:=hid (H50.out.row [(v7,.slice A15 v7.kids.length m16),(v38,.slice A48 v38.kids.length m49)] 2 rfl (by simp) (by decide) (.mk 17 tAlt [v7,v38]) rfl)
    refine hK.out _ _ (fun _=>H51.out.boxS) (fun _=>?_)
    clear hK K
    refine st 4 fun K hK=>?_
    go_simp
    go_at_call 92
    with_reducible refine (KN.out _ _ _ _ _ _).mono ?_
    rintro e V52 ⟨rfl,hb⟩
    have H53:=hid (H51.out.below hb)
    clear hb
    try dsimp only
    refine hK.out _ _ (fun _=>H53.out.boxS) (fun _=>?_)
    clear hK K
    refine st 5 fun K hK=>?_
    rw [if_pos (by kernel_rfl)]
    with_reducible refine fr_wpStore threeN _ _ (by with_unfolding_all rfl) 1 rfl (nCells (.mk 17 tAlt [v7,v38]) (.slice (some ⟨V47.heap.size,0,none⟩) 2 2)) (by with_unfolding_all rfl) (by with_unfolding_all rfl) rfl (n_one _ _ _ _) H53.out ?_
    intro V54 hV
    have H55:=hid hV
    clear hV
    refine hK.out _ _ (fun h=>absurd rfl h) (fun _=>?_)
    clear hK K
    refine wpAnyS_done (by kernel_rfl) ?_ _
    go_wp2_with (first
     | (with_reducible refine frL 1 H55.out ?_)
     | (with_reducible refine frS 0 (nCells (.mk 17 tAlt [v7,v38]) (.slice (some ⟨V47.heap.size,0,none⟩) 2 2)) H55.out ?_))
    intro V56 hV
    have H57:=hid hV
    clear hV
    go_wp2
    rw [R40.out]
    exact ret_n Tryz.results93 (k:=0) rfl H57.out (by with_unfolding_all rfl) rfl ⟨_,rfl,H57.out.give (by simp),H57.out.prs,H57.out.pg⟩
  ·skip
   have R58:=hid (ite_no R9.out hb22)
   have K59:=hid (tkN g en ⟨#[47,47]⟩ hb22)
   clear hb22
   go_wp2_with (go_at_call 88;with_reducible refine (K59.out _ H21.out.prs).mono ?_)
   rintro e V60 ⟨rfl,hp,hg⟩
   have H61:=hid (H21.out.kept hp hg)
   clear hp hg K59
   go_wp2_with (first
    | (with_reducible refine frL 1 H61.out ?_)
    | (with_reducible refine frS 0 (nCells v7 (.slice A15 v7.kids.length m16)) H61.out ?_))
   intro V62 hV
   have H63:=hid hV
   clear hV
   go_wp2
   rw [R58.out]
   exact ret_n Tryz.results93 (k:=0) rfl H63.out (by with_unfolding_all rfl) rfl ⟨_,rfl,H63.out.give (by simp),H63.out.prs,H63.out.pg⟩
set_option maxHeartbeats 4000000 in
set_option maxRecDepth 100000 in
theorem syNeg_any (E:Env numE g l en R n) (KP:∀(s:PT) (W:World),PrS g l en s W→s.at'≤l.length→l.length<n+1+s.at'→s.pipes≤600→Calls Tryz.prog 174 #[.pointer (some ⟨g,0,none⟩)] W (ResN g l en W (postB numE l en R s)))
  (s:PT) (w:World) (h:PrS g l en s w) (hs:s.at'≤l.length) (hm:l.length<n+1+s.at') (hp:s.pipes≤600) :
  Calls Tryz.prog 149 #[.pointer (some ⟨g,0,none⟩)] w (ResN g l en w (negB numE l en R s)):=by
 have hl:=E.len
 have KN:=hid (fun k t A n c W=>syNode_any k t A n c W)
 have KM:=hid (fun t W=>syNamed_any t W)
 have FD0:=fun a p t W=>fld0 a p t W
 have FD1:=fun a p t W=>fld1 a p t W
 have H0:=hid (Fr.start h)
 obtain ⟨r,hr⟩:∃r,r=negB numE l en R s:=⟨_,rfl⟩
 rw [←hr]
 unfold negB at hr
 have R0:=hid hr
 clear hr h
 go_enter Tryz.func149,Tryz.ntmps149
 go_wp2_with (with_reducible refine frA H0.out ?_)
 intro V1 hV
 have H2:=hid hV
 clear hV
 by_cases hb3:isT l tMinus s.at'=true
 ·skip
  obtain ⟨s4,hs5⟩:∃s',s'=nextT s:=⟨_,rfl⟩
  have lt7:=isT_lt hb3
  have a8:s4.at'=s.at'+1:=by rw [hs5];rfl
  have p9:s4.pipes=s.pipes:=by rw [hs5];rfl
  have R6:=hid (hs5▸ite_yes R0.out hb3)
  have K10:=hid (tkY g en ⟨#[45]⟩ hs5 hl hb3)
  clear hb3 hs5
  go_wp2_with (go_at_call 88;with_reducible refine (K10.out _ H2.out.prs).mono ?_)
  rintro e V11 ⟨rfl,hp,hg⟩
  have H12:=hid (H2.out.kept hp hg)
  clear hp hg K10
  have k13:=fun (W:World) (h:PrS g l en s4 W)=>E.walk.neg s4 W h (by omega) (by omega) (by omega)
  cases hx14:R.neg s4 with
  | bad a m=>
   rw [hx14] at k13
   have R15:=hid (bind_bad R6.out hx14)
   have K16:=hid (show CB g l en s4 149 a m [] from k13)
   clear k13 hx14
   go_wp2_with (go_at_call 149;with_reducible refine (K16.out _ H12.out.prs).mono ?_)
   rintro e V ⟨rfl,k⟩
   rw [R15.out]
   exact ⟨rfl,rfl,H12.out.pg.trans k⟩
  | ok v17 s18=>
   rw [hx14] at k13
   have R19:=hid (bind_of R6.out hx14)
   obtain ⟨a20,b21,c22,_⟩:=(E.ok.neg s4 (by omega) (by omega)).ok v17 s18 hx14
   have K23:=hid (show CN g l en s4 149 s18 v17 [] from k13)
   clear k13 hx14
   go_wp2_with (go_at_call 149;with_reducible refine (K23.out _ H12.out.prs).mono ?_)
   rintro e V24 ⟨kv,rfl,hx,hp,hg⟩
   obtain ⟨A25,m26,rfl⟩:=hx.slice
   have H27:=hid (H12.out.tree hp hg hx)
   clear hx hp hg
   clear K23
   simp only [nAgg]
   have H28:=hid (H27.out.row [(v17,.slice A25 v17.kids.length m26)] 1 rfl (by simp) (by decide) (.mk 14 [] [v17]) rfl)
   go_wp2_with (go_at_call 92;with_reducible refine (KN.out _ _ _ _ _ _).mono ?_)
   rintro e V29 ⟨rfl,hb⟩
   have H30:=hid (H28.out.below hb)
   clear hb
   go_wp2_with (with_reducible refine frS 0 (nCells (.mk 14 [] [v17]) (.slice (some ⟨V24.heap.size,0,none⟩) 1 1)) H30.out ?_)
   intro V31 hV
   have H32:=hid hV
   clear hV
   go_wp2
   rw [R19.out]
   exact ret_n Tryz.results149 (k:=0) rfl H32.out (by with_unfolding_all rfl) rfl ⟨_,rfl,H32.out.give (by simp),H32.out.prs,H32.out.pg⟩
 ·skip
  have R33:=hid (ite_no R0.out hb3)
  have K34:=hid (tkN g en ⟨#[45]⟩ hb3)
  clear hb3
  go_wp2_with (go_at_call 88;with_reducible refine (K34.out _ H2.out.prs).mono ?_)
  rintro e V35 ⟨rfl,hp,hg⟩
  have H36:=hid (H2.out.kept hp hg)
  clear hp hg K34
  have k37:=fun (W:World) (h:PrS g l en s W)=>KP s W h hs hm hp
  cases hx38:postB numE l en R s with
  | bad a m=>
   rw [hx38] at k37
   have R39:=hid (bind_bad R33.out hx38)
   have K40:=hid (show CB g l en s 174 a m [] from k37)
   clear k37 hx38
   go_wp2_with (go_at_call 174;with_reducible refine (K40.out _ H36.out.prs).mono ?_)
   rintro e V ⟨rfl,k⟩
   rw [R39.out]
   exact ⟨rfl,rfl,H36.out.pg.trans k⟩
  | ok v41 s42=>
   rw [hx38] at k37
   have R43:=hid (bind_of R33.out hx38)
   obtain ⟨a44,b45,c46,_⟩:=(post_ty E.fit E.ok s hs hm).ok v41 s42 hx38
   have K47:=hid (show CN g l en s 174 s42 v41 [] from k37)
   clear k37 hx38
   go_wp2_with (go_at_call 174;with_reducible refine (K47.out _ H36.out.prs).mono ?_)
   rintro e V48 ⟨kv,rfl,hx,hp,hg⟩
   obtain ⟨A49,m50,rfl⟩:=hx.slice
   have H51:=hid (H36.out.tree hp hg hx)
   clear hx hp hg
   clear K47
   go_wp2_with (with_reducible refine frA H51.out ?_)
   intro V52 hV
   have H53:=hid hV
   clear hV
   go_wp2_with (with_reducible refine frS 1 (nCells v41 (.slice A49 v41.kids.length m50)) H53.out ?_)
   intro V54 hV
   have H55:=hid hV
   clear hV
   by_cases hb56:isT l tAs s42.at'=true
   ·skip
    obtain ⟨s57,hs58⟩:∃s',s'=nextT s42:=⟨_,rfl⟩
    have lt60:=isT_lt hb56
    have a61:s57.at'=s42.at'+1:=by rw [hs58];rfl
    have p62:s57.pipes=s42.pipes:=by rw [hs58];rfl
    have R59:=hid (hs58▸ite_yes R43.out hb56)
    have K63:=hid (tkY g en ⟨#[97,115]⟩ hs58 hl hb56)
    clear hb56 hs58
    go_wp2_with (go_at_call 88;with_reducible refine (K63.out _ H55.out.prs).mono ?_)
    rintro e V64 ⟨rfl,hp,hg⟩
    have H65:=hid (H55.out.kept hp hg)
    clear hp hg K63
    have k66:=fun (W:World) (h:PrS g l en s57 W)=>E.walk.pat s57 W h (by omega) (by omega) (by omega)
    cases hx67:R.pat s57 with
    | bad a m=>
     rw [hx67] at k66
     have R68:=hid (bind_bad R59.out hx67)
     have K69:=hid (show CB g l en s57 175 a m [] from k66)
     clear k66 hx67
     go_wp2_with (go_at_call 175;with_reducible refine (K69.out _ H65.out.prs).mono ?_)
     rintro e V ⟨rfl,k⟩
     rw [R68.out]
     exact ⟨rfl,rfl,H65.out.pg.trans k⟩
    | ok v70 s71=>
     rw [hx67] at k66
     have R72:=hid (bind_of R59.out hx67)
     obtain ⟨a73,b74,c75,_⟩:=(E.ok.pat s57 (by omega) (by omega)).ok v70 s71 hx67
     have K76:=hid (show CN g l en s57 175 s71 v70 [] from k66)
     clear k66 hx67
     go_wp2_with (go_at_call 175;with_reducible refine (K76.out _ H65.out.prs).mono ?_)
     rintro e V77 ⟨kv,rfl,hx,hp,hg⟩
     obtain ⟨A78,m79,rfl⟩:=hx.slice
     have H80:=hid (H65.out.tree hp hg hx)
     clear hx hp hg
     clear K76
     go_wp2_with (with_reducible refine frA H80.out ?_)
     intro V81 hV
     have H82:=hid hV
     clear hV
     go_wp2_with (with_reducible refine frS 2 (nCells v70 (.slice A78 v70.kids.length m79)) H82.out ?_)
     intro V83 hV
     have H84:=hid hV
     clear hV
     have k85:=fun (W:World) (h:PrS g l en s71 W)=>syMust_any g l en s71 W tBar h hl
     cases hx86:mustT l en tBar s71 with
     | bad a m=>
      rw [hx86] at k85
      have R87:=hid (bind_bad R72.out hx86)
      have K88:=hid (show CB g l en s71 91 a m [.string ⟨#[124]⟩] from k85)
      clear k85 hx86
      go_wp2_with (go_at_call 91;with_reducible refine (K88.out _ H84.out.prs).mono ?_)
      rintro e V ⟨rfl,k⟩
      rw [R87.out]
      exact ⟨rfl,rfl,H84.out.pg.trans k⟩
     | ok u89 s90=>
      rw [hx86] at k85
      have R91:=hid (bind_of R72.out hx86)
      obtain ⟨a92,b93,c94,_⟩:=(must_ty E.fit tBar s71).ok u89 s90 hx86
      have K95:=hid (show CO g l en s71 91 s90 (.tuple #[]) [.string ⟨#[124]⟩] from k85)
      clear k85 hx86
      go_wp2_with (go_at_call 91;with_reducible refine (K95.out _ H84.out.prs).mono ?_)
      rintro e V96 ⟨rfl,hp,hg⟩
      have H97:=hid (H84.out.kept hp hg)
      clear hp hg K95
      have k98:=fun (W:World) (h:PrS g l en s90 W)=>E.walk.pipe s90 W h (by omega) (by omega) (by omega)
      cases hx99:R.pipe s90 with
      | bad a m=>
       rw [hx99] at k98
       have R100:=hid (bind_bad R91.out hx99)
       have K101:=hid (show CB g l en s90 28 a m [] from k98)
       clear k98 hx99
       go_upto_region 7 with fail
       refine wp_region_s 6 (BoxS [(w.heap.size,zN,TN),(V48.heap.size,nCells v41 (.slice A49 v41.kids.length m50),TN),(V77.heap.size,nCells v70 (.slice A78 v70.kids.length m79),TN)]) (by kernel_rfl) H97.out.drew.boxS (fun hS0=>?_)
       have H102:=hid H97.out.drew
       generalize V96.drew=V103 at *
       refine tk 0 (.agg (nCells v41 (.slice A49 v41.kids.length m50)).toArray) [4,5,6] hS0 ?_ (y:=yields_ld threeN (by kernel_rfl) _ rfl 1 (b:=(V48.heap.size,nCells v41 (.slice A49 v41.kids.length m50),TN)) rfl rfl rfl)
       refine tk 1 (.agg (nCells v70 (.slice A78 v70.kids.length m79)).toArray) [4,5,6] hS0 ?_ (y:=yields_ld threeN (by kernel_rfl) _ rfl 2 (b:=(V77.heap.size,nCells v70 (.slice A78 v70.kids.length m79),TN)) rfl rfl rfl)
       refine tk 2 (.pointer (some ⟨g,0,none⟩)) [3,4,5,6] hS0 ?_
       refine st 3 fun K hK=>?_
       go_simp
       go_at_call 28
       with_reducible refine (K101.out _ H102.out.prs).mono ?_
       rintro e V ⟨rfl,k⟩
       rw [R100.out]
       exact ⟨rfl,rfl,H102.out.pg.trans k⟩
      | ok v104 s105=>
       rw [hx99] at k98
       have R106:=hid (bind_of R91.out hx99)
       obtain ⟨a107,b108,c109,_⟩:=(E.ok.pipe s90 (by omega) (by omega)).ok v104 s105 hx99
       have K110:=hid (show CN g l en s90 28 s105 v104 [] from k98)
       clear k98 hx99
       go_upto_region 7 with fail
       refine wp_region_s 6 (BoxS [(w.heap.size,zN,TN),(V48.heap.size,nCells v41 (.slice A49 v41.kids.length m50),TN),(V77.heap.size,nCells v70 (.slice A78 v70.kids.length m79),TN)]) (by kernel_rfl) H97.out.drew.boxS (fun hS0=>?_)
       have H111:=hid H97.out.drew
       generalize V96.drew=V112 at *
       refine tk 0 (.agg (nCells v41 (.slice A49 v41.kids.length m50)).toArray) [4,5,6] hS0 ?_ (y:=yields_ld threeN (by kernel_rfl) _ rfl 1 (b:=(V48.heap.size,nCells v41 (.slice A49 v41.kids.length m50),TN)) rfl rfl rfl)
       refine tk 1 (.agg (nCells v70 (.slice A78 v70.kids.length m79)).toArray) [4,5,6] hS0 ?_ (y:=yields_ld threeN (by kernel_rfl) _ rfl 2 (b:=(V77.heap.size,nCells v70 (.slice A78 v70.kids.length m79),TN)) rfl rfl rfl)
       refine tk 2 (.pointer (some ⟨g,0,none⟩)) [3,4,5,6] hS0 ?_
       refine st 3 fun K hK=>?_
       go_simp
       go_at_call 28
       with_reducible refine (K110.out _ H111.out.prs).mono ?_
       rintro e V113 ⟨kv,rfl,hx,hp,hg⟩
       obtain ⟨A114,m115,rfl⟩:=hx.slice
       have H116:=hid (H111.out.tree hp hg hx)
       clear hx hp hg
       clear K110
       try dsimp only
       refine hK.out _ _ (fun _=>H116.out.boxS) (fun _=>?_)
       clear hK K
       refine st 4 fun K hK=>?_
       simp only [nAgg,nCells]
       go_simp
       have H117:=hid (H116.out.row [(v41,.slice A49 v41.kids.length m50),(v70,.slice A78 v70.kids.length m79),(v104,.slice A114 v104.kids.length m115)] 3 rfl (by simp) (by decide) (.mk 23 [] [v41,v70,v104]) rfl)
       refine hK.out _ _ (fun _=>H117.out.boxS) (fun _=>?_)
       clear hK K
       refine st 5 fun K hK=>?_
       go_simp
       go_at_call 92
       with_reducible refine (KN.out _ _ _ _ _ _).mono ?_
       rintro e V118 ⟨rfl,hb⟩
       have H119:=hid (H117.out.below hb)
       clear hb
       try dsimp only
       refine hK.out _ _ (fun _=>H119.out.boxS) (fun _=>?_)
       clear hK K
       refine st 6 fun K hK=>?_
       rw [if_pos (by kernel_rfl)]
       with_reducible refine fr_wpStore threeN _ _ (by with_unfolding_all rfl) 1 rfl (nCells (.mk 23 [] [v41,v70,v104]) (.slice (some ⟨V113.heap.size,0,none⟩) 3 3)) (by with_unfolding_all rfl) (by with_unfolding_all rfl) rfl (n_one _ _ _ _) H119.out ?_
       intro V120 hV
       have H121:=hid hV
       clear hV
       refine hK.out _ _ (fun h=>absurd rfl h) (fun _=>?_)
       clear hK K
       refine wpAnyS_done (by kernel_rfl) ?_ _
       go_wp2_with (first
        | (with_reducible refine frL 1 H121.out ?_)
        | (with_reducible refine frS 0 (nCells (.mk 23 [] [v41,v70,v104]) (.slice (some ⟨V113.heap.size,0,none⟩) 3 3)) H121.out ?_))
       intro V122 hV
       have H123:=hid hV
       clear hV
       go_wp2
       rw [R106.out]
       exact ret_n Tryz.results149 (k:=0) rfl H123.out (by with_unfolding_all rfl) rfl ⟨_,rfl,H123.out.give (by simp),H123.out.prs,H123.out.pg⟩
   ·skip
    have R124:=hid (ite_no R43.out hb56)
    have K125:=hid (tkN g en ⟨#[97,115]⟩ hb56)
    clear hb56
    go_wp2_with (go_at_call 88;with_reducible refine (K125.out _ H55.out.prs).mono ?_)
    rintro e V126 ⟨rfl,hp,hg⟩
    have H127:=hid (H55.out.kept hp hg)
    clear hp hg K125
    go_wp2_with (first
     | (with_reducible refine frL 1 H127.out ?_)
     | (with_reducible refine frS 0 (nCells v41 (.slice A49 v41.kids.length m50)) H127.out ?_))
    intro V128 hV
    have H129:=hid hV
    clear hV
    go_wp2
    rw [R124.out]
    exact ret_n Tryz.results149 (k:=0) rfl H129.out (by with_unfolding_all rfl) rfl ⟨_,rfl,H129.out.give (by simp),H129.out.prs,H129.out.pg⟩
set_option maxHeartbeats 4000000 in
set_option maxRecDepth 100000 in
theorem syOp_zero (E:Env numE g l en R n) (KG:∀(s:PT) (W:World),PrS g l en s W→s.at'≤l.length→l.length<n+1+s.at'→s.pipes≤600→Calls Tryz.prog 149 #[.pointer (some ⟨g,0,none⟩)] W (ResN g l en W (negB numE l en R s)))
  (s:PT) (w:World) (h:PrS g l en s w) (hs:s.at'≤l.length) (hm:l.length<n+1+s.at') (hp:s.pipes≤600) :
  Calls Tryz.prog 123 #[.pointer (some ⟨g,0,none⟩),.int .i64 7] w (ResN g l en w (opB numE l en R 0 s)):=by
 have hl:=E.len
 have KN:=hid (fun k t A n c W=>syNode_any k t A n c W)
 have KM:=hid (fun t W=>syNamed_any t W)
 have FD0:=fun a p t W=>fld0 a p t W
 have FD1:=fun a p t W=>fld1 a p t W
 have H0:=hid (Fr.start h)
 obtain ⟨r,hr⟩:∃r,r=opB numE l en R 0 s:=⟨_,rfl⟩
 rw [←hr]
 have R0:=hid (show r=negB numE l en R s from hr)
 clear hr h
 go_enter Tryz.func123,Tryz.ntmps123
 go_wp2_with (with_reducible refine frA H0.out ?_)
 intro V1 hV
 have H2:=hid hV
 clear hV
 have k3:=fun (W:World) (h:PrS g l en s W)=>KG s W h hs hm hp
 cases hx4:negB numE l en R s with
 | bad a m=>
  rw [hx4] at k3
  have R5:=hid (R0.out.trans hx4)
  have K6:=hid (show CB g l en s 149 a m [] from k3)
  clear k3 hx4
  go_wp2_with (go_at_call 149;with_reducible refine (K6.out _ H2.out.prs).mono ?_)
  rintro e V ⟨rfl,k⟩
  rw [R5.out]
  exact ⟨rfl,rfl,H2.out.pg.trans k⟩
 | ok v7 s8=>
  rw [hx4] at k3
  have R9:=hid (R0.out.trans hx4)
  obtain ⟨a10,b11,c12,_⟩:=(neg_ty E.fit E.ok s hs hm).ok v7 s8 hx4
  have K13:=hid (show CN g l en s 149 s8 v7 [] from k3)
  clear k3 hx4
  go_wp2_with (go_at_call 149;with_reducible refine (K13.out _ H2.out.prs).mono ?_)
  rintro e V14 ⟨kv,rfl,hx,hp,hg⟩
  obtain ⟨A15,m16,rfl⟩:=hx.slice
  have H17:=hid (H2.out.tree hp hg hx)
  clear hx hp hg
  clear K13
  go_wp2_with (with_reducible refine frS 0 (nCells v7 (.slice A15 v7.kids.length m16)) H17.out ?_)
  intro V18 hV
  have H19:=hid hV
  clear hV
  go_wp2
  rw [R9.out]
  exact ret_n Tryz.results123 (k:=0) rfl H19.out (by with_unfolding_all rfl) rfl ⟨_,rfl,H19.out.give (by simp),H19.out.prs,H19.out.pg⟩
set_option maxHeartbeats 4000000 in
set_option maxRecDepth 100000 in
theorem syOp_succ (E:Env numE g l en R n) (s:PT) (w:World) (k:Nat) (hk:k+1≤6) (le:Int) (hle:le=((6-k:Nat):Int)) (KO:∀(s:PT) (W:World),PrS g l en s W→s.at'≤l.length→l.length<n+1+s.at'→s.pipes≤600→Calls Tryz.prog 123 #[.pointer (some ⟨g,0,none⟩),.int .i64 (le+1)] W (ResN g l en W (opB numE l en R k s)))
  (h:PrS g l en s w) (hs:s.at'≤l.length) (hm:l.length<n+1+s.at') (hp:s.pipes≤600) :
  Calls Tryz.prog 123 #[.pointer (some ⟨g,0,none⟩),.int .i64 le] w (ResN g l en w (opB numE l en R (k+1) s)):=by
 have hl:=E.len
 have KN:=hid (fun k t A n c W=>syNode_any k t A n c W)
 have KM:=hid (fun t W=>syNamed_any t W)
 have FD0:=fun a p t W=>fld0 a p t W
 have FD1:=fun a p t W=>fld1 a p t W
 have HLE:=hid hle
 have le1:1≤le:=by omega
 have le2:le≤6:=by omega
 clear hle
 have H0:=hid (Fr.start h)
 obtain ⟨r,hr⟩:∃r,r=opB numE l en R (k+1) s:=⟨_,rfl⟩
 rw [←hr]
 have R0:=hid (show r=(opB numE l en R k s).bind fun n s=>opF l (opB numE l en R k) (6-k) (l.length+1) n s from hr)
 clear hr h
 go_enter Tryz.func123,Tryz.ntmps123
 go_wp2_with (with_reducible refine frA H0.out ?_)
 intro V1 hV
 have H2:=hid hV
 clear hV
 have k3:=fun (W:World) (h:PrS g l en s W)=>KO s W h hs hm hp
 cases hx4:opB numE l en R k s with
 | bad a m=>
  rw [hx4] at k3
  have R5:=hid (bind_bad R0.out hx4)
  have K6:=hid (show CB g l en s 123 a m [.int .i64 (le+1)] from k3)
  clear k3 hx4
  go_wp2_with (go_at_call 123;with_reducible refine (K6.out _ H2.out.prs).mono ?_)
  rintro e V ⟨rfl,k⟩
  rw [R5.out]
  exact ⟨rfl,rfl,H2.out.pg.trans k⟩
 | ok v7 s8=>
  rw [hx4] at k3
  have R9:=hid (bind_of R0.out hx4)
  obtain ⟨a10,b11,c12,_⟩:=(op_ty E.fit E.ok k (by omega) s hs hm).ok v7 s8 hx4
  have K13:=hid (show CN g l en s 123 s8 v7 [.int .i64 (le+1)] from k3)
  clear k3 hx4
  go_wp2_with (go_at_call 123;with_reducible refine (K13.out _ H2.out.prs).mono ?_)
  rintro e V14 ⟨kv,rfl,hx,hp,hg⟩
  obtain ⟨A15,m16,rfl⟩:=hx.slice
  have H17:=hid (H2.out.tree hp hg hx)
  clear hx hp hg
  clear K13
  go_wp2_with (with_reducible refine frA H17.out ?_)
  intro V18 hV
  have H19:=hid hV
  clear hV
  go_wp2_with (with_reducible refine frS 1 (nCells v7 (.slice A15 v7.kids.length m16)) H19.out ?_)
  intro V20 hV
  have H21:=hid hV
  clear hV
  have hle2:IntKind.i64.wrap (le+1)=le+1:=by rw [IntKind.wrap_i64];omega
  have HW:=hid hle2
  clear hle2
  go_wp2
  go_loopg [] (l.length+1) (fun kx wr=>∃(s':PT) (f:Nat) (x:Nd) (A:Option Addr) (c:Nat),f≤kx∧s.at'<s'.at'∧s'.at'≤l.length∧s'.pipes=s.pipes∧l.length<f+s'.at'∧Fr g l en w s' [(w.heap.size,zN,TN),(V14.heap.size,nCells x (.slice A x.kids.length c),TN)] [(x,.slice A x.kids.length c)] rNil [] wr∧Hid (r=opF l (opB numE l en R k) (6-k) f x s'))
  case atStart=>exact ⟨s8,l.length+1,v7,_,_,Nat.le_refl _,by omega,by omega,by omega,by omega,H21.out,R9.out⟩
  case round=>
   obtain ⟨s',f,x,A,c,hfk,q1,q2,q3,q4,hF,hR⟩:=hrel
   obtain ⟨f,rfl⟩:∃k,f=k+1:=⟨f-1,by omega⟩
   have HF:=hid hF
   have RF:=hid (hR.out.trans (opF_succ l (opB numE l en R k) (6-k) f x s'))
   clear hF hR
   by_cases hst:(strT l s'.at').1=6-k
   ·skip
    obtain ⟨on,hon⟩:∃o,o=(strT l s'.at').2:=⟨_,rfl⟩
    obtain ⟨sg,hsg⟩:∃t,t=(dueT l s'.at').text:=⟨_,rfl⟩
    obtain ⟨s2,hs2⟩:∃s2,s2=nextT s':=⟨_,rfl⟩
    have lt2:=str_lt hst (by omega)
    have a2:s2.at'=s'.at'+1:=by rw [hs2];rfl
    have p2:s2.pipes=s'.pipes:=by rw [hs2];rfl
    have R2:=hid (show r=(opB numE l en R k s2).bind fun m s''=>if on=true then .ok (.mk 17 sg [x,m]) s'' else opF l (opB numE l en R k) (6-k) f (.mk 17 sg [x,m]) s'' by rw [hs2,hon,hsg];exact ite_yes RF.out hst)
    have K22:=hid (show CO g l en s' 150 s' (.tuple #[.int .i64 le,.bool on]) [] from fun W h=>by have h2:=syStr_any g l en s' W h;rw [hst,←hon] at h2;rw [HLE.out];exact h2)
    have K23:=hid (show CO g l en s' 122 s' (.agg #[.int .i64 ((dueT l s'.at').kind:Int),.string ⟨sg.toArray⟩,.int .i64 ((dueT l s'.at').pos:Int)]) [] from fun W h=>by rw [hsg];exact syDue_any g l en s' W h)
    have HS2:=hid hs2
    clear hst hon hsg hs2
    generalize ((dueT l s'.at').kind:Int)=tk1 at *
    generalize ((dueT l s'.at').pos:Int)=tk2 at *
    go_wp2_with (go_at_call 150;with_reducible refine (K22.out _ HF.out.prs).mono ?_)
    rintro e V24 ⟨rfl,hp,hg⟩
    have H25:=hid (HF.out.kept hp hg)
    clear hp hg K22
    go_wp2_with (go_at_call 122;with_reducible refine (K23.out _ H25.out.prs).mono ?_)
    rintro e V26 ⟨rfl,hp,hg⟩
    have H27:=hid (H25.out.kept hp hg)
    clear hp hg K23
    have c28:=H27.out.prs.c1
    have f29:=H27.out.prs.frozen 1
    have hn:=H27.out.next
    rw [←HS2.out] at hn
    have HN:=hid hn
    clear hn HS2
    have k30:=fun (W:World) (h:PrS g l en s2 W)=>KO s2 W h (by omega) (by omega) (by omega)
    cases hx31:opB numE l en R k s2 with
    | bad a m=>
     rw [hx31] at k30
     have R32:=hid (bind_bad R2.out hx31)
     have K33:=hid (show CB g l en s2 123 a m [.int .i64 (le+1)] from k30)
     clear k30 hx31
     go_upto_region 9 with fail
     generalize V26.setCell ⟨g,1,none⟩ (.int .i64 ((s'.at':Int)+1))=VN at *
     have hle2:=HW.out
     go_upto_region 9 with fail
     refine wp_region_s 8 (BoxS [(w.heap.size,zN,TN),(V14.heap.size,nCells x (.slice A x.kids.length c),TN)]) (by kernel_rfl) HN.out.drew.boxS (fun hS0=>?_)
     have H34:=hid HN.out.drew
     generalize VN.drew=V35 at *
     clear c28 f29
     refine tk 0 (.string ⟨sg.toArray⟩) [7,8] hS0 ?_
     refine tk 1 (.agg (nCells x (.slice A x.kids.length c)).toArray) [6,7,8] hS0 ?_ (y:=yields_ld threeN (by kernel_rfl) _ rfl 1 (b:=(V14.heap.size,nCells x (.slice A x.kids.length c),TN)) rfl rfl rfl)
     refine tk 2 (.pointer (some ⟨g,0,none⟩)) [5,6,7,8] hS0 ?_
     refine tk 3 (.int .i64 le) [4,5,6,7,8] hS0 ?_
     refine tk 4 (.int .i64 (le+1)) [5,6,7,8] hS0 ?_
     clear hle2
     refine st 5 fun K hK=>?_
     go_simp
     go_at_call 123
     with_reducible refine (K33.out _ H34.out.prs).mono ?_
     rintro e V ⟨rfl,k⟩
     rw [R32.out]
     exact ⟨rfl,rfl,H34.out.pg.trans k⟩
    | ok v36 s37=>
     rw [hx31] at k30
     have R38:=hid (bind_of R2.out hx31)
     obtain ⟨a39,b40,c41,_⟩:=(op_ty E.fit E.ok k (by omega) s2 (by omega) (by omega)).ok v36 s37 hx31
     have K42:=hid (show CN g l en s2 123 s37 v36 [.int .i64 (le+1)] from k30)
     clear k30 hx31
     go_upto_region 9 with fail
     generalize V26.setCell ⟨g,1,none⟩ (.int .i64 ((s'.at':Int)+1))=VN at *
     have hle2:=HW.out
     go_upto_region 9 with fail
     refine wp_region_s 8 (BoxS [(w.heap.size,zN,TN),(V14.heap.size,nCells x (.slice A x.kids.length c),TN)]) (by kernel_rfl) HN.out.drew.boxS (fun hS0=>?_)
     have H43:=hid HN.out.drew
     generalize VN.drew=V44 at *
     clear c28 f29
     refine tk 0 (.string ⟨sg.toArray⟩) [7,8] hS0 ?_
     refine tk 1 (.agg (nCells x (.slice A x.kids.length c)).toArray) [6,7,8] hS0 ?_ (y:=yields_ld threeN (by kernel_rfl) _ rfl 1 (b:=(V14.heap.size,nCells x (.slice A x.kids.length c),TN)) rfl rfl rfl)
     refine tk 2 (.pointer (some ⟨g,0,none⟩)) [5,6,7,8] hS0 ?_
     refine tk 3 (.int .i64 le) [4,5,6,7,8] hS0 ?_
     refine tk 4 (.int .i64 (le+1)) [5,6,7,8] hS0 ?_
     clear hle2
     refine st 5 fun K hK=>?_
     go_simp
     go_at_call 123
     with_reducible refine (K42.out _ H43.out.prs).mono ?_
     rintro e V45 ⟨kv,rfl,hx,hp,hg⟩
     obtain ⟨A46,m47,rfl⟩:=hx.slice
     have H48:=hid (H43.out.tree hp hg hx)
     clear hx hp hg
     clear K42
     try dsimp only
     refine hK.out _ _ (fun _=>H48.out.boxS) (fun _=>?_)
     clear hK K
     refine st 6 fun K hK=>?_
     simp only [nAgg,nCells]
     go_simp
     have H49:=hid (H48.out.row [(x,.slice A x.kids.length c),(v36,.slice A46 v36.kids.length m47)] 2 rfl (by simp) (by decide) (.mk 17 sg [x,v36]) rfl)
     refine hK.out _ _ (fun _=>H49.out.boxS) (fun _=>?_)
     clear hK K
     refine st 7 fun K hK=>?_
     go_simp
     go_at_call 92
     with_reducible refine (KN.out _ _ _ _ _ _).mono ?_
     rintro e V50 ⟨rfl,hb⟩
     have H51:=hid (H49.out.below hb)
     clear hb
     try dsimp only
     refine hK.out _ _ (fun _=>H51.out.boxS) (fun _=>?_)
     clear hK K
     refine st 8 fun K hK=>?_
     rw [if_pos (by kernel_rfl)]
     with_reducible refine fr_wpStore threeN _ _ (by with_unfolding_all rfl) 1 rfl (nCells (.mk 17 sg [x,v36]) (.slice (some ⟨V45.heap.size,0,none⟩) 2 2)) (by with_unfolding_all rfl) (by with_unfolding_all rfl) rfl (n_one _ _ _ _) H51.out ?_
     intro V52 hV
     have H53:=hid hV
     clear hV
     refine hK.out _ _ (fun h=>absurd rfl h) (fun _=>?_)
     clear hK K
     refine wpAnyS_done (by kernel_rfl) ?_ _
     cases on with
     | true=>
      have R54:=hid (ite_yes R38.out rfl)
      go_wp2_with (first
       | (with_reducible refine frL 1 H53.out ?_)
       | (with_reducible refine frS 0 (nCells (.mk 17 sg [x,v36]) (.slice (some ⟨V45.heap.size,0,none⟩) 2 2)) H53.out ?_))
      intro V55 hV
      have H56:=hid hV
      clear hV
      go_wp2
      rw [R54.out]
      exact ret_n Tryz.results123 (k:=0) rfl H56.out (by with_unfolding_all rfl) rfl ⟨_,rfl,H56.out.give (by simp),H56.out.prs,H56.out.pg⟩
     | false=>
      have R57:=hid (ite_no R38.out (by decide))
      go_wp2_with fail
      go_roundg f
      case measure=>omega
      case rel=>exact ⟨s37,f,.mk 17 sg [x,v36],(some ⟨V45.heap.size,0,none⟩),2,Nat.le_refl _,by omega,by omega,by omega,by omega,H53.out.drop 2 (by simp [Nd.kids]),R57.out⟩
   ·skip
    have R2:=hid (ite_no RF.out hst)
    have z1:((((strT l s'.at').1:Nat):Int) != le)=true:=by rw [HLE.out];simp;omega
    have K58:=hid (show CO g l en s' 150 s' (.tuple #[.int .i64 ((strT l s'.at').1:Int),.bool (strT l s'.at').2]) [] from fun W h=>syStr_any g l en s' W h)
    clear hst
    generalize (((strT l s'.at').1:Nat):Int)=lv at *
    generalize (strT l s'.at').2=on at *
    go_wp2_with (go_at_call 150;with_reducible refine (K58.out _ HF.out.prs).mono ?_)
    rintro e V59 ⟨rfl,hp,hg⟩
    have H60:=hid (HF.out.kept hp hg)
    clear hp hg K58
    go_wp2_with (first
     | (with_reducible refine frL 1 H60.out ?_)
     | (with_reducible refine frS 0 (nCells x (.slice A x.kids.length c)) H60.out ?_))
    intro V61 hV
    have H62:=hid hV
    clear hV
    go_wp2
    rw [R2.out]
    exact ret_n Tryz.results123 (k:=0) rfl H62.out (by with_unfolding_all rfl) rfl ⟨_,rfl,H62.out.give (by simp),H62.out.prs,H62.out.pg⟩
end
end Go.Proofs.YtmbeicndhigklaaGreatDoor
