/-
The walks of the parser's entry, signed (chapter 15).
-/
import Derived.Test.YtmbeicndhigklaaGreatDoorPSynG
namespace Go.Proofs.YtmbeicndhigklaaGreatDoor
open Lib (hid)
open Go.RowKit
section
variable {numE:List UInt8→Nat} {g:Nat} {l:List Tk} {en:Nat} {R:Knot} {n:Nat}
set_option maxHeartbeats 4000000 in
set_option maxRecDepth 100000 in
theorem syEntry_any (E:Env numE g l en R n) (s:PT) (w:World) (h:PrS g l en s w) (hs:s.at'≤l.length) (hm:l.length<n+1+s.at') (hp:s.pipes≤600) :
  Calls Tryz.prog 238 #[.pointer (some ⟨g,0,none⟩)] w (ResN g l en w (entryB l en R s)):=by
 have hl:=E.len
 have KN:=hid (fun k t A n c W=>syNode_any k t A n c W)
 have KM:=hid (fun t W=>syNamed_any t W)
 have FD0:=fun a p t W=>fld0 a p t W
 have FD1:=fun a p t W=>fld1 a p t W
 have H0:=hid (Fr.start h)
 obtain ⟨r,hr⟩:∃r,r=entryB l en R s:=⟨_,rfl⟩
 rw [←hr]
 unfold entryB at hr
 have R0:=hid hr
 clear hr h
 go_enter Tryz.func238,Tryz.ntmps238
 go_wp2_with (with_reducible refine frA H0.out ?_)
 intro V1 hV
 have H2:=hid hV
 clear hV
 obtain ⟨t3,ht4⟩:∃t,t=dueT l s.at':=⟨_,rfl⟩
 have K5:=hid (show CO g l en s 122 s (.agg #[.int .i64 (t3.kind:Int),.string ⟨t3.text.toArray⟩,.int .i64 (t3.pos:Int)]) [] from fun W h=>ht4▸syDue_any g l en s W h)
 have Dt3:=hid ht4
 clear ht4
 go_wp2_with (go_at_call 122;with_reducible refine (K5.out _ H2.out.prs).mono ?_)
 rintro e V6 ⟨rfl,hp,hg⟩
 have H7:=hid (H2.out.kept hp hg)
 clear hp hg K5
 go_wp2_with (with_reducible refine frAK H7.out ?_)
 intro V8 hV
 have H9:=hid hV
 clear hV
 go_wp2_with (with_reducible refine frSK 1 (tkCs t3) H9.out ?_)
 intro V10 hV
 have H11:=hid hV
 clear hV
 go_wp2_with (with_reducible refine frA H11.out ?_)
 intro V12 hV
 have H13:=hid hV
 clear hV
 go_wp2_with (with_reducible refine frA H13.out ?_)
 intro V14 hV
 have H15:=hid hV
 clear hV
 have q:=R0.out
 rw [←Dt3.out] at q
 have R16:=hid q
 clear q
 by_cases hk17:t3.kind=4
 ·skip
  have R18:=hid (ite_yes R16.out hk17)
  have nz19:t3.kind≠0:=by omega
  have c20:=H15.out.cell 1 rfl 0 rfl
  rw [hk17] at c20
  obtain ⟨s21,hs22⟩:∃z,z=nextT s:=⟨_,rfl⟩
  have lt24:=due_some (l:=l) (p:=s.at') (Dt3.out▸nz19)
  have a25:s21.at'=s.at'+1:=by rw [hs22];rfl
  have p26:s21.pipes=s.pipes:=by rw [hs22];rfl
  have R23:=hid (hs22▸R18.out)
  have c27:=H15.out.prs.c1
  have f28:=H15.out.prs.frozen 1
  have hn:=H15.out.next
  rw [←hs22] at hn
  have H29:=hid hn
  clear hn hs22
  go_upto_region 10 with fail
  generalize V14.setCell ⟨g,1,none⟩ (.int .i64 ((s.at':Int)+1))=V30 at *
  clear c20 c27 f28
  have H31:=hid (H29.out.leaf (.mk 24 t3.text []) rfl)
  go_upto_region 10 with fail
  refine wp_region_s 8 (BoxS [(w.heap.size,zN,TN),(V6.heap.size,tkCs t3,TTk),(V10.heap.size,zN,TN),(V12.heap.size,zN,TN)]) (by kernel_rfl) H31.out.drew.boxS (fun hS0=>?_)
  have H32:=hid H31.out.drew
  generalize V30.drew=V33 at *
  refine tk 0 (.pointer (some ⟨V6.heap.size,1,none⟩)) [1,2,6,7,8] hS0 ?_
  refine tk11 1 (.string ⟨t3.text.toArray⟩) [2,6,7,8] hS0 ?_
  refine tk 3 (.pointer (some ⟨V6.heap.size,1,none⟩)) [4,5,6,7,8] hS0 ?_
  refine tk11 4 (.string ⟨t3.text.toArray⟩) [5,6,7,8] hS0 ?_
  refine st 2 fun K hK=>?_
  go_simp
  go_at_call 203
  with_reducible refine (KM.out (t3.text) _).mono ?_
  rintro e V34 ⟨kv,rfl,hx,hb⟩
  obtain ⟨A35,m36,rfl⟩:=hx.slice
  have H37:=hid (H32.out.tree (H32.out.prs.below hb) (.of hb) hx)
  clear hx hb
  try dsimp only
  refine hK.out _ _ (fun _=>H37.out.boxS) (fun _=>?_)
  clear hK K
  refine st 5 fun K hK=>?_
  go_simp
  go_at_call 92
  with_reducible refine (KN.out _ _ _ _ _ _).mono ?_
  rintro e V38 ⟨rfl,hb⟩
  have H39:=hid (H37.out.below hb)
  clear hb
  try dsimp only
  refine hK.out _ _ (fun _=>H39.out.boxS) (fun _=>?_)
  clear hK K
  refine st 6 fun K hK=>?_
  simp only [nAgg]
  go_simp
  have H40:=hid (H39.out.row [(namedN (t3.text),.slice A35 (namedN (t3.text)).kids.length m36),(.mk 24 t3.text [],rNil)] 2 rfl (by simp) (by decide) (.mk 9 [] [namedN (t3.text),.mk 24 t3.text []]) rfl)
  refine hK.out _ _ (fun _=>H40.out.boxS) (fun _=>?_)
  clear hK K
  refine st 7 fun K hK=>?_
  go_simp
  go_at_call 92
  with_reducible refine (KN.out _ _ _ _ _ _).mono ?_
  rintro e V41 ⟨rfl,hb⟩
  have H42:=hid (H40.out.below hb)
  clear hb
  try dsimp only
  refine hK.out _ _ (fun _=>H42.out.boxS) (fun _=>?_)
  clear hK K
  refine st 8 fun K hK=>?_
  rw [if_pos (by kernel_rfl)]
  with_reducible refine fr_wpStore threeN _ _ (by with_unfolding_all rfl) 0 rfl (nCells (.mk 9 [] [namedN (t3.text),.mk 24 t3.text []]) (.slice (some ⟨V38.heap.size,0,none⟩) 2 2)) (by with_unfolding_all rfl) (by with_unfolding_all rfl) rfl (n_one _ _ _ _) H42.out ?_
  intro V43 hV
  have H44:=hid hV
  clear hV
  refine hK.out _ _ (fun h=>absurd rfl h) (fun _=>?_)
  clear hK K
  refine wpAnyS_done (by kernel_rfl) ?_ _
  go_wp2
  rw [R23.out]
  exact ret_n Tryz.results238 (k:=0) rfl H44.out (by with_unfolding_all rfl) rfl ⟨_,rfl,H44.out.give (t:=(.mk 9 [] [namedN (t3.text),.mk 24 t3.text []])) (by simp),H44.out.prs,H44.out.pg⟩
 ·skip
  have R45:=hid (ite_no R16.out hk17)
  have z46:((t3.kind:Int)==4)=false:=beq_false_of_ne (by omega)
  by_cases hk47:t3.kind=2
  ·skip
   have R48:=hid (ite_yes R45.out hk47)
   have nz49:t3.kind≠0:=by omega
   have c50:=H15.out.cell 1 rfl 0 rfl
   rw [hk47] at c50
   obtain ⟨s51,hs52⟩:∃z,z=nextT s:=⟨_,rfl⟩
   have lt54:=due_some (l:=l) (p:=s.at') (Dt3.out▸nz49)
   have a55:s51.at'=s.at'+1:=by rw [hs52];rfl
   have p56:s51.pipes=s.pipes:=by rw [hs52];rfl
   have R53:=hid (hs52▸R48.out)
   have c57:=H15.out.prs.c1
   have f58:=H15.out.prs.frozen 1
   have hn:=H15.out.next
   rw [←hs52] at hn
   have H59:=hid hn
   clear hn hs52
   go_upto_region 13 with fail
   generalize V14.setCell ⟨g,1,none⟩ (.int .i64 ((s.at':Int)+1))=V60 at *
   clear c50 c57 f58
   have c61:=H59.out.cell 1 rfl 1 rfl
   go_wp2_with (go_at_call 203;with_reducible refine (KM.out (t3.text) _).mono ?_)
   rintro e V62 ⟨kv,rfl,hx,hb⟩
   obtain ⟨A63,m64,rfl⟩:=hx.slice
   have H65:=hid (H59.out.tree (H59.out.prs.below hb) (.of hb) hx)
   clear hx hb
   clear c61
   go_wp2_with (with_reducible refine frS 2 (nCells (namedN (t3.text)) (.slice A63 (namedN (t3.text)).kids.length m64)) H65.out ?_)
   intro V66 hV
   have H67:=hid hV
   clear hV
   have q:=R53.out
   unfold entryV at q
   have R68:=hid q
   clear q
   by_cases hb69:isT l tColon s51.at'=true
   ·skip
    obtain ⟨s70,hs71⟩:∃z,z=nextT s51:=⟨_,rfl⟩
    have lt73:=isT_lt hb69
    have a74:s70.at'=s51.at'+1:=by rw [hs71];rfl
    have p75:s70.pipes=s51.pipes:=by rw [hs71];rfl
    have R72:=hid (hs71▸ite_yes R68.out hb69)
    have K76:=hid (tkY g en ⟨#[58]⟩ hs71 hl hb69)
    clear hb69 hs71
    go_wp2_with (go_at_call 88;with_reducible refine (K76.out _ H67.out.prs).mono ?_)
    rintro e V77 ⟨rfl,hp,hg⟩
    have H78:=hid (H67.out.kept hp hg)
    clear hp hg K76
    have k79:=fun (W:World) (h:PrS g l en s70 W)=>E.walk.alt s70 W h (by omega) (by omega) (by omega)
    cases hx80:R.alt s70 with
    | bad a m=>
     rw [hx80] at k79
     have R81:=hid (bind_bad R72.out hx80)
     have K82:=hid (show CB g l en s70 93 a m [] from k79)
     clear k79 hx80
     go_wp2_with (go_at_call 93;with_reducible refine (K82.out _ H78.out.prs).mono ?_)
     rintro e V ⟨rfl,k⟩
     rw [R81.out]
     exact ⟨rfl,rfl,H78.out.pg.trans k⟩
    | ok v83 s84=>
     rw [hx80] at k79
     have R85:=hid (bind_of R72.out hx80)
     obtain ⟨a86,b87,c88,_⟩:=(E.ok.alt s70 (by omega) (by omega)).ok v83 s84 hx80
     have K89:=hid (show CN g l en s70 93 s84 v83 [] from k79)
     clear k79 hx80
     go_wp2_with (go_at_call 93;with_reducible refine (K89.out _ H78.out.prs).mono ?_)
     rintro e V90 ⟨kv,rfl,hx,hp,hg⟩
     obtain ⟨A91,m92,rfl⟩:=hx.slice
     have H93:=hid (H78.out.tree hp hg hx)
     clear hx hp hg
     clear K89
     go_wp2_with (with_reducible refine frS 3 (nCells v83 (.slice A91 v83.kids.length m92)) H93.out ?_)
     intro V94 hV
     have H95:=hid hV
     clear hV
     have H96:=hid (H95.out.row [((namedN (t3.text)),.slice A63 (namedN (t3.text)).kids.length m64),(v83,.slice A91 v83.kids.length m92)] 2 rfl (by simp) (by decide) (.mk 9 [] [(namedN (t3.text)),v83]) rfl)
     go_wp2_with (first
      | (with_reducible refine frL 2 H95.out ?_;dsimp only [nCells])
      | (with_reducible refine frL 3 H95.out ?_;dsimp only [nCells])
      | (go_at_call 92;with_reducible refine (KN.out _ _ _ _ _ _).mono ?_))
     rintro e V97 ⟨rfl,hb⟩
     have H98:=hid (H96.out.below (V:=V97) (by first | exact hb | (rw [World.size_alloc];exact hb)))
     clear hb
     go_wp2_with (with_reducible refine frS 0 (nCells (.mk 9 [] [(namedN (t3.text)),v83]) (.slice (some ⟨V94.heap.size,0,none⟩) 2 2)) H98.out ?_)
     intro V99 hV
     have H100:=hid hV
     clear hV
     go_wp2
     rw [R85.out]
     exact ret_n Tryz.results238 (k:=0) rfl H100.out (by with_unfolding_all rfl) rfl ⟨_,rfl,H100.out.give (t:=(.mk 9 [] [(namedN (t3.text)),v83])) (by simp),H100.out.prs,H100.out.pg⟩
   ·skip
    have R101:=hid (ite_no R68.out hb69)
    have K102:=hid (tkN g en ⟨#[58]⟩ hb69)
    clear hb69
    go_wp2_with (go_at_call 88;with_reducible refine (K102.out _ H67.out.prs).mono ?_)
    rintro e V103 ⟨rfl,hp,hg⟩
    have H104:=hid (H67.out.kept hp hg)
    clear hp hg K102
    have H105:=hid (H104.out.leaf (.mk 1 [] []) rfl)
    go_upto_region 18 with fail
    refine wp_region_s 4 (BoxS [(w.heap.size,zN,TN),(V6.heap.size,tkCs t3,TTk),(V10.heap.size,nCells (namedN (t3.text)) (.slice A63 (namedN (t3.text)).kids.length m64),TN),(V12.heap.size,zN,TN)]) (by kernel_rfl) H105.out.drew.boxS (fun hS0=>?_)
    have H106:=hid H105.out.drew
    generalize V103.drew=V107 at *
    refine tk 1 (.agg (nCells (namedN (t3.text)) (.slice A63 (namedN (t3.text)).kids.length m64)).toArray) [2,3,4] hS0 ?_ (y:=yields_ld threeN (by kernel_rfl) _ rfl 2 (b:=(V10.heap.size,nCells (namedN (t3.text)) (.slice A63 (namedN (t3.text)).kids.length m64),TN)) rfl rfl rfl)
    refine st 0 fun K hK=>?_
    go_simp
    go_at_call 92
    with_reducible refine (KN.out _ _ _ _ _ _).mono ?_
    rintro e V108 ⟨rfl,hb⟩
    have H109:=hid (H106.out.below hb)
    clear hb
    try dsimp only
    refine hK.out _ _ (fun _=>H109.out.boxS) (fun _=>?_)
    clear hK K
    refine st 2 fun K hK=>?_
    simp only [nAgg,nCells]
    go_simp
    have H110:=hid (H109.out.row [(.mk 1 [] [],rNil),((namedN (t3.text)),.slice A63 (namedN (t3.text)).kids.length m64)] 2 rfl (by simp) (by decide) (.mk 10 [] [.mk 1 [] [],(namedN (t3.text))]) rfl)
    refine hK.out _ _ (fun _=>H110.out.boxS) (fun _=>?_)
    clear hK K
    refine st 3 fun K hK=>?_
    go_simp
    go_at_call 92
    with_reducible refine (KN.out _ _ _ _ _ _).mono ?_
    rintro e V111 ⟨rfl,hb⟩
    have H112:=hid (H110.out.below hb)
    clear hb
    try dsimp only
    refine hK.out _ _ (fun _=>H112.out.boxS) (fun _=>?_)
    clear hK K
    refine st 4 fun K hK=>?_
    rw [if_pos (by kernel_rfl)]
    with_reducible refine fr_wpStore threeN _ _ (by with_unfolding_all rfl) 3 rfl (nCells (.mk 10 [] [.mk 1 [] [],(namedN (t3.text))]) (.slice (some ⟨V108.heap.size,0,none⟩) 2 2)) (by with_unfolding_all rfl) (by with_unfolding_all rfl) rfl (n_one _ _ _ _) H112.out ?_
    intro V113 hV
    have H114:=hid hV
    clear hV
    refine hK.out _ _ (fun h=>absurd rfl h) (fun _=>?_)
    clear hK K
    refine wpAnyS_done (by kernel_rfl) ?_ _
    have H115:=hid (H114.out.row [((namedN (t3.text)),.slice A63 (namedN (t3.text)).kids.length m64),(.mk 10 [] [.mk 1 [] [],(namedN (t3.text))],.slice (some ⟨V108.heap.size,0,none⟩) 2 2)] 2 rfl (by simp) (by decide) (.mk 9 [] [(namedN (t3.text)),.mk 10 [] [.mk 1 [] [],(namedN (t3.text))]]) rfl)
    go_wp2_with (first
     | (with_reducible refine frL 2 H114.out ?_;dsimp only [nCells])
     | (with_reducible refine frL 3 H114.out ?_;dsimp only [nCells])
     | (go_at_call 92;with_reducible refine (KN.out _ _ _ _ _ _).mono ?_))
    rintro e V116 ⟨rfl,hb⟩
    have H117:=hid (H115.out.below (V:=V116) (by first | exact hb | (rw [World.size_alloc];exact hb)))
    clear hb
    go_wp2_with (with_reducible refine frS 0 (nCells (.mk 9 [] [(namedN (t3.text)),.mk 10 [] [.mk 1 [] [],(namedN (t3.text))]]) (.slice (some ⟨V113.heap.size,0,none⟩) 2 2)) H117.out ?_)
    intro V118 hV
    have H119:=hid hV
    clear hV
    go_wp2
    rw [R101.out]
    exact ret_n Tryz.results238 (k:=0) rfl H119.out (by with_unfolding_all rfl) rfl ⟨_,rfl,H119.out.give (t:=(.mk 9 [] [(namedN (t3.text)),.mk 10 [] [.mk 1 [] [],(namedN (t3.text))]])) (by simp),H119.out.prs,H119.out.pg⟩
  ·skip
   have R120:=hid (ite_no R45.out hk47)
   have z121:((t3.kind:Int)==2)=false:=beq_false_of_ne (by omega)
   by_cases hk122:t3.kind=7
   ·skip
    have R123:=hid (ite_yes R120.out hk122)
    have nz124:t3.kind≠0:=by omega
    have c125:=H15.out.cell 1 rfl 0 rfl
    rw [hk122] at c125
    have k126:=fun (W:World) (h:PrS g l en s W)=>syText_any E [] s W h (by omega) (by omega) (by omega)
    cases hx127:textB l en R [] s with
    | bad a m=>
     rw [hx127] at k126
     have R128:=hid (bind_bad R123.out hx127)
     have K129:=hid (show CB g l en s 205 a m [.string ⟨#[]⟩] from k126)
     clear k126 hx127
     go_wp2_with (go_at_call 205;with_reducible refine (K129.out _ H15.out.prs).mono ?_)
     rintro e V ⟨rfl,k⟩
     rw [R128.out]
     exact ⟨rfl,rfl,H15.out.pg.trans k⟩
    | ok v130 s131=>
     rw [hx127] at k126
     have R132:=hid (bind_of R123.out hx127)
     obtain ⟨a133,b134,c135,_⟩:=(text_ty E.fit E.ok [] s (by omega) (by omega)).ok v130 s131 hx127
     have K136:=hid (show CN g l en s 205 s131 v130 [.string ⟨#[]⟩] from k126)
     clear k126 hx127
     go_wp2_with (go_at_call 205;with_reducible refine (K136.out _ H15.out.prs).mono ?_)
     rintro e V137 ⟨kv,rfl,hx,hp,hg⟩
     obtain ⟨A138,m139,rfl⟩:=hx.slice
     have H140:=hid (H15.out.tree hp hg hx)
     clear hx hp hg
     clear c125
     clear K136
     go_wp2_with (with_reducible refine frS 2 (nCells v130 (.slice A138 v130.kids.length m139)) H140.out ?_)
     intro V141 hV
     have H142:=hid hV
     clear hV
     have q:=R132.out
     unfold entryV at q
     have R143:=hid q
     clear q
     by_cases hb144:isT l tColon s131.at'=true
     ·skip
      obtain ⟨s145,hs146⟩:∃z,z=nextT s131:=⟨_,rfl⟩
      have lt148:=isT_lt hb144
      have a149:s145.at'=s131.at'+1:=by rw [hs146];rfl
      have p150:s145.pipes=s131.pipes:=by rw [hs146];rfl
      have R147:=hid (hs146▸ite_yes R143.out hb144)
      have K151:=hid (tkY g en ⟨#[58]⟩ hs146 hl hb144)
      clear hb144 hs146
      go_wp2_with (go_at_call 88;with_reducible refine (K151.out _ H142.out.prs).mono ?_)
      rintro e V152 ⟨rfl,hp,hg⟩
      have H153:=hid (H142.out.kept hp hg)
      clear hp hg K151
      have k154:=fun (W:World) (h:PrS g l en s145 W)=>E.walk.alt s145 W h (by omega) (by omega) (by omega)
      cases hx155:R.alt s145 with
      | bad a m=>
       rw [hx155] at k154
       have R156:=hid (bind_bad R147.out hx155)
       have K157:=hid (show CB g l en s145 93 a m [] from k154)
       clear k154 hx155
       go_wp2_with (go_at_call 93;with_reducible refine (K157.out _ H153.out.prs).mono ?_)
       rintro e V ⟨rfl,k⟩
       rw [R156.out]
       exact ⟨rfl,rfl,H153.out.pg.trans k⟩
      | ok v158 s159=>
       rw [hx155] at k154
       have R160:=hid (bind_of R147.out hx155)
       obtain ⟨a161,b162,c163,_⟩:=(E.ok.alt s145 (by omega) (by omega)).ok v158 s159 hx155
       have K164:=hid (show CN g l en s145 93 s159 v158 [] from k154)
       clear k154 hx155
       go_wp2_with (go_at_call 93;with_reducible refine (K164.out _ H153.out.prs).mono ?_)
       rintro e V165 ⟨kv,rfl,hx,hp,hg⟩
       obtain ⟨A166,m167,rfl⟩:=hx.slice
       have H168:=hid (H153.out.tree hp hg hx)
       clear hx hp hg
       clear K164
       go_wp2_with (with_reducible refine frS 3 (nCells v158 (.slice A166 v158.kids.length m167)) H168.out ?_)
       intro V169 hV
       have H170:=hid hV
       clear hV
       have H171:=hid (H170.out.row [(v130,.slice A138 v130.kids.length m139),(v158,.slice A166 v158.kids.length m167)] 2 rfl (by simp) (by decide) (.mk 9 [] [v130,v158]) rfl)
       go_wp2_with (first
        | (with_reducible refine frL 2 H170.out ?_;dsimp only [nCells])
        | (with_reducible refine frL 3 H170.out ?_;dsimp only [nCells])
        | (go_at_call 92;with_reducible refine (KN.out _ _ _ _ _ _).mono ?_))
       rintro e V172 ⟨rfl,hb⟩
       have H173:=hid (H171.out.below (V:=V172) (by first | exact hb | (rw [World.size_alloc];exact hb)))
       clear hb
       go_wp2_with (with_reducible refine frS 0 (nCells (.mk 9 [] [v130,v158]) (.slice (some ⟨V169.heap.size,0,none⟩) 2 2)) H173.out ?_)
       intro V174 hV
       have H175:=hid hV
       clear hV
       go_wp2
       rw [R160.out]
       exact ret_n Tryz.results238 (k:=0) rfl H175.out (by with_unfolding_all rfl) rfl ⟨_,rfl,H175.out.give (t:=(.mk 9 [] [v130,v158])) (by simp),H175.out.prs,H175.out.pg⟩
     ·skip
      have R176:=hid (ite_no R143.out hb144)
      have K177:=hid (tkN g en ⟨#[58]⟩ hb144)
      clear hb144
      go_wp2_with (go_at_call 88;with_reducible refine (K177.out _ H142.out.prs).mono ?_)
      rintro e V178 ⟨rfl,hp,hg⟩
      have H179:=hid (H142.out.kept hp hg)
      clear hp hg K177
      have H180:=hid (H179.out.leaf (.mk 1 [] []) rfl)
      go_upto_region 18 with fail
      refine wp_region_s 4 (BoxS [(w.heap.size,zN,TN),(V6.heap.size,tkCs t3,TTk),(V10.heap.size,nCells v130 (.slice A138 v130.kids.length m139),TN),(V12.heap.size,zN,TN)]) (by kernel_rfl) H180.out.drew.boxS (fun hS0=>?_)
      have H181:=hid H180.out.drew
      generalize V178.drew=V182 at *
      refine tk 1 (.agg (nCells v130 (.slice A138 v130.kids.length m139)).toArray) [2,3,4] hS0 ?_ (y:=yields_ld threeN (by kernel_rfl) _ rfl 2 (b:=(V10.heap.size,nCells v130 (.slice A138 v130.kids.length m139),TN)) rfl rfl rfl)
      refine st 0 fun K hK=>?_
      go_simp
      go_at_call 92
      with_reducible refine (KN.out _ _ _ _ _ _).mono ?_
      rintro e V183 ⟨rfl,hb⟩
      have H184:=hid (H181.out.below hb)
      clear hb
      try dsimp only
      refine hK.out _ _ (fun _=>H184.out.boxS) (fun _=>?_)
      clear hK K
      refine st 2 fun K hK=>?_
      simp only [nAgg,nCells]
      go_simp
      have H185:=hid (H184.out.row [(.mk 1 [] [],rNil),(v130,.slice A138 v130.kids.length m139)] 2 rfl (by simp) (by decide) (.mk 10 [] [.mk 1 [] [],v130]) rfl)
      refine hK.out _ _ (fun _=>H185.out.boxS) (fun _=>?_)
      clear hK K
      refine st 3 fun K hK=>?_
      go_simp
      go_at_call 92
      with_reducible refine (KN.out _ _ _ _ _ _).mono ?_
      rintro e V186 ⟨rfl,hb⟩
      have H187:=hid (H185.out.below hb)
      clear hb
      try dsimp only
      refine hK.out _ _ (fun _=>H187.out.boxS) (fun _=>?_)
      clear hK K
      refine st 4 fun K hK=>?_
      rw [if_pos (by kernel_rfl)]
      with_reducible refine fr_wpStore threeN _ _ (by with_unfolding_all rfl) 3 rfl (nCells (.mk 10 [] [.mk 1 [] [],v130]) (.slice (some ⟨V183.heap.size,0,none⟩) 2 2)) (by with_unfolding_all rfl) (by with_unfolding_all rfl) rfl (n_one _ _ _ _) H187.out ?_
      intro V188 hV
      have H189:=hid hV
      clear hV
      refine hK.out _ _ (fun h=>absurd rfl h) (fun _=>?_)
      clear hK K
      refine wpAnyS_done (by kernel_rfl) ?_ _
      have H190:=hid (H189.out.row [(v130,.slice A138 v130.kids.length m139),(.mk 10 [] [.mk 1 [] [],v130],.slice (some ⟨V183.heap.size,0,none⟩) 2 2)] 2 rfl (by simp) (by decide) (.mk 9 [] [v130,.mk 10 [] [.mk 1 [] [],v130]]) rfl)
      go_wp2_with (first
       | (with_reducible refine frL 2 H189.out ?_;dsimp only [nCells])
       | (with_reducible refine frL 3 H189.out ?_;dsimp only [nCells])
       | (go_at_call 92;with_reducible refine (KN.out _ _ _ _ _ _).mono ?_))
      rintro e V191 ⟨rfl,hb⟩
      have H192:=hid (H190.out.below (V:=V191) (by first | exact hb | (rw [World.size_alloc];exact hb)))
      clear hb
      go_wp2_with (with_reducible refine frS 0 (nCells (.mk 9 [] [v130,.mk 10 [] [.mk 1 [] [],v130]]) (.slice (some ⟨V188.heap.size,0,none⟩) 2 2)) H192.out ?_)
      intro V193 hV
      have H194:=hid hV
      clear hV
      go_wp2
      rw [R176.out]
      exact ret_n Tryz.results238 (k:=0) rfl H194.out (by with_unfolding_all rfl) rfl ⟨_,rfl,H194.out.give (t:=(.mk 9 [] [v130,.mk 10 [] [.mk 1 [] [],v130]])) (by simp),H194.out.prs,H194.out.pg⟩
   ·skip
    have R195:=hid (ite_no R120.out hk122)
    have z196:((t3.kind:Int)==7)=false:=beq_false_of_ne (by omega)
    have c197:=H15.out.cell 1 rfl 0 rfl
    have k198:=fun (W:World) (h:PrS g l en s W)=>syMust_any g l en s W tOpen h hl
    cases hx199:mustT l en tOpen s with
    | bad a m=>
     rw [hx199] at k198
     have R200:=hid (bind_bad R195.out hx199)
     have K201:=hid (show CB g l en s 91 a m [.string ⟨#[40]⟩] from k198)
     clear k198 hx199
     go_wp2_with (go_at_call 91;with_reducible refine (K201.out _ H15.out.prs).mono ?_)
     rintro e V ⟨rfl,k⟩
     rw [R200.out]
     exact ⟨rfl,rfl,H15.out.pg.trans k⟩
    | ok u202 s203=>
     rw [hx199] at k198
     have R204:=hid (bind_of R195.out hx199)
     obtain ⟨a205,b206,c207,_⟩:=(must_ty E.fit tOpen s).ok u202 s203 hx199
     have K208:=hid (show CO g l en s 91 s203 (.tuple #[]) [.string ⟨#[40]⟩] from k198)
     clear k198 hx199
     go_wp2_with (go_at_call 91;with_reducible refine (K208.out _ H15.out.prs).mono ?_)
     rintro e V209 ⟨rfl,hp,hg⟩
     have H210:=hid (H15.out.kept hp hg)
     clear hp hg K208
     clear c197
     have k211:=fun (W:World) (h:PrS g l en s203 W)=>E.walk.pipe s203 W h (by omega) (by omega) (by omega)
     cases hx212:R.pipe s203 with
     | bad a m=>
      rw [hx212] at k211
      have R213:=hid (bind_bad R204.out hx212)
      have K214:=hid (show CB g l en s203 28 a m [] from k211)
      clear k211 hx212
      go_wp2_with (go_at_call 28;with_reducible refine (K214.out _ H210.out.prs).mono ?_)
      rintro e V ⟨rfl,k⟩
      rw [R213.out]
      exact ⟨rfl,rfl,H210.out.pg.trans k⟩
     | ok v215 s216=>
      rw [hx212] at k211
      have R217:=hid (bind_of R204.out hx212)
      obtain ⟨a218,b219,c220,_⟩:=(E.ok.pipe s203 (by omega) (by omega)).ok v215 s216 hx212
      have K221:=hid (show CN g l en s203 28 s216 v215 [] from k211)
      clear k211 hx212
      go_wp2_with (go_at_call 28;with_reducible refine (K221.out _ H210.out.prs).mono ?_)
      rintro e V222 ⟨kv,rfl,hx,hp,hg⟩
      obtain ⟨A223,m224,rfl⟩:=hx.slice
      have H225:=hid (H210.out.tree hp hg hx)
      clear hx hp hg
      clear K221
      go_wp2_with (with_reducible refine frS 2 (nCells v215 (.slice A223 v215.kids.length m224)) H225.out ?_)
      intro V226 hV
      have H227:=hid hV
      clear hV
      have k228:=fun (W:World) (h:PrS g l en s216 W)=>syMust_any g l en s216 W tShut h hl
      cases hx229:mustT l en tShut s216 with
      | bad a m=>
       rw [hx229] at k228
       have R230:=hid (bind_bad R217.out hx229)
       have K231:=hid (show CB g l en s216 91 a m [.string ⟨#[41]⟩] from k228)
       clear k228 hx229
       go_wp2_with (go_at_call 91;with_reducible refine (K231.out _ H227.out.prs).mono ?_)
       rintro e V ⟨rfl,k⟩
       rw [R230.out]
       exact ⟨rfl,rfl,H227.out.pg.trans k⟩
      | ok u232 s233=>
       rw [hx229] at k228
       have R234:=hid (bind_of R217.out hx229)
       obtain ⟨a235,b236,c237,_⟩:=(must_ty E.fit tShut s216).ok u232 s233 hx229
       have K238:=hid (show CO g l en s216 91 s233 (.tuple #[]) [.string ⟨#[41]⟩] from k228)
       clear k228 hx229
       go_wp2_with (go_at_call 91;with_reducible refine (K238.out _ H227.out.prs).mono ?_)
       rintro e V239 ⟨rfl,hp,hg⟩
       have H240:=hid (H227.out.kept hp hg)
       clear hp hg K238
       have k241:=fun (W:World) (h:PrS g l en s233 W)=>syMust_any g l en s233 W tColon h hl
       cases hx242:mustT l en tColon s233 with
       | bad a m=>
        rw [hx242] at k241
        have R243:=hid (bind_bad R234.out hx242)
        have K244:=hid (show CB g l en s233 91 a m [.string ⟨#[58]⟩] from k241)
        clear k241 hx242
        go_wp2_with (go_at_call 91;with_reducible refine (K244.out _ H240.out.prs).mono ?_)
        rintro e V ⟨rfl,k⟩
        rw [R243.out]
        exact ⟨rfl,rfl,H240.out.pg.trans k⟩
       | ok u245 s246=>
        rw [hx242] at k241
        have R247:=hid (bind_of R234.out hx242)
        obtain ⟨a248,b249,c250,_⟩:=(must_ty E.fit tColon s233).ok u245 s246 hx242
        have K251:=hid (show CO g l en s233 91 s246 (.tuple #[]) [.string ⟨#[58]⟩] from k241)
        clear k241 hx242
        go_wp2_with (go_at_call 91;with_reducible refine (K251.out _ H240.out.prs).mono ?_)
        rintro e V252 ⟨rfl,hp,hg⟩
        have H253:=hid (H240.out.kept hp hg)
        clear hp hg K251
        have k254:=fun (W:World) (h:PrS g l en s246 W)=>E.walk.alt s246 W h (by omega) (by omega) (by omega)
        cases hx255:R.alt s246 with
        | bad a m=>
         rw [hx255] at k254
         have R256:=hid (bind_bad R247.out hx255)
         have K257:=hid (show CB g l en s246 93 a m [] from k254)
         clear k254 hx255
         go_upto_region 7 with fail
         refine wp_region_s 5 (BoxS [(w.heap.size,zN,TN),(V6.heap.size,tkCs t3,TTk),(V10.heap.size,nCells v215 (.slice A223 v215.kids.length m224),TN),(V12.heap.size,zN,TN)]) (by kernel_rfl) H253.out.drew.boxS (fun hS0=>?_)
         have H258:=hid H253.out.drew
         generalize V252.drew=V259 at *
         refine tk 0 (.agg (nCells v215 (.slice A223 v215.kids.length m224)).toArray) [3,4,5] hS0 ?_ (y:=yields_ld threeN (by kernel_rfl) _ rfl 2 (b:=(V10.heap.size,nCells v215 (.slice A223 v215.kids.length m224),TN)) rfl rfl rfl)
         refine tk 1 (.pointer (some ⟨g,0,none⟩)) [2,3,4,5] hS0 ?_
         refine st 2 fun K hK=>?_
         go_simp
         go_at_call 93
         with_reducible refine (K257.out _ H258.out.prs).mono ?_
         rintro e V ⟨rfl,k⟩
         rw [R256.out]
         exact ⟨rfl,rfl,H258.out.pg.trans k⟩
        | ok v260 s261=>
         rw [hx255] at k254
         have R262:=hid (bind_of R247.out hx255)
         obtain ⟨a263,b264,c265,_⟩:=(E.ok.alt s246 (by omega) (by omega)).ok v260 s261 hx255
         have K266:=hid (show CN g l en s246 93 s261 v260 [] from k254)
         clear k254 hx255
         go_upto_region 7 with fail
         refine wp_region_s 5 (BoxS [(w.heap.size,zN,TN),(V6.heap.size,tkCs t3,TTk),(V10.heap.size,nCells v215 (.slice A223 v215.kids.length m224),TN),(V12.heap.size,zN,TN)]) (by kernel_rfl) H253.out.drew.boxS (fun hS0=>?_)
         have H267:=hid H253.out.drew
         generalize V252.drew=V268 at *
         refine tk 0 (.agg (nCells v215 (.slice A223 v215.kids.length m224)).toArray) [3,4,5] hS0 ?_ (y:=yields_ld threeN (by kernel_rfl) _ rfl 2 (b:=(V10.heap.size,nCells v215 (.slice A223 v215.kids.length m224),TN)) rfl rfl rfl)
         refine tk 1 (.pointer (some ⟨g,0,none⟩)) [2,3,4,5] hS0 ?_
         refine st 2 fun K hK=>?_
         go_simp
         go_at_call 93
         with_reducible refine (K266.out _ H267.out.prs).mono ?_
         rintro e V269 ⟨kv,rfl,hx,hp,hg⟩
         obtain ⟨A270,m271,rfl⟩:=hx.slice
         have H272:=hid (H267.out.tree hp hg hx)
         clear hx hp hg
         clear K266
         try dsimp only
         refine hK.out _ _ (fun _=>H272.out.boxS) (fun _=>?_)
         clear hK K
         refine st 3 fun K hK=>?_
         simp only [nAgg,nCells]
         go_simp
         have H273:=hid (H272.out.row [(v215,.slice A223 v215.kids.length m224),(v260,.slice A270 v260.kids.length m271)] 2 rfl (by simp) (by decide) (.mk 9 [] [v215,v260]) rfl)
         refine hK.out _ _ (fun _=>H273.out.boxS) (fun _=>?_)
         clear hK K
         refine st 4 fun K hK=>?_
         go_simp
         go_at_call 92
         with_reducible refine (KN.out _ _ _ _ _ _).mono ?_
         rintro e V274 ⟨rfl,hb⟩
         have H275:=hid (H273.out.below hb)
         clear hb
         try dsimp only
         refine hK.out _ _ (fun _=>H275.out.boxS) (fun _=>?_)
         clear hK K
         refine st 5 fun K hK=>?_
         rw [if_pos (by kernel_rfl)]
         with_reducible refine fr_wpStore threeN _ _ (by with_unfolding_all rfl) 0 rfl (nCells (.mk 9 [] [v215,v260]) (.slice (some ⟨V269.heap.size,0,none⟩) 2 2)) (by with_unfolding_all rfl) (by with_unfolding_all rfl) rfl (n_one _ _ _ _) H275.out ?_
         intro V276 hV
         have H277:=hid hV
         clear hV
         refine hK.out _ _ (fun h=>absurd rfl h) (fun _=>?_)
         clear hK K
         refine wpAnyS_done (by kernel_rfl) ?_ _
         go_wp2
         rw [R262.out]
         exact ret_n Tryz.results238 (k:=0) rfl H277.out (by with_unfolding_all rfl) rfl ⟨_,rfl,H277.out.give (t:=(.mk 9 [] [v215,v260])) (by simp),H277.out.prs,H277.out.pg⟩
set_option maxHeartbeats 4000000 in
set_option maxRecDepth 100000 in
theorem sySigned_any (E:Env numE g l en R n) (s:PT) (w:World) (h:PrS g l en s w) (_hs:s.at'≤l.length) (hm:l.length<n+1+s.at') (hp:s.pipes≤600) :
  Calls Tryz.prog 228 #[.pointer (some ⟨g,0,none⟩)] w (ResN g l en w (signedB l en R s)):=by
 have hl:=E.len
 have KN:=hid (fun k t A n c W=>syNode_any k t A n c W)
 have KM:=hid (fun t W=>syNamed_any t W)
 have FD0:=fun a p t W=>fld0 a p t W
 have FD1:=fun a p t W=>fld1 a p t W
 have H0:=hid (Fr.start h)
 obtain ⟨r,hr⟩:∃r,r=signedB l en R s:=⟨_,rfl⟩
 rw [←hr]
 unfold signedB at hr
 have R0:=hid hr
 clear hr h
 go_enter Tryz.func228,Tryz.ntmps228
 go_wp2_with (with_reducible refine frA H0.out ?_)
 intro V1 hV
 have H2:=hid hV
 clear hV
 by_cases hb3:isT l tDots s.at'=true
 ·skip
  obtain ⟨s4,hs5⟩:∃z,z=nextT s:=⟨_,rfl⟩
  have lt7:=isT_lt hb3
  have a8:s4.at'=s.at'+1:=by rw [hs5];rfl
  have p9:s4.pipes=s.pipes:=by rw [hs5];rfl
  have R6:=hid (hs5▸ite_yes R0.out hb3)
  have K10:=hid (tkY g en ⟨#[46,46]⟩ hs5 hl hb3)
  clear hb3 hs5
  go_wp2_with (go_at_call 88;with_reducible refine (K10.out _ H2.out.prs).mono ?_)
  rintro e V11 ⟨rfl,hp,hg⟩
  have H12:=hid (H2.out.kept hp hg)
  clear hp hg K10
  go_wp2_with (go_at_call 92;with_reducible refine (KN.out _ _ _ _ _ _).mono ?_)
  rintro e V13 ⟨rfl,hb⟩
  have H14:=hid (H12.out.below hb)
  clear hb
  have H15:=hid (H14.out.leaf (.mk 2 [] []) rfl)
  go_wp2_with (with_reducible refine frS 0 (nCells (.mk 2 [] []) rNil) H15.out ?_)
  intro V16 hV
  have H17:=hid hV
  clear hV
  go_wp2
  rw [R6.out]
  exact ret_n Tryz.results228 (k:=0) rfl H17.out (by with_unfolding_all rfl) rfl ⟨_,rfl,H17.out.give (t:=(.mk 2 [] [])) (by simp),H17.out.prs,H17.out.pg⟩
 ·skip
  have R18:=hid (ite_no R0.out hb3)
  have K19:=hid (tkN g en ⟨#[46,46]⟩ hb3)
  clear hb3
  go_wp2_with (go_at_call 88;with_reducible refine (K19.out _ H2.out.prs).mono ?_)
  rintro e V20 ⟨rfl,hp,hg⟩
  have H21:=hid (H2.out.kept hp hg)
  clear hp hg K19
  by_cases hb22:isT l tDot s.at'=true
  ·skip
   obtain ⟨s23,hs24⟩:∃z,z=nextT s:=⟨_,rfl⟩
   have lt26:=isT_lt hb22
   have a27:s23.at'=s.at'+1:=by rw [hs24];rfl
   have p28:s23.pipes=s.pipes:=by rw [hs24];rfl
   have R25:=hid (hs24▸ite_yes R18.out hb22)
   have K29:=hid (tkY g en ⟨#[46]⟩ hs24 hl hb22)
   clear hb22 hs24
   go_wp2_with (go_at_call 88;with_reducible refine (K29.out _ H21.out.prs).mono ?_)
   rintro e V30 ⟨rfl,hp,hg⟩
   have H31:=hid (H21.out.kept hp hg)
   clear hp hg K29
   have q:=R25.out
   rw [←a27] at q
   have R32:=hid q
   clear q
   go_wp2_with (go_at_call 92;with_reducible refine (KN.out _ _ _ _ _ _).mono ?_)
   rintro e V33 ⟨rfl,hb⟩
   have H34:=hid (H31.out.below hb)
   clear hb
   go_wp2_with (with_reducible refine frA H34.out ?_)
   intro V35 hV
   have H36:=hid hV
   clear hV
   go_wp2_with (with_reducible refine frS 1 (nCells (.mk 1 [] []) rNil) H36.out ?_)
   intro V37 hV
   have H38:=hid hV
   clear hV
   have H39:=hid (H38.out.leaf (.mk 1 [] []) rfl)
   obtain ⟨t40,ht41⟩:∃t,t=dueT l s23.at':=⟨_,rfl⟩
   have K42:=hid (show CO g l en s23 122 s23 (.agg #[.int .i64 (t40.kind:Int),.string ⟨t40.text.toArray⟩,.int .i64 (t40.pos:Int)]) [] from fun W h=>ht41▸syDue_any g l en s23 W h)
   have Dt40:=hid ht41
   clear ht41
   go_wp2_with (go_at_call 122;with_reducible refine (K42.out _ H39.out.prs).mono ?_)
   rintro e V43 ⟨rfl,hp,hg⟩
   have H44:=hid (H39.out.kept hp hg)
   clear hp hg K42
   have q:=R32.out
   rw [←Dt40.out] at q
   have R45:=hid q
   clear q
   by_cases hk46:t40.kind=7
   ·skip
    have R47:=hid (ite_yes R45.out hk46)
    have nz48:t40.kind≠0:=by omega
    have z49:((t40.kind:Int)==7)=true:=by rw [hk46];rfl
    have k50:=fun (W:World) (h:PrS g l en s23 W)=>syText_any E [] s23 W h (by omega) (by omega) (by omega)
    cases hx51:textB l en R [] s23 with
    | bad a m=>
     rw [hx51] at k50
     have R52:=hid (bind_bad R47.out hx51)
     have K53:=hid (show CB g l en s23 205 a m [.string ⟨#[]⟩] from k50)
     clear k50 hx51
     go_upto_region 6 with fail
     refine wp_region_s 5 (BoxS [(w.heap.size,zN,TN),(V33.heap.size,nCells (.mk 1 [] []) rNil,TN)]) (by kernel_rfl) H44.out.drew.boxS (fun hS0=>?_)
     have H54:=hid H44.out.drew
     generalize V43.drew=V55 at *
     refine tk 0 (.agg (nCells (.mk 1 [] []) rNil).toArray) [3,4,5] hS0 ?_ (y:=yields_ld threeN (by kernel_rfl) _ rfl 1 (b:=(V33.heap.size,nCells (.mk 1 [] []) rNil,TN)) rfl rfl rfl)
     refine tk 1 (.pointer (some ⟨g,0,none⟩)) [2,3,4,5] hS0 ?_
     refine st 2 fun K hK=>?_
     go_simp
     go_at_call 205
     with_reducible refine (K53.out _ H54.out.prs).mono ?_
     rintro e V ⟨rfl,k⟩
     rw [R52.out]
     exact ⟨rfl,rfl,H54.out.pg.trans k⟩
    | ok v56 s57=>
     rw [hx51] at k50
     have R58:=hid (bind_of R47.out hx51)
     obtain ⟨a59,b60,c61,_⟩:=(text_ty E.fit E.ok [] s23 (by omega) (by omega)).ok v56 s57 hx51
     have K62:=hid (show CN g l en s23 205 s57 v56 [.string ⟨#[]⟩] from k50)
     clear k50 hx51
     go_upto_region 6 with fail
     refine wp_region_s 5 (BoxS [(w.heap.size,zN,TN),(V33.heap.size,nCells (.mk 1 [] []) rNil,TN)]) (by kernel_rfl) H44.out.drew.boxS (fun hS0=>?_)
     have H63:=hid H44.out.drew
     generalize V43.drew=V64 at *
     refine tk 0 (.agg (nCells (.mk 1 [] []) rNil).toArray) [3,4,5] hS0 ?_ (y:=yields_ld threeN (by kernel_rfl) _ rfl 1 (b:=(V33.heap.size,nCells (.mk 1 [] []) rNil,TN)) rfl rfl rfl)
     refine tk 1 (.pointer (some ⟨g,0,none⟩)) [2,3,4,5] hS0 ?_
     refine st 2 fun K hK=>?_
     go_simp
     go_at_call 205
     with_reducible refine (K62.out _ H63.out.prs).mono ?_
     rintro e V65 ⟨kv,rfl,hx,hp,hg⟩
     obtain ⟨A66,m67,rfl⟩:=hx.slice
     have H68:=hid (H63.out.tree hp hg hx)
     clear hx hp hg
     clear K62
     try dsimp only
     refine hK.out _ _ (fun _=>H68.out.boxS) (fun _=>?_)
     clear hK K
     refine st 3 fun K hK=>?_
     simp only [nAgg,nCells]
     go_simp
     have H69:=hid (H68.out.row [(.mk 1 [] [],rNil),(v56,.slice A66 v56.kids.length m67)] 2 rfl (by simp) (by decide) (.mk 10 [] [.mk 1 [] [],v56]) rfl)
     refine hK.out _ _ (fun _=>H69.out.boxS) (fun _=>?_)
     clear hK K
     refine st 4 fun K hK=>?_
     go_simp
     go_at_call 92
     with_reducible refine (KN.out _ _ _ _ _ _).mono ?_
     rintro e V70 ⟨rfl,hb⟩
     have H71:=hid (H69.out.below hb)
     clear hb
     try dsimp only
     refine hK.out _ _ (fun _=>H71.out.boxS) (fun _=>?_)
     clear hK K
     refine st 5 fun K hK=>?_
     rw [if_pos (by kernel_rfl)]
     with_reducible refine fr_wpStore threeN _ _ (by with_unfolding_all rfl) 0 rfl (nCells (.mk 10 [] [.mk 1 [] [],v56]) (.slice (some ⟨V65.heap.size,0,none⟩) 2 2)) (by with_unfolding_all rfl) (by with_unfolding_all rfl) rfl (n_one _ _ _ _) H71.out ?_
     intro V72 hV
     have H73:=hid hV
     clear hV
     refine hK.out _ _ (fun h=>absurd rfl h) (fun _=>?_)
     clear hK K
     refine wpAnyS_done (by kernel_rfl) ?_ _
     go_wp2
     rw [R58.out]
     exact ret_n Tryz.results228 (k:=0) rfl H73.out (by with_unfolding_all rfl) rfl ⟨_,rfl,H73.out.give (t:=(.mk 10 [] [.mk 1 [] [],v56])) (by simp),H73.out.prs,H73.out.pg⟩
   ·skip
    have R74:=hid (ite_no R45.out hk46)
    have z75:((t40.kind:Int)==7)=false:=beq_false_of_ne (by omega)
    go_wp2_with (first
     | (with_reducible refine frL 1 H44.out ?_)
     | (with_reducible refine frS 0 (nCells (.mk 1 [] []) rNil) H44.out ?_))
    intro V76 hV
    have H77:=hid hV
    clear hV
    go_wp2
    rw [R74.out]
    exact ret_n Tryz.results228 (k:=0) rfl H77.out (by with_unfolding_all rfl) rfl ⟨_,rfl,H77.out.give (t:=(.mk 1 [] [])) (by simp),H77.out.prs,H77.out.pg⟩
  ·skip
   have R78:=hid (ite_no R18.out hb22)
   have K79:=hid (tkN g en ⟨#[46]⟩ hb22)
   clear hb22
   go_wp2_with (go_at_call 88;with_reducible refine (K79.out _ H21.out.prs).mono ?_)
   rintro e V80 ⟨rfl,hp,hg⟩
   have H81:=hid (H21.out.kept hp hg)
   clear hp hg K79
   by_cases hb82:isT l tOpen s.at'=true
   ·skip
    obtain ⟨s83,hs84⟩:∃z,z=nextT s:=⟨_,rfl⟩
    have lt86:=isT_lt hb82
    have a87:s83.at'=s.at'+1:=by rw [hs84];rfl
    have p88:s83.pipes=s.pipes:=by rw [hs84];rfl
    have R85:=hid (hs84▸ite_yes R78.out hb82)
    have K89:=hid (tkY g en ⟨#[40]⟩ hs84 hl hb82)
    clear hb82 hs84
    go_wp2_with (go_at_call 88;with_reducible refine (K89.out _ H81.out.prs).mono ?_)
    rintro e V90 ⟨rfl,hp,hg⟩
    have H91:=hid (H81.out.kept hp hg)
    clear hp hg K89
    have k92:=fun (W:World) (h:PrS g l en s83 W)=>E.walk.pipe s83 W h (by omega) (by omega) (by omega)
    cases hx93:R.pipe s83 with
    | bad a m=>
     rw [hx93] at k92
     have R94:=hid (bind_bad R85.out hx93)
     have K95:=hid (show CB g l en s83 28 a m [] from k92)
     clear k92 hx93
     go_wp2_with (go_at_call 28;with_reducible refine (K95.out _ H91.out.prs).mono ?_)
     rintro e V ⟨rfl,k⟩
     rw [R94.out]
     exact ⟨rfl,rfl,H91.out.pg.trans k⟩
    | ok v96 s97=>
     rw [hx93] at k92
     have R98:=hid (bind_of R85.out hx93)
     obtain ⟨a99,b100,c101,_⟩:=(E.ok.pipe s83 (by omega) (by omega)).ok v96 s97 hx93
     have K102:=hid (show CN g l en s83 28 s97 v96 [] from k92)
     clear k92 hx93
     go_wp2_with (go_at_call 28;with_reducible refine (K102.out _ H91.out.prs).mono ?_)
     rintro e V103 ⟨kv,rfl,hx,hp,hg⟩
     obtain ⟨A104,m105,rfl⟩:=hx.slice
     have H106:=hid (H91.out.tree hp hg hx)
     clear hx hp hg
     clear K102
     go_wp2_with (with_reducible refine frA H106.out ?_)
     intro V107 hV
     have H108:=hid hV
     clear hV
     go_wp2_with (with_reducible refine frS 1 (nCells v96 (.slice A104 v96.kids.length m105)) H108.out ?_)
     intro V109 hV
     have H110:=hid hV
     clear hV
     have k111:=fun (W:World) (h:PrS g l en s97 W)=>syMust_any g l en s97 W tShut h hl
     cases hx112:mustT l en tShut s97 with
     | bad a m=>
      rw [hx112] at k111
      have R113:=hid (bind_bad R98.out hx112)
      have K114:=hid (show CB g l en s97 91 a m [.string ⟨#[41]⟩] from k111)
      clear k111 hx112
      go_wp2_with (go_at_call 91;with_reducible refine (K114.out _ H110.out.prs).mono ?_)
      rintro e V ⟨rfl,k⟩
      rw [R113.out]
      exact ⟨rfl,rfl,H110.out.pg.trans k⟩
     | ok u115 s116=>
      rw [hx112] at k111
      have R117:=hid (bind_of R98.out hx112)
      obtain ⟨a118,b119,c120,_⟩:=(must_ty E.fit tShut s97).ok u115 s116 hx112
      have K121:=hid (show CO g l en s97 91 s116 (.tuple #[]) [.string ⟨#[41]⟩] from k111)
      clear k111 hx112
      go_wp2_with (go_at_call 91;with_reducible refine (K121.out _ H110.out.prs).mono ?_)
      rintro e V122 ⟨rfl,hp,hg⟩
      have H123:=hid (H110.out.kept hp hg)
      clear hp hg K121
      go_wp2_with (first
       | (with_reducible refine frL 1 H123.out ?_)
       | (with_reducible refine frS 0 (nCells v96 (.slice A104 v96.kids.length m105)) H123.out ?_))
      intro V124 hV
      have H125:=hid hV
      clear hV
      go_wp2
      rw [R117.out]
      exact ret_n Tryz.results228 (k:=0) rfl H125.out (by with_unfolding_all rfl) rfl ⟨_,rfl,H125.out.give (t:=v96) (by simp),H125.out.prs,H125.out.pg⟩
   ·skip
    have R126:=hid (ite_no R78.out hb82)
    have K127:=hid (tkN g en ⟨#[40]⟩ hb82)
    clear hb82
    go_wp2_with (go_at_call 88;with_reducible refine (K127.out _ H81.out.prs).mono ?_)
    rintro e V128 ⟨rfl,hp,hg⟩
    have H129:=hid (H81.out.kept hp hg)
    clear hp hg K127
    by_cases hb130:isT l tBrk s.at'=true
    ·skip
     obtain ⟨s131,hs132⟩:∃z,z=nextT s:=⟨_,rfl⟩
     have lt134:=isT_lt hb130
     have a135:s131.at'=s.at'+1:=by rw [hs132];rfl
     have p136:s131.pipes=s.pipes:=by rw [hs132];rfl
     have R133:=hid (hs132▸ite_yes R126.out hb130)
     have K137:=hid (tkY g en ⟨#[91]⟩ hs132 hl hb130)
     clear hb130 hs132
     go_wp2_with (go_at_call 88;with_reducible refine (K137.out _ H129.out.prs).mono ?_)
     rintro e V138 ⟨rfl,hp,hg⟩
     have H139:=hid (H129.out.kept hp hg)
     clear hp hg K137
     have q:=R133.out
     rw [←a135] at q
     have R140:=hid q
     clear q
     go_wp2_with (go_at_call 92;with_reducible refine (KN.out _ _ _ _ _ _).mono ?_)
     rintro e V141 ⟨rfl,hb⟩
     have H142:=hid (H139.out.below hb)
     clear hb
     go_wp2_with (with_reducible refine frA H142.out ?_)
     intro V143 hV
     have H144:=hid hV
     clear hV
     go_wp2_with (with_reducible refine frS 1 (nCells (.mk 7 [] []) rNil) H144.out ?_)
     intro V145 hV
     have H146:=hid hV
     clear hV
     by_cases hb147:isT l tKrb s131.at'=true
     ·skip
      obtain ⟨s148,hs149⟩:∃z,z=nextT s131:=⟨_,rfl⟩
      have lt151:=isT_lt hb147
      have a152:s148.at'=s131.at'+1:=by rw [hs149];rfl
      have p153:s148.pipes=s131.pipes:=by rw [hs149];rfl
      have R150:=hid (hs149▸ite_yes R140.out hb147)
      have K154:=hid (tkY g en ⟨#[93]⟩ hs149 hl hb147)
      clear hb147 hs149
      go_wp2_with (go_at_call 88;with_reducible refine (K154.out _ H146.out.prs).mono ?_)
      rintro e V155 ⟨rfl,hp,hg⟩
      have H156:=hid (H146.out.kept hp hg)
      clear hp hg K154
      have H157:=hid (H156.out.leaf (.mk 7 [] []) rfl)
      go_wp2_with (first
       | (with_reducible refine frL 1 H157.out ?_)
       | (with_reducible refine frS 0 (nCells (.mk 7 [] []) rNil) H157.out ?_))
      intro V158 hV
      have H159:=hid hV
      clear hV
      go_wp2
      rw [R150.out]
      exact ret_n Tryz.results228 (k:=0) rfl H159.out (by with_unfolding_all rfl) rfl ⟨_,rfl,H159.out.give (t:=(.mk 7 [] [])) (by simp),H159.out.prs,H159.out.pg⟩
     ·skip
      have R160:=hid (ite_no R140.out hb147)
      have K161:=hid (tkN g en ⟨#[93]⟩ hb147)
      clear hb147
      go_wp2_with (go_at_call 88;with_reducible refine (K161.out _ H146.out.prs).mono ?_)
      rintro e V162 ⟨rfl,hp,hg⟩
      have H163:=hid (H146.out.kept hp hg)
      clear hp hg K161
      have k164:=fun (W:World) (h:PrS g l en s131 W)=>E.walk.pipe s131 W h (by omega) (by omega) (by omega)
      cases hx165:R.pipe s131 with
      | bad a m=>
       rw [hx165] at k164
       have R166:=hid (bind_bad R160.out hx165)
       have K167:=hid (show CB g l en s131 28 a m [] from k164)
       clear k164 hx165
       go_wp2_with (go_at_call 28;with_reducible refine (K167.out _ H163.out.prs).mono ?_)
       rintro e V ⟨rfl,k⟩
       rw [R166.out]
       exact ⟨rfl,rfl,H163.out.pg.trans k⟩
      | ok v168 s169=>
       rw [hx165] at k164
       have R170:=hid (bind_of R160.out hx165)
       obtain ⟨a171,b172,c173,_⟩:=(E.ok.pipe s131 (by omega) (by omega)).ok v168 s169 hx165
       have K174:=hid (show CN g l en s131 28 s169 v168 [] from k164)
       clear k164 hx165
       go_wp2_with (go_at_call 28;with_reducible refine (K174.out _ H163.out.prs).mono ?_)
       rintro e V175 ⟨kv,rfl,hx,hp,hg⟩
       obtain ⟨A176,m177,rfl⟩:=hx.slice
       have H178:=hid (H163.out.tree hp hg hx)
       clear hx hp hg
       clear K174
       simp only [nAgg]
       have H179:=hid (H178.out.row [(v168,.slice A176 v168.kids.length m177)] 1 rfl (by simp) (by decide) (.mk 7 [] [v168]) rfl)
       have cS:=H179.out.cell 1 rfl 2 rfl
       have fS:=H179.out.frozen 1 rfl 2
       simp only [nzCells,nCells,List.flatMap_cons,List.flatMap_nil,List.cons_append,List.nil_append] at cS fS
       have H180:=hid (H179.out.setC 1 rfl 2 (.slice (some ⟨V175.heap.size,0,none⟩) 1 1))
       have k181:=fun (W:World) (h:PrS g l en s169 W)=>syMust_any g l en s169 W tKrb h hl
       cases hx182:mustT l en tKrb s169 with
       | bad a m=>
        rw [hx182] at k181
        have R183:=hid (bind_bad R170.out hx182)
        have K184:=hid (show CB g l en s169 91 a m [.string ⟨#[93]⟩] from k181)
        clear k181 hx182
        go_wp2_with fail
        go_at_call 91
        with_reducible refine Calls.mono (K184.out _ ?hp185) ?hp185q
        case hp185=>exact H180.out.prs
        rintro e V ⟨rfl,k⟩
        rw [R183.out]
        exact ⟨rfl,rfl,H180.out.pg.trans k⟩
       | ok u186 s187=>
        rw [hx182] at k181
        have R188:=hid (bind_of R170.out hx182)
        obtain ⟨a189,b190,c191,_⟩:=(must_ty E.fit tKrb s169).ok u186 s187 hx182
        have K192:=hid (show CO g l en s169 91 s187 (.tuple #[]) [.string ⟨#[93]⟩] from k181)
        clear k181 hx182
        go_wp2_with fail
        go_at_call 91
        with_reducible refine Calls.mono (K192.out _ ?hp193) ?hp193q
        case hp193=>exact H180.out.prs
        rintro e V194 ⟨rfl,hp,hg⟩
        have H195:=hid (H180.out.kept hp hg)
        clear hp hg K192
        clear cS fS
        go_wp2_with (first
         | (with_reducible refine frL 1 H195.out ?_)
         | (with_reducible refine frS 0 (nCells (.mk 7 [] [v168]) (.slice (some ⟨V175.heap.size,0,none⟩) 1 1)) H195.out ?_))
        intro V196 hV
        have H197:=hid hV
        clear hV
        go_wp2
        rw [R188.out]
        exact ret_n Tryz.results228 (k:=0) rfl H197.out (by with_unfolding_all rfl) rfl ⟨_,rfl,H197.out.give (t:=(.mk 7 [] [v168])) (by simp),H197.out.prs,H197.out.pg⟩
    ·skip
     have R198:=hid (ite_no R126.out hb130)
     have K199:=hid (tkN g en ⟨#[91]⟩ hb130)
     clear hb130
     go_wp2_with (go_at_call 88;with_reducible refine (K199.out _ H129.out.prs).mono ?_)
     rintro e V200 ⟨rfl,hp,hg⟩
     have H201:=hid (H129.out.kept hp hg)
     clear hp hg K199
     by_cases hb202:isT l tCrl s.at'=true
     ·skip
      obtain ⟨s203,hs204⟩:∃z,z=nextT s:=⟨_,rfl⟩
      have lt206:=isT_lt hb202
      have a207:s203.at'=s.at'+1:=by rw [hs204];rfl
      have p208:s203.pipes=s.pipes:=by rw [hs204];rfl
      have R205:=hid (hs204▸ite_yes R198.out hb202)
      have K209:=hid (tkY g en ⟨#[123]⟩ hs204 hl hb202)
      clear hb202 hs204
      go_wp2_with (go_at_call 88;with_reducible refine (K209.out _ H201.out.prs).mono ?_)
      rintro e V210 ⟨rfl,hp,hg⟩
      have H211:=hid (H201.out.kept hp hg)
      clear hp hg K209
      have q:=R205.out
      rw [←a207] at q
      have R212:=hid q
      clear q
      go_wp2_with (go_at_call 92;with_reducible refine (KN.out _ _ _ _ _ _).mono ?_)
      rintro e V213 ⟨rfl,hb⟩
      have H214:=hid (H211.out.below hb)
      clear hb
      go_wp2_with (with_reducible refine frA H214.out ?_)
      intro V215 hV
      have H216:=hid hV
      clear hV
      go_wp2_with (with_reducible refine frS 1 (nCells (.mk 8 [] []) rNil) H216.out ?_)
      intro V217 hV
      have H218:=hid hV
      clear hV
      by_cases hb219:isT l tLrc s203.at'=true
      ·skip
       obtain ⟨s220,hs221⟩:∃z,z=nextT s203:=⟨_,rfl⟩
       have lt223:=isT_lt hb219
       have a224:s220.at'=s203.at'+1:=by rw [hs221];rfl
       have p225:s220.pipes=s203.pipes:=by rw [hs221];rfl
       have R222:=hid (hs221▸ite_yes R212.out hb219)
       have K226:=hid (tkY g en ⟨#[125]⟩ hs221 hl hb219)
       clear hb219 hs221
       go_wp2_with (go_at_call 88;with_reducible refine (K226.out _ H218.out.prs).mono ?_)
       rintro e V227 ⟨rfl,hp,hg⟩
       have H228:=hid (H218.out.kept hp hg)
       clear hp hg K226
       have H229:=hid (H228.out.leaf (.mk 8 [] []) rfl)
       go_wp2_with (first
        | (with_reducible refine frL 1 H229.out ?_)
        | (with_reducible refine frS 0 (nCells (.mk 8 [] []) rNil) H229.out ?_))
       intro V230 hV
       have H231:=hid hV
       clear hV
       go_wp2
       rw [R222.out]
       exact ret_n Tryz.results228 (k:=0) rfl H231.out (by with_unfolding_all rfl) rfl ⟨_,rfl,H231.out.give (t:=(.mk 8 [] [])) (by simp),H231.out.prs,H231.out.pg⟩
      ·skip
       have R232:=hid (ite_no R212.out hb219)
       have K233:=hid (tkN g en ⟨#[125]⟩ hb219)
       clear hb219
       go_wp2_with (go_at_call 88;with_reducible refine (K233.out _ H218.out.prs).mono ?_)
       rintro e V234 ⟨rfl,hp,hg⟩
       have H235:=hid (H218.out.kept hp hg)
       clear hp hg K233
       obtain ⟨KK,hKK⟩:∃K:List Nd→PT→PY Nd,K=fun ns s=>(mustT l en tLrc s).bind fun _ s=>.ok (.mk 8 [] ns) s:=⟨_,rfl⟩
       have RK:=hid (show r=(listF l tComma (entryB l en R) (l.length+1) s203).bind KK by rw [hKK];exact R232.out)
       have HKK:=hid hKK
       clear hKK
       go_wp2
       go_loopg [] (l.length+1) (fun kx wr=>∃(s':PT) (f:Nat) (zs:List (Nd×Value)) (A:Option Addr) (c:Nat),f≤kx∧s.at'≤s'.at'∧s203.at'≤s'.at'∧s'.at'≤l.length∧s'.pipes=s.pipes∧l.length<f+s'.at'∧zs.length≤s'.at'∧Fr g l en w s' [(w.heap.size,zN,TN),(V213.heap.size,nCells (.mk 8 [] []) (.slice A zs.length c),TN)] [] (.slice A zs.length c) zs wr∧Hid (r=(listF l tComma (entryB l en R) f s').bind fun ns s=>KK (zs.map Prod.fst++ns) s))
       case atStart=>exact ⟨s203,l.length+1,[],none,0,Nat.le_refl _,by omega,by omega,by omega,by omega,by omega,Nat.zero_le _,H235.out.drop 2 (by simp),RK.out⟩
       case round=>
        obtain ⟨s',f,zs,A,c,hfk,q1,q1b,q2,q3,q4,q5,hF,hR⟩:=hrel
        obtain ⟨f,rfl⟩:∃k,f=k+1:=⟨f-1,by omega⟩
        have HF:=hid hF
        have RF:=hid (list_one hR.out)
        clear hF hR
        have k236:=fun (W:World) (h:PrS g l en s' W)=>syEntry_any E s' W h (by omega) (by omega) (by omega)
        cases hx237:entryB l en R s' with
        | bad a m=>
         rw [hx237] at k236
         have R238:=hid (bind_bad RF.out hx237)
         have K239:=hid (show CB g l en s' 238 a m [] from k236)
         clear k236 hx237
         go_upto_region 22 with fail
         refine wp_region_s 7 (BoxS [(w.heap.size,zN,TN),(V213.heap.size,nCells (.mk 8 [] []) (.slice A zs.length c),TN)]) (by kernel_rfl) HF.out.drew.boxS (fun hS0=>?_)
         have H240:=hid HF.out.drew
         generalize wr.drew=V241 at *
         refine tk 0 (.pointer (some ⟨V213.heap.size,2,none⟩)) [1,5,7] hS0 ?_
         refine tk12 1 (.slice A zs.length c) [5,7] hS0 ?_
         refine tk 2 (.pointer (some ⟨g,0,none⟩)) [3,4,5,7] hS0 ?_
         refine st 3 fun K hK=>?_
         go_simp
         go_at_call 238
         with_reducible refine (K239.out _ H240.out.prs).mono ?_
         rintro e V ⟨rfl,k⟩
         rw [R238.out]
         exact ⟨rfl,rfl,H240.out.pg.trans k⟩
        | ok v242 s243=>
         rw [hx237] at k236
         have R244:=hid (bind_of RF.out hx237)
         obtain ⟨a245,b246,c247,_⟩:=(entry_ty E.fit E.ok s' (by omega) (by omega)).ok v242 s243 hx237
         have K248:=hid (show CN g l en s' 238 s243 v242 [] from k236)
         clear k236 hx237
         go_upto_region 22 with fail
         refine wp_region_s 7 (BoxS [(w.heap.size,zN,TN),(V213.heap.size,nCells (.mk 8 [] []) (.slice A zs.length c),TN)]) (by kernel_rfl) HF.out.drew.boxS (fun hS0=>?_)
         have H249:=hid HF.out.drew
         generalize wr.drew=V250 at *
         refine tk 0 (.pointer (some ⟨V213.heap.size,2,none⟩)) [1,5,7] hS0 ?_
         refine tk12 1 (.slice A zs.length c) [5,7] hS0 ?_
         refine tk 2 (.pointer (some ⟨g,0,none⟩)) [3,4,5,7] hS0 ?_
         refine st 3 fun K hK=>?_
         go_simp
         go_at_call 238
         with_reducible refine (K248.out _ H249.out.prs).mono ?_
         rintro e V251 ⟨kv,rfl,hx,hp,hg⟩
         obtain ⟨A252,m253,rfl⟩:=hx.slice
         have H254:=hid (H249.out.tree hp hg hx)
         clear hx hp hg
         clear K248
         try dsimp only
         refine hK.out _ _ (fun _=>H254.out.boxS) (fun _=>?_)
         clear hK K
         refine st 4 fun K hK=>?_
         simp only [nAgg]
         go_simp
         refine hK.out _ (V251.alloc (.cells (nCells v242 (.slice A252 v242.kids.length m253)).toArray TN)) (fun _=>(H254.out.below ((Below.refl _ V251).alloc (Nat.le_refl _) _)).boxS) (fun _=>?_)
         clear hK K
         refine st 5 fun K hK=>?_
         rw [if_pos (by kernel_rfl)]
         with_reducible refine fr_wpAppend _ _ (by with_unfolding_all rfl) (t:=v242) (A:=A252) (c:=m253) (by simp) (by with_unfolding_all rfl) (by with_unfolding_all rfl) H254.out (by omega) ?_
         rintro _ V258 hV ⟨A255,m256,rfl⟩
         obtain ⟨zs259,hz⟩:∃z:List (Nd×Value),z=zs++[(v242,.slice A252 v242.kids.length m253)]:=⟨_,rfl⟩
         rw [←hz] at hV ⊢
         have Ezs259:=hid hz
         clear hz
         have H260:=hid hV
         clear hV
         refine hK.out _ _ (fun _=>H260.out.boxS) (fun _=>?_)
         clear hK K
         refine tk 6 (.pointer (some ⟨V213.heap.size,2,none⟩)) [7] H260.out.boxS ?_
         refine st 7 fun K hK=>?_
         have cS:=H260.out.cell 1 rfl 2 rfl
         have fS:=H260.out.frozen 1 rfl 2
         go_simp
         have hV:Fr g l en w s243 [(w.heap.size,zN,TN),(V213.heap.size,nCells (.mk 8 [] []) (.slice A255 zs259.length m256),TN)] [(v242,.slice A252 v242.kids.length m253)] (.slice A255 zs259.length m256) zs259 (V258.setCell ⟨V213.heap.size,2,none⟩ (.slice A255 zs259.length m256)):=H260.out.setC 1 rfl 2 _
         generalize V258.setCell ⟨V213.heap.size,2,none⟩ (.slice A255 zs259.length m256)=V261 at *
         have H262:=hid hV
         clear hV cS fS
         refine hK.out _ _ (fun h=>absurd rfl h) (fun _=>?_)
         clear hK K
         refine wpAnyS_done (by kernel_rfl) ?_ _
         by_cases hb263:isT l tComma s243.at'=true
         ·skip
          obtain ⟨s264,hs265⟩:∃z,z=nextT s243:=⟨_,rfl⟩
          have lt267:=isT_lt hb263
          have a268:s264.at'=s243.at'+1:=by rw [hs265];rfl
          have p269:s264.pipes=s243.pipes:=by rw [hs265];rfl
          have R266:=hid (hs265▸list_yes R244.out hb263)
          have K270:=hid (tkY g en ⟨#[44]⟩ hs265 hl hb263)
          clear hb263 hs265
          go_wp2_with (go_at_call 88;with_reducible refine (K270.out _ H262.out.prs).mono ?_)
          rintro e V271 ⟨rfl,hp,hg⟩
          have H272:=hid (H262.out.kept hp hg)
          clear hp hg K270
          have R273:=hid (show r=(listF l tComma (entryB l en R) f s264).bind fun ns s=>KK (zs259.map Prod.fst++ns) s by rw [Ezs259.out];simpa using R266.out)
          go_wp2_with fail
          go_roundg f
          case measure=>omega
          case rel=>exact ⟨s264,f,zs259,A255,m256,Nat.le_refl _,by omega,by omega,by omega,by omega,by omega,by rw [Ezs259.out,List.length_append,List.length_singleton];omega,H272.out.drop 2 (by simp),R273.out⟩
         ·skip
          have R274:=hid (list_no R244.out hb263)
          have K275:=hid (tkN g en ⟨#[44]⟩ hb263)
          clear hb263
          go_wp2_with (go_at_call 88;with_reducible refine (K275.out _ H262.out.prs).mono ?_)
          rintro e V276 ⟨rfl,hp,hg⟩
          have H277:=hid (H262.out.kept hp hg)
          clear hp hg K275
          have R278:=hid (show r=KK (zs259.map Prod.fst) s243 by rw [Ezs259.out];simpa using R274.out)
          have R279:=hid (show r=(mustT l en tLrc s243).bind fun _ s=>.ok (.mk 8 [] (zs259.map Prod.fst)) s by have:=R278.out;rw [HKK.out] at this;exact this)
          have k280:=fun (W:World) (h:PrS g l en s243 W)=>syMust_any g l en s243 W tLrc h hl
          cases hx281:mustT l en tLrc s243 with
          | bad a m=>
           rw [hx281] at k280
           have R282:=hid (bind_bad R279.out hx281)
           have K283:=hid (show CB g l en s243 91 a m [.string ⟨#[125]⟩] from k280)
           clear k280 hx281
           go_wp2_with (go_at_call 91;with_reducible refine (K283.out _ H277.out.prs).mono ?_)
           rintro e V ⟨rfl,k⟩
           rw [R282.out]
           exact ⟨rfl,rfl,H277.out.pg.trans k⟩
          | ok u284 s285=>
           rw [hx281] at k280
           have R286:=hid (bind_of R279.out hx281)
           obtain ⟨a287,b288,c289,_⟩:=(must_ty E.fit tLrc s243).ok u284 s285 hx281
           have K290:=hid (show CO g l en s243 91 s285 (.tuple #[]) [.string ⟨#[125]⟩] from k280)
           clear k280 hx281
           go_wp2_with (go_at_call 91;with_reducible refine (K290.out _ H277.out.prs).mono ?_)
           rintro e V291 ⟨rfl,hp,hg⟩
           have H292:=hid (H277.out.kept hp hg)
           clear hp hg K290
           go_wp2_with (first
            | (with_reducible refine frL 1 H292.out ?_)
            | (with_reducible refine frS 0 (nCells (.mk 8 [] (zs259.map Prod.fst)) (.slice A255 zs259.length m256)) H292.out ?_))
           intro V293 hV
           have H294:=hid hV
           clear hV
           go_wp2
           rw [R286.out]
           exact ret_n Tryz.results228 (k:=0) rfl H294.out (by with_unfolding_all rfl) rfl ⟨_,rfl,H294.out.end _ (rfl),H294.out.prs,H294.out.pg⟩
     ·skip
      have R295:=hid (ite_no R198.out hb202)
      have K296:=hid (tkN g en ⟨#[123]⟩ hb202)
      clear hb202
      go_wp2_with (go_at_call 88;with_reducible refine (K296.out _ H201.out.prs).mono ?_)
      rintro e V297 ⟨rfl,hp,hg⟩
      have H298:=hid (H201.out.kept hp hg)
      clear hp hg K296
      obtain ⟨a299,m300,hf301⟩:=fail_to (α:=Unit) l en s.at'
      have R302:=hid (R295.out.trans (fail_nd hf301))
      have K303:=hid (fun (W:World) (h:PrS g l en s W)=>show Calls Tryz.prog 29 #[.pointer (some ⟨g,0,none⟩)] W (BdY g a299 m300 W) from syFail_any g l en s W h a299 m300 hf301)
      clear hf301
      go_wp2_with (go_at_call 29;with_reducible refine (K303.out _ H298.out.prs).mono ?_)
      rintro e V ⟨rfl,k⟩
      rw [R302.out]
      exact ⟨rfl,rfl,H298.out.pg.trans k⟩
end
end Go.Proofs.YtmbeicndhigklaaGreatDoor
