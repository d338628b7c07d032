/-
The walk of the parser's term (chapter 15).
-/
import Derived.Test.YtmbeicndhigklaaGreatDoorPSynI
import Derived.Test.YtmbeicndhigklaaGreatDoorPDecC
namespace Go.Proofs.YtmbeicndhigklaaGreatDoor
open Lib (hid)
open Go.RowKit
section
variable {numE:List UInt8→Nat} {g:Nat} {l:List Tk} {en:Nat} {R:Knot} {n:Nat}
theorem term_of {t:Tk} {s:PT} {r:PY Nd} (h:r=termB numE l en R s) (ht:t=dueT l s.at'):r=if t.kind=1 then (if numE t.text=0 then .ok (.mk 3 t.text []) (nextT s) else .bad t.pos (numE t.text))
 else if t.kind=3 then .ok (.mk 10 [] [ndSelf,namedN t.text]) (nextT s)
 else if t.kind=4 then .ok (.mk 24 t.text []) (nextT s)
 else if t.kind=7 then textB l en R [] s
 else if t.kind=5 then (if (dueT l (s.at'+1)).kind=7 then textB l en R t.text (nextT s) else .ok (.mk 6 t.text []) (nextT s))
 else if t.kind=2 then (if wordT t.text=true then wordB l en R s else callB l en R s)
 else signedB l en R s:=by
 subst ht
 exact h
set_option maxHeartbeats 4000000 in
set_option maxRecDepth 100000 in
theorem syTerm_any (E:Env numE g l en R n) (KT1:∀p,(dueT l p).text.length≤100000000∨(dueT l p).kind=8) (KD:∀(x:List UInt8) (W:World),x.length≤100000000→Tab10 W→Calls Tryz.prog 70 #[.string ⟨x.toArray⟩] W (ParD (numE x) W))
  (s:PT) (w:World) (h:PrS g l en s w) (hs:s.at'≤l.length) (hm:l.length<n+1+s.at') (hp:s.pipes≤600) :
  Calls Tryz.prog 202 #[.pointer (some ⟨g,0,none⟩)] w (ResN g l en w (termB numE l en R s)):=by
 have hl:=E.len
 have KN:=hid (fun k t A n c W=>syNode_any k t A n c W)
 have KM:=hid (fun t W=>syNamed_any t W)
 have FD0:=fun a p t W=>fld0 a p t W
 have FD1:=fun a p t W=>fld1 a p t W
 have H0:=hid (Fr.start h)
 obtain ⟨r,hr⟩:∃r,r=termB numE l en R s:=⟨_,rfl⟩
 rw [←hr]
 have R0:=hid hr
 clear hr h
 go_enter Tryz.func202,Tryz.ntmps202
 go_wp2_with (with_reducible refine frA H0.out ?_)
 intro V1 hV
 have H2:=hid hV
 clear hV
 obtain ⟨t3,ht4⟩:∃t,t=dueT l s.at':=⟨_,rfl⟩
 have K5:=hid (show CO g l en s 122 s (.agg #[.int .i64 (t3.kind:Int),.string ⟨t3.text.toArray⟩,.int .i64 (t3.pos:Int)]) [] from fun W h=>ht4▸syDue_any g l en s W h)
 have Dt3:=hid ht4
 clear ht4
 go_wp2_with (go_at_call 122;with_reducible refine (K5.out _ H2.out.prs).mono ?_)
 rintro e V6 ⟨rfl,hp,hg⟩
 have H7:=hid (H2.out.kept hp hg)
 clear hp hg K5
 have R8:=hid (term_of R0.out Dt3.out)
 go_wp2_with (with_reducible refine frAK H7.out ?_)
 intro V9 hV
 have H10:=hid hV
 clear hV
 go_wp2_with (with_reducible refine frSK 1 (tkCs t3) H10.out ?_)
 intro V11 hV
 have H12:=hid hV
 clear hV
 by_cases hk13:t3.kind=1
 ·skip
  have R14:=hid (ite_yes R8.out hk13)
  have nz15:t3.kind≠0:=by omega
  have c16:=H12.out.cell 1 rfl 0 rfl
  rw [hk13] at c16
  have ltx:=due_some (l:=l) (p:=s.at') (Dt3.out▸nz15)
  have c17:=H12.out.cell 1 rfl 1 rfl
  have c18:=H12.out.cell 1 rfl 2 rfl
  have K19:=hid (fun (W:World) (h:PrS g l en s W)=>KD t3.text W (by rw [Dt3.out];exact (KT1 _).resolve_right (by rw [←Dt3.out];omega)) h.tab.1)
  obtain ⟨nn20,hn21⟩:∃k,k=numE t3.text:=⟨_,rfl⟩
  rw [←hn21] at K19
  have q:=R14.out
  rw [←hn21] at q
  have R22:=hid q
  clear q hn21
  go_wp2_with (go_at_call 70;with_reducible refine (K19.out _ H12.out.prs).mono ?_)
  rintro e V23 ⟨ng24,A25,n26,c27,ex28,rfl,hb⟩
  have H29:=hid (H12.out.below hb)
  clear c16 c17 c18
  clear hb K19
  have hV:=H29.out.below ((Below.refl _ V23).alloc (Nat.le_refl _) (.cells #[.bool ng24,.slice A25 n26 c27,.int .i64 ex28] TDec))
  go_upto_region 5 with fail
  have hV:Fr g l en w s [(w.heap.size,zN,TN),(V6.heap.size,tkCs t3,TTk)] [] rNil [] (V23.alloc (.cells #[.bool ng24,.slice A25 n26 c27,.int .i64 ex28] TDec)):=hV
  generalize V23.alloc (.cells #[.bool ng24,.slice A25 n26 c27,.int .i64 ex28] TDec)=V30 at *
  have H31:=hid hV
  clear hV
  by_cases h0:nn20=0
  ·skip
   have R32:=hid (ite_yes R22.out h0)
   have z1:((nn20:Int) != 0)=false:=by rw [h0];rfl
   clear h0
   obtain ⟨s33,hs34⟩:∃z,z=nextT s:=⟨_,rfl⟩
   have lt36:=ltx
   have a37:s33.at'=s.at'+1:=by rw [hs34];rfl
   have p38:s33.pipes=s.pipes:=by rw [hs34];rfl
   have R35:=hid (hs34▸R32.out)
   have c39:=H31.out.prs.c1
   have f40:=H31.out.prs.frozen 1
   have hn:=H31.out.next
   rw [←hs34] at hn
   have H41:=hid hn
   clear hn hs34
   go_upto_region 8 with fail
   generalize V30.setCell ⟨g,1,none⟩ (.int .i64 ((s.at':Int)+1))=V42 at *
   clear c39 f40
   have H43:=hid (H41.out.leaf (.mk 3 t3.text []) rfl)
   have c44:=H43.out.cell 1 rfl 1 rfl
   go_wp2_with (go_at_call 92;with_reducible refine (KN.out _ _ _ _ _ _).mono ?_)
   rintro e V45 ⟨rfl,hb⟩
   have H46:=hid (H43.out.below hb)
   clear hb
   clear c44
   go_wp2_with (with_reducible refine frS 0 (nCells (.mk 3 t3.text []) rNil) H46.out ?_)
   intro V47 hV
   have H48:=hid hV
   clear hV
   go_wp2
   rw [R35.out]
   exact ret_n Tryz.results202 (k:=0) rfl H48.out (by with_unfolding_all rfl) rfl ⟨_,rfl,H48.out.give (t:=(.mk 3 t3.text [])) (by simp),H48.out.prs,H48.out.pg⟩
  ·skip
   have R49:=hid (ite_no R22.out h0)
   have z1:((nn20:Int) != 0)=true:=by simp;omega
   have c50:=H31.out.cell 1 rfl 2 rfl
   clear h0
   go_wp2
   rw [R49.out]
   exact ⟨rfl,rfl,H31.out.pg⟩
 ·skip
  have R51:=hid (ite_no R8.out hk13)
  have z52:((t3.kind:Int)==1)=false:=beq_false_of_ne (by omega)
  by_cases hk53:t3.kind=3
  ·skip
   have R54:=hid (ite_yes R51.out hk53)
   have nz55:t3.kind≠0:=by omega
   have c56:=H12.out.cell 1 rfl 0 rfl
   rw [hk53] at c56
   obtain ⟨s57,hs58⟩:∃z,z=nextT s:=⟨_,rfl⟩
   have lt60:=due_some (l:=l) (p:=s.at') (Dt3.out▸nz55)
   have a61:s57.at'=s.at'+1:=by rw [hs58];rfl
   have p62:s57.pipes=s.pipes:=by rw [hs58];rfl
   have R59:=hid (hs58▸R54.out)
   have c63:=H12.out.prs.c1
   have f64:=H12.out.prs.frozen 1
   have hn:=H12.out.next
   rw [←hs58] at hn
   have H65:=hid hn
   clear hn hs58
   go_upto_region 11 with fail
   generalize V11.setCell ⟨g,1,none⟩ (.int .i64 ((s.at':Int)+1))=V66 at *
   clear c56 c63 f64
   go_upto_region 11 with fail
   refine wp_region_s 6 (BoxS [(w.heap.size,zN,TN),(V6.heap.size,tkCs t3,TTk)]) (by kernel_rfl) H65.out.drew.boxS (fun hS0=>?_)
   have H67:=hid H65.out.drew
   generalize V66.drew=V68 at *
   refine tk 1 (.pointer (some ⟨V6.heap.size,1,none⟩)) [2,3,4,5,6] hS0 ?_
   refine tk11 2 (.string ⟨t3.text.toArray⟩) [3,4,5,6] hS0 ?_
   have H69:=hid (H67.out.leaf ndSelf rfl)
   refine st 0 fun K hK=>?_
   go_simp
   go_at_call 92
   with_reducible refine (KN.out _ _ _ _ _ _).mono ?_
   rintro e V70 ⟨rfl,hb⟩
   have H71:=hid (H69.out.below hb)
   clear hb
   try dsimp only
   refine hK.out _ _ (fun _=>H71.out.boxS) (fun _=>?_)
   clear hK K
   refine st 3 fun K hK=>?_
   go_simp
   go_at_call 203
   with_reducible refine (KM.out (t3.text) _).mono ?_
   rintro e V72 ⟨kv,rfl,hx,hb⟩
   obtain ⟨A73,m74,rfl⟩:=hx.slice
   have H75:=hid (H71.out.tree (H71.out.prs.below hb) (.of hb) hx)
   clear hx hb
   try dsimp only
   refine hK.out _ _ (fun _=>H75.out.boxS) (fun _=>?_)
   clear hK K
   refine st 4 fun K hK=>?_
   simp only [nAgg]
   go_simp
   have H76:=hid (H75.out.row [(ndSelf,rNil),(namedN (t3.text),.slice A73 (namedN (t3.text)).kids.length m74)] 2 rfl (by simp) (by decide) (.mk 10 [] [ndSelf,namedN (t3.text)]) rfl)
   refine hK.out _ _ (fun _=>H76.out.boxS) (fun _=>?_)
   clear hK K
   refine st 5 fun K hK=>?_
   go_simp
   go_at_call 92
   with_reducible refine (KN.out _ _ _ _ _ _).mono ?_
   rintro e V77 ⟨rfl,hb⟩
   have H78:=hid (H76.out.below hb)
   clear hb
   try dsimp only
   refine hK.out _ _ (fun _=>H78.out.boxS) (fun _=>?_)
   clear hK K
   refine st 6 fun K hK=>?_
   rw [if_pos (by kernel_rfl)]
   with_reducible refine fr_wpStore threeN _ _ (by with_unfolding_all rfl) 0 rfl (nCells (.mk 10 [] [ndSelf,namedN (t3.text)]) (.slice (some ⟨V72.heap.size,0,none⟩) 2 2)) (by with_unfolding_all rfl) (by with_unfolding_all rfl) rfl (n_one _ _ _ _) H78.out ?_
   intro V79 hV
   have H80:=hid hV
   clear hV
   refine hK.out _ _ (fun h=>absurd rfl h) (fun _=>?_)
   clear hK K
   refine wpAnyS_done (by kernel_rfl) ?_ _
   go_wp2
   rw [R59.out]
   exact ret_n Tryz.results202 (k:=0) rfl H80.out (by with_unfolding_all rfl) rfl ⟨_,rfl,H80.out.give (t:=(.mk 10 [] [ndSelf,namedN (t3.text)])) (by simp),H80.out.prs,H80.out.pg⟩
  ·skip
   have R81:=hid (ite_no R51.out hk53)
   have z82:((t3.kind:Int)==3)=false:=beq_false_of_ne (by omega)
   by_cases hk83:t3.kind=4
   ·skip
    have R84:=hid (ite_yes R81.out hk83)
    have nz85:t3.kind≠0:=by omega
    have c86:=H12.out.cell 1 rfl 0 rfl
    rw [hk83] at c86
    obtain ⟨s87,hs88⟩:∃z,z=nextT s:=⟨_,rfl⟩
    have lt90:=due_some (l:=l) (p:=s.at') (Dt3.out▸nz85)
    have a91:s87.at'=s.at'+1:=by rw [hs88];rfl
    have p92:s87.pipes=s.pipes:=by rw [hs88];rfl
    have R89:=hid (hs88▸R84.out)
    have c93:=H12.out.prs.c1
    have f94:=H12.out.prs.frozen 1
    have hn:=H12.out.next
    rw [←hs88] at hn
    have H95:=hid hn
    clear hn hs88
    go_upto_region 14 with fail
    generalize V11.setCell ⟨g,1,none⟩ (.int .i64 ((s.at':Int)+1))=V96 at *
    clear c86 c93 f94
    have H97:=hid (H95.out.leaf (.mk 24 t3.text []) rfl)
    have c98:=H97.out.cell 1 rfl 1 rfl
    go_wp2_with (go_at_call 92;with_reducible refine (KN.out _ _ _ _ _ _).mono ?_)
    rintro e V99 ⟨rfl,hb⟩
    have H100:=hid (H97.out.below hb)
    clear hb
    clear c98
    go_wp2_with (with_reducible refine frS 0 (nCells (.mk 24 t3.text []) rNil) H100.out ?_)
    intro V101 hV
    have H102:=hid hV
    clear hV
    go_wp2
    rw [R89.out]
    exact ret_n Tryz.results202 (k:=0) rfl H102.out (by with_unfolding_all rfl) rfl ⟨_,rfl,H102.out.give (t:=(.mk 24 t3.text [])) (by simp),H102.out.prs,H102.out.pg⟩
   ·skip
    have R103:=hid (ite_no R81.out hk83)
    have z104:((t3.kind:Int)==4)=false:=beq_false_of_ne (by omega)
    by_cases hk105:t3.kind=7
    ·skip
     have R106:=hid (ite_yes R103.out hk105)
     have nz107:t3.kind≠0:=by omega
     have c108:=H12.out.cell 1 rfl 0 rfl
     rw [hk105] at c108
     have k109:=fun (W:World) (h:PrS g l en s W)=>syText_any E [] s W h (by omega) (by omega) (by omega)
     cases hx110:textB l en R [] s with
     | bad a m=>
      rw [hx110] at k109
      have R111:=hid (R106.out.trans hx110)
      have K112:=hid (show CB g l en s 205 a m [.string ⟨#[]⟩] from k109)
      clear k109 hx110
      go_wp2_with (go_at_call 205;with_reducible refine (K112.out _ H12.out.prs).mono ?_)
      rintro e V ⟨rfl,k⟩
      rw [R111.out]
      exact ⟨rfl,rfl,H12.out.pg.trans k⟩
     | ok v113 s114=>
      rw [hx110] at k109
      have R115:=hid (R106.out.trans hx110)
      have K116:=hid (show CN g l en s 205 s114 v113 [.string ⟨#[]⟩] from k109)
      clear k109 hx110
      go_wp2_with (go_at_call 205;with_reducible refine (K116.out _ H12.out.prs).mono ?_)
      rintro e V117 ⟨kv,rfl,hx,hp,hg⟩
      obtain ⟨A118,m119,rfl⟩:=hx.slice
      have H120:=hid (H12.out.tree hp hg hx)
      clear hx hp hg
      clear c108
      clear K116
      go_wp2_with (with_reducible refine frS 0 (nCells v113 (.slice A118 v113.kids.length m119)) H120.out ?_)
      intro V121 hV
      have H122:=hid hV
      clear hV
      go_wp2
      rw [R115.out]
      exact ret_n Tryz.results202 (k:=0) rfl H122.out (by with_unfolding_all rfl) rfl ⟨_,rfl,H122.out.give (t:=v113) (by simp),H122.out.prs,H122.out.pg⟩
    ·skip
     have R123:=hid (ite_no R103.out hk105)
     have z124:((t3.kind:Int)==7)=false:=beq_false_of_ne (by omega)
     by_cases hk125:t3.kind=5
     ·skip
      have R126:=hid (ite_yes R123.out hk125)
      have nz127:t3.kind≠0:=by omega
      have c128:=H12.out.cell 1 rfl 0 rfl
      rw [hk125] at c128
      obtain ⟨s129,hs130⟩:∃z,z=nextT s:=⟨_,rfl⟩
      have lt132:=due_some (l:=l) (p:=s.at') (Dt3.out▸nz127)
      have a133:s129.at'=s.at'+1:=by rw [hs130];rfl
      have p134:s129.pipes=s.pipes:=by rw [hs130];rfl
      have R131:=hid (hs130▸R126.out)
      have c135:=H12.out.prs.c1
      have f136:=H12.out.prs.frozen 1
      have hn:=H12.out.next
      rw [←hs130] at hn
      have H137:=hid hn
      clear hn hs130
      go_upto_region 19 with fail
      generalize V11.setCell ⟨g,1,none⟩ (.int .i64 ((s.at':Int)+1))=V138 at *
      clear c128 c135 f136
      have q:=R131.out
      rw [←a133] at q
      have R139:=hid q
      clear q
      obtain ⟨t140,ht141⟩:∃t,t=dueT l s129.at':=⟨_,rfl⟩
      have K142:=hid (show CO g l en s129 122 s129 (.agg #[.int .i64 (t140.kind:Int),.string ⟨t140.text.toArray⟩,.int .i64 (t140.pos:Int)]) [] from fun W h=>ht141▸syDue_any g l en s129 W h)
      have Dt140:=hid ht141
      clear ht141
      go_wp2_with (go_at_call 122;with_reducible refine (K142.out _ H137.out.prs).mono ?_)
      rintro e V143 ⟨rfl,hp,hg⟩
      have H144:=hid (H137.out.kept hp hg)
      clear hp hg K142
      have q:=R139.out
      rw [←Dt140.out] at q
      have R145:=hid q
      clear q
      by_cases hk146:t140.kind=7
      ·skip
       have R147:=hid (ite_yes R145.out hk146)
       have nz148:t140.kind≠0:=by omega
       have z149:((t140.kind:Int)==7)=true:=by rw [hk146];rfl
       have HK150:=hid hk146
       clear hk146
       have c151:=H144.out.cell 1 rfl 1 rfl
       have k152:=fun (W:World) (h:PrS g l en s129 W)=>syText_any E t3.text s129 W h (by omega) (by omega) (by omega)
       cases hx153:textB l en R t3.text s129 with
       | bad a m=>
        rw [hx153] at k152
        have R154:=hid (R147.out.trans hx153)
        have K155:=hid (show CB g l en s129 205 a m [.string ⟨t3.text.toArray⟩] from k152)
        clear k152 hx153
        go_wp2_with (go_at_call 205;with_reducible refine (K155.out _ H144.out.prs).mono ?_)
        rintro e V ⟨rfl,k⟩
        rw [R154.out]
        exact ⟨rfl,rfl,H144.out.pg.trans k⟩
       | ok v156 s157=>
        rw [hx153] at k152
        have R158:=hid (R147.out.trans hx153)
        have K159:=hid (show CN g l en s129 205 s157 v156 [.string ⟨t3.text.toArray⟩] from k152)
        clear k152 hx153
        go_wp2_with (go_at_call 205;with_reducible refine (K159.out _ H144.out.prs).mono ?_)
        rintro e V160 ⟨kv,rfl,hx,hp,hg⟩
        obtain ⟨A161,m162,rfl⟩:=hx.slice
        have H163:=hid (H144.out.tree hp hg hx)
        clear hx hp hg
        clear c151
        clear K159
        go_wp2_with (with_reducible refine frS 0 (nCells v156 (.slice A161 v156.kids.length m162)) H163.out ?_)
        intro V164 hV
        have H165:=hid hV
        clear hV
        go_wp2
        rw [R158.out]
        exact ret_n Tryz.results202 (k:=0) rfl H165.out (by with_unfolding_all rfl) rfl ⟨_,rfl,H165.out.give (t:=v156) (by simp),H165.out.prs,H165.out.pg⟩
      ·skip
       have R166:=hid (ite_no R145.out hk146)
       have z167:((t140.kind:Int)==7)=false:=beq_false_of_ne (by omega)
       have H168:=hid (H144.out.leaf (.mk 6 t3.text []) rfl)
       have c169:=H168.out.cell 1 rfl 1 rfl
       go_wp2_with (go_at_call 92;with_reducible refine (KN.out _ _ _ _ _ _).mono ?_)
       rintro e V170 ⟨rfl,hb⟩
       have H171:=hid (H168.out.below hb)
       clear hb
       clear c169
       go_wp2_with (with_reducible refine frS 0 (nCells (.mk 6 t3.text []) rNil) H171.out ?_)
       intro V172 hV
       have H173:=hid hV
       clear hV
       go_wp2
       rw [R166.out]
       exact ret_n Tryz.results202 (k:=0) rfl H173.out (by with_unfolding_all rfl) rfl ⟨_,rfl,H173.out.give (t:=(.mk 6 t3.text [])) (by simp),H173.out.prs,H173.out.pg⟩
     ·skip
      have R174:=hid (ite_no R123.out hk125)
      have z175:((t3.kind:Int)==5)=false:=beq_false_of_ne (by omega)
      by_cases hk176:t3.kind=2
      ·skip
       have R177:=hid (ite_yes R174.out hk176)
       have nz178:t3.kind≠0:=by omega
       have c179:=H12.out.cell 1 rfl 0 rfl
       rw [hk176] at c179
       have c180:=H12.out.cell 1 rfl 1 rfl
       have kw:=fun W=>RetY.of (lexWord_any ⟨t3.text.toArray⟩ W)
       rw [wordT_of] at kw
       by_cases hw182:wordT t3.text=true
       ·skip
        have R183:=hid (ite_yes R177.out hw182)
        rw [hw182] at kw
        have K181:=hid kw
        clear kw
        go_wp2_with (go_at_call 50;with_reducible refine (K181.out _).mono ?_)
        rintro e V184 ⟨rfl,hb⟩
        have H185:=hid (H12.out.below hb)
        clear hb K181
        clear c179 c180
        have k186:=fun (W:World) (h:PrS g l en s W)=>syWord_any E s W h (by omega) (by omega) (by omega)
        cases hx187:wordB l en R s with
        | bad a m=>
         rw [hx187] at k186
         have R188:=hid (R183.out.trans hx187)
         have K189:=hid (show CB g l en s 226 a m [] from k186)
         clear k186 hx187
         go_wp2_with (go_at_call 226;with_reducible refine (K189.out _ H185.out.prs).mono ?_)
         rintro e V ⟨rfl,k⟩
         rw [R188.out]
         exact ⟨rfl,rfl,H185.out.pg.trans k⟩
        | ok v190 s191=>
         rw [hx187] at k186
         have R192:=hid (R183.out.trans hx187)
         have K193:=hid (show CN g l en s 226 s191 v190 [] from k186)
         clear k186 hx187
         go_wp2_with (go_at_call 226;with_reducible refine (K193.out _ H185.out.prs).mono ?_)
         rintro e V194 ⟨kv,rfl,hx,hp,hg⟩
         obtain ⟨A195,m196,rfl⟩:=hx.slice
         have H197:=hid (H185.out.tree hp hg hx)
         clear hx hp hg
         clear K193
         go_wp2_with (with_reducible refine frS 0 (nCells v190 (.slice A195 v190.kids.length m196)) H197.out ?_)
         intro V198 hV
         have H199:=hid hV
         clear hV
         go_wp2
         rw [R192.out]
         exact ret_n Tryz.results202 (k:=0) rfl H199.out (by with_unfolding_all rfl) rfl ⟨_,rfl,H199.out.give (t:=v190) (by simp),H199.out.prs,H199.out.pg⟩
       ·skip
        have R200:=hid (ite_no R177.out hw182)
        have hwf:wordT t3.text=false:=by simpa using hw182
        rw [hwf] at kw
        have K181:=hid kw
        clear kw
        go_wp2_with (go_at_call 50;with_reducible refine (K181.out _).mono ?_)
        rintro e V201 ⟨rfl,hb⟩
        have H202:=hid (H12.out.below hb)
        clear hb K181
        clear c179 c180
        have k203:=fun (W:World) (h:PrS g l en s W)=>syCall_any E s W h (by omega) (by omega) (by omega)
        cases hx204:callB l en R s with
        | bad a m=>
         rw [hx204] at k203
         have R205:=hid (R200.out.trans hx204)
         have K206:=hid (show CB g l en s 227 a m [] from k203)
         clear k203 hx204
         go_wp2_with (go_at_call 227;with_reducible refine (K206.out _ H202.out.prs).mono ?_)
         rintro e V ⟨rfl,k⟩
         rw [R205.out]
         exact ⟨rfl,rfl,H202.out.pg.trans k⟩
        | ok v207 s208=>
         rw [hx204] at k203
         have R209:=hid (R200.out.trans hx204)
         have K210:=hid (show CN g l en s 227 s208 v207 [] from k203)
         clear k203 hx204
         go_wp2_with (go_at_call 227;with_reducible refine (K210.out _ H202.out.prs).mono ?_)
         rintro e V211 ⟨kv,rfl,hx,hp,hg⟩
         obtain ⟨A212,m213,rfl⟩:=hx.slice
         have H214:=hid (H202.out.tree hp hg hx)
         clear hx hp hg
         clear K210
         go_wp2_with (with_reducible refine frS 0 (nCells v207 (.slice A212 v207.kids.length m213)) H214.out ?_)
         intro V215 hV
         have H216:=hid hV
         clear hV
         go_wp2
         rw [R209.out]
         exact ret_n Tryz.results202 (k:=0) rfl H216.out (by with_unfolding_all rfl) rfl ⟨_,rfl,H216.out.give (t:=v207) (by simp),H216.out.prs,H216.out.pg⟩
      ·skip
       have R217:=hid (ite_no R174.out hk176)
       have z218:((t3.kind:Int)==2)=false:=beq_false_of_ne (by omega)
       have c219:=H12.out.cell 1 rfl 0 rfl
       have k220:=fun (W:World) (h:PrS g l en s W)=>sySigned_any E s W h (by omega) (by omega) (by omega)
       cases hx221:signedB l en R s with
       | bad a m=>
        rw [hx221] at k220
        have R222:=hid (R217.out.trans hx221)
        have K223:=hid (show CB g l en s 228 a m [] from k220)
        clear k220 hx221
        go_wp2_with (go_at_call 228;with_reducible refine (K223.out _ H12.out.prs).mono ?_)
        rintro e V ⟨rfl,k⟩
        rw [R222.out]
        exact ⟨rfl,rfl,H12.out.pg.trans k⟩
       | ok v224 s225=>
        rw [hx221] at k220
        have R226:=hid (R217.out.trans hx221)
        have K227:=hid (show CN g l en s 228 s225 v224 [] from k220)
        clear k220 hx221
        go_wp2_with (go_at_call 228;with_reducible refine (K227.out _ H12.out.prs).mono ?_)
        rintro e V228 ⟨kv,rfl,hx,hp,hg⟩
        obtain ⟨A229,m230,rfl⟩:=hx.slice
        have H231:=hid (H12.out.tree hp hg hx)
        clear hx hp hg
        clear c219
        clear K227
        go_wp2_with (with_reducible refine frS 0 (nCells v224 (.slice A229 v224.kids.length m230)) H231.out ?_)
        intro V232 hV
        have H233:=hid hV
        clear hV
        go_wp2
        rw [R226.out]
        exact ret_n Tryz.results202 (k:=0) rfl H233.out (by with_unfolding_all rfl) rfl ⟨_,rfl,H233.out.give (t:=v224) (by simp),H233.out.prs,H233.out.pg⟩
end
end Go.Proofs.YtmbeicndhigklaaGreatDoor
