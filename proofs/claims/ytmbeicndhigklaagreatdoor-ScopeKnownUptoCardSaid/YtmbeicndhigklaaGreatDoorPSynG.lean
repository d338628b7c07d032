/-
The walks of the parser's word, text (chapter 15).
-/
import Derived.Test.YtmbeicndhigklaaGreatDoorPSynE
namespace Go.Proofs.YtmbeicndhigklaaGreatDoor
open Lib (hid)
open Go.RowKit
theorem bind_ok {α β:Type} {x:PY α} {f:α→PT→PY β} {v:β} {s:PT} (h:x.bind f=.ok v s):∃a t,x=.ok a t∧f a t=.ok v s:=by
 cases x with
 | ok a t=>exact ⟨a,t,rfl,h⟩
 | bad a e=>cases h
section
variable {numE:List UInt8→Nat} {g:Nat} {l:List Tk} {en:Nat} {R:Knot} {n:Nat}
theorem fold_len {s s':PT} {ns:List Nd} (h:foldB l en R s=.ok ns s'):ns.length=4:=by
 obtain ⟨_,_,_,h⟩:=bind_ok h
 obtain ⟨_,_,_,h⟩:=bind_ok h
 obtain ⟨_,_,_,h⟩:=bind_ok h
 obtain ⟨_,_,_,h⟩:=bind_ok h
 obtain ⟨_,_,_,h⟩:=bind_ok h
 obtain ⟨_,_,_,h⟩:=bind_ok h
 obtain ⟨_,_,_,h⟩:=bind_ok h
 injection h with h1
 subst h1
 rfl
set_option maxHeartbeats 4000000 in
set_option maxRecDepth 100000 in
theorem syText_any (E:Env numE g l en R n) (fmt:List UInt8) (s:PT) (w:World) (h:PrS g l en s w) (_hs:s.at'≤l.length) (hm:l.length<n+1+s.at') (hp:s.pipes≤600) :
  Calls Tryz.prog 205 #[.pointer (some ⟨g,0,none⟩),.string ⟨fmt.toArray⟩] w (ResN g l en w (textB l en R fmt s)):=by
 have hl:=E.len
 have KN:=hid (fun k t A n c W=>syNode_any k t A n c W)
 have KM:=hid (fun t W=>syNamed_any t W)
 have FD0:=fun a p t W=>fld0 a p t W
 have FD1:=fun a p t W=>fld1 a p t W
 have H0:=hid (Fr.start h)
 obtain ⟨r,hr⟩:∃r,r=textB l en R fmt s:=⟨_,rfl⟩
 rw [←hr]
 unfold textB at hr
 have R0:=hid hr
 clear hr h
 go_enter Tryz.func205,Tryz.ntmps205
 go_wp2_with (with_reducible refine frA H0.out ?_)
 intro V1 hV
 have H2:=hid hV
 clear hV
 have k3:=fun (W:World) (h:PrS g l en s W)=>syKind_any g l en s W 7 h hl (by decide)
 cases hx4:kindT l en 7 s with
 | bad a m=>
  rw [hx4] at k3
  have R5:=hid (bind_bad R0.out hx4)
  have K6:=hid (show CB g l en s 90 a m [.int .i64 7] from k3)
  clear k3 hx4
  go_wp2_with (go_at_call 90;with_reducible refine (K6.out _ H2.out.prs).mono ?_)
  rintro e V ⟨rfl,k⟩
  rw [R5.out]
  exact ⟨rfl,rfl,H2.out.pg.trans k⟩
 | ok t7 s8=>
  rw [hx4] at k3
  have R9:=hid (bind_of R0.out hx4)
  obtain ⟨a10,b11,c12,_⟩:=(kind_ty E.fit (by decide) s).ok t7 s8 hx4
  have K13:=hid (show CO g l en s 90 s8 (.agg #[.int .i64 (t7.kind:Int),.string ⟨t7.text.toArray⟩,.int .i64 (t7.pos:Int)]) [.int .i64 7] from k3)
  clear k3 hx4
  go_wp2_with (go_at_call 90;with_reducible refine (K13.out _ H2.out.prs).mono ?_)
  rintro e V14 ⟨rfl,hp,hg⟩
  have H15:=hid (H2.out.kept hp hg)
  clear hp hg K13
  go_wp2_with (go_at_call 92;with_reducible refine (KN.out _ _ _ _ _ _).mono ?_)
  rintro e V16 ⟨rfl,hb⟩
  have H17:=hid (H15.out.below hb)
  clear hb
  go_wp2_with (with_reducible refine frA H17.out ?_)
  intro V18 hV
  have H19:=hid hV
  clear hV
  go_wp2_with (with_reducible refine frS 1 (nCells (.mk 4 fmt []) rNil) H19.out ?_)
  intro V20 hV
  have H21:=hid hV
  clear hV
  obtain ⟨KK,hKK⟩:∃K:List Nd→PT→PY Nd,K=fun ns s=>.ok (.mk 4 fmt ns) s:=⟨_,rfl⟩
  have RK:=hid (show r=(partsF l en R (l.length+1) s8).bind KK by rw [hKK];exact R9.out)
  have HKK:=hid hKK
  clear hKK
  go_wp2
  go_loopg [] (l.length+1) (fun kx wr=>∃(s':PT) (f:Nat) (zs:List (Nd×Value)) (A:Option Addr) (c:Nat),f≤kx∧s8.at'≤s'.at'∧s'.at'≤l.length∧s'.pipes=s.pipes∧l.length<f+s'.at'∧zs.length≤s'.at'∧Fr g l en w s' [(w.heap.size,zN,TN),(V16.heap.size,nCells (.mk 4 fmt []) (.slice A zs.length c),TN)] [] (.slice A zs.length c) zs wr∧Hid (r=(partsF l en R f s').bind fun ns s=>KK (zs.map Prod.fst++ns) s))
  case atStart=>exact ⟨s8,l.length+1,[],none,0,Nat.le_refl _,by omega,by omega,by omega,by omega,Nat.zero_le _,H21.out.drop 2 (by simp),RK.out⟩
  case round=>
   obtain ⟨s',f,zs,A,c,hfk,q1,q2,q3,q4,q5,hF,hR⟩:=hrel
   obtain ⟨f,rfl⟩:∃k,f=k+1:=⟨f-1,by omega⟩
   have HF:=hid hF
   have RF:=hid hR.out
   clear hF hR
   obtain ⟨t22,ht23⟩:∃t,t=dueT l s'.at':=⟨_,rfl⟩
   have K24:=hid (show CO g l en s' 122 s' (.agg #[.int .i64 (t22.kind:Int),.string ⟨t22.text.toArray⟩,.int .i64 (t22.pos:Int)]) [] from fun W h=>ht23▸syDue_any g l en s' W h)
   have Dt22:=hid ht23
   clear ht23
   go_wp2_with (go_at_call 122;with_reducible refine (K24.out _ HF.out.prs).mono ?_)
   rintro e V25 ⟨rfl,hp,hg⟩
   have H26:=hid (HF.out.kept hp hg)
   clear hp hg K24
   go_wp2_with (with_reducible refine frAK H26.out ?_)
   intro V27 hV
   have H28:=hid hV
   clear hV
   go_wp2_with (with_reducible refine frSK 2 (tkCs t22) H28.out ?_)
   intro V29 hV
   have H30:=hid hV
   clear hV
   by_cases k8:t22.kind=8
   ·skip
    have nz31:t22.kind≠0:=by omega
    have c32:=H30.out.cell 2 rfl 0 rfl
    rw [k8] at c32
    obtain ⟨s33,hs34⟩:∃z,z=nextT s':=⟨_,rfl⟩
    have lt36:=due_some (l:=l) (p:=s'.at') (Dt22.out▸nz31)
    have a37:s33.at'=s'.at'+1:=by rw [hs34];rfl
    have p38:s33.pipes=s'.pipes:=by rw [hs34];rfl
    have R35:=hid (hs34▸parts_8 RF.out Dt22.out k8)
    have c39:=H30.out.prs.c1
    have f40:=H30.out.prs.frozen 1
    have hn:=H30.out.next
    rw [←hs34] at hn
    have H41:=hid hn
    clear hn hs34
    go_upto_region 9 with fail
    generalize V29.setCell ⟨g,1,none⟩ (.int .i64 ((s'.at':Int)+1))=V42 at *
    clear c32 c39 f40
    have H43:=hid (H41.out.leaf (.mk 5 t22.text []) rfl)
    go_upto_region 9 with fail
    refine wp_region_s 8 (BoxS [(w.heap.size,zN,TN),(V16.heap.size,nCells (.mk 4 fmt []) (.slice A zs.length c),TN),(V25.heap.size,tkCs t22,TTk)]) (by kernel_rfl) H43.out.drew.boxS (fun hS0=>?_)
    have H44:=hid H43.out.drew
    generalize V42.drew=V45 at *
    refine tk 0 (.pointer (some ⟨V16.heap.size,2,none⟩)) [1,6,8] hS0 ?_
    refine tk12 1 (.slice A zs.length c) [6,8] hS0 ?_
    refine tk 2 (.pointer (some ⟨V25.heap.size,1,none⟩)) [3,4,5,6,8] hS0 ?_
    refine tk 3 (.string ⟨t22.text.toArray⟩) [4,5,6,8] hS0 ?_ (y:=.inl ⟨by kernel_rfl,fun _ H=>by have cX:=H.cell 2 rfl 1 rfl;go_simp⟩)
    refine st 4 fun K hK=>?_
    go_simp
    go_at_call 92
    with_reducible refine (KN.out _ _ _ _ _ _).mono ?_
    rintro e V46 ⟨rfl,hb⟩
    have H47:=hid (H44.out.below hb)
    clear hb
    try dsimp only
    refine hK.out _ _ (fun _=>H47.out.boxS) (fun _=>?_)
    clear hK K
    refine st 5 fun K hK=>?_
    simp only
    go_simp
    refine hK.out _ (V46.alloc (.cells (nCells (.mk 5 t22.text []) rNil).toArray TN)) (fun _=>(H47.out.below ((Below.refl _ V46).alloc (Nat.le_refl _) _)).boxS) (fun _=>?_)
    clear hK K
    refine st 6 fun K hK=>?_
    rw [if_pos (by kernel_rfl)]
    with_reducible refine fr_wpAppend _ _ (by with_unfolding_all rfl) (t:=.mk 5 t22.text []) (A:=none) (c:=0) (by simp) (by with_unfolding_all rfl) (by with_unfolding_all rfl) H47.out (by omega) ?_
    rintro _ V51 hV ⟨A48,m49,rfl⟩
    obtain ⟨zs52,hz⟩:∃z:List (Nd×Value),z=zs++[(.mk 5 t22.text [],rNil)]:=⟨_,rfl⟩
    rw [←hz] at hV ⊢
    have Ezs52:=hid hz
    clear hz
    have H53:=hid hV
    clear hV
    refine hK.out _ _ (fun _=>H53.out.boxS) (fun _=>?_)
    clear hK K
    refine tk 7 (.pointer (some ⟨V16.heap.size,2,none⟩)) [8] H53.out.boxS ?_
    refine st 8 fun K hK=>?_
    have cS:=H53.out.cell 1 rfl 2 rfl
    have fS:=H53.out.frozen 1 rfl 2
    go_simp
    have hV:Fr g l en w s33 [(w.heap.size,zN,TN),(V16.heap.size,nCells (.mk 4 fmt []) (.slice A48 zs52.length m49),TN),(V25.heap.size,tkCs t22,TTk)] [(.mk 5 t22.text [],rNil)] (.slice A48 zs52.length m49) zs52 (V51.setCell ⟨V16.heap.size,2,none⟩ (.slice A48 zs52.length m49)):=H53.out.setC 1 rfl 2 _
    generalize V51.setCell ⟨V16.heap.size,2,none⟩ (.slice A48 zs52.length m49)=V54 at *
    have H55:=hid hV
    clear hV cS fS
    refine hK.out _ _ (fun h=>absurd rfl h) (fun _=>?_)
    clear hK K
    refine wpAnyS_done (by kernel_rfl) ?_ _
    have R56:=hid (show r=(partsF l en R f s33).bind fun ns s=>KK (zs52.map Prod.fst++ns) s by rw [Ezs52.out];simpa using R35.out)
    go_wp2_with fail
    go_roundg f
    case measure=>omega
    case rel=>exact ⟨s33,f,zs52,A48,m49,Nat.le_refl _,by omega,by omega,by omega,by omega,by rw [Ezs52.out,List.length_append,List.length_singleton];omega,H55.out.drop 2 (by simp),R56.out⟩
   ·skip
    by_cases k9:t22.kind=9
    ·skip
     have nz57:t22.kind≠0:=by omega
     have c58:=H30.out.cell 2 rfl 0 rfl
     rw [k9] at c58
     obtain ⟨s59,hs60⟩:∃z,z=nextT s':=⟨_,rfl⟩
     have lt62:=due_some (l:=l) (p:=s'.at') (Dt22.out▸nz57)
     have a63:s59.at'=s'.at'+1:=by rw [hs60];rfl
     have p64:s59.pipes=s'.pipes:=by rw [hs60];rfl
     have R61:=hid (hs60▸parts_9 RF.out Dt22.out k9)
     have c65:=H30.out.prs.c1
     have f66:=H30.out.prs.frozen 1
     have hn:=H30.out.next
     rw [←hs60] at hn
     have H67:=hid hn
     clear hn hs60
     go_upto_region 12 with fail
     generalize V29.setCell ⟨g,1,none⟩ (.int .i64 ((s'.at':Int)+1))=V68 at *
     clear c58 c65 f66
     have k69:=fun (W:World) (h:PrS g l en s59 W)=>E.walk.pipe s59 W h (by omega) (by omega) (by omega)
     cases hx70:R.pipe s59 with
     | bad a m=>
      rw [hx70] at k69
      have R71:=hid (bind_bad R61.out hx70)
      have K72:=hid (show CB g l en s59 28 a m [] from k69)
      clear k69 hx70
      go_upto_region 12 with fail
      refine wp_region_s 7 (BoxS [(w.heap.size,zN,TN),(V16.heap.size,nCells (.mk 4 fmt []) (.slice A zs.length c),TN),(V25.heap.size,tkCs t22,TTk)]) (by kernel_rfl) H67.out.drew.boxS (fun hS0=>?_)
      have H73:=hid H67.out.drew
      generalize V68.drew=V74 at *
      refine tk 0 (.pointer (some ⟨V16.heap.size,2,none⟩)) [1,5,7] hS0 ?_
      refine tk12 1 (.slice A zs.length c) [5,7] hS0 ?_
      refine tk 2 (.pointer (some ⟨g,0,none⟩)) [3,4,5,7] hS0 ?_
      refine st 3 fun K hK=>?_
      go_simp
      go_at_call 28
      with_reducible refine (K72.out _ H73.out.prs).mono ?_
      rintro e V ⟨rfl,k⟩
      rw [R71.out]
      exact ⟨rfl,rfl,H73.out.pg.trans k⟩
     | ok v75 s76=>
      rw [hx70] at k69
      have R77:=hid (bind_of R61.out hx70)
      obtain ⟨a78,b79,c80,_⟩:=(E.ok.pipe s59 (by omega) (by omega)).ok v75 s76 hx70
      have K81:=hid (show CN g l en s59 28 s76 v75 [] from k69)
      clear k69 hx70
      go_upto_region 12 with fail
      refine wp_region_s 7 (BoxS [(w.heap.size,zN,TN),(V16.heap.size,nCells (.mk 4 fmt []) (.slice A zs.length c),TN),(V25.heap.size,tkCs t22,TTk)]) (by kernel_rfl) H67.out.drew.boxS (fun hS0=>?_)
      have H82:=hid H67.out.drew
      generalize V68.drew=V83 at *
      refine tk 0 (.pointer (some ⟨V16.heap.size,2,none⟩)) [1,5,7] hS0 ?_
      refine tk12 1 (.slice A zs.length c) [5,7] hS0 ?_
      refine tk 2 (.pointer (some ⟨g,0,none⟩)) [3,4,5,7] hS0 ?_
      refine st 3 fun K hK=>?_
      go_simp
      go_at_call 28
      with_reducible refine (K81.out _ H82.out.prs).mono ?_
      rintro e V84 ⟨kv,rfl,hx,hp,hg⟩
      obtain ⟨A85,m86,rfl⟩:=hx.slice
      have H87:=hid (H82.out.tree hp hg hx)
      clear hx hp hg
      clear K81
      try dsimp only
      refine hK.out _ _ (fun _=>H87.out.boxS) (fun _=>?_)
      clear hK K
      refine st 4 fun K hK=>?_
      simp only [nAgg]
      go_simp
      refine hK.out _ (V84.alloc (.cells (nCells v75 (.slice A85 v75.kids.length m86)).toArray TN)) (fun _=>(H87.out.below ((Below.refl _ V84).alloc (Nat.le_refl _) _)).boxS) (fun _=>?_)
      clear hK K
      refine st 5 fun K hK=>?_
      rw [if_pos (by kernel_rfl)]
      with_reducible refine fr_wpAppend _ _ (by with_unfolding_all rfl) (t:=v75) (A:=A85) (c:=m86) (by simp) (by with_unfolding_all rfl) (by with_unfolding_all rfl) H87.out (by omega) ?_
      rintro _ V91 hV ⟨A88,m89,rfl⟩
      obtain ⟨zs92,hz⟩:∃z:List (Nd×Value),z=zs++[(v75,.slice A85 v75.kids.length m86)]:=⟨_,rfl⟩
      rw [←hz] at hV ⊢
      have Ezs92:=hid hz
      clear hz
      have H93:=hid hV
      clear hV
      refine hK.out _ _ (fun _=>H93.out.boxS) (fun _=>?_)
      clear hK K
      refine tk 6 (.pointer (some ⟨V16.heap.size,2,none⟩)) [7] H93.out.boxS ?_
      refine st 7 fun K hK=>?_
      have cS:=H93.out.cell 1 rfl 2 rfl
      have fS:=H93.out.frozen 1 rfl 2
      go_simp
      have hV:Fr g l en w s76 [(w.heap.size,zN,TN),(V16.heap.size,nCells (.mk 4 fmt []) (.slice A88 zs92.length m89),TN),(V25.heap.size,tkCs t22,TTk)] [(v75,.slice A85 v75.kids.length m86)] (.slice A88 zs92.length m89) zs92 (V91.setCell ⟨V16.heap.size,2,none⟩ (.slice A88 zs92.length m89)):=H93.out.setC 1 rfl 2 _
      generalize V91.setCell ⟨V16.heap.size,2,none⟩ (.slice A88 zs92.length m89)=V94 at *
      have H95:=hid hV
      clear hV cS fS
      refine hK.out _ _ (fun h=>absurd rfl h) (fun _=>?_)
      clear hK K
      refine wpAnyS_done (by kernel_rfl) ?_ _
      have k96:=fun (W:World) (h:PrS g l en s76 W)=>syKind_any g l en s76 W 10 h hl (by decide)
      cases hx97:kindT l en 10 s76 with
      | bad a m=>
       rw [hx97] at k96
       have R98:=hid (bind_bad R77.out hx97)
       have K99:=hid (show CB g l en s76 90 a m [.int .i64 10] from k96)
       clear k96 hx97
       go_wp2_with (go_at_call 90;with_reducible refine (K99.out _ H95.out.prs).mono ?_)
       rintro e V ⟨rfl,k⟩
       rw [R98.out]
       exact ⟨rfl,rfl,H95.out.pg.trans k⟩
      | ok t100 s101=>
       rw [hx97] at k96
       have R102:=hid (bind_of R77.out hx97)
       obtain ⟨a103,b104,c105,_⟩:=(kind_ty E.fit (by decide) s76).ok t100 s101 hx97
       have K106:=hid (show CO g l en s76 90 s101 (.agg #[.int .i64 (t100.kind:Int),.string ⟨t100.text.toArray⟩,.int .i64 (t100.pos:Int)]) [.int .i64 10] from k96)
       clear k96 hx97
       go_wp2_with (go_at_call 90;with_reducible refine (K106.out _ H95.out.prs).mono ?_)
       rintro e V107 ⟨rfl,hp,hg⟩
       have H108:=hid (H95.out.kept hp hg)
       clear hp hg K106
       have R109:=hid (show r=(partsF l en R f s101).bind fun ns s=>KK (zs92.map Prod.fst++ns) s by rw [Ezs92.out];simpa using R102.out)
       go_wp2_with fail
       go_roundg f
       case measure=>omega
       case rel=>exact ⟨s101,f,zs92,A88,m89,Nat.le_refl _,by omega,by omega,by omega,by omega,by rw [Ezs92.out,List.length_append,List.length_singleton];omega,H108.out.drop 2 (by simp),R109.out⟩
    ·skip
     have R110:=hid (parts_e RF.out Dt22.out k8 k9)
     have z8:((t22.kind:Int)==8)=false:=beq_false_of_ne (by omega)
     have z9:((t22.kind:Int)==9)=false:=beq_false_of_ne (by omega)
     have c111:=H30.out.cell 2 rfl 0 rfl
     have k112:=fun (W:World) (h:PrS g l en s' W)=>syKind_any g l en s' W 11 h hl (by decide)
     cases hx113:kindT l en 11 s' with
     | bad a m=>
      rw [hx113] at k112
      have R114:=hid (bind_bad R110.out hx113)
      have K115:=hid (show CB g l en s' 90 a m [.int .i64 11] from k112)
      clear k112 hx113
      go_wp2_with (go_at_call 90;with_reducible refine (K115.out _ H30.out.prs).mono ?_)
      rintro e V ⟨rfl,k⟩
      rw [R114.out]
      exact ⟨rfl,rfl,H30.out.pg.trans k⟩
     | ok t116 s117=>
      rw [hx113] at k112
      have R118:=hid (bind_of R110.out hx113)
      obtain ⟨a119,b120,c121,_⟩:=(kind_ty E.fit (by decide) s').ok t116 s117 hx113
      have K122:=hid (show CO g l en s' 90 s117 (.agg #[.int .i64 (t116.kind:Int),.string ⟨t116.text.toArray⟩,.int .i64 (t116.pos:Int)]) [.int .i64 11] from k112)
      clear k112 hx113
      go_wp2_with (go_at_call 90;with_reducible refine (K122.out _ H30.out.prs).mono ?_)
      rintro e V123 ⟨rfl,hp,hg⟩
      have H124:=hid (H30.out.kept hp hg)
      clear hp hg K122
      clear c111
      have R125:=hid (show r=.ok (.mk 4 fmt (zs.map Prod.fst)) s117 by have q:=R118.out;rw [HKK.out] at q;simpa using q)
      go_wp2_with (first
       | (with_reducible refine frL 1 H124.out ?_)
       | (with_reducible refine frS 0 (nCells (.mk 4 fmt (zs.map Prod.fst)) (.slice A zs.length c)) H124.out ?_))
      intro V126 hV
      have H127:=hid hV
      clear hV
      go_wp2
      rw [R125.out]
      exact ret_n Tryz.results205 (k:=0) rfl H127.out (by with_unfolding_all rfl) rfl ⟨_,rfl,H127.out.end _ (rfl),H127.out.prs,H127.out.pg⟩
set_option maxHeartbeats 4000000 in
set_option maxRecDepth 100000 in
theorem syWord_any (E:Env numE g l en R n) (s:PT) (w:World) (h:PrS g l en s w) (_hs:s.at'≤l.length) (hm:l.length<n+1+s.at') (hp:s.pipes≤600) :
  Calls Tryz.prog 226 #[.pointer (some ⟨g,0,none⟩)] w (ResN g l en w (wordB l en R s)):=by
 have hl:=E.len
 have KN:=hid (fun k t A n c W=>syNode_any k t A n c W)
 have KM:=hid (fun t W=>syNamed_any t W)
 have FD0:=fun a p t W=>fld0 a p t W
 have FD1:=fun a p t W=>fld1 a p t W
 have H0:=hid (Fr.start h)
 obtain ⟨r,hr⟩:∃r,r=wordB l en R s:=⟨_,rfl⟩
 rw [←hr]
 unfold wordB at hr
 have R0:=hid hr
 clear hr h
 go_enter Tryz.func226,Tryz.ntmps226
 go_wp2_with (with_reducible refine frA H0.out ?_)
 intro V1 hV
 have H2:=hid hV
 clear hV
 by_cases hb3:isT l tIf s.at'=true
 ·skip
  obtain ⟨s4,hs5⟩:∃z,z=nextT s:=⟨_,rfl⟩
  have lt7:=isT_lt hb3
  have a8:s4.at'=s.at'+1:=by rw [hs5];rfl
  have p9:s4.pipes=s.pipes:=by rw [hs5];rfl
  have R6:=hid (hs5▸ite_yes R0.out hb3)
  have K10:=hid (tkY g en ⟨#[105,102]⟩ hs5 hl hb3)
  clear hb3 hs5
  go_wp2_with (go_at_call 88;with_reducible refine (K10.out _ H2.out.prs).mono ?_)
  rintro e V11 ⟨rfl,hp,hg⟩
  have H12:=hid (H2.out.kept hp hg)
  clear hp hg K10
  have k13:=fun (W:World) (h:PrS g l en s4 W)=>syChoice_any E (l.length+1) s4 W (by omega) h (by omega) (by omega) (by omega)
  cases hx14:choF l en R (l.length+1) s4 with
  | bad a m=>
   rw [hx14] at k13
   have R15:=hid (R6.out.trans hx14)
   have K16:=hid (show CB g l en s4 236 a m [] from k13)
   clear k13 hx14
   go_wp2_with (go_at_call 236;with_reducible refine (K16.out _ H12.out.prs).mono ?_)
   rintro e V ⟨rfl,k⟩
   rw [R15.out]
   exact ⟨rfl,rfl,H12.out.pg.trans k⟩
  | ok v17 s18=>
   rw [hx14] at k13
   have R19:=hid (R6.out.trans hx14)
   obtain ⟨a20,b21,c22,_⟩:=(cho_ty E.fit E.ok (l.length+1) s4 (by omega) (by omega) (by omega)).ok v17 s18 hx14
   have K23:=hid (show CN g l en s4 236 s18 v17 [] from k13)
   clear k13 hx14
   go_wp2_with (go_at_call 236;with_reducible refine (K23.out _ H12.out.prs).mono ?_)
   rintro e V24 ⟨kv,rfl,hx,hp,hg⟩
   obtain ⟨A25,m26,rfl⟩:=hx.slice
   have H27:=hid (H12.out.tree hp hg hx)
   clear hx hp hg
   clear K23
   go_wp2_with (with_reducible refine frS 0 (nCells v17 (.slice A25 v17.kids.length m26)) H27.out ?_)
   intro V28 hV
   have H29:=hid hV
   clear hV
   go_wp2
   rw [R19.out]
   exact ret_n Tryz.results226 (k:=0) rfl H29.out (by with_unfolding_all rfl) rfl ⟨_,rfl,H29.out.give (t:=v17) (by simp),H29.out.prs,H29.out.pg⟩
 ·skip
  have R30:=hid (ite_no R0.out hb3)
  have K31:=hid (tkN g en ⟨#[105,102]⟩ hb3)
  clear hb3
  go_wp2_with (go_at_call 88;with_reducible refine (K31.out _ H2.out.prs).mono ?_)
  rintro e V32 ⟨rfl,hp,hg⟩
  have H33:=hid (H2.out.kept hp hg)
  clear hp hg K31
  by_cases hb34:isT l tTry s.at'=true
  ·skip
   obtain ⟨s35,hs36⟩:∃z,z=nextT s:=⟨_,rfl⟩
   have lt38:=isT_lt hb34
   have a39:s35.at'=s.at'+1:=by rw [hs36];rfl
   have p40:s35.pipes=s.pipes:=by rw [hs36];rfl
   have R37:=hid (hs36▸ite_yes R30.out hb34)
   have K41:=hid (tkY g en ⟨#[116,114,121]⟩ hs36 hl hb34)
   clear hb34 hs36
   go_wp2_with (go_at_call 88;with_reducible refine (K41.out _ H33.out.prs).mono ?_)
   rintro e V42 ⟨rfl,hp,hg⟩
   have H43:=hid (H33.out.kept hp hg)
   clear hp hg K41
   have q:=R37.out
   unfold tryB at q
   have R44:=hid q
   clear q
   have k45:=fun (W:World) (h:PrS g l en s35 W)=>E.walk.post s35 W h (by omega) (by omega) (by omega)
   cases hx46:R.post s35 with
   | bad a m=>
    rw [hx46] at k45
    have R47:=hid (bind_bad R44.out hx46)
    have K48:=hid (show CB g l en s35 174 a m [] from k45)
    clear k45 hx46
    go_wp2_with (go_at_call 174;with_reducible refine (K48.out _ H43.out.prs).mono ?_)
    rintro e V ⟨rfl,k⟩
    rw [R47.out]
    exact ⟨rfl,rfl,H43.out.pg.trans k⟩
   | ok v49 s50=>
    rw [hx46] at k45
    have R51:=hid (bind_of R44.out hx46)
    obtain ⟨a52,b53,c54,_⟩:=(E.ok.post s35 (by omega) (by omega)).ok v49 s50 hx46
    have K55:=hid (show CN g l en s35 174 s50 v49 [] from k45)
    clear k45 hx46
    go_wp2_with (go_at_call 174;with_reducible refine (K55.out _ H43.out.prs).mono ?_)
    rintro e V56 ⟨kv,rfl,hx,hp,hg⟩
    obtain ⟨A57,m58,rfl⟩:=hx.slice
    have H59:=hid (H43.out.tree hp hg hx)
    clear hx hp hg
    clear K55
    simp only [nAgg]
    have H60:=hid (H59.out.begin [(v49,.slice A57 v49.kids.length m58)] 1 rfl (by simp) (by decide))
    go_wp2_with (go_at_call 92;with_reducible refine (KN.out _ _ _ _ _ _).mono ?_)
    rintro e V61 ⟨rfl,hb⟩
    have H62:=hid (H60.out.below hb)
    clear hb
    go_wp2_with (with_reducible refine frA H62.out ?_)
    intro V63 hV
    have H64:=hid hV
    clear hV
    go_wp2_with (with_reducible refine frS 1 (nCells (.mk 13 [] []) (.slice (some ⟨V56.heap.size,0,none⟩) 1 1)) H64.out ?_)
    intro V65 hV
    have H66:=hid hV
    clear hV
    by_cases hb67:isT l tCatch s50.at'=true
    ·skip
     obtain ⟨s68,hs69⟩:∃z,z=nextT s50:=⟨_,rfl⟩
     have lt71:=isT_lt hb67
     have a72:s68.at'=s50.at'+1:=by rw [hs69];rfl
     have p73:s68.pipes=s50.pipes:=by rw [hs69];rfl
     have R70:=hid (hs69▸ite_yes R51.out hb67)
     have K74:=hid (tkY g en ⟨#[99,97,116,99,104]⟩ hs69 hl hb67)
     clear hb67 hs69
     go_wp2_with (go_at_call 88;with_reducible refine (K74.out _ H66.out.prs).mono ?_)
     rintro e V75 ⟨rfl,hp,hg⟩
     have H76:=hid (H66.out.kept hp hg)
     clear hp hg K74
     have k77:=fun (W:World) (h:PrS g l en s68 W)=>E.walk.post s68 W h (by omega) (by omega) (by omega)
     cases hx78:R.post s68 with
     | bad a m=>
      rw [hx78] at k77
      have R79:=hid (bind_bad R70.out hx78)
      have K80:=hid (show CB g l en s68 174 a m [] from k77)
      clear k77 hx78
      go_upto_region 6 with fail
      refine wp_region_s 7 (BoxS [(w.heap.size,zN,TN),(V61.heap.size,nCells (.mk 13 [] []) (.slice (some ⟨V56.heap.size,0,none⟩) 1 1),TN)]) (by kernel_rfl) H76.out.drew.boxS (fun hS0=>?_)
      have H81:=hid H76.out.drew
      generalize V75.drew=V82 at *
      refine tk 0 (.pointer (some ⟨V61.heap.size,2,none⟩)) [1,5,7] hS0 ?_
      refine tk12 1 (.slice (some ⟨V56.heap.size,0,none⟩) 1 1) [5,7] hS0 ?_
      refine tk 2 (.pointer (some ⟨g,0,none⟩)) [3,4,5,7] hS0 ?_
      refine st 3 fun K hK=>?_
      go_simp
      go_at_call 174
      with_reducible refine (K80.out _ H81.out.prs).mono ?_
      rintro e V ⟨rfl,k⟩
      rw [R79.out]
      exact ⟨rfl,rfl,H81.out.pg.trans k⟩
     | ok v83 s84=>
      rw [hx78] at k77
      have R85:=hid (bind_of R70.out hx78)
      obtain ⟨a86,b87,c88,_⟩:=(E.ok.post s68 (by omega) (by omega)).ok v83 s84 hx78
      have K89:=hid (show CN g l en s68 174 s84 v83 [] from k77)
      clear k77 hx78
      go_upto_region 6 with fail
      refine wp_region_s 7 (BoxS [(w.heap.size,zN,TN),(V61.heap.size,nCells (.mk 13 [] []) (.slice (some ⟨V56.heap.size,0,none⟩) 1 1),TN)]) (by kernel_rfl) H76.out.drew.boxS (fun hS0=>?_)
      have H90:=hid H76.out.drew
      generalize V75.drew=V91 at *
      refine tk 0 (.pointer (some ⟨V61.heap.size,2,none⟩)) [1,5,7] hS0 ?_
      refine tk12 1 (.slice (some ⟨V56.heap.size,0,none⟩) 1 1) [5,7] hS0 ?_
      refine tk 2 (.pointer (some ⟨g,0,none⟩)) [3,4,5,7] hS0 ?_
      refine st 3 fun K hK=>?_
      go_simp
      go_at_call 174
      with_reducible refine (K89.out _ H90.out.prs).mono ?_
      rintro e V92 ⟨kv,rfl,hx,hp,hg⟩
      obtain ⟨A93,m94,rfl⟩:=hx.slice
      have H95:=hid (H90.out.tree hp hg hx)
      clear hx hp hg
      clear K89
      try dsimp only
      refine hK.out _ _ (fun _=>H95.out.boxS) (fun _=>?_)
      clear hK K
      refine st 4 fun K hK=>?_
      simp only [nAgg]
      go_simp
      refine hK.out _ (V92.alloc (.cells (nCells v83 (.slice A93 v83.kids.length m94)).toArray TN)) (fun _=>(H95.out.below ((Below.refl _ V92).alloc (Nat.le_refl _) _)).boxS) (fun _=>?_)
      clear hK K
      refine st 5 fun K hK=>?_
      rw [if_pos (by kernel_rfl)]
      with_reducible refine fr_wpAppend _ _ (by with_unfolding_all rfl) (t:=v83) (A:=A93) (c:=m94) (by simp) (by with_unfolding_all rfl) (by with_unfolding_all rfl) H95.out (by simp) ?_
      rintro _ V99 hV ⟨A96,m97,rfl⟩
      obtain ⟨zs100,hz⟩:∃z:List (Nd×Value),z=([(v49,.slice A57 v49.kids.length m58)])++[(v83,.slice A93 v83.kids.length m94)]:=⟨_,rfl⟩
      rw [←hz] at hV ⊢
      have Ezs100:=hid hz
      clear hz
      have H101:=hid hV
      clear hV
      refine hK.out _ _ (fun _=>H101.out.boxS) (fun _=>?_)
      clear hK K
      refine tk 6 (.pointer (some ⟨V61.heap.size,2,none⟩)) [7] H101.out.boxS ?_
      refine st 7 fun K hK=>?_
      have cS:=H101.out.cell 1 rfl 2 rfl
      have fS:=H101.out.frozen 1 rfl 2
      go_simp
      have hV:Fr g l en w s84 [(w.heap.size,zN,TN),(V61.heap.size,nCells (.mk 13 [] []) (.slice A96 zs100.length m97),TN)] [(v83,.slice A93 v83.kids.length m94),(v49,.slice A57 v49.kids.length m58)] (.slice A96 zs100.length m97) zs100 (V99.setCell ⟨V61.heap.size,2,none⟩ (.slice A96 zs100.length m97)):=H101.out.setC 1 rfl 2 _
      generalize V99.setCell ⟨V61.heap.size,2,none⟩ (.slice A96 zs100.length m97)=V102 at *
      have H103:=hid hV
      clear hV cS fS
      refine hK.out _ _ (fun h=>absurd rfl h) (fun _=>?_)
      clear hK K
      refine wpAnyS_done (by kernel_rfl) ?_ _
      go_wp2_with (first
       | (with_reducible refine frL 1 H103.out ?_)
       | (with_reducible refine frS 0 (nCells (.mk 13 [] [v49,v83]) (.slice A96 zs100.length m97)) H103.out ?_))
      intro V104 hV
      have H105:=hid hV
      clear hV
      go_wp2
      rw [R85.out]
      exact ret_n Tryz.results226 (k:=0) rfl H105.out (by with_unfolding_all rfl) rfl ⟨_,rfl,H105.out.end _ (by rw [Ezs100.out];rfl),H105.out.prs,H105.out.pg⟩
    ·skip
     have R106:=hid (ite_no R51.out hb67)
     have K107:=hid (tkN g en ⟨#[99,97,116,99,104]⟩ hb67)
     clear hb67
     go_wp2_with (go_at_call 88;with_reducible refine (K107.out _ H66.out.prs).mono ?_)
     rintro e V108 ⟨rfl,hp,hg⟩
     have H109:=hid (H66.out.kept hp hg)
     clear hp hg K107
     go_wp2_with (first
      | (with_reducible refine frL 1 H109.out ?_)
      | (with_reducible refine frS 0 (nCells (.mk 13 [] [v49]) (.slice (some ⟨V56.heap.size,0,none⟩) 1 1)) H109.out ?_))
     intro V110 hV
     have H111:=hid hV
     clear hV
     go_wp2
     rw [R106.out]
     exact ret_n Tryz.results226 (k:=0) rfl H111.out (by with_unfolding_all rfl) rfl ⟨_,rfl,H111.out.end _ (rfl),H111.out.prs,H111.out.pg⟩
  ·skip
   have R112:=hid (ite_no R30.out hb34)
   have K113:=hid (tkN g en ⟨#[116,114,121]⟩ hb34)
   clear hb34
   go_wp2_with (go_at_call 88;with_reducible refine (K113.out _ H33.out.prs).mono ?_)
   rintro e V114 ⟨rfl,hp,hg⟩
   have H115:=hid (H33.out.kept hp hg)
   clear hp hg K113
   by_cases hb116:isT l tReduce s.at'=true
   ·skip
    obtain ⟨s117,hs118⟩:∃z,z=nextT s:=⟨_,rfl⟩
    have lt120:=isT_lt hb116
    have a121:s117.at'=s.at'+1:=by rw [hs118];rfl
    have p122:s117.pipes=s.pipes:=by rw [hs118];rfl
    have R119:=hid (hs118▸ite_yes R112.out hb116)
    have K123:=hid (tkY g en ⟨#[114,101,100,117,99,101]⟩ hs118 hl hb116)
    clear hb116 hs118
    go_wp2_with (go_at_call 88;with_reducible refine (K123.out _ H115.out.prs).mono ?_)
    rintro e V124 ⟨rfl,hp,hg⟩
    have H125:=hid (H115.out.kept hp hg)
    clear hp hg K123
    have k126:=fun (W:World) (h:PrS g l en s117 W)=>syFold_any E 19 s117 W h (by omega) (by omega) (by omega)
    cases hx127:foldB l en R s117 with
    | bad a m=>
     rw [hx127] at k126
     have R128:=hid (bind_bad R119.out hx127)
     have K129:=hid (show CB g l en s117 237 a m [.int .i64 19] from k126)
     clear k126 hx127
     go_wp2_with (go_at_call 237;with_reducible refine (K129.out _ H125.out.prs).mono ?_)
     rintro e V ⟨rfl,k⟩
     rw [R128.out]
     exact ⟨rfl,rfl,H125.out.pg.trans k⟩
    | ok ns130 s131=>
     rw [hx127] at k126
     have R132:=hid (bind_of R119.out hx127)
     obtain ⟨a133,b134,c135,_⟩:=(fold_ty E.fit E.ok s117 (by omega) (by omega)).ok ns130 s131 hx127
     have Lns130:=hid (fold_len hx127)
     have K136:=hid (fun (W:World) (h:PrS g l en s117 W)=>show Calls Tryz.prog 237 #[.pointer (some ⟨g,0,none⟩),.int .i64 19] W (OkF g l en 19 s131 W ns130) from k126 W h)
     clear k126 hx127
     go_wp2_with (go_at_call 237;with_reducible refine (K136.out _ H125.out.prs).mono ?_)
     rintro e V137 ⟨A138,c139,zs140,rfl,hz,hr,hp,hg⟩
     have H141:=hid (H125.out.adopt hp hg hr)
     have Ezs140:=hid hz
     clear hz hr hp hg K136
     go_wp2_with (with_reducible refine frA H141.out ?_)
     intro V142 hV
     have H143:=hid hV
     clear hV
     go_wp2_with (with_reducible refine frS 1 (nCells (.mk 19 [] []) (.slice A138 zs140.length c139)) H143.out ?_)
     intro V144 hV
     have H145:=hid hV
     clear hV
     have k146:=fun (W:World) (h:PrS g l en s131 W)=>syMust_any g l en s131 W tShut h hl
     cases hx147:mustT l en tShut s131 with
     | bad a m=>
      rw [hx147] at k146
      have R148:=hid (bind_bad R132.out hx147)
      have K149:=hid (show CB g l en s131 91 a m [.string ⟨#[41]⟩] from k146)
      clear k146 hx147
      go_wp2_with (go_at_call 91;with_reducible refine (K149.out _ H145.out.prs).mono ?_)
      rintro e V ⟨rfl,k⟩
      rw [R148.out]
      exact ⟨rfl,rfl,H145.out.pg.trans k⟩
     | ok u150 s151=>
      rw [hx147] at k146
      have R152:=hid (bind_of R132.out hx147)
      obtain ⟨a153,b154,c155,_⟩:=(must_ty E.fit tShut s131).ok u150 s151 hx147
      have K156:=hid (show CO g l en s131 91 s151 (.tuple #[]) [.string ⟨#[41]⟩] from k146)
      clear k146 hx147
      go_wp2_with (go_at_call 91;with_reducible refine (K156.out _ H145.out.prs).mono ?_)
      rintro e V157 ⟨rfl,hp,hg⟩
      have H158:=hid (H145.out.kept hp hg)
      clear hp hg K156
      go_wp2_with (first
       | (with_reducible refine frL 1 H158.out ?_)
       | (with_reducible refine frS 0 (nCells (.mk 19 [] ns130) (.slice A138 zs140.length c139)) H158.out ?_))
      intro V159 hV
      have H160:=hid hV
      clear hV
      go_wp2
      rw [R152.out]
      exact ret_n Tryz.results226 (k:=0) rfl H160.out (by with_unfolding_all rfl) rfl ⟨_,rfl,H160.out.end _ (Ezs140.out.symm),H160.out.prs,H160.out.pg⟩
   ·skip
    have R161:=hid (ite_no R112.out hb116)
    have K162:=hid (tkN g en ⟨#[114,101,100,117,99,101]⟩ hb116)
    clear hb116
    go_wp2_with (go_at_call 88;with_reducible refine (K162.out _ H115.out.prs).mono ?_)
    rintro e V163 ⟨rfl,hp,hg⟩
    have H164:=hid (H115.out.kept hp hg)
    clear hp hg K162
    by_cases hb165:isT l tForeach s.at'=true
    ·skip
     obtain ⟨s166,hs167⟩:∃z,z=nextT s:=⟨_,rfl⟩
     have lt169:=isT_lt hb165
     have a170:s166.at'=s.at'+1:=by rw [hs167];rfl
     have p171:s166.pipes=s.pipes:=by rw [hs167];rfl
     have R168:=hid (hs167▸ite_yes R161.out hb165)
     have K172:=hid (tkY g en ⟨#[102,111,114,101,97,99,104]⟩ hs167 hl hb165)
     clear hb165 hs167
     go_wp2_with (go_at_call 88;with_reducible refine (K172.out _ H164.out.prs).mono ?_)
     rintro e V173 ⟨rfl,hp,hg⟩
     have H174:=hid (H164.out.kept hp hg)
     clear hp hg K172
     have q:=R168.out
     unfold eachB at q
     have R175:=hid q
     clear q
     have k176:=fun (W:World) (h:PrS g l en s166 W)=>syFold_any E 20 s166 W h (by omega) (by omega) (by omega)
     cases hx177:foldB l en R s166 with
     | bad a m=>
      rw [hx177] at k176
      have R178:=hid (bind_bad R175.out hx177)
      have K179:=hid (show CB g l en s166 237 a m [.int .i64 20] from k176)
      clear k176 hx177
      go_wp2_with (go_at_call 237;with_reducible refine (K179.out _ H174.out.prs).mono ?_)
      rintro e V ⟨rfl,k⟩
      rw [R178.out]
      exact ⟨rfl,rfl,H174.out.pg.trans k⟩
     | ok ns180 s181=>
      rw [hx177] at k176
      have R182:=hid (bind_of R175.out hx177)
      obtain ⟨a183,b184,c185,_⟩:=(fold_ty E.fit E.ok s166 (by omega) (by omega)).ok ns180 s181 hx177
      have Lns180:=hid (fold_len hx177)
      have K186:=hid (fun (W:World) (h:PrS g l en s166 W)=>show Calls Tryz.prog 237 #[.pointer (some ⟨g,0,none⟩),.int .i64 20] W (OkF g l en 20 s181 W ns180) from k176 W h)
      clear k176 hx177
      go_wp2_with (go_at_call 237;with_reducible refine (K186.out _ H174.out.prs).mono ?_)
      rintro e V187 ⟨A188,c189,zs190,rfl,hz,hr,hp,hg⟩
      have H191:=hid (H174.out.adopt hp hg hr)
      have Ezs190:=hid hz
      clear hz hr hp hg K186
      go_wp2_with (with_reducible refine frA H191.out ?_)
      intro V192 hV
      have H193:=hid hV
      clear hV
      go_wp2_with (with_reducible refine frS 1 (nCells (.mk 20 [] []) (.slice A188 zs190.length c189)) H193.out ?_)
      intro V194 hV
      have H195:=hid hV
      clear hV
      by_cases hb196:isT l tSemi s181.at'=true
      ·skip
       obtain ⟨s197,hs198⟩:∃z,z=nextT s181:=⟨_,rfl⟩
       have lt200:=isT_lt hb196
       have a201:s197.at'=s181.at'+1:=by rw [hs198];rfl
       have p202:s197.pipes=s181.pipes:=by rw [hs198];rfl
       have R199:=hid (hs198▸ite_yes R182.out hb196)
       have K203:=hid (tkY g en ⟨#[59]⟩ hs198 hl hb196)
       clear hb196 hs198
       go_wp2_with (go_at_call 88;with_reducible refine (K203.out _ H195.out.prs).mono ?_)
       rintro e V204 ⟨rfl,hp,hg⟩
       have H205:=hid (H195.out.kept hp hg)
       clear hp hg K203
       have k206:=fun (W:World) (h:PrS g l en s197 W)=>E.walk.pipe s197 W h (by omega) (by omega) (by omega)
       cases hx207:R.pipe s197 with
       | bad a m=>
        rw [hx207] at k206
        have R208:=hid (bind_bad R199.out hx207)
        have K209:=hid (show CB g l en s197 28 a m [] from k206)
        clear k206 hx207
        go_upto_region 15 with fail
        refine wp_region_s 7 (BoxS [(w.heap.size,zN,TN),(V187.heap.size,nCells (.mk 20 [] []) (.slice A188 zs190.length c189),TN)]) (by kernel_rfl) H205.out.drew.boxS (fun hS0=>?_)
        have H210:=hid H205.out.drew
        generalize V204.drew=V211 at *
        refine tk 0 (.pointer (some ⟨V187.heap.size,2,none⟩)) [1,5,7] hS0 ?_
        refine tk12 1 (.slice A188 zs190.length c189) [5,7] hS0 ?_
        refine tk 2 (.pointer (some ⟨g,0,none⟩)) [3,4,5,7] hS0 ?_
        refine st 3 fun K hK=>?_
        go_simp
        go_at_call 28
        with_reducible refine (K209.out _ H210.out.prs).mono ?_
        rintro e V ⟨rfl,k⟩
        rw [R208.out]
        exact ⟨rfl,rfl,H210.out.pg.trans k⟩
       | ok v212 s213=>
        rw [hx207] at k206
        have R214:=hid (bind_of R199.out hx207)
        obtain ⟨a215,b216,c217,_⟩:=(E.ok.pipe s197 (by omega) (by omega)).ok v212 s213 hx207
        have K218:=hid (show CN g l en s197 28 s213 v212 [] from k206)
        clear k206 hx207
        go_upto_region 15 with fail
        refine wp_region_s 7 (BoxS [(w.heap.size,zN,TN),(V187.heap.size,nCells (.mk 20 [] []) (.slice A188 zs190.length c189),TN)]) (by kernel_rfl) H205.out.drew.boxS (fun hS0=>?_)
        have H219:=hid H205.out.drew
        generalize V204.drew=V220 at *
        refine tk 0 (.pointer (some ⟨V187.heap.size,2,none⟩)) [1,5,7] hS0 ?_
        refine tk12 1 (.slice A188 zs190.length c189) [5,7] hS0 ?_
        refine tk 2 (.pointer (some ⟨g,0,none⟩)) [3,4,5,7] hS0 ?_
        refine st 3 fun K hK=>?_
        go_simp
        go_at_call 28
        with_reducible refine (K218.out _ H219.out.prs).mono ?_
        rintro e V221 ⟨kv,rfl,hx,hp,hg⟩
        obtain ⟨A222,m223,rfl⟩:=hx.slice
        have H224:=hid (H219.out.tree hp hg hx)
        clear hx hp hg
        clear K218
        try dsimp only
        refine hK.out _ _ (fun _=>H224.out.boxS) (fun _=>?_)
        clear hK K
        refine st 4 fun K hK=>?_
        simp only [nAgg]
        go_simp
        refine hK.out _ (V221.alloc (.cells (nCells v212 (.slice A222 v212.kids.length m223)).toArray TN)) (fun _=>(H224.out.below ((Below.refl _ V221).alloc (Nat.le_refl _) _)).boxS) (fun _=>?_)
        clear hK K
        refine st 5 fun K hK=>?_
        rw [if_pos (by kernel_rfl)]
        with_reducible refine fr_wpAppend _ _ (by with_unfolding_all rfl) (t:=v212) (A:=A222) (c:=m223) (by simp) (by with_unfolding_all rfl) (by with_unfolding_all rfl) H224.out (by have:=congrArg List.length Ezs190.out;have:=Lns180.out;rw [List.length_map] at *;omega) ?_
        rintro _ V228 hV ⟨A225,m226,rfl⟩
        obtain ⟨zs229,hz⟩:∃z:List (Nd×Value),z=zs190++[(v212,.slice A222 v212.kids.length m223)]:=⟨_,rfl⟩
        rw [←hz] at hV ⊢
        have Ezs229:=hid hz
        clear hz
        have H230:=hid hV
        clear hV
        refine hK.out _ _ (fun _=>H230.out.boxS) (fun _=>?_)
        clear hK K
        refine tk 6 (.pointer (some ⟨V187.heap.size,2,none⟩)) [7] H230.out.boxS ?_
        refine st 7 fun K hK=>?_
        have cS:=H230.out.cell 1 rfl 2 rfl
        have fS:=H230.out.frozen 1 rfl 2
        go_simp
        have hV:Fr g l en w s213 [(w.heap.size,zN,TN),(V187.heap.size,nCells (.mk 20 [] []) (.slice A225 zs229.length m226),TN)] [(v212,.slice A222 v212.kids.length m223)] (.slice A225 zs229.length m226) zs229 (V228.setCell ⟨V187.heap.size,2,none⟩ (.slice A225 zs229.length m226)):=H230.out.setC 1 rfl 2 _
        generalize V228.setCell ⟨V187.heap.size,2,none⟩ (.slice A225 zs229.length m226)=V231 at *
        have H232:=hid hV
        clear hV cS fS
        refine hK.out _ _ (fun h=>absurd rfl h) (fun _=>?_)
        clear hK K
        refine wpAnyS_done (by kernel_rfl) ?_ _
        have k233:=fun (W:World) (h:PrS g l en s213 W)=>syMust_any g l en s213 W tShut h hl
        cases hx234:mustT l en tShut s213 with
        | bad a m=>
         rw [hx234] at k233
         have R235:=hid (bind_bad R214.out hx234)
         have K236:=hid (show CB g l en s213 91 a m [.string ⟨#[41]⟩] from k233)
         clear k233 hx234
         go_wp2_with (go_at_call 91;with_reducible refine (K236.out _ H232.out.prs).mono ?_)
         rintro e V ⟨rfl,k⟩
         rw [R235.out]
         exact ⟨rfl,rfl,H232.out.pg.trans k⟩
        | ok u237 s238=>
         rw [hx234] at k233
         have R239:=hid (bind_of R214.out hx234)
         obtain ⟨a240,b241,c242,_⟩:=(must_ty E.fit tShut s213).ok u237 s238 hx234
         have K243:=hid (show CO g l en s213 91 s238 (.tuple #[]) [.string ⟨#[41]⟩] from k233)
         clear k233 hx234
         go_wp2_with (go_at_call 91;with_reducible refine (K243.out _ H232.out.prs).mono ?_)
         rintro e V244 ⟨rfl,hp,hg⟩
         have H245:=hid (H232.out.kept hp hg)
         clear hp hg K243
         go_wp2_with (first
          | (with_reducible refine frL 1 H245.out ?_)
          | (with_reducible refine frS 0 (nCells (.mk 20 [] (ns180++[v212])) (.slice A225 zs229.length m226)) H245.out ?_))
         intro V246 hV
         have H247:=hid hV
         clear hV
         go_wp2
         rw [R239.out]
         exact ret_n Tryz.results226 (k:=0) rfl H247.out (by with_unfolding_all rfl) rfl ⟨_,rfl,H247.out.end _ (by rw [Ezs229.out,List.map_append,Ezs190.out];rfl),H247.out.prs,H247.out.pg⟩
      ·skip
       have R248:=hid (ite_no R182.out hb196)
       have K249:=hid (tkN g en ⟨#[59]⟩ hb196)
       clear hb196
       go_wp2_with (go_at_call 88;with_reducible refine (K249.out _ H195.out.prs).mono ?_)
       rintro e V250 ⟨rfl,hp,hg⟩
       have H251:=hid (H195.out.kept hp hg)
       clear hp hg K249
       have H252:=hid (H251.out.leaf ndNone rfl)
       go_upto_region 16 with fail
       refine wp_region_s 6 (BoxS [(w.heap.size,zN,TN),(V187.heap.size,nCells (.mk 20 [] []) (.slice A188 zs190.length c189),TN)]) (by kernel_rfl) H252.out.drew.boxS (fun hS0=>?_)
       have H253:=hid H252.out.drew
       generalize V250.drew=V254 at *
       refine tk 0 (.pointer (some ⟨V187.heap.size,2,none⟩)) [1,4,6] hS0 ?_
       refine tk12 1 (.slice A188 zs190.length c189) [4,6] hS0 ?_
       refine st 2 fun K hK=>?_
       go_simp
       go_at_call 92
       with_reducible refine (KN.out _ _ _ _ _ _).mono ?_
       rintro e V255 ⟨rfl,hb⟩
       have H256:=hid (H253.out.below hb)
       clear hb
       try dsimp only
       refine hK.out _ _ (fun _=>H256.out.boxS) (fun _=>?_)
       clear hK K
       refine st 3 fun K hK=>?_
       simp only [nAgg]
       go_simp
       refine hK.out _ (V255.alloc (.cells (nCells ndNone rNil).toArray TN)) (fun _=>(H256.out.below ((Below.refl _ V255).alloc (Nat.le_refl _) _)).boxS) (fun _=>?_)
       clear hK K
       refine st 4 fun K hK=>?_
       rw [if_pos (by kernel_rfl)]
       with_reducible refine fr_wpAppend _ _ (by with_unfolding_all rfl) (t:=ndNone) (A:=none) (c:=0) (by simp) (by with_unfolding_all rfl) (by with_unfolding_all rfl) H256.out (by have:=congrArg List.length Ezs190.out;have:=Lns180.out;rw [List.length_map] at *;omega) ?_
       rintro _ V260 hV ⟨A257,m258,rfl⟩
       obtain ⟨zs261,hz⟩:∃z:List (Nd×Value),z=zs190++[(ndNone,rNil)]:=⟨_,rfl⟩
       rw [←hz] at hV ⊢
       have Ezs261:=hid hz
       clear hz
       have H262:=hid hV
       clear hV
       refine hK.out _ _ (fun _=>H262.out.boxS) (fun _=>?_)
       clear hK K
       refine tk 5 (.pointer (some ⟨V187.heap.size,2,none⟩)) [6] H262.out.boxS ?_
       refine st 6 fun K hK=>?_
       have cS:=H262.out.cell 1 rfl 2 rfl
       have fS:=H262.out.frozen 1 rfl 2
       go_simp
       have hV:Fr g l en w s181 [(w.heap.size,zN,TN),(V187.heap.size,nCells (.mk 20 [] []) (.slice A257 zs261.length m258),TN)] [(ndNone,rNil)] (.slice A257 zs261.length m258) zs261 (V260.setCell ⟨V187.heap.size,2,none⟩ (.slice A257 zs261.length m258)):=H262.out.setC 1 rfl 2 _
       generalize V260.setCell ⟨V187.heap.size,2,none⟩ (.slice A257 zs261.length m258)=V263 at *
       have H264:=hid hV
       clear hV cS fS
       refine hK.out _ _ (fun h=>absurd rfl h) (fun _=>?_)
       clear hK K
       refine wpAnyS_done (by kernel_rfl) ?_ _
       have k265:=fun (W:World) (h:PrS g l en s181 W)=>syMust_any g l en s181 W tShut h hl
       cases hx266:mustT l en tShut s181 with
       | bad a m=>
        rw [hx266] at k265
        have R267:=hid (bind_bad R248.out hx266)
        have K268:=hid (show CB g l en s181 91 a m [.string ⟨#[41]⟩] from k265)
        clear k265 hx266
        go_wp2_with (go_at_call 91;with_reducible refine (K268.out _ H264.out.prs).mono ?_)
        rintro e V ⟨rfl,k⟩
        rw [R267.out]
        exact ⟨rfl,rfl,H264.out.pg.trans k⟩
       | ok u269 s270=>
        rw [hx266] at k265
        have R271:=hid (bind_of R248.out hx266)
        obtain ⟨a272,b273,c274,_⟩:=(must_ty E.fit tShut s181).ok u269 s270 hx266
        have K275:=hid (show CO g l en s181 91 s270 (.tuple #[]) [.string ⟨#[41]⟩] from k265)
        clear k265 hx266
        go_wp2_with (go_at_call 91;with_reducible refine (K275.out _ H264.out.prs).mono ?_)
        rintro e V276 ⟨rfl,hp,hg⟩
        have H277:=hid (H264.out.kept hp hg)
        clear hp hg K275
        go_wp2_with (first
         | (with_reducible refine frL 1 H277.out ?_)
         | (with_reducible refine frS 0 (nCells (.mk 20 [] (ns180++[ndNone])) (.slice A257 zs261.length m258)) H277.out ?_))
        intro V278 hV
        have H279:=hid hV
        clear hV
        go_wp2
        rw [R271.out]
        exact ret_n Tryz.results226 (k:=0) rfl H279.out (by with_unfolding_all rfl) rfl ⟨_,rfl,H279.out.end _ (by rw [Ezs261.out,List.map_append,Ezs190.out];rfl),H279.out.prs,H279.out.pg⟩
    ·skip
     have R280:=hid (ite_no R161.out hb165)
     have K281:=hid (tkN g en ⟨#[102,111,114,101,97,99,104]⟩ hb165)
     clear hb165
     go_wp2_with (go_at_call 88;with_reducible refine (K281.out _ H164.out.prs).mono ?_)
     rintro e V282 ⟨rfl,hp,hg⟩
     have H283:=hid (H164.out.kept hp hg)
     clear hp hg K281
     by_cases hb284:isT l tBreak s.at'=true
     ·skip
      obtain ⟨s285,hs286⟩:∃z,z=nextT s:=⟨_,rfl⟩
      have lt288:=isT_lt hb284
      have a289:s285.at'=s.at'+1:=by rw [hs286];rfl
      have p290:s285.pipes=s.pipes:=by rw [hs286];rfl
      have R287:=hid (hs286▸ite_yes R280.out hb284)
      have K291:=hid (tkY g en ⟨#[98,114,101,97,107]⟩ hs286 hl hb284)
      clear hb284 hs286
      go_wp2_with (go_at_call 88;with_reducible refine (K291.out _ H283.out.prs).mono ?_)
      rintro e V292 ⟨rfl,hp,hg⟩
      have H293:=hid (H283.out.kept hp hg)
      clear hp hg K291
      have k294:=fun (W:World) (h:PrS g l en s285 W)=>syKind_any g l en s285 W 4 h hl (by decide)
      cases hx295:kindT l en 4 s285 with
      | bad a m=>
       rw [hx295] at k294
       have R296:=hid (bind_bad R287.out hx295)
       have K297:=hid (show CB g l en s285 90 a m [.int .i64 4] from k294)
       clear k294 hx295
       go_wp2_with (go_at_call 90;with_reducible refine (K297.out _ H293.out.prs).mono ?_)
       rintro e V ⟨rfl,k⟩
       rw [R296.out]
       exact ⟨rfl,rfl,H293.out.pg.trans k⟩
      | ok t298 s299=>
       rw [hx295] at k294
       have R300:=hid (bind_of R287.out hx295)
       obtain ⟨a301,b302,c303,_⟩:=(kind_ty E.fit (by decide) s285).ok t298 s299 hx295
       have K304:=hid (show CO g l en s285 90 s299 (.agg #[.int .i64 (t298.kind:Int),.string ⟨t298.text.toArray⟩,.int .i64 (t298.pos:Int)]) [.int .i64 4] from k294)
       clear k294 hx295
       go_wp2_with (go_at_call 90;with_reducible refine (K304.out _ H293.out.prs).mono ?_)
       rintro e V305 ⟨rfl,hp,hg⟩
       have H306:=hid (H293.out.kept hp hg)
       clear hp hg K304
       go_wp2_with (go_at_call 92;with_reducible refine (KN.out _ _ _ _ _ _).mono ?_)
       rintro e V307 ⟨rfl,hb⟩
       have H308:=hid (H306.out.below hb)
       clear hb
       have H309:=hid (H308.out.leaf (.mk 22 t298.text []) rfl)
       go_wp2_with (with_reducible refine frS 0 (nCells (.mk 22 t298.text []) rNil) H309.out ?_)
       intro V310 hV
       have H311:=hid hV
       clear hV
       go_wp2
       rw [R300.out]
       exact ret_n Tryz.results226 (k:=0) rfl H311.out (by with_unfolding_all rfl) rfl ⟨_,rfl,H311.out.give (t:=(.mk 22 t298.text [])) (by simp),H311.out.prs,H311.out.pg⟩
     ·skip
      have R312:=hid (ite_no R280.out hb284)
      have K313:=hid (tkN g en ⟨#[98,114,101,97,107]⟩ hb284)
      clear hb284
      go_wp2_with (go_at_call 88;with_reducible refine (K313.out _ H283.out.prs).mono ?_)
      rintro e V314 ⟨rfl,hp,hg⟩
      have H315:=hid (H283.out.kept hp hg)
      clear hp hg K313
      obtain ⟨a316,m317,hf318⟩:=fail_to (α:=Unit) l en s.at'
      have R319:=hid (R312.out.trans (fail_nd hf318))
      have K320:=hid (fun (W:World) (h:PrS g l en s W)=>show Calls Tryz.prog 29 #[.pointer (some ⟨g,0,none⟩)] W (BdY g a316 m317 W) from syFail_any g l en s W h a316 m317 hf318)
      clear hf318
      go_wp2_with (go_at_call 29;with_reducible refine (K320.out _ H315.out.prs).mono ?_)
      rintro e V ⟨rfl,k⟩
      rw [R319.out]
      exact ⟨rfl,rfl,H315.out.pg.trans k⟩
end
end Go.Proofs.YtmbeicndhigklaaGreatDoor
