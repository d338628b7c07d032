/-
The walks of the parser's pattern and its closure (chapter 15).
-/
import Derived.Test.YtmbeicndhigklaaGreatDoorPSynL
import Derived.Test.YtmbeicndhigklaaGreatDoorPSynE
import Derived.Test.YtmbeicndhigklaaGreatDoorPSynJ
namespace Go.Proofs.YtmbeicndhigklaaGreatDoor
open Lib (hid)
open Go.RowKit
section
variable {numE:List UInt8→Nat} {g:Nat} {l:List Tk} {en:Nat} {R:Knot} {n:Nat}
theorem ptr_cell {V:World} {pb:Nat} (h:V.heap[pb]?=some (.cells #[.pointer (some ⟨g,0,none⟩)] 57 (0,0))):V.cell? ⟨pb,0,none⟩=some (.pointer (some ⟨g,0,none⟩)):=by rw [Lib.cell_of_heap h];rfl
set_option maxHeartbeats 4000000 in
set_option maxRecDepth 100000 in
theorem syList_any {m:Nat} (E:Env numE g l en R n) (KF:FuncId) (eK:∀args w,(callFunc KF args).run Tryz.prog w=.ok (.enter KF args) w) (one:PT→PY Nd)
  (HK:∀(s:PT) (W:World),PrS g l en s W→s.at'≤l.length→l.length<m+s.at'→s.pipes≤600→Calls Tryz.prog KF #[.pointer (some ⟨g,0,none⟩)] W (ResN g l en W (one s)))
  (HT:∀(s:PT),s.at'≤l.length→l.length<m+s.at'→TY l en s (one s) RightN 1) (k:Nat) (shut:List UInt8) (pb:Nat) (s:PT) (w:World) (hpb:w.heap[pb]?=some (.cells #[.pointer (some ⟨g,0,none⟩)] 57 (0,0))) (hne:pb≠g) (h:PrS g l en s w) (hs:s.at'≤l.length) (hm:l.length<m+s.at') (hp:s.pipes≤600) :
  Calls Tryz.prog 207 #[.agg #[.int .i64 (k:Int),.string ⟨#[]⟩,.slice none 0 0],.func (.func KF) #[.pointer (some ⟨g,0,none⟩)] #[],.string ⟨shut.toArray⟩,.pointer (some ⟨pb,0,none⟩)] w (ResN g l en w ((listF l tComma one (l.length+1) s).bind fun ns s=>(mustT l en shut s).bind fun _ s=>(.ok (Nd.mk k [] ns) s:PY Nd))):=by
 have hl:=E.len
 have e1:=eK
 have H0:=hid (Fr.start h)
 obtain ⟨r,hr⟩:∃r,r=(listF l tComma one (l.length+1) s).bind fun ns s=>(mustT l en shut s).bind fun _ s=>(.ok (Nd.mk k [] ns) s:PY Nd):=⟨_,rfl⟩
 rw [←hr]
 have R0:=hid hr
 clear hr h
 go_enter Tryz.func207,Tryz.ntmps207
 go_wp2_with (with_reducible refine fr_box (T:=TN) (by with_reducible rfl) _ (by with_reducible rfl) (nCells (.mk k [] []) rNil) (by with_unfolding_all rfl) rfl H0.out ?_)
 intro V1 hV
 have H2:=hid hV
 clear hV
 go_wp2_with (with_reducible refine frA H2.out ?_)
 intro V3 hV
 have H4:=hid hV
 clear hV
 obtain ⟨KK,hKK⟩:∃K:List Nd→PT→PY Nd,K=fun ns s=>(mustT l en shut s).bind fun _ s=>.ok (.mk k [] ns) s:=⟨_,rfl⟩
 have RK:=hid (show r=(listF l tComma one (l.length+1) s).bind KK by rw [hKK];exact R0.out)
 have HKK:=hid hKK
 clear hKK
 go_wp2
 go_loopg [] (l.length+1) (fun kx wr=>∃(s':PT) (f:Nat) (zs:List (Nd×Value)) (A:Option Addr) (c:Nat),f≤kx∧s.at'≤s'.at'∧s.at'≤s'.at'∧s'.at'≤l.length∧s'.pipes=s.pipes∧l.length<f+s'.at'∧zs.length≤s'.at'∧Fr g l en w s' [(w.heap.size,nCells (.mk k [] []) (.slice A zs.length c),TN),(V1.heap.size,zN,TN)] [] (.slice A zs.length c) zs wr∧Hid (r=(listF l tComma one f s').bind fun ns s=>KK (zs.map Prod.fst++ns) s))
 case atStart=>exact ⟨s,l.length+1,[],none,0,Nat.le_refl _,by omega,by omega,by omega,by omega,by omega,Nat.zero_le _,H4.out.drop 2 (by simp),RK.out⟩
 case round=>
  obtain ⟨s',f,zs,A,c,hfk,q1,q1b,q2,q3,q4,q5,hF,hR⟩:=hrel
  obtain ⟨f,rfl⟩:∃k,f=k+1:=⟨f-1,by omega⟩
  have HF:=hid hF
  have RF:=hid (list_one hR.out)
  clear hF hR
  have k5:=fun (W:World) (h:PrS g l en s' W)=>HK s' W h (by omega) (by omega) (by omega)
  cases hx6:one s' with
  | bad a m=>
   rw [hx6] at k5
   have R7:=hid (bind_bad RF.out hx6)
   have K8:=hid (fun (W:World) (h:PrS g l en s' W)=>show Calls Tryz.prog KF #[.pointer (some ⟨g,0,none⟩)] W (BdY g a m W) from k5 W h)
   clear k5 hx6
   go_upto_region 1 with fail
   refine wp_region_s 7 (BoxS [(w.heap.size,nCells (.mk k [] []) (.slice A zs.length c),TN),(V1.heap.size,zN,TN)]) (by kernel_rfl) HF.out.drew.boxS (fun hS0=>?_)
   have H9:=hid HF.out.drew
   generalize wr.drew=V10 at *
   refine tk 0 (.pointer (some ⟨w.heap.size,2,none⟩)) [1,5,7] hS0 ?_
   refine tk 1 (.slice A zs.length c) [5,7] hS0 ?_ (y:=.inl ⟨by kernel_rfl,fun _ H=>by have cX:=H.cell 0 rfl 2 rfl;go_simp⟩)
   refine tk 2 (.func (.func KF) #[.pointer (some ⟨g,0,none⟩)] #[]) [3,4,5,7] hS0 ?_
   refine st 3 fun K hK=>?_
   go_simp
   go_at_fn KF
   with_reducible refine (K8.out _ H9.out.prs).mono ?_
   rintro e V ⟨rfl,k⟩
   rw [R7.out]
   exact ⟨rfl,rfl,H9.out.pg.trans k⟩
  | ok v11 s12=>
   rw [hx6] at k5
   have R13:=hid (bind_of RF.out hx6)
   obtain ⟨a14,b15,c16,_⟩:=(HT s' (by omega) (by omega)).ok v11 s12 hx6
   have K17:=hid (fun (W:World) (h:PrS g l en s' W)=>show Calls Tryz.prog KF #[.pointer (some ⟨g,0,none⟩)] W (OkN g l en s12 W v11) from k5 W h)
   clear k5 hx6
   go_upto_region 1 with fail
   refine wp_region_s 7 (BoxS [(w.heap.size,nCells (.mk k [] []) (.slice A zs.length c),TN),(V1.heap.size,zN,TN)]) (by kernel_rfl) HF.out.drew.boxS (fun hS0=>?_)
   have H18:=hid HF.out.drew
   generalize wr.drew=V19 at *
   refine tk 0 (.pointer (some ⟨w.heap.size,2,none⟩)) [1,5,7] hS0 ?_
   refine tk 1 (.slice A zs.length c) [5,7] hS0 ?_ (y:=.inl ⟨by kernel_rfl,fun _ H=>by have cX:=H.cell 0 rfl 2 rfl;go_simp⟩)
   refine tk 2 (.func (.func KF) #[.pointer (some ⟨g,0,none⟩)] #[]) [3,4,5,7] hS0 ?_
   refine st 3 fun K hK=>?_
   go_simp
   go_at_fn KF
   with_reducible refine (K17.out _ H18.out.prs).mono ?_
   rintro e V20 ⟨kv,rfl,hx,hp,hg⟩
   obtain ⟨A21,m22,rfl⟩:=hx.slice
   have H23:=hid (H18.out.tree hp hg hx)
   clear hx hp hg
   clear K17
   try dsimp only
   refine hK.out _ _ (fun _=>H23.out.boxS) (fun _=>?_)
   clear hK K
   refine st 4 fun K hK=>?_
   simp only [nAgg]
   go_simp
   refine hK.out _ (V20.alloc (.cells (nCells v11 (.slice A21 v11.kids.length m22)).toArray TN)) (fun _=>(H23.out.below ((Below.refl _ V20).alloc (Nat.le_refl _) _)).boxS) (fun _=>?_)
   clear hK K
   refine st 5 fun K hK=>?_
   rw [if_pos (by kernel_rfl)]
   with_reducible refine fr_wpAppend _ _ (by with_unfolding_all rfl) (t:=v11) (A:=A21) (c:=m22) (by simp) (by with_unfolding_all rfl) (by with_unfolding_all rfl) H23.out (by omega) ?_
   rintro _ V27 hV ⟨A24,m25,rfl⟩
   obtain ⟨zs28,hz⟩:∃z:List (Nd×Value),z=zs++[(v11,.slice A21 v11.kids.length m22)]:=⟨_,rfl⟩
   rw [←hz] at hV ⊢
   have Ezs28:=hid hz
   clear hz
   have H29:=hid hV
   clear hV
   refine hK.out _ _ (fun _=>H29.out.boxS) (fun _=>?_)
   clear hK K
   refine tk 6 (.pointer (some ⟨w.heap.size,2,none⟩)) [7] H29.out.boxS ?_
   refine st 7 fun K hK=>?_
   have cS:=H29.out.cell 0 rfl 2 rfl
   have fS:=H29.out.frozen 0 rfl 2
   go_simp
   have hV:Fr g l en w s12 [(w.heap.size,nCells (.mk k [] []) (.slice A24 zs28.length m25),TN),(V1.heap.size,zN,TN)] [(v11,.slice A21 v11.kids.length m22)] (.slice A24 zs28.length m25) zs28 (V27.setCell ⟨w.heap.size,2,none⟩ (.slice A24 zs28.length m25)):=H29.out.setC 0 rfl 2 _
   generalize V27.setCell ⟨w.heap.size,2,none⟩ (.slice A24 zs28.length m25)=V30 at *
   have H31:=hid hV
   clear hV cS fS
   refine hK.out _ _ (fun h=>absurd rfl h) (fun _=>?_)
   clear hK K
   refine wpAnyS_done (by kernel_rfl) ?_ _
   by_cases hb32:isT l tComma s12.at'=true
   ·skip
    obtain ⟨s33,hs34⟩:∃z,z=nextT s12:=⟨_,rfl⟩
    have lt36:=isT_lt hb32
    have a37:s33.at'=s12.at'+1:=by rw [hs34];rfl
    have p38:s33.pipes=s12.pipes:=by rw [hs34];rfl
    have R35:=hid (hs34▸list_yes R13.out hb32)
    have K39:=hid (tkY g en ⟨#[44]⟩ hs34 hl hb32)
    clear hb32 hs34
    have cp40:=ptr_cell (H31.out.pg.at hpb hne)
    go_wp2_with (go_at_call 88;with_reducible refine (K39.out _ H31.out.prs).mono ?_)
    rintro e V41 ⟨rfl,hp,hg⟩
    have H42:=hid (H31.out.kept hp hg)
    clear hp hg K39
    clear cp40
    have R43:=hid (show r=(listF l tComma one f s33).bind fun ns s=>KK (zs28.map Prod.fst++ns) s by rw [Ezs28.out];simpa using R35.out)
    go_wp2_with fail
    go_roundg f
    case measure=>omega
    case rel=>exact ⟨s33,f,zs28,A24,m25,Nat.le_refl _,by omega,by omega,by omega,by omega,by omega,by rw [Ezs28.out,List.length_append,List.length_singleton];omega,H42.out.drop 2 (by simp),R43.out⟩
   ·skip
    have R44:=hid (list_no R13.out hb32)
    have K45:=hid (tkN g en ⟨#[44]⟩ hb32)
    clear hb32
    have cp46:=ptr_cell (H31.out.pg.at hpb hne)
    go_wp2_with (go_at_call 88;with_reducible refine (K45.out _ H31.out.prs).mono ?_)
    rintro e V47 ⟨rfl,hp,hg⟩
    have H48:=hid (H31.out.kept hp hg)
    clear hp hg K45
    clear cp46
    have R49:=hid (show r=KK (zs28.map Prod.fst) s12 by rw [Ezs28.out];simpa using R44.out)
    have R50:=hid (show r=(mustT l en shut s12).bind fun _ s=>.ok (.mk k [] (zs28.map Prod.fst)) s by have:=R49.out;rw [HKK.out] at this;exact this)
    have k51:=fun (W:World) (h:PrS g l en s12 W)=>syMust_any g l en s12 W shut h hl
    cases hx52:mustT l en shut s12 with
    | bad a m=>
     rw [hx52] at k51
     have R53:=hid (bind_bad R50.out hx52)
     have K54:=hid (show CB g l en s12 91 a m [.string ⟨shut.toArray⟩] from k51)
     clear k51 hx52
     have cp55:=ptr_cell (H48.out.pg.at hpb hne)
     go_wp2_with (go_at_call 91;with_reducible refine (K54.out _ H48.out.prs).mono ?_)
     rintro e V ⟨rfl,k⟩
     rw [R53.out]
     exact ⟨rfl,rfl,H48.out.pg.trans k⟩
    | ok u56 s57=>
     rw [hx52] at k51
     have R58:=hid (bind_of R50.out hx52)
     obtain ⟨a59,b60,c61,_⟩:=(must_ty E.fit shut s12).ok u56 s57 hx52
     have K62:=hid (show CO g l en s12 91 s57 (.tuple #[]) [.string ⟨shut.toArray⟩] from k51)
     clear k51 hx52
     have cp63:=ptr_cell (H48.out.pg.at hpb hne)
     go_wp2_with (go_at_call 91;with_reducible refine (K62.out _ H48.out.prs).mono ?_)
     rintro e V64 ⟨rfl,hp,hg⟩
     have H65:=hid (H48.out.kept hp hg)
     clear hp hg K62
     clear cp63
     go_wp2_with (first
      | (with_reducible refine frL 0 H65.out ?_)
      | (with_reducible refine frS 1 (nCells (.mk k [] (zs28.map Prod.fst)) (.slice A24 zs28.length m25)) H65.out ?_))
     intro V66 hV
     have H67:=hid hV
     clear hV
     go_wp2
     rw [R58.out]
     exact ret_n Tryz.results207 (k:=1) rfl H67.out (by with_unfolding_all rfl) rfl ⟨_,rfl,H67.out.end _ rfl,H67.out.prs,H67.out.pg⟩
theorem enters_list:∀args w,(callFunc 207 args).run Tryz.prog w=.ok (.enter 207 args) w:=enters_of Tryz.func207 (by kernel_rfl) rfl
theorem enters_pat:∀args w,(callFunc 175 args).run Tryz.prog w=.ok (.enter 175 args) w:=enters_of Tryz.func175 (by kernel_rfl) rfl
theorem enters_key:∀args w,(callFunc 208 args).run Tryz.prog w=.ok (.enter 208 args) w:=enters_of Tryz.func208 (by kernel_rfl) rfl
theorem makeFunc_run (fn:Fn) (first cap:Array Value) (w:World):(Instr.makeFunc fn first cap).run Tryz.prog w=.ok (.func fn first cap) w:=rfl
theorem pat_var {t:Tk} {s:PT} {r:PY Nd} (h:r=patB l en R s) (ht:t=dueT l s.at') (hk:t.kind=4):r=.ok (.mk 28 t.text []) (nextT s):=by
 subst ht
 rw [h,patB,if_pos hk]
theorem pat_arr {t:Tk} {s:PT} {r:PY Nd} (h:r=patB l en R s) (ht:t=dueT l s.at') (hk:¬t.kind=4):r=if isT l tBrk s.at'=true then
  (listF l tComma R.pat (l.length+1) (nextT s)).bind fun ns s=>(mustT l en tKrb s).bind fun _ s=>.ok (.mk 29 [] ns) s
 else (mustT l en tCrl s).bind fun _ s=>
  (listF l tComma (keyB l en R) (l.length+1) s).bind fun ns s=>(mustT l en tLrc s).bind fun _ s=>.ok (.mk 30 [] ns) s:=by
 subst ht
 rw [h,patB,if_neg hk]
set_option maxHeartbeats 4000000 in
set_option maxRecDepth 100000 in
theorem syPat_any (E:Env numE g l en R n) (s:PT) (w0:World) (h:PrS g l en s w0) (_hs:s.at'≤l.length) (hm:l.length<n+1+s.at') (hp:s.pipes≤600) :
  Calls Tryz.prog 175 #[.pointer (some ⟨g,0,none⟩)] w0 (ResN g l en w0 (patB l en R s)):=by
 have hl:=E.len
 have KN:=hid (fun k t A n c W=>syNode_any k t A n c W)
 have KM:=hid (fun t W=>syNamed_any t W)
 have e1:=enters_list
 have hmf:=makeFunc_run
 have hne:w0.heap.size≠g:=by have:=h.lt;omega
 have H0:=hid (Fr.start (h.alloc (.cells #[.pointer (some ⟨g,0,none⟩)] 57)))
 obtain ⟨r,hr⟩:∃r,r=patB l en R s:=⟨_,rfl⟩
 rw [←hr]
 have R0:=hid hr
 clear hr h
 go_enter Tryz.func175,Tryz.ntmps175
 go_wp2_with (with_reducible refine frA H0.out ?_)
 intro V1 hV
 have H2:=hid hV
 clear hV
 obtain ⟨w,hw⟩:∃x,x=w0.alloc (.cells #[.pointer (some ⟨g,0,none⟩)] 57):=⟨_,rfl⟩
 rw [←hw] at H2
 have hpb:w.heap[w0.heap.size]?=some (.cells #[.pointer (some ⟨g,0,none⟩)] 57 (0,0)):=by rw [hw];exact Go.heap_alloc_new w0 _
 have P0:=hid (show PG g w0 w by rw [hw];exact (PG.refl g w0).alloc _)
 have L0:=P0.out.size
 clear hw
 obtain ⟨t3,ht4⟩:∃t,t=dueT l s.at':=⟨_,rfl⟩
 have K5:=hid (show CO g l en s 122 s (.agg #[.int .i64 (t3.kind:Int),.string ⟨t3.text.toArray⟩,.int .i64 (t3.pos:Int)]) [] from fun W h=>ht4▸syDue_any g l en s W h)
 have Dt3:=hid ht4
 clear ht4
 have cp6:=ptr_cell (H2.out.pg.at hpb hne)
 go_wp2_with (go_at_call 122;with_reducible refine (K5.out _ H2.out.prs).mono ?_)
 rintro e V7 ⟨rfl,hp,hg⟩
 have H8:=hid (H2.out.kept hp hg)
 clear hp hg K5
 clear cp6
 go_wp2_with (with_reducible refine frAK H8.out ?_)
 intro V9 hV
 have H10:=hid hV
 clear hV
 go_wp2_with (with_reducible refine frSK 1 (tkCs t3) H10.out ?_)
 intro V11 hV
 have H12:=hid hV
 clear hV
 by_cases k4:t3.kind=4
 ·skip
  have nz:t3.kind≠0:=by omega
  have c13:=H12.out.cell 1 rfl 0 rfl
  rw [k4] at c13
  have cp14:=ptr_cell (H12.out.pg.at hpb hne)
  obtain ⟨s15,hs16⟩:∃z,z=nextT s:=⟨_,rfl⟩
  have lt18:=due_some (l:=l) (p:=s.at') (Dt3.out▸nz)
  have a19:s15.at'=s.at'+1:=by rw [hs16];rfl
  have p20:s15.pipes=s.pipes:=by rw [hs16];rfl
  have R17:=hid (hs16▸pat_var R0.out Dt3.out k4)
  have c21:=H12.out.prs.c1
  have f22:=H12.out.prs.frozen 1
  have hn:=H12.out.next
  rw [←hs16] at hn
  have H23:=hid hn
  clear hn hs16
  go_upto_region 4 with fail
  generalize V11.setCell ⟨g,1,none⟩ (.int .i64 ((s.at':Int)+1))=V24 at *
  clear c13 cp14 c21 f22
  have H25:=hid (H23.out.leaf (.mk 28 t3.text []) rfl)
  have c26:=H25.out.cell 1 rfl 1 rfl
  go_wp2_with (go_at_call 92;with_reducible refine (KN.out _ _ _ _ _ _).mono ?_)
  rintro e V27 ⟨rfl,hb⟩
  have H28:=hid (H25.out.below hb)
  clear hb
  clear c26
  go_wp2_with (with_reducible refine frS 0 (nCells (.mk 28 t3.text []) rNil) H28.out ?_)
  intro V29 hV
  have H30:=hid hV
  clear hV
  go_wp2
  rw [R17.out]
  exact ret_n Tryz.results175 (k:=0) rfl H30.out (by with_unfolding_all rfl) rfl ⟨_,rfl,(H30.out.give (t:=(.mk 28 t3.text [])) (by simp)).weak L0,H30.out.prs,(P0.out.trans H30.out.pg)⟩
 ·skip
  have R31:=hid (pat_arr R0.out Dt3.out k4)
  have z4:((t3.kind:Int)==4)=false:=beq_false_of_ne (by omega)
  have c32:=H12.out.cell 1 rfl 0 rfl
  by_cases hb33:isT l tBrk s.at'=true
  ·skip
   obtain ⟨s34,hs35⟩:∃z,z=nextT s:=⟨_,rfl⟩
   have lt37:=isT_lt hb33
   have a38:s34.at'=s.at'+1:=by rw [hs35];rfl
   have p39:s34.pipes=s.pipes:=by rw [hs35];rfl
   have R36:=hid (hs35▸ite_yes R31.out hb33)
   have K40:=hid (tkY g en ⟨#[91]⟩ hs35 hl hb33)
   clear hb33 hs35
   have cp41:=ptr_cell (H12.out.pg.at hpb hne)
   go_wp2_with (go_at_call 88;with_reducible refine (K40.out _ H12.out.prs).mono ?_)
   rintro e V42 ⟨rfl,hp,hg⟩
   have H43:=hid (H12.out.kept hp hg)
   clear hp hg K40
   clear c32 cp41
   have k44:=fun (W:World) (h:PrS g l en s34 W) (hb:W.heap[w0.heap.size]?=some (.cells #[.pointer (some ⟨g,0,none⟩)] 57 (0,0)))=>syList_any (m:=n) E 175 enters_pat (R.pat) (fun s W h a b c=>E.walk.pat s W h a b c) (fun s a b=>E.ok.pat s a b) 29 tKrb w0.heap.size s34 W hb hne h (by omega) (by omega) (by omega)
   cases hx45:(listF l tComma R.pat (l.length+1) s34).bind fun ns s=>(mustT l en tKrb s).bind fun _ s=>(.ok (Nd.mk 29 [] ns) s:PY Nd) with
   | bad a m=>
    rw [hx45] at k44
    have R46:=hid (R36.out.trans hx45)
    have K47:=hid (fun (W:World) (h:PrS g l en s34 W) (hb:W.heap[w0.heap.size]?=some (.cells #[.pointer (some ⟨g,0,none⟩)] 57 (0,0)))=>show Calls Tryz.prog 207 #[.agg #[.int .i64 29,.string ⟨#[]⟩,.slice none 0 0],.func (.func 175) #[.pointer (some ⟨g,0,none⟩)] #[],.string ⟨#[93]⟩,.pointer (some ⟨w0.heap.size,0,none⟩)] W (BdY g a m W) from k44 W h hb)
    clear k44 hx45
    go_upto_region 7 with fail
    refine wp_region_s 5 (fun W=>W.heap[w0.heap.size]?=some (.cells #[.pointer (some ⟨g,0,none⟩)] 57 (0,0))) (by kernel_rfl) (H43.out.drew.pg.at hpb hne) (fun hS0=>?_)
    have H48:=hid H43.out.drew
    generalize V42.drew=V49 at *
    refine tk 0 (.func (.func 207) #[] #[.pointer (some ⟨w0.heap.size,0,none⟩)]) [4,5] hS0 ?_
    refine tk 2 (.pointer (some ⟨g,0,none⟩)) [3,4,5] hS0 ?_ (y:=.inl ⟨by kernel_rfl,fun _ H=>by have cX:=ptr_cell H;go_simp⟩)
    refine tk 3 (.func (.func 175) #[.pointer (some ⟨g,0,none⟩)] #[]) [4,5] hS0 ?_
    refine st 1 fun K hK=>?_
    go_simp
    go_at_call 92
    with_reducible refine (KN.out _ _ _ _ _ _).mono ?_
    rintro e V50 ⟨rfl,hb⟩
    have H51:=hid (H48.out.below hb)
    clear hb
    try dsimp only
    refine hK.out _ _ (fun _=>(H51.out.pg.at hpb hne)) (fun _=>?_)
    clear hK K
    refine st 4 fun K hK=>?_
    go_simp
    go_at_fn 207
    with_reducible refine (K47.out _ H51.out.prs (H51.out.pg.at hpb hne)).mono ?_
    rintro e V ⟨rfl,k⟩
    rw [R46.out]
    exact ⟨rfl,rfl,(P0.out.trans H51.out.pg).trans k⟩
   | ok v52 s53=>
    rw [hx45] at k44
    have R54:=hid (R36.out.trans hx45)
    have K55:=hid (fun (W:World) (h:PrS g l en s34 W) (hb:W.heap[w0.heap.size]?=some (.cells #[.pointer (some ⟨g,0,none⟩)] 57 (0,0)))=>show Calls Tryz.prog 207 #[.agg #[.int .i64 29,.string ⟨#[]⟩,.slice none 0 0],.func (.func 175) #[.pointer (some ⟨g,0,none⟩)] #[],.string ⟨#[93]⟩,.pointer (some ⟨w0.heap.size,0,none⟩)] W (OkN g l en s53 W v52) from k44 W h hb)
    clear k44 hx45
    go_upto_region 7 with fail
    refine wp_region_s 5 (fun W=>W.heap[w0.heap.size]?=some (.cells #[.pointer (some ⟨g,0,none⟩)] 57 (0,0))) (by kernel_rfl) (H43.out.drew.pg.at hpb hne) (fun hS0=>?_)
    have H56:=hid H43.out.drew
    generalize V42.drew=V57 at *
    refine tk 0 (.func (.func 207) #[] #[.pointer (some ⟨w0.heap.size,0,none⟩)]) [4,5] hS0 ?_
    refine tk 2 (.pointer (some ⟨g,0,none⟩)) [3,4,5] hS0 ?_ (y:=.inl ⟨by kernel_rfl,fun _ H=>by have cX:=ptr_cell H;go_simp⟩)
    refine tk 3 (.func (.func 175) #[.pointer (some ⟨g,0,none⟩)] #[]) [4,5] hS0 ?_
    refine st 1 fun K hK=>?_
    go_simp
    go_at_call 92
    with_reducible refine (KN.out _ _ _ _ _ _).mono ?_
    rintro e V58 ⟨rfl,hb⟩
    have H59:=hid (H56.out.below hb)
    clear hb
    try dsimp only
    refine hK.out _ _ (fun _=>(H59.out.pg.at hpb hne)) (fun _=>?_)
    clear hK K
    refine st 4 fun K hK=>?_
    go_simp
    go_at_fn 207
    with_reducible refine (K55.out _ H59.out.prs (H59.out.pg.at hpb hne)).mono ?_
    rintro e V60 ⟨kv,rfl,hx,hp,hg⟩
    obtain ⟨A61,m62,rfl⟩:=hx.slice
    have H63:=hid (H59.out.tree hp hg hx)
    clear hx hp hg
    clear K55
    try dsimp only
    refine hK.out _ _ (fun _=>(H63.out.pg.at hpb hne)) (fun _=>?_)
    clear hK K
    refine st 5 fun K hK=>?_
    rw [if_pos (by kernel_rfl)]
    with_reducible refine fr_wpStore threeN _ _ (by with_unfolding_all rfl) 0 rfl (nCells v52 (.slice A61 v52.kids.length m62)) (by with_unfolding_all rfl) (by with_unfolding_all rfl) rfl (n_one _ _ _ _) H63.out ?_
    intro V64 hV
    have H65:=hid hV
    clear hV
    refine hK.out _ _ (fun h=>absurd rfl h) (fun _=>?_)
    clear hK K
    refine wpAnyS_done (by kernel_rfl) ?_ _
    go_wp2
    rw [R54.out]
    exact ret_n Tryz.results175 (k:=0) rfl H65.out (by with_unfolding_all rfl) rfl ⟨_,rfl,(H65.out.give (t:=v52) (by simp)).weak L0,H65.out.prs,(P0.out.trans H65.out.pg)⟩
  ·skip
   have R66:=hid (ite_no R31.out hb33)
   have K67:=hid (tkN g en ⟨#[91]⟩ hb33)
   clear hb33
   have cp68:=ptr_cell (H12.out.pg.at hpb hne)
   go_wp2_with (go_at_call 88;with_reducible refine (K67.out _ H12.out.prs).mono ?_)
   rintro e V69 ⟨rfl,hp,hg⟩
   have H70:=hid (H12.out.kept hp hg)
   clear hp hg K67
   clear c32 cp68
   have k71:=fun (W:World) (h:PrS g l en s W)=>syMust_any g l en s W tCrl h hl
   cases hx72:mustT l en tCrl s with
   | bad a m=>
    rw [hx72] at k71
    have R73:=hid (bind_bad R66.out hx72)
    have K74:=hid (show CB g l en s 91 a m [.string ⟨#[123]⟩] from k71)
    clear k71 hx72
    have cp75:=ptr_cell (H70.out.pg.at hpb hne)
    go_wp2_with (go_at_call 91;with_reducible refine (K74.out _ H70.out.prs).mono ?_)
    rintro e V ⟨rfl,k⟩
    rw [R73.out]
    exact ⟨rfl,rfl,(P0.out.trans H70.out.pg).trans k⟩
   | ok u76 s77=>
    rw [hx72] at k71
    have R78:=hid (bind_of R66.out hx72)
    obtain ⟨a79,b80,c81,_⟩:=(must_ty E.fit tCrl s).ok u76 s77 hx72
    have K82:=hid (show CO g l en s 91 s77 (.tuple #[]) [.string ⟨#[123]⟩] from k71)
    clear k71 hx72
    have cp83:=ptr_cell (H70.out.pg.at hpb hne)
    go_wp2_with (go_at_call 91;with_reducible refine (K82.out _ H70.out.prs).mono ?_)
    rintro e V84 ⟨rfl,hp,hg⟩
    have H85:=hid (H70.out.kept hp hg)
    clear hp hg K82
    clear cp83
    have k86:=fun (W:World) (h:PrS g l en s77 W) (hb:W.heap[w0.heap.size]?=some (.cells #[.pointer (some ⟨g,0,none⟩)] 57 (0,0)))=>syList_any (m:=n+1) E 208 enters_key (keyB l en R) (fun s W h a b c=>syKey_any E s W h a b c) (fun s a b=>key_ty E.fit E.ok s b) 30 tLrc w0.heap.size s77 W hb hne h (by omega) (by omega) (by omega)
    cases hx87:(listF l tComma (keyB l en R) (l.length+1) s77).bind fun ns s=>(mustT l en tLrc s).bind fun _ s=>(.ok (Nd.mk 30 [] ns) s:PY Nd) with
    | bad a m=>
     rw [hx87] at k86
     have R88:=hid (R78.out.trans hx87)
     have K89:=hid (fun (W:World) (h:PrS g l en s77 W) (hb:W.heap[w0.heap.size]?=some (.cells #[.pointer (some ⟨g,0,none⟩)] 57 (0,0)))=>show Calls Tryz.prog 207 #[.agg #[.int .i64 30,.string ⟨#[]⟩,.slice none 0 0],.func (.func 208) #[.pointer (some ⟨g,0,none⟩)] #[],.string ⟨#[125]⟩,.pointer (some ⟨w0.heap.size,0,none⟩)] W (BdY g a m W) from k86 W h hb)
     clear k86 hx87
     go_upto_region 9 with fail
     refine wp_region_s 5 (fun W=>W.heap[w0.heap.size]?=some (.cells #[.pointer (some ⟨g,0,none⟩)] 57 (0,0))) (by kernel_rfl) (H85.out.drew.pg.at hpb hne) (fun hS0=>?_)
     have H90:=hid H85.out.drew
     generalize V84.drew=V91 at *
     refine tk 0 (.func (.func 207) #[] #[.pointer (some ⟨w0.heap.size,0,none⟩)]) [4,5] hS0 ?_
     refine tk 2 (.pointer (some ⟨g,0,none⟩)) [3,4,5] hS0 ?_ (y:=.inl ⟨by kernel_rfl,fun _ H=>by have cX:=ptr_cell H;go_simp⟩)
     refine tk 3 (.func (.func 208) #[.pointer (some ⟨g,0,none⟩)] #[]) [4,5] hS0 ?_
     refine st 1 fun K hK=>?_
     go_simp
     go_at_call 92
     with_reducible refine (KN.out _ _ _ _ _ _).mono ?_
     rintro e V92 ⟨rfl,hb⟩
     have H93:=hid (H90.out.below hb)
     clear hb
     try dsimp only
     refine hK.out _ _ (fun _=>(H93.out.pg.at hpb hne)) (fun _=>?_)
     clear hK K
     refine st 4 fun K hK=>?_
     go_simp
     go_at_fn 207
     with_reducible refine (K89.out _ H93.out.prs (H93.out.pg.at hpb hne)).mono ?_
     rintro e V ⟨rfl,k⟩
     rw [R88.out]
     exact ⟨rfl,rfl,(P0.out.trans H93.out.pg).trans k⟩
    | ok v94 s95=>
     rw [hx87] at k86
     have R96:=hid (R78.out.trans hx87)
     have K97:=hid (fun (W:World) (h:PrS g l en s77 W) (hb:W.heap[w0.heap.size]?=some (.cells #[.pointer (some ⟨g,0,none⟩)] 57 (0,0)))=>show Calls Tryz.prog 207 #[.agg #[.int .i64 30,.string ⟨#[]⟩,.slice none 0 0],.func (.func 208) #[.pointer (some ⟨g,0,none⟩)] #[],.string ⟨#[125]⟩,.pointer (some ⟨w0.heap.size,0,none⟩)] W (OkN g l en s95 W v94) from k86 W h hb)
     clear k86 hx87
     go_upto_region 9 with fail
     refine wp_region_s 5 (fun W=>W.heap[w0.heap.size]?=some (.cells #[.pointer (some ⟨g,0,none⟩)] 57 (0,0))) (by kernel_rfl) (H85.out.drew.pg.at hpb hne) (fun hS0=>?_)
     have H98:=hid H85.out.drew
     generalize V84.drew=V99 at *
     refine tk 0 (.func (.func 207) #[] #[.pointer (some ⟨w0.heap.size,0,none⟩)]) [4,5] hS0 ?_
     refine tk 2 (.pointer (some ⟨g,0,none⟩)) [3,4,5] hS0 ?_ (y:=.inl ⟨by kernel_rfl,fun _ H=>by have cX:=ptr_cell H;go_simp⟩)
     refine tk 3 (.func (.func 208) #[.pointer (some ⟨g,0,none⟩)] #[]) [4,5] hS0 ?_
     refine st 1 fun K hK=>?_
     go_simp
     go_at_call 92
     with_reducible refine (KN.out _ _ _ _ _ _).mono ?_
     rintro e V100 ⟨rfl,hb⟩
     have H101:=hid (H98.out.below hb)
     clear hb
     try dsimp only
     refine hK.out _ _ (fun _=>(H101.out.pg.at hpb hne)) (fun _=>?_)
     clear hK K
     refine st 4 fun K hK=>?_
     go_simp
     go_at_fn 207
     with_reducible refine (K97.out _ H101.out.prs (H101.out.pg.at hpb hne)).mono ?_
     rintro e V102 ⟨kv,rfl,hx,hp,hg⟩
     obtain ⟨A103,m104,rfl⟩:=hx.slice
     have H105:=hid (H101.out.tree hp hg hx)
     clear hx hp hg
     clear K97
     try dsimp only
     refine hK.out _ _ (fun _=>(H105.out.pg.at hpb hne)) (fun _=>?_)
     clear hK K
     refine st 5 fun K hK=>?_
     rw [if_pos (by kernel_rfl)]
     with_reducible refine fr_wpStore threeN _ _ (by with_unfolding_all rfl) 0 rfl (nCells v94 (.slice A103 v94.kids.length m104)) (by with_unfolding_all rfl) (by with_unfolding_all rfl) rfl (n_one _ _ _ _) H105.out ?_
     intro V106 hV
     have H107:=hid hV
     clear hV
     refine hK.out _ _ (fun h=>absurd rfl h) (fun _=>?_)
     clear hK K
     refine wpAnyS_done (by kernel_rfl) ?_ _
     go_wp2
     rw [R96.out]
     exact ret_n Tryz.results175 (k:=0) rfl H107.out (by with_unfolding_all rfl) rfl ⟨_,rfl,(H107.out.give (t:=v94) (by simp)).weak L0,H107.out.prs,(P0.out.trans H107.out.pg)⟩
end
end Go.Proofs.YtmbeicndhigklaaGreatDoor
