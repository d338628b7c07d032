/-
The walks of the parser's pipe, whole (chapter 15).
-/
import Derived.Test.YtmbeicndhigklaaGreatDoorPSynT
import Derived.Test.YtmbeicndhigklaaGreatDoorPSynC
namespace Go.Proofs.YtmbeicndhigklaaGreatDoor
open Lib (hid)
open Go.RowKit
section
variable {numE:List UInt8→Nat} {g:Nat} {l:List Tk} {en:Nat} {R:Knot} {n:Nat}
set_option maxHeartbeats 4000000 in
set_option maxRecDepth 100000 in
theorem syPipe_any (E:Env numE g l en R n) (KW:∀(s:PT) (W:World),PrS g l en s W→s.at'≤l.length→l.length<n+1+s.at'→s.pipes≤600→Calls Tryz.prog 60 #[.pointer (some ⟨g,0,none⟩)] W (ResN g l en W (wholeB numE l en R s)))
  (s:PT) (w:World) (h:PrS g l en s w) (hs:s.at'≤l.length) (hm:l.length<n+1+s.at') (hp:s.pipes≤600) :
  Calls Tryz.prog 28 #[.pointer (some ⟨g,0,none⟩)] w (ResN g l en w (pipeB numE l en R s)):=by
 have hl:=E.len
 have KN:=hid (fun k t A n c W=>syNode_any k t A n c W)
 have KM:=hid (fun t W=>syNamed_any t W)
 have FD0:=fun a p t W=>fld0 a p t W
 have FD1:=fun a p t W=>fld1 a p t W
 have H0:=hid (Fr.start h)
 obtain ⟨r,hr⟩:∃r,r=pipeB numE l en R s:=⟨_,rfl⟩
 rw [←hr]
 unfold pipeB at hr
 have R0:=hid hr
 clear hr h
 go_enter Tryz.func28,Tryz.ntmps28
 go_wp2_with (with_reducible refine frA H0.out ?_)
 intro V1 hV
 have H2:=hid hV
 clear hV
 by_cases h6:s.pipes=600
 ·skip
  have HB:Hid (r=.bad (if s.at'<l.length then (dueT l s.at').pos else en) 6):=R0.out.trans (if_pos h6)
  have c3:=H2.out.prs.c3
  have z0:((s.pipes:Int)==600)=true:=by rw [h6];rfl
  have c2:=H2.out.prs.c2
  obtain ⟨A,cap,c0,ht,hc⟩:=H2.out.prs.c0
  have c1:=H2.out.prs.c1
  by_cases ha:s.at'<l.length
  ·skip
   have HB2:=hid (HB.out.trans (by rw [if_pos ha]))
   have z1:decide ((s.at':Int)<(l.length:Int))=true:=decide_eq_true (by omega)
   clear h6 HB
   go_upto_region 3 with fail
   go_quiet (fail)
   have HV2:=hid (H2.out.drewN nq)
   generalize V1.drewN nq=V2 at *
   clear c0 ht c1 hc c2 c3
   obtain ⟨A2,cap2,c0,ht,hc⟩:=HV2.out.prs.c0
   have c1:=HV2.out.prs.c1
   obtain ⟨q,rfl,d0,d1,d2⟩:=ht.at (due_at ha)
   have i0:(0:Int)≤(s.at':Int):=by omega
   have i1:(s.at':Int)<(l.length:Int):=by omega
   go_upto_region 4 with fail
   go_quiet (fail)
   go_wp2
   rw [HB2.out]
   exact ⟨rfl,rfl,(HV2.out.drewN _).pg⟩
  ·skip
   have HB2:=hid (HB.out.trans (by rw [if_neg ha]))
   have z1:decide ((s.at':Int)<(l.length:Int))=false:=decide_eq_false (by omega)
   clear h6 HB
   go_upto_region 3 with fail
   go_quiet (fail)
   have HV2:=hid (H2.out.drewN nq)
   generalize V1.drewN nq=V2 at *
   clear c0 ht c1 hc c2 c3
   go_wp2
   rw [HB2.out]
   exact ⟨rfl,rfl,HV2.out.pg⟩
 ·skip
  have R1:=hid (ite_no R0.out h6)
  have z0:((s.pipes:Int)==600)=false:=beq_false_of_ne (by omega)
  have c3:=H2.out.prs.c3
  have f3:=H2.out.prs.frozen 3
  have h61:s.pipes+1≤600:=by omega
  obtain ⟨s1,hs1⟩:∃s',s'=({ s with pipes:=s.pipes+1 }:PT):=⟨_,rfl⟩
  have a1:s1.at'=s.at':=by rw [hs1]
  have p1:s1.pipes=s.pipes+1:=by rw [hs1]
  rw [←hs1] at R1
  have HN:=hid (show Fr g l en w s1 [(w.heap.size,zN,TN)] [] rNil [] (V1.setCell ⟨g,3,none⟩ (.int .i64 ((s.pipes:Int)+1))) from hs1▸H2.out.pipes (s.pipes+1))
  clear hs1 h6
  have k3:=fun (W:World) (h:PrS g l en s1 W)=>KW s1 W h (by omega) (by omega) (by omega)
  cases hx4:wholeB numE l en R s1 with
  | bad a m=>
   rw [hx4] at k3
   have R5:=hid (bind_bad R1.out hx4)
   have K6:=hid (show CB g l en s1 60 a m [] from k3)
   clear k3 hx4
   go_wp2_with (go_at_call 60;with_reducible refine (K6.out _ HN.out.prs).mono ?_)
   rintro e V ⟨rfl,k⟩
   rw [R5.out]
   exact ⟨rfl,rfl,HN.out.pg.trans k⟩
  | ok v7 s8=>
   rw [hx4] at k3
   have R9:=hid (bind_of R1.out hx4)
   obtain ⟨a10,b11,c12,_⟩:=(whole_ty E.fit E.ok s1 (by omega) (by omega)).ok v7 s8 hx4
   have K13:=hid (show CN g l en s1 60 s8 v7 [] from k3)
   clear k3 hx4
   go_wp2_with (go_at_call 60;with_reducible refine (K13.out _ HN.out.prs).mono ?_)
   rintro e V14 ⟨kv,rfl,hx,hp,hg⟩
   obtain ⟨A15,m16,rfl⟩:=hx.slice
   have H17:=hid (HN.out.tree hp hg hx)
   clear hx hp hg
   clear K13
   go_wp2_with (with_reducible refine frA H17.out ?_)
   intro V18 hV
   have H19:=hid hV
   clear hV
   go_wp2_with (with_reducible refine frS 1 (nCells v7 (.slice A15 v7.kids.length m16)) H19.out ?_)
   intro V20 hV
   have H21:=hid hV
   clear hV
   have c3:=H21.out.prs.c3
   have f3:=H21.out.prs.frozen 3
   obtain ⟨s9,hs9⟩:∃s',s'=({ s8 with pipes:=s8.pipes-1 }:PT):=⟨_,rfl⟩
   have e9:s8.pipes-1=s.pipes:=by omega
   have HP:=hid (show Fr g l en w s9 [(w.heap.size,zN,TN),(V14.heap.size,nCells v7 (.slice A15 v7.kids.length m16),TN)] [(v7,.slice A15 v7.kids.length m16)] rNil [] (V20.setCell ⟨g,3,none⟩ (.int .i64 (s.pipes:Int))) from by rw [hs9];have h:=H21.out.pipes (s8.pipes-1);simpa only [e9] using h)
   rw [←hs9] at R9
   clear hs9 e9
   go_wp2_with (first
    | (with_reducible refine frL 1 HP.out ?_)
    | (with_reducible refine frS 0 (nCells v7 (.slice A15 v7.kids.length m16)) HP.out ?_))
   intro V22 hV
   have H23:=hid hV
   clear hV
   go_wp2
   rw [R9.out]
   exact ret_n Tryz.results28 (k:=0) rfl H23.out (by with_unfolding_all rfl) rfl ⟨_,rfl,H23.out.give (by simp),H23.out.prs,H23.out.pg⟩
set_option maxHeartbeats 4000000 in
set_option maxRecDepth 100000 in
theorem syWhole_any (E:Env numE g l en R n) (KA:∀(s:PT) (W:World),PrS g l en s W→s.at'≤l.length→l.length<n+1+s.at'→s.pipes≤600→Calls Tryz.prog 93 #[.pointer (some ⟨g,0,none⟩)] W (ResN g l en W (altB numE l en R s)))
  (KD:∀(s:PT) (W:World),PrS g l en s W→s.at'≤l.length→l.length<n+s.at'→s.pipes≤600→Calls Tryz.prog 89 #[.pointer (some ⟨g,0,none⟩)] W (ResN g l en W (defB l en R s)))
  (s:PT) (w:World) (h:PrS g l en s w) (hs:s.at'≤l.length) (hm:l.length<n+1+s.at') (hp:s.pipes≤600) :
  Calls Tryz.prog 60 #[.pointer (some ⟨g,0,none⟩)] w (ResN g l en w (wholeB numE l en R s)):=by
 have hl:=E.len
 have KN:=hid (fun k t A n c W=>syNode_any k t A n c W)
 have KM:=hid (fun t W=>syNamed_any t W)
 have FD0:=fun a p t W=>fld0 a p t W
 have FD1:=fun a p t W=>fld1 a p t W
 have H0:=hid (Fr.start h)
 obtain ⟨r,hr⟩:∃r,r=wholeB numE l en R s:=⟨_,rfl⟩
 rw [←hr]
 unfold wholeB at hr
 have R0:=hid hr
 clear hr h
 go_enter Tryz.func60,Tryz.ntmps60
 go_wp2_with (with_reducible refine frA H0.out ?_)
 intro V1 hV
 have H2:=hid hV
 clear hV
 by_cases hb3:isT l tDef s.at'=true
 ·skip
  obtain ⟨s4,hs5⟩:∃z,z=nextT s:=⟨_,rfl⟩
  have lt7:=isT_lt hb3
  have a8:s4.at'=s.at'+1:=by rw [hs5];rfl
  have p9:s4.pipes=s.pipes:=by rw [hs5];rfl
  have R6:=hid (hs5▸ite_yes R0.out hb3)
  have K10:=hid (tkY g en ⟨#[100,101,102]⟩ hs5 hl hb3)
  clear hb3 hs5
  go_wp2_with (go_at_call 88;with_reducible refine (K10.out _ H2.out.prs).mono ?_)
  rintro e V11 ⟨rfl,hp,hg⟩
  have H12:=hid (H2.out.kept hp hg)
  clear hp hg K10
  have k13:=fun (W:World) (h:PrS g l en s4 W)=>KD s4 W h (by omega) (by omega) (by omega)
  cases hx14:defB l en R s4 with
  | bad a m=>
   rw [hx14] at k13
   have R15:=hid (R6.out.trans hx14)
   have K16:=hid (show CB g l en s4 89 a m [] from k13)
   clear k13 hx14
   go_wp2_with (go_at_call 89;with_reducible refine (K16.out _ H12.out.prs).mono ?_)
   rintro e V ⟨rfl,k⟩
   rw [R15.out]
   exact ⟨rfl,rfl,H12.out.pg.trans k⟩
  | ok v17 s18=>
   rw [hx14] at k13
   have R19:=hid (R6.out.trans hx14)
   obtain ⟨a20,b21,c22,_⟩:=(def_ty E.fit E.ok s4 (by omega)).ok v17 s18 hx14
   have K23:=hid (show CN g l en s4 89 s18 v17 [] from k13)
   clear k13 hx14
   go_wp2_with (go_at_call 89;with_reducible refine (K23.out _ H12.out.prs).mono ?_)
   rintro e V24 ⟨kv,rfl,hx,hp,hg⟩
   obtain ⟨A25,m26,rfl⟩:=hx.slice
   have H27:=hid (H12.out.tree hp hg hx)
   clear hx hp hg
   clear K23
   go_wp2_with (with_reducible refine frS 0 (nCells v17 (.slice A25 v17.kids.length m26)) H27.out ?_)
   intro V28 hV
   have H29:=hid hV
   clear hV
   go_wp2
   rw [R19.out]
   exact ret_n Tryz.results60 (k:=0) rfl H29.out (by with_unfolding_all rfl) rfl ⟨_,rfl,H29.out.give (by simp),H29.out.prs,H29.out.pg⟩
 ·skip
  have R30:=hid (ite_no R0.out hb3)
  have K31:=hid (tkN g en ⟨#[100,101,102]⟩ hb3)
  clear hb3
  go_wp2_with (go_at_call 88;with_reducible refine (K31.out _ H2.out.prs).mono ?_)
  rintro e V32 ⟨rfl,hp,hg⟩
  have H33:=hid (H2.out.kept hp hg)
  clear hp hg K31
  by_cases hb34:isT l tLabel s.at'=true
  ·skip
   obtain ⟨s35,hs36⟩:∃z,z=nextT s:=⟨_,rfl⟩
   have lt38:=isT_lt hb34
   have a39:s35.at'=s.at'+1:=by rw [hs36];rfl
   have p40:s35.pipes=s.pipes:=by rw [hs36];rfl
   have R37:=hid (hs36▸ite_yes R30.out hb34)
   have K41:=hid (tkY g en ⟨#[108,97,98,101,108]⟩ hs36 hl hb34)
   clear hb34 hs36
   go_wp2_with (go_at_call 88;with_reducible refine (K41.out _ H33.out.prs).mono ?_)
   rintro e V42 ⟨rfl,hp,hg⟩
   have H43:=hid (H33.out.kept hp hg)
   clear hp hg K41
   have k44:=fun (W:World) (h:PrS g l en s35 W)=>syKind_any g l en s35 W 4 h hl (by decide)
   cases hx45:kindT l en 4 s35 with
   | bad a m=>
    rw [hx45] at k44
    have R46:=hid (bind_bad R37.out hx45)
    have K47:=hid (show CB g l en s35 90 a m [.int .i64 4] from k44)
    clear k44 hx45
    go_wp2_with (go_at_call 90;with_reducible refine (K47.out _ H43.out.prs).mono ?_)
    rintro e V ⟨rfl,k⟩
    rw [R46.out]
    exact ⟨rfl,rfl,H43.out.pg.trans k⟩
   | ok t48 s49=>
    rw [hx45] at k44
    have R50:=hid (bind_of R37.out hx45)
    obtain ⟨a51,b52,c53,_⟩:=(kind_ty E.fit (by decide) s35).ok t48 s49 hx45
    have K54:=hid (show CO g l en s35 90 s49 (.agg #[.int .i64 (t48.kind:Int),.string ⟨t48.text.toArray⟩,.int .i64 (t48.pos:Int)]) [.int .i64 4] from k44)
    clear k44 hx45
    go_wp2_with (go_at_call 90;with_reducible refine (K54.out _ H43.out.prs).mono ?_)
    rintro e V55 ⟨rfl,hp,hg⟩
    have H56:=hid (H43.out.kept hp hg)
    clear hp hg K54
    have k57:=fun (W:World) (h:PrS g l en s49 W)=>syMust_any g l en s49 W tBar h hl
    cases hx58:mustT l en tBar s49 with
    | bad a m=>
     rw [hx58] at k57
     have R59:=hid (bind_bad R50.out hx58)
     have K60:=hid (show CB g l en s49 91 a m [.string ⟨#[124]⟩] from k57)
     clear k57 hx58
     go_wp2_with (go_at_call 91;with_reducible refine (K60.out _ H56.out.prs).mono ?_)
     rintro e V ⟨rfl,k⟩
     rw [R59.out]
     exact ⟨rfl,rfl,H56.out.pg.trans k⟩
    | ok u61 s62=>
     rw [hx58] at k57
     have R63:=hid (bind_of R50.out hx58)
     obtain ⟨a64,b65,c66,_⟩:=(must_ty E.fit tBar s49).ok u61 s62 hx58
     have K67:=hid (show CO g l en s49 91 s62 (.tuple #[]) [.string ⟨#[124]⟩] from k57)
     clear k57 hx58
     go_wp2_with (go_at_call 91;with_reducible refine (K67.out _ H56.out.prs).mono ?_)
     rintro e V68 ⟨rfl,hp,hg⟩
     have H69:=hid (H56.out.kept hp hg)
     clear hp hg K67
     have k70:=fun (W:World) (h:PrS g l en s62 W)=>E.walk.pipe s62 W h (by omega) (by omega) (by omega)
     cases hx71:R.pipe s62 with
     | bad a m=>
      rw [hx71] at k70
      have R72:=hid (bind_bad R63.out hx71)
      have K73:=hid (show CB g l en s62 28 a m [] from k70)
      clear k70 hx71
      go_wp2_with (go_at_call 28;with_reducible refine (K73.out _ H69.out.prs).mono ?_)
      rintro e V ⟨rfl,k⟩
      rw [R72.out]
      exact ⟨rfl,rfl,H69.out.pg.trans k⟩
     | ok v74 s75=>
      rw [hx71] at k70
      have R76:=hid (bind_of R63.out hx71)
      obtain ⟨a77,b78,c79,_⟩:=(E.ok.pipe s62 (by omega) (by omega)).ok v74 s75 hx71
      have K80:=hid (show CN g l en s62 28 s75 v74 [] from k70)
      clear k70 hx71
      go_wp2_with (go_at_call 28;with_reducible refine (K80.out _ H69.out.prs).mono ?_)
      rintro e V81 ⟨kv,rfl,hx,hp,hg⟩
      obtain ⟨A82,m83,rfl⟩:=hx.slice
      have H84:=hid (H69.out.tree hp hg hx)
      clear hx hp hg
      clear K80
      simp only [nAgg]
      have H85:=hid (H84.out.row [(v74,.slice A82 v74.kids.length m83)] 1 rfl (by simp) (by decide) (.mk 21 t48.text [v74]) rfl)
      go_wp2_with (go_at_call 92;with_reducible refine (KN.out _ _ _ _ _ _).mono ?_)
      rintro e V86 ⟨rfl,hb⟩
      have H87:=hid (H85.out.below hb)
      clear hb
      go_wp2_with (with_reducible refine frS 0 (nCells (.mk 21 t48.text [v74]) (.slice (some ⟨V81.heap.size,0,none⟩) 1 1)) H87.out ?_)
      intro V88 hV
      have H89:=hid hV
      clear hV
      go_wp2
      rw [R76.out]
      exact ret_n Tryz.results60 (k:=0) rfl H89.out (by with_unfolding_all rfl) rfl ⟨_,rfl,H89.out.give (by simp),H89.out.prs,H89.out.pg⟩
  ·skip
   have R90:=hid (ite_no R30.out hb34)
   have K91:=hid (tkN g en ⟨#[108,97,98,101,108]⟩ hb34)
   clear hb34
   go_wp2_with (go_at_call 88;with_reducible refine (K91.out _ H33.out.prs).mono ?_)
   rintro e V92 ⟨rfl,hp,hg⟩
   have H93:=hid (H33.out.kept hp hg)
   clear hp hg K91
   have k94:=fun (W:World) (h:PrS g l en s W)=>KA s W h (by omega) (by omega) (by omega)
   cases hx95:altB numE l en R s with
   | bad a m=>
    rw [hx95] at k94
    have R96:=hid (bind_bad R90.out hx95)
    have K97:=hid (show CB g l en s 93 a m [] from k94)
    clear k94 hx95
    go_wp2_with (go_at_call 93;with_reducible refine (K97.out _ H93.out.prs).mono ?_)
    rintro e V ⟨rfl,k⟩
    rw [R96.out]
    exact ⟨rfl,rfl,H93.out.pg.trans k⟩
   | ok v98 s99=>
    rw [hx95] at k94
    have R100:=hid (bind_of R90.out hx95)
    obtain ⟨a101,b102,c103,_⟩:=(alt_ty E.fit E.ok s (by omega) (by omega)).ok v98 s99 hx95
    have K104:=hid (show CN g l en s 93 s99 v98 [] from k94)
    clear k94 hx95
    go_wp2_with (go_at_call 93;with_reducible refine (K104.out _ H93.out.prs).mono ?_)
    rintro e V105 ⟨kv,rfl,hx,hp,hg⟩
    obtain ⟨A106,m107,rfl⟩:=hx.slice
    have H108:=hid (H93.out.tree hp hg hx)
    clear hx hp hg
    clear K104
    go_wp2_with (with_reducible refine frA H108.out ?_)
    intro V109 hV
    have H110:=hid hV
    clear hV
    go_wp2_with (with_reducible refine frS 1 (nCells v98 (.slice A106 v98.kids.length m107)) H110.out ?_)
    intro V111 hV
    have H112:=hid hV
    clear hV
    have RK:=hid (show r=(commasF numE l en R (l.length+1) v98 s99).bind (wholeK l R) from R100.out)
    go_wp2
    go_loopg [] (l.length+1) (fun kx wr=>∃(s':PT) (f:Nat) (x:Nd) (A:Option Addr) (c:Nat),f≤kx∧s.at'<s'.at'∧s'.at'≤l.length∧s'.pipes=s.pipes∧l.length<f+s'.at'∧Fr g l en w s' [(w.heap.size,zN,TN),(V105.heap.size,nCells x (.slice A x.kids.length c),TN)] [(x,.slice A x.kids.length c)] rNil [] wr∧Hid (r=(commasF numE l en R f x s').bind (wholeK l R)))
    case atStart=>exact ⟨s99,l.length+1,v98,_,_,Nat.le_refl _,by omega,by omega,by omega,by omega,H112.out,RK.out⟩
    case round=>
     obtain ⟨s',f,x,A,c,hfk,q1,q2,q3,q4,hF,hR⟩:=hrel
     obtain ⟨f,rfl⟩:∃k,f=k+1:=⟨f-1,by omega⟩
     have HF:=hid hF
     have RF:=hid hR.out
     clear hF hR
     by_cases hb113:isT l tComma s'.at'=true
     ·skip
      obtain ⟨s114,hs115⟩:∃z,z=nextT s':=⟨_,rfl⟩
      have lt117:=isT_lt hb113
      have a118:s114.at'=s'.at'+1:=by rw [hs115];rfl
      have p119:s114.pipes=s'.pipes:=by rw [hs115];rfl
      have R116:=hid (hs115▸comma_yes RF.out hb113)
      have K120:=hid (tkY g en ⟨#[44]⟩ hs115 hl hb113)
      clear hb113 hs115
      go_wp2_with (go_at_call 88;with_reducible refine (K120.out _ HF.out.prs).mono ?_)
      rintro e V121 ⟨rfl,hp,hg⟩
      have H122:=hid (HF.out.kept hp hg)
      clear hp hg K120
      have k123:=fun (W:World) (h:PrS g l en s114 W)=>KA s114 W h (by omega) (by omega) (by omega)
      cases hx124:altB numE l en R s114 with
      | bad a m=>
       rw [hx124] at k123
       have R125:=hid (bind_bad R116.out hx124)
       have K126:=hid (show CB g l en s114 93 a m [] from k123)
       clear k123 hx124
       go_upto_region 9 with fail
       refine wp_region_s 5 (BoxS [(w.heap.size,zN,TN),(V105.heap.size,nCells x (.slice A x.kids.length c),TN)]) (by kernel_rfl) H122.out.drew.boxS (fun hS0=>?_)
       have H127:=hid H122.out.drew
       generalize V121.drew=V128 at *
       refine tk 0 (.agg (nCells x (.slice A x.kids.length c)).toArray) [3,4,5] hS0 ?_ (y:=yields_ld threeN (by kernel_rfl) _ rfl 1 (b:=(V105.heap.size,nCells x (.slice A x.kids.length c),TN)) rfl rfl rfl)
       refine tk 1 (.pointer (some ⟨g,0,none⟩)) [2,3,4,5] hS0 ?_
       refine st 2 fun K hK=>?_
       go_simp
       go_at_call 93
       with_reducible refine (K126.out _ H127.out.prs).mono ?_
       rintro e V ⟨rfl,k⟩
       rw [R125.out]
       exact ⟨rfl,rfl,H127.out.pg.trans k⟩
      | ok v129 s130=>
       rw [hx124] at k123
       have R131:=hid (bind_of R116.out hx124)
       obtain ⟨a132,b133,c134,_⟩:=(alt_ty E.fit E.ok s114 (by omega) (by omega)).ok v129 s130 hx124
       have K135:=hid (show CN g l en s114 93 s130 v129 [] from k123)
       clear k123 hx124
       go_upto_region 9 with fail
       refine wp_region_s 5 (BoxS [(w.heap.size,zN,TN),(V105.heap.size,nCells x (.slice A x.kids.length c),TN)]) (by kernel_rfl) H122.out.drew.boxS (fun hS0=>?_)
       have H136:=hid H122.out.drew
       generalize V121.drew=V137 at *
       refine tk 0 (.agg (nCells x (.slice A x.kids.length c)).toArray) [3,4,5] hS0 ?_ (y:=yields_ld threeN (by kernel_rfl) _ rfl 1 (b:=(V105.heap.size,nCells x (.slice A x.kids.length c),TN)) rfl rfl rfl)
       refine tk 1 (.pointer (some ⟨g,0,none⟩)) [2,3,4,5] hS0 ?_
       refine st 2 fun K hK=>?_
       go_simp
       go_at_call 93
       with_reducible refine (K135.out _ H136.out.prs).mono ?_
       rintro e V138 ⟨kv,rfl,hx,hp,hg⟩
       obtain ⟨A139,m140,rfl⟩:=hx.slice
       have H141:=hid (H136.out.tree hp hg hx)
       clear hx hp hg
       clear K135
       try dsimp only
       refine hK.out _ _ (fun _=>H141.out.boxS) (fun _=>?_)
       clear hK K
       refine st 3 fun K hK=>?_
       simp only [nAgg,nCells]
       go_simp
       have H142:=hid (H141.out.row [(x,.slice A x.kids.length c),(v129,.slice A139 v129.kids.length m140)] 2 rfl (by simp) (by decide) (.mk 16 [] [x,v129]) rfl)
       refine hK.out _ _ (fun _=>H142.out.boxS) (fun _=>?_)
       clear hK K
       refine st 4 fun K hK=>?_
       go_simp
       go_at_call 92
       with_reducible refine (KN.out _ _ _ _ _ _).mono ?_
       rintro e V143 ⟨rfl,hb⟩
       have H144:=hid (H142.out.below hb)
       clear hb
       try dsimp only
       refine hK.out _ _ (fun _=>H144.out.boxS) (fun _=>?_)
       clear hK K
       refine st 5 fun K hK=>?_
       rw [if_pos (by kernel_rfl)]
       with_reducible refine fr_wpStore threeN _ _ (by with_unfolding_all rfl) 1 rfl (nCells (.mk 16 [] [x,v129]) (.slice (some ⟨V138.heap.size,0,none⟩) 2 2)) (by with_unfolding_all rfl) (by with_unfolding_all rfl) rfl (n_one _ _ _ _) H144.out ?_
       intro V145 hV
       have H146:=hid hV
       clear hV
       refine hK.out _ _ (fun h=>absurd rfl h) (fun _=>?_)
       clear hK K
       refine wpAnyS_done (by kernel_rfl) ?_ _
       go_wp2_with fail
       go_roundg f
       case measure=>omega
       case rel=>exact ⟨s130,f,.mk 16 [] [x,v129],(some ⟨V138.heap.size,0,none⟩),2,Nat.le_refl _,by omega,by omega,by omega,by omega,H146.out.drop 2 (by simp [Nd.kids]),R131.out⟩
     ·skip
      have R147:=hid (comma_no RF.out hb113)
      have K148:=hid (tkN g en ⟨#[44]⟩ hb113)
      clear hb113
      go_wp2_with (go_at_call 88;with_reducible refine (K148.out _ HF.out.prs).mono ?_)
      rintro e V149 ⟨rfl,hp,hg⟩
      have H150:=hid (HF.out.kept hp hg)
      clear hp hg K148
      have RW:=hid (show r=if isT l tBar s'.at'=true then (R.pipe (nextT s')).bind fun m s=>.ok (.mk 15 [] [x,m]) s else .ok x s' from R147.out)
      by_cases hb151:isT l tBar s'.at'=true
      ·skip
       obtain ⟨s152,hs153⟩:∃z,z=nextT s':=⟨_,rfl⟩
       have lt155:=isT_lt hb151
       have a156:s152.at'=s'.at'+1:=by rw [hs153];rfl
       have p157:s152.pipes=s'.pipes:=by rw [hs153];rfl
       have R154:=hid (hs153▸ite_yes RW.out hb151)
       have K158:=hid (tkY g en ⟨#[124]⟩ hs153 hl hb151)
       clear hb151 hs153
       go_wp2_with (go_at_call 88;with_reducible refine (K158.out _ H150.out.prs).mono ?_)
       rintro e V159 ⟨rfl,hp,hg⟩
       have H160:=hid (H150.out.kept hp hg)
       clear hp hg K158
       have k161:=fun (W:World) (h:PrS g l en s152 W)=>E.walk.pipe s152 W h (by omega) (by omega) (by omega)
       cases hx162:R.pipe s152 with
       | bad a m=>
        rw [hx162] at k161
        have R163:=hid (bind_bad R154.out hx162)
        have K164:=hid (show CB g l en s152 28 a m [] from k161)
        clear k161 hx162
        go_upto_region 11 with fail
        refine wp_region_s 5 (BoxS [(w.heap.size,zN,TN),(V105.heap.size,nCells x (.slice A x.kids.length c),TN)]) (by kernel_rfl) H160.out.drew.boxS (fun hS0=>?_)
        have H165:=hid H160.out.drew
        generalize V159.drew=V166 at *
        refine tk 0 (.agg (nCells x (.slice A x.kids.length c)).toArray) [3,4,5] hS0 ?_ (y:=yields_ld threeN (by kernel_rfl) _ rfl 1 (b:=(V105.heap.size,nCells x (.slice A x.kids.length c),TN)) rfl rfl rfl)
        refine tk 1 (.pointer (some ⟨g,0,none⟩)) [2,3,4,5] hS0 ?_
        refine st 2 fun K hK=>?_
        go_simp
        go_at_call 28
        with_reducible refine (K164.out _ H165.out.prs).mono ?_
        rintro e V ⟨rfl,k⟩
        rw [R163.out]
        exact ⟨rfl,rfl,H165.out.pg.trans k⟩
       | ok v167 s168=>
        rw [hx162] at k161
        have R169:=hid (bind_of R154.out hx162)
        obtain ⟨a170,b171,c172,_⟩:=(E.ok.pipe s152 (by omega) (by omega)).ok v167 s168 hx162
        have K173:=hid (show CN g l en s152 28 s168 v167 [] from k161)
        clear k161 hx162
        go_upto_region 11 with fail
        refine wp_region_s 5 (BoxS [(w.heap.size,zN,TN),(V105.heap.size,nCells x (.slice A x.kids.length c),TN)]) (by kernel_rfl) H160.out.drew.boxS (fun hS0=>?_)
        have H174:=hid H160.out.drew
        generalize V159.drew=V175 at *
        refine tk 0 (.agg (nCells x (.slice A x.kids.length c)).toArray) [3,4,5] hS0 ?_ (y:=yields_ld threeN (by kernel_rfl) _ rfl 1 (b:=(V105.heap.size,nCells x (.slice A x.kids.length c),TN)) rfl rfl rfl)
        refine tk 1 (.pointer (some ⟨g,0,none⟩)) [2,3,4,5] hS0 ?_
        refine st 2 fun K hK=>?_
        go_simp
        go_at_call 28
        with_reducible refine (K173.out _ H174.out.prs).mono ?_
        rintro e V176 ⟨kv,rfl,hx,hp,hg⟩
        obtain ⟨A177,m178,rfl⟩:=hx.slice
        have H179:=hid (H174.out.tree hp hg hx)
        clear hx hp hg
        clear K173
        try dsimp only
        refine hK.out _ _ (fun _=>H179.out.boxS) (fun _=>?_)
        clear hK K
        refine st 3 fun K hK=>?_
        simp only [nAgg,nCells]
        go_simp
        have H180:=hid (H179.out.row [(x,.slice A x.kids.length c),(v167,.slice A177 v167.kids.length m178)] 2 rfl (by simp) (by decide) (.mk 15 [] [x,v167]) rfl)
        refine hK.out _ _ (fun _=>H180.out.boxS) (fun _=>?_)
        clear hK K
        refine st 4 fun K hK=>?_
        go_simp
        go_at_call 92
        with_reducible refine (KN.out _ _ _ _ _ _).mono ?_
        rintro e V181 ⟨rfl,hb⟩
        have H182:=hid (H180.out.below hb)
        clear hb
        try dsimp only
        refine hK.out _ _ (fun _=>H182.out.boxS) (fun _=>?_)
        clear hK K
        refine st 5 fun K hK=>?_
        rw [if_pos (by kernel_rfl)]
        with_reducible refine fr_wpStore threeN _ _ (by with_unfolding_all rfl) 1 rfl (nCells (.mk 15 [] [x,v167]) (.slice (some ⟨V176.heap.size,0,none⟩) 2 2)) (by with_unfolding_all rfl) (by with_unfolding_all rfl) rfl (n_one _ _ _ _) H182.out ?_
        intro V183 hV
        have H184:=hid hV
        clear hV
        refine hK.out _ _ (fun h=>absurd rfl h) (fun _=>?_)
        clear hK K
        refine wpAnyS_done (by kernel_rfl) ?_ _
        go_wp2_with (first
         | (with_reducible refine frL 1 H184.out ?_)
         | (with_reducible refine frS 0 (nCells (.mk 15 [] [x,v167]) (.slice (some ⟨V176.heap.size,0,none⟩) 2 2)) H184.out ?_))
        intro V185 hV
        have H186:=hid hV
        clear hV
        go_wp2
        rw [R169.out]
        exact ret_n Tryz.results60 (k:=0) rfl H186.out (by with_unfolding_all rfl) rfl ⟨_,rfl,H186.out.give (by simp),H186.out.prs,H186.out.pg⟩
      ·skip
       have R187:=hid (ite_no RW.out hb151)
       have K188:=hid (tkN g en ⟨#[124]⟩ hb151)
       clear hb151
       go_wp2_with (go_at_call 88;with_reducible refine (K188.out _ H150.out.prs).mono ?_)
       rintro e V189 ⟨rfl,hp,hg⟩
       have H190:=hid (H150.out.kept hp hg)
       clear hp hg K188
       go_wp2_with (first
        | (with_reducible refine frL 1 H190.out ?_)
        | (with_reducible refine frS 0 (nCells x (.slice A x.kids.length c)) H190.out ?_))
       intro V191 hV
       have H192:=hid hV
       clear hV
       go_wp2
       rw [R187.out]
       exact ret_n Tryz.results60 (k:=0) rfl H192.out (by with_unfolding_all rfl) rfl ⟨_,rfl,H192.out.give (by simp),H192.out.prs,H192.out.pg⟩
end
end Go.Proofs.YtmbeicndhigklaaGreatDoor
