/-
The walks of the parser's ahead, patKey (chapter 15).
-/
import Derived.Test.YtmbeicndhigklaaGreatDoorPSynI
namespace Go.Proofs.YtmbeicndhigklaaGreatDoor
open Lib (hid)
open Go.RowKit
set_option maxHeartbeats 4000000 in
set_option maxRecDepth 100000 in
theorem syAhead_any (g:Nat) (l:List Tk) (en:Nat) (s:PT) (k:Nat) (t:List UInt8) (w:World) (h:PrS g l en s w) (hs:s.at'≤l.length) (hl:l.length≤1000000) :
  Calls Tryz.prog 204 #[.pointer (some ⟨g,0,none⟩),.int .i64 1,.int .i64 (k:Int),.string ⟨t.toArray⟩] w (OkW g l en s w (.bool (aheadT l 1 k t s.at'))):=by
 have HF:=hid (Fr.start h)
 obtain ⟨A,cap,c0,ht,hc⟩:=h.c0
 have c1:=h.c1
 clear h
 obtain ⟨b,hb⟩:∃b,b=aheadT l 1 k t s.at':=⟨_,rfl⟩
 rw [←hb]
 unfold aheadT at hb
 obtain ⟨m,hm⟩:∃m,m=s.at'+1:=⟨_,rfl⟩
 have ez:(s.at':Int)+1=(m:Int):=by omega
 rw [←hm] at hb
 have HB:=hid hb
 clear hb hm
 by_cases hp:m<l.length
 ·have z1:decide ((m:Int)<(l.length:Int))=true:=decide_eq_true (by omega)
  have i0:(0:Int)≤(m:Int):=by omega
  have i1:(m:Int)<(l.length:Int):=by omega
  obtain ⟨q,rfl,d0,d1,d2⟩:=ht.at (due_at hp)
  have HB2:=hid (show b=((dueT l m).kind==k&&(dueT l m).text==t) by rw [HB.out,decide_eq_true hp];rfl)
  clear HB
  generalize dueT l m=x at *
  by_cases hk:x.kind=k
  ·have z2:((x.kind:Int)==(k:Int))=true:=by rw [hk];simp
   have HB3:=hid (show b=(x.text==t) by rw [HB2.out,hk];simp)
   rw [HB3.out]
   clear hk HB2 HB3
   go_enter Tryz.func204,Tryz.ntmps204
   go_upto_region 1 with fail
   go_quiet (fail)
   go_wp2
   go_ret
   exact ⟨rfl,(HF.out.drewN _).prs,(HF.out.drewN _).pg⟩
  ·have z2:((x.kind:Int)==(k:Int))=false:=beq_false_of_ne (by omega)
   have HB3:=hid (show b=false by rw [HB2.out,beq_false_of_ne hk];rfl)
   rw [HB3.out]
   clear hk HB2 HB3
   go_enter Tryz.func204,Tryz.ntmps204
   go_upto_region 1 with fail
   go_quiet (fail)
   go_wp2
   go_ret
   exact ⟨rfl,(HF.out.drewN _).prs,(HF.out.drewN _).pg⟩
 ·have z1:decide ((m:Int)<(l.length:Int))=false:=decide_eq_false (by omega)
  have HB2:=hid (show b=false by rw [HB.out,decide_eq_false hp];rfl)
  rw [HB2.out]
  go_enter Tryz.func204,Tryz.ntmps204
  go_upto_region 1 with fail
  go_quiet (fail)
  go_wp2
  go_ret
  exact ⟨rfl,(HF.out.drewN _).prs,(HF.out.drewN _).pg⟩
section
variable {numE:List UInt8→Nat} {g:Nat} {l:List Tk} {en:Nat} {R:Knot} {n:Nat}
theorem kind_is {t:Tk} {k:Nat} {s:PT} (ht:t=dueT l s.at') (hk:t.kind=k):kindT l en k s=.ok t (nextT s):=by
 subst ht
 exact if_pos hk
theorem kind_val {k:Nat} {s s':PT} {v:Tk} (h:kindT l en k s=.ok v s'):v=dueT l s.at':=by
 unfold kindT at h
 split at h
 ·injection h with h1 h2;exact h1.symm
 ·obtain ⟨a,m,hf⟩:=fail_to (α:=Tk) l en s.at'
  rw [hf] at h;cases h
theorem key_7 {t:Tk} {s:PT} {K:List UInt8→PT→PY Nd} {r:PY Nd} (h:r=(keyTB l en s).bind K) (ht:t=dueT l s.at') (hk:t.kind=7):r=if (dueT l (s.at'+1)).kind=8 then (kindT l en 11 (nextT (nextT s))).bind fun _ s'=>K (dueT l (s.at'+1)).text s' else (kindT l en 11 (nextT s)).bind fun _ s=>K [] s:=by
 subst ht
 rw [h,keyTB,if_pos hk]
 split <;> simp only [bind_assoc'] <;> rfl
theorem key_n {t:Tk} {s:PT} {K:List UInt8→PT→PY Nd} {r:PY Nd} (h:r=(keyTB l en s).bind K) (ht:t=dueT l s.at') (hk:¬t.kind=7):r=(kindT l en 2 s).bind fun t s=>K t.text s:=by
 subst ht
 rw [h,keyTB,if_neg hk]
 simp only [bind_assoc'];rfl
set_option maxHeartbeats 4000000 in
set_option maxRecDepth 100000 in
theorem syKey_any (E:Env numE g l en R n) (s:PT) (w:World) (h:PrS g l en s w) (_hs:s.at'≤l.length) (hm:l.length<n+1+s.at') (hp:s.pipes≤600) :
  Calls Tryz.prog 208 #[.pointer (some ⟨g,0,none⟩)] w (ResN g l en w (keyB l en R s)):=by
 have hl:=E.len
 have KN:=hid (fun k t A n c W=>syNode_any k t A n c W)
 have KM:=hid (fun t W=>syNamed_any t W)
 have FD0:=fun a p t W=>fld0 a p t W
 have FD1:=fun a p t W=>fld1 a p t W
 have H0:=hid (Fr.start h)
 obtain ⟨r,hr⟩:∃r,r=keyB l en R s:=⟨_,rfl⟩
 rw [←hr]
 unfold keyB at hr
 have R0:=hid hr
 clear hr h
 go_enter Tryz.func208,Tryz.ntmps208
 go_wp2_with (with_reducible refine frA H0.out ?_)
 intro V1 hV
 have H2:=hid hV
 clear hV
 obtain ⟨t3,ht4⟩:∃t,t=dueT l s.at':=⟨_,rfl⟩
 have K5:=hid (show CO g l en s 122 s (.agg #[.int .i64 (t3.kind:Int),.string ⟨t3.text.toArray⟩,.int .i64 (t3.pos:Int)]) [] from fun W h=>ht4▸syDue_any g l en s W h)
 have Dt3:=hid ht4
 clear ht4
 go_wp2_with (go_at_call 122;with_reducible refine (K5.out _ H2.out.prs).mono ?_)
 rintro e V6 ⟨rfl,hp,hg⟩
 have H7:=hid (H2.out.kept hp hg)
 clear hp hg K5
 go_wp2_with (with_reducible refine frAK H7.out ?_)
 intro V8 hV
 have H9:=hid hV
 clear hV
 go_wp2_with (with_reducible refine frSK 1 (tkCs t3) H9.out ?_)
 intro V10 hV
 have H11:=hid hV
 clear hV
 have q:=R0.out
 rw [←Dt3.out] at q
 have R12:=hid q
 clear q
 by_cases hk13:t3.kind=4
 ·skip
  have R14:=hid (ite_yes R12.out hk13)
  have nz15:t3.kind≠0:=by omega
  have c16:=H11.out.cell 1 rfl 0 rfl
  rw [hk13] at c16
  obtain ⟨s17,hs18⟩:∃z,z=nextT s:=⟨_,rfl⟩
  have lt20:=due_some (l:=l) (p:=s.at') (Dt3.out▸nz15)
  have a21:s17.at'=s.at'+1:=by rw [hs18];rfl
  have p22:s17.pipes=s.pipes:=by rw [hs18];rfl
  have R19:=hid (hs18▸R14.out)
  have c23:=H11.out.prs.c1
  have f24:=H11.out.prs.frozen 1
  have hn:=H11.out.next
  rw [←hs18] at hn
  have H25:=hid hn
  clear hn hs18
  go_upto_region 6 with fail
  generalize V10.setCell ⟨g,1,none⟩ (.int .i64 ((s.at':Int)+1))=V26 at *
  clear c16 c23 f24
  have H27:=hid (H25.out.leaf (.mk 28 t3.text []) rfl)
  go_upto_region 6 with fail
  refine wp_region_s 7 (BoxS [(w.heap.size,zN,TN),(V6.heap.size,tkCs t3,TTk)]) (by kernel_rfl) H27.out.drew.boxS (fun hS0=>?_)
  have H28:=hid H27.out.drew
  generalize V26.drew=V29 at *
  refine tk 0 (.pointer (some ⟨V6.heap.size,1,none⟩)) [1,6,7] hS0 ?_
  refine tk11 1 (.string ⟨t3.text.toArray⟩) [6,7] hS0 ?_
  refine tk 2 (.pointer (some ⟨V6.heap.size,1,none⟩)) [3,4,5,6,7] hS0 ?_
  refine tk11 3 (.string ⟨t3.text.toArray⟩) [4,5,6,7] hS0 ?_
  refine st 4 fun K hK=>?_
  go_simp
  go_at_call 92
  with_reducible refine (KN.out _ _ _ _ _ _).mono ?_
  rintro e V30 ⟨rfl,hb⟩
  have H31:=hid (H28.out.below hb)
  clear hb
  try dsimp only
  refine hK.out _ _ (fun _=>H31.out.boxS) (fun _=>?_)
  clear hK K
  refine st 5 fun K hK=>?_
  simp only
  go_simp
  have H32:=hid (H31.out.row [(.mk 28 t3.text [],rNil)] 1 rfl (by simp) (by decide) (.mk 31 t3.text [.mk 28 t3.text []]) rfl)
  refine hK.out _ _ (fun _=>H32.out.boxS) (fun _=>?_)
  clear hK K
  refine st 6 fun K hK=>?_
  go_simp
  go_at_call 92
  with_reducible refine (KN.out _ _ _ _ _ _).mono ?_
  rintro e V33 ⟨rfl,hb⟩
  have H34:=hid (H32.out.below hb)
  clear hb
  try dsimp only
  refine hK.out _ _ (fun _=>H34.out.boxS) (fun _=>?_)
  clear hK K
  refine st 7 fun K hK=>?_
  rw [if_pos (by kernel_rfl)]
  with_reducible refine fr_wpStore threeN _ _ (by with_unfolding_all rfl) 0 rfl (nCells (.mk 31 t3.text [.mk 28 t3.text []]) (.slice (some ⟨V30.heap.size,0,none⟩) 1 1)) (by with_unfolding_all rfl) (by with_unfolding_all rfl) rfl (n_one _ _ _ _) H34.out ?_
  intro V35 hV
  have H36:=hid hV
  clear hV
  refine hK.out _ _ (fun h=>absurd rfl h) (fun _=>?_)
  clear hK K
  refine wpAnyS_done (by kernel_rfl) ?_ _
  go_wp2
  rw [R19.out]
  exact ret_n Tryz.results208 (k:=0) rfl H36.out (by with_unfolding_all rfl) rfl ⟨_,rfl,H36.out.give (t:=(.mk 31 t3.text [.mk 28 t3.text []])) (by simp),H36.out.prs,H36.out.pg⟩
 ·skip
  have R37:=hid (ite_no R12.out hk13)
  have z38:((t3.kind:Int)==4)=false:=beq_false_of_ne (by omega)
  have c39:=H11.out.cell 1 rfl 0 rfl
  by_cases k7:t3.kind=7
  ·skip
   have nz:t3.kind≠0:=by omega
   have z7:((t3.kind:Int)==7)=true:=by rw [k7];rfl
   obtain ⟨s40,hs41⟩:∃z,z=nextT s:=⟨_,rfl⟩
   have lt43:=due_some (l:=l) (p:=s.at') (Dt3.out▸nz)
   have a44:s40.at'=s.at'+1:=by rw [hs41];rfl
   have p45:s40.pipes=s.pipes:=by rw [hs41];rfl
   have R42:=hid (hs41▸key_7 R37.out Dt3.out k7)
   have c46:=H11.out.prs.c1
   have f47:=H11.out.prs.frozen 1
   have hn:=H11.out.next
   rw [←hs41] at hn
   have H48:=hid hn
   clear hn hs41
   go_upto_region 9 with fail
   generalize V10.setCell ⟨g,1,none⟩ (.int .i64 ((s.at':Int)+1))=V49 at *
   clear c39 c46 f47
   have q:=R42.out
   rw [←a44] at q
   have R50:=hid q
   clear q
   go_wp2_with (with_reducible refine frSK 1 (tkCs tkNone) H48.out ?_)
   intro V51 hV
   have H52:=hid hV
   clear hV
   obtain ⟨t53,ht54⟩:∃t,t=dueT l s40.at':=⟨_,rfl⟩
   have K55:=hid (show CO g l en s40 122 s40 (.agg #[.int .i64 (t53.kind:Int),.string ⟨t53.text.toArray⟩,.int .i64 (t53.pos:Int)]) [] from fun W h=>ht54▸syDue_any g l en s40 W h)
   have Dt53:=hid ht54
   clear ht54
   go_wp2_with (go_at_call 122;with_reducible refine (K55.out _ H52.out.prs).mono ?_)
   rintro e V56 ⟨rfl,hp,hg⟩
   have H57:=hid (H52.out.kept hp hg)
   clear hp hg K55
   have q:=R50.out
   rw [←Dt53.out] at q
   have R58:=hid q
   clear q
   by_cases hk59:t53.kind=8
   ·skip
    have R60:=hid (ite_yes R58.out hk59)
    have nz61:t53.kind≠0:=by omega
    have z62:((t53.kind:Int)==8)=true:=by rw [hk59];rfl
    have HK63:=hid hk59
    clear hk59
    obtain ⟨s64,hs65⟩:∃z,z=nextT s40:=⟨_,rfl⟩
    have lt67:=due_some (l:=l) (p:=s40.at') (Dt53.out▸nz61)
    have a68:s64.at'=s40.at'+1:=by rw [hs65];rfl
    have p69:s64.pipes=s40.pipes:=by rw [hs65];rfl
    have R66:=hid (hs65▸R60.out)
    have K70:=hid (show CO g l en s40 90 s64 (.agg #[.int .i64 (t53.kind:Int),.string ⟨t53.text.toArray⟩,.int .i64 (t53.pos:Int)]) [.int .i64 8] from fun W h=>by have q:=syKind_any g l en s40 W 8 h hl (by decide);rw [kind_is Dt53.out HK63.out,←hs65] at q;exact q)
    clear hs65
    go_wp2_with (go_at_call 90;with_reducible refine (K70.out _ H57.out.prs).mono ?_)
    rintro e V71 ⟨rfl,hp,hg⟩
    have H72:=hid (H57.out.kept hp hg)
    clear hp hg K70
    go_wp2_with (with_reducible refine frSK 1 (tkCs t53) H72.out ?_)
    intro V73 hV
    have H74:=hid hV
    clear hV
    have k75:=fun (W:World) (h:PrS g l en s64 W)=>syKind_any g l en s64 W 11 h hl (by decide)
    cases hx76:kindT l en 11 s64 with
    | bad a m=>
     rw [hx76] at k75
     have R77:=hid (bind_bad R66.out hx76)
     have K78:=hid (show CB g l en s64 90 a m [.int .i64 11] from k75)
     clear k75 hx76
     go_wp2_with (go_at_call 90;with_reducible refine (K78.out _ H74.out.prs).mono ?_)
     rintro e V ⟨rfl,k⟩
     rw [R77.out]
     exact ⟨rfl,rfl,H74.out.pg.trans k⟩
    | ok t79 s80=>
     rw [hx76] at k75
     have R81:=hid (bind_of R66.out hx76)
     obtain ⟨a82,b83,c84,_⟩:=(kind_ty E.fit (by decide) s64).ok t79 s80 hx76
     have K85:=hid (show CO g l en s64 90 s80 (.agg #[.int .i64 (t79.kind:Int),.string ⟨t79.text.toArray⟩,.int .i64 (t79.pos:Int)]) [.int .i64 11] from k75)
     clear k75 hx76
     go_wp2_with (go_at_call 90;with_reducible refine (K85.out _ H74.out.prs).mono ?_)
     rintro e V86 ⟨rfl,hp,hg⟩
     have H87:=hid (H74.out.kept hp hg)
     clear hp hg K85
     have k88:=fun (W:World) (h:PrS g l en s80 W)=>syMust_any g l en s80 W tColon h hl
     cases hx89:mustT l en tColon s80 with
     | bad a m=>
      rw [hx89] at k88
      have R90:=hid (bind_bad R81.out hx89)
      have K91:=hid (show CB g l en s80 91 a m [.string ⟨#[58]⟩] from k88)
      clear k88 hx89
      go_wp2_with (go_at_call 91;with_reducible refine (K91.out _ H87.out.prs).mono ?_)
      rintro e V ⟨rfl,k⟩
      rw [R90.out]
      exact ⟨rfl,rfl,H87.out.pg.trans k⟩
     | ok u92 s93=>
      rw [hx89] at k88
      have R94:=hid (bind_of R81.out hx89)
      obtain ⟨a95,b96,c97,_⟩:=(must_ty E.fit tColon s80).ok u92 s93 hx89
      have K98:=hid (show CO g l en s80 91 s93 (.tuple #[]) [.string ⟨#[58]⟩] from k88)
      clear k88 hx89
      go_wp2_with (go_at_call 91;with_reducible refine (K98.out _ H87.out.prs).mono ?_)
      rintro e V99 ⟨rfl,hp,hg⟩
      have H100:=hid (H87.out.kept hp hg)
      clear hp hg K98
      have k101:=fun (W:World) (h:PrS g l en s93 W)=>E.walk.pat s93 W h (by omega) (by omega) (by omega)
      cases hx102:R.pat s93 with
      | bad a m=>
       rw [hx102] at k101
       have R103:=hid (bind_bad R94.out hx102)
       have K104:=hid (show CB g l en s93 175 a m [] from k101)
       clear k101 hx102
       go_upto_region 14 with fail
       refine wp_region_s 6 (BoxS [(w.heap.size,zN,TN),(V6.heap.size,tkCs t53,TTk)]) (by kernel_rfl) H100.out.drew.boxS (fun hS0=>?_)
       have H105:=hid H100.out.drew
       generalize V99.drew=V106 at *
       refine tk 0 (.pointer (some ⟨V6.heap.size,1,none⟩)) [1,5,6] hS0 ?_
       refine tk11 1 (.string ⟨t53.text.toArray⟩) [5,6] hS0 ?_
       refine tk 2 (.pointer (some ⟨g,0,none⟩)) [3,4,5,6] hS0 ?_
       refine st 3 fun K hK=>?_
       go_simp
       go_at_call 175
       with_reducible refine (K104.out _ H105.out.prs).mono ?_
       rintro e V ⟨rfl,k⟩
       rw [R103.out]
       exact ⟨rfl,rfl,H105.out.pg.trans k⟩
      | ok v107 s108=>
       rw [hx102] at k101
       have R109:=hid (bind_of R94.out hx102)
       obtain ⟨a110,b111,c112,_⟩:=(E.ok.pat s93 (by omega) (by omega)).ok v107 s108 hx102
       have K113:=hid (show CN g l en s93 175 s108 v107 [] from k101)
       clear k101 hx102
       go_upto_region 14 with fail
       refine wp_region_s 6 (BoxS [(w.heap.size,zN,TN),(V6.heap.size,tkCs t53,TTk)]) (by kernel_rfl) H100.out.drew.boxS (fun hS0=>?_)
       have H114:=hid H100.out.drew
       generalize V99.drew=V115 at *
       refine tk 0 (.pointer (some ⟨V6.heap.size,1,none⟩)) [1,5,6] hS0 ?_
       refine tk11 1 (.string ⟨t53.text.toArray⟩) [5,6] hS0 ?_
       refine tk 2 (.pointer (some ⟨g,0,none⟩)) [3,4,5,6] hS0 ?_
       refine st 3 fun K hK=>?_
       go_simp
       go_at_call 175
       with_reducible refine (K113.out _ H114.out.prs).mono ?_
       rintro e V116 ⟨kv,rfl,hx,hp,hg⟩
       obtain ⟨A117,m118,rfl⟩:=hx.slice
       have H119:=hid (H114.out.tree hp hg hx)
       clear hx hp hg
       clear K113
       try dsimp only
       refine hK.out _ _ (fun _=>H119.out.boxS) (fun _=>?_)
       clear hK K
       refine st 4 fun K hK=>?_
       simp only [nAgg]
       go_simp
       have H120:=hid (H119.out.row [(v107,.slice A117 v107.kids.length m118)] 1 rfl (by simp) (by decide) (.mk 31 t53.text [v107]) rfl)
       refine hK.out _ _ (fun _=>H120.out.boxS) (fun _=>?_)
       clear hK K
       refine st 5 fun K hK=>?_
       go_simp
       go_at_call 92
       with_reducible refine (KN.out _ _ _ _ _ _).mono ?_
       rintro e V121 ⟨rfl,hb⟩
       have H122:=hid (H120.out.below hb)
       clear hb
       try dsimp only
       refine hK.out _ _ (fun _=>H122.out.boxS) (fun _=>?_)
       clear hK K
       refine st 6 fun K hK=>?_
       rw [if_pos (by kernel_rfl)]
       with_reducible refine fr_wpStore threeN _ _ (by with_unfolding_all rfl) 0 rfl (nCells (.mk 31 t53.text [v107]) (.slice (some ⟨V116.heap.size,0,none⟩) 1 1)) (by with_unfolding_all rfl) (by with_unfolding_all rfl) rfl (n_one _ _ _ _) H122.out ?_
       intro V123 hV
       have H124:=hid hV
       clear hV
       refine hK.out _ _ (fun h=>absurd rfl h) (fun _=>?_)
       clear hK K
       refine wpAnyS_done (by kernel_rfl) ?_ _
       go_wp2
       rw [R109.out]
       exact ret_n Tryz.results208 (k:=0) rfl H124.out (by with_unfolding_all rfl) rfl ⟨_,rfl,H124.out.give (t:=(.mk 31 t53.text [v107])) (by simp),H124.out.prs,H124.out.pg⟩
   ·skip
    have R125:=hid (ite_no R58.out hk59)
    have z126:((t53.kind:Int)==8)=false:=beq_false_of_ne (by omega)
    have k127:=fun (W:World) (h:PrS g l en s40 W)=>syKind_any g l en s40 W 11 h hl (by decide)
    cases hx128:kindT l en 11 s40 with
    | bad a m=>
     rw [hx128] at k127
     have R129:=hid (bind_bad R125.out hx128)
     have K130:=hid (show CB g l en s40 90 a m [.int .i64 11] from k127)
     clear k127 hx128
     go_wp2_with (go_at_call 90;with_reducible refine (K130.out _ H57.out.prs).mono ?_)
     rintro e V ⟨rfl,k⟩
     rw [R129.out]
     exact ⟨rfl,rfl,H57.out.pg.trans k⟩
    | ok t131 s132=>
     rw [hx128] at k127
     have R133:=hid (bind_of R125.out hx128)
     obtain ⟨a134,b135,c136,_⟩:=(kind_ty E.fit (by decide) s40).ok t131 s132 hx128
     have K137:=hid (show CO g l en s40 90 s132 (.agg #[.int .i64 (t131.kind:Int),.string ⟨t131.text.toArray⟩,.int .i64 (t131.pos:Int)]) [.int .i64 11] from k127)
     clear k127 hx128
     go_wp2_with (go_at_call 90;with_reducible refine (K137.out _ H57.out.prs).mono ?_)
     rintro e V138 ⟨rfl,hp,hg⟩
     have H139:=hid (H57.out.kept hp hg)
     clear hp hg K137
     have k140:=fun (W:World) (h:PrS g l en s132 W)=>syMust_any g l en s132 W tColon h hl
     cases hx141:mustT l en tColon s132 with
     | bad a m=>
      rw [hx141] at k140
      have R142:=hid (bind_bad R133.out hx141)
      have K143:=hid (show CB g l en s132 91 a m [.string ⟨#[58]⟩] from k140)
      clear k140 hx141
      go_wp2_with (go_at_call 91;with_reducible refine (K143.out _ H139.out.prs).mono ?_)
      rintro e V ⟨rfl,k⟩
      rw [R142.out]
      exact ⟨rfl,rfl,H139.out.pg.trans k⟩
     | ok u144 s145=>
      rw [hx141] at k140
      have R146:=hid (bind_of R133.out hx141)
      obtain ⟨a147,b148,c149,_⟩:=(must_ty E.fit tColon s132).ok u144 s145 hx141
      have K150:=hid (show CO g l en s132 91 s145 (.tuple #[]) [.string ⟨#[58]⟩] from k140)
      clear k140 hx141
      go_wp2_with (go_at_call 91;with_reducible refine (K150.out _ H139.out.prs).mono ?_)
      rintro e V151 ⟨rfl,hp,hg⟩
      have H152:=hid (H139.out.kept hp hg)
      clear hp hg K150
      have k153:=fun (W:World) (h:PrS g l en s145 W)=>E.walk.pat s145 W h (by omega) (by omega) (by omega)
      cases hx154:R.pat s145 with
      | bad a m=>
       rw [hx154] at k153
       have R155:=hid (bind_bad R146.out hx154)
       have K156:=hid (show CB g l en s145 175 a m [] from k153)
       clear k153 hx154
       go_upto_region 14 with fail
       refine wp_region_s 6 (BoxS [(w.heap.size,zN,TN),(V6.heap.size,tkCs tkNone,TTk)]) (by kernel_rfl) H152.out.drew.boxS (fun hS0=>?_)
       have H157:=hid H152.out.drew
       generalize V151.drew=V158 at *
       refine tk 0 (.pointer (some ⟨V6.heap.size,1,none⟩)) [1,5,6] hS0 ?_
       refine tk11 1 (.string ⟨tkNone.text.toArray⟩) [5,6] hS0 ?_
       refine tk 2 (.pointer (some ⟨g,0,none⟩)) [3,4,5,6] hS0 ?_
       refine st 3 fun K hK=>?_
       go_simp
       go_at_call 175
       with_reducible refine (K156.out _ H157.out.prs).mono ?_
       rintro e V ⟨rfl,k⟩
       rw [R155.out]
       exact ⟨rfl,rfl,H157.out.pg.trans k⟩
      | ok v159 s160=>
       rw [hx154] at k153
       have R161:=hid (bind_of R146.out hx154)
       obtain ⟨a162,b163,c164,_⟩:=(E.ok.pat s145 (by omega) (by omega)).ok v159 s160 hx154
       have K165:=hid (show CN g l en s145 175 s160 v159 [] from k153)
       clear k153 hx154
       go_upto_region 14 with fail
       refine wp_region_s 6 (BoxS [(w.heap.size,zN,TN),(V6.heap.size,tkCs tkNone,TTk)]) (by kernel_rfl) H152.out.drew.boxS (fun hS0=>?_)
       have H166:=hid H152.out.drew
       generalize V151.drew=V167 at *
       refine tk 0 (.pointer (some ⟨V6.heap.size,1,none⟩)) [1,5,6] hS0 ?_
       refine tk11 1 (.string ⟨tkNone.text.toArray⟩) [5,6] hS0 ?_
       refine tk 2 (.pointer (some ⟨g,0,none⟩)) [3,4,5,6] hS0 ?_
       refine st 3 fun K hK=>?_
       go_simp
       go_at_call 175
       with_reducible refine (K165.out _ H166.out.prs).mono ?_
       rintro e V168 ⟨kv,rfl,hx,hp,hg⟩
       obtain ⟨A169,m170,rfl⟩:=hx.slice
       have H171:=hid (H166.out.tree hp hg hx)
       clear hx hp hg
       clear K165
       try dsimp only
       refine hK.out _ _ (fun _=>H171.out.boxS) (fun _=>?_)
       clear hK K
       refine st 4 fun K hK=>?_
       simp only [nAgg]
       go_simp
       have H172:=hid (H171.out.row [(v159,.slice A169 v159.kids.length m170)] 1 rfl (by simp) (by decide) (.mk 31 tkNone.text [v159]) rfl)
       refine hK.out _ _ (fun _=>H172.out.boxS) (fun _=>?_)
       clear hK K
       refine st 5 fun K hK=>?_
       go_simp
       go_at_call 92
       with_reducible refine (KN.out _ _ _ _ _ _).mono ?_
       rintro e V173 ⟨rfl,hb⟩
       have H174:=hid (H172.out.below hb)
       clear hb
       try dsimp only
       refine hK.out _ _ (fun _=>H174.out.boxS) (fun _=>?_)
       clear hK K
       refine st 6 fun K hK=>?_
       rw [if_pos (by kernel_rfl)]
       with_reducible refine fr_wpStore threeN _ _ (by with_unfolding_all rfl) 0 rfl (nCells (.mk 31 tkNone.text [v159]) (.slice (some ⟨V168.heap.size,0,none⟩) 1 1)) (by with_unfolding_all rfl) (by with_unfolding_all rfl) rfl (n_one _ _ _ _) H174.out ?_
       intro V175 hV
       have H176:=hid hV
       clear hV
       refine hK.out _ _ (fun h=>absurd rfl h) (fun _=>?_)
       clear hK K
       refine wpAnyS_done (by kernel_rfl) ?_ _
       go_wp2
       rw [R161.out]
       exact ret_n Tryz.results208 (k:=0) rfl H176.out (by with_unfolding_all rfl) rfl ⟨_,rfl,H176.out.give (t:=(.mk 31 tkNone.text [v159])) (by simp),H176.out.prs,H176.out.pg⟩
  ·skip
   have R177:=hid (key_n R37.out Dt3.out k7)
   have z7:((t3.kind:Int)==7)=false:=beq_false_of_ne (by omega)
   have k178:=fun (W:World) (h:PrS g l en s W)=>syKind_any g l en s W 2 h hl (by decide)
   cases hx179:kindT l en 2 s with
   | bad a m=>
    rw [hx179] at k178
    have R180:=hid (bind_bad R177.out hx179)
    have K181:=hid (show CB g l en s 90 a m [.int .i64 2] from k178)
    clear k178 hx179
    go_wp2_with (go_at_call 90;with_reducible refine (K181.out _ H11.out.prs).mono ?_)
    rintro e V ⟨rfl,k⟩
    rw [R180.out]
    exact ⟨rfl,rfl,H11.out.pg.trans k⟩
   | ok t182 s183=>
    rw [hx179] at k178
    have R184:=hid (bind_of R177.out hx179)
    obtain ⟨a185,b186,c187,_⟩:=(kind_ty E.fit (by decide) s).ok t182 s183 hx179
    have EV:=hid ((kind_val hx179).trans Dt3.out.symm)
    have K188:=hid (show CO g l en s 90 s183 (.agg #[.int .i64 (t182.kind:Int),.string ⟨t182.text.toArray⟩,.int .i64 (t182.pos:Int)]) [.int .i64 2] from k178)
    clear k178 hx179
    go_wp2_with (go_at_call 90;with_reducible refine (K188.out _ H11.out.prs).mono ?_)
    rintro e V189 ⟨rfl,hp,hg⟩
    have H190:=hid (H11.out.kept hp hg)
    clear hp hg K188
    clear c39
    have q:=R184.out
    rw [EV.out] at q
    have R191:=hid q
    clear q
    have k192:=fun (W:World) (h:PrS g l en s183 W)=>syMust_any g l en s183 W tColon h hl
    cases hx193:mustT l en tColon s183 with
    | bad a m=>
     rw [hx193] at k192
     have R194:=hid (bind_bad R191.out hx193)
     have K195:=hid (show CB g l en s183 91 a m [.string ⟨#[58]⟩] from k192)
     clear k192 hx193
     go_wp2_with (go_at_call 91;with_reducible refine (K195.out _ H190.out.prs).mono ?_)
     rintro e V ⟨rfl,k⟩
     rw [R194.out]
     exact ⟨rfl,rfl,H190.out.pg.trans k⟩
    | ok u196 s197=>
     rw [hx193] at k192
     have R198:=hid (bind_of R191.out hx193)
     obtain ⟨a199,b200,c201,_⟩:=(must_ty E.fit tColon s183).ok u196 s197 hx193
     have K202:=hid (show CO g l en s183 91 s197 (.tuple #[]) [.string ⟨#[58]⟩] from k192)
     clear k192 hx193
     go_wp2_with (go_at_call 91;with_reducible refine (K202.out _ H190.out.prs).mono ?_)
     rintro e V203 ⟨rfl,hp,hg⟩
     have H204:=hid (H190.out.kept hp hg)
     clear hp hg K202
     have k205:=fun (W:World) (h:PrS g l en s197 W)=>E.walk.pat s197 W h (by omega) (by omega) (by omega)
     cases hx206:R.pat s197 with
     | bad a m=>
      rw [hx206] at k205
      have R207:=hid (bind_bad R198.out hx206)
      have K208:=hid (show CB g l en s197 175 a m [] from k205)
      clear k205 hx206
      go_upto_region 14 with fail
      refine wp_region_s 6 (BoxS [(w.heap.size,zN,TN),(V6.heap.size,tkCs t3,TTk)]) (by kernel_rfl) H204.out.drew.boxS (fun hS0=>?_)
      have H209:=hid H204.out.drew
      generalize V203.drew=V210 at *
      refine tk 0 (.pointer (some ⟨V6.heap.size,1,none⟩)) [1,5,6] hS0 ?_
      refine tk11 1 (.string ⟨t3.text.toArray⟩) [5,6] hS0 ?_
      refine tk 2 (.pointer (some ⟨g,0,none⟩)) [3,4,5,6] hS0 ?_
      refine st 3 fun K hK=>?_
      go_simp
      go_at_call 175
      with_reducible refine (K208.out _ H209.out.prs).mono ?_
      rintro e V ⟨rfl,k⟩
      rw [R207.out]
      exact ⟨rfl,rfl,H209.out.pg.trans k⟩
     | ok v211 s212=>
      rw [hx206] at k205
      have R213:=hid (bind_of R198.out hx206)
      obtain ⟨a214,b215,c216,_⟩:=(E.ok.pat s197 (by omega) (by omega)).ok v211 s212 hx206
      have K217:=hid (show CN g l en s197 175 s212 v211 [] from k205)
      clear k205 hx206
      go_upto_region 14 with fail
      refine wp_region_s 6 (BoxS [(w.heap.size,zN,TN),(V6.heap.size,tkCs t3,TTk)]) (by kernel_rfl) H204.out.drew.boxS (fun hS0=>?_)
      have H218:=hid H204.out.drew
      generalize V203.drew=V219 at *
      refine tk 0 (.pointer (some ⟨V6.heap.size,1,none⟩)) [1,5,6] hS0 ?_
      refine tk11 1 (.string ⟨t3.text.toArray⟩) [5,6] hS0 ?_
      refine tk 2 (.pointer (some ⟨g,0,none⟩)) [3,4,5,6] hS0 ?_
      refine st 3 fun K hK=>?_
      go_simp
      go_at_call 175
      with_reducible refine (K217.out _ H218.out.prs).mono ?_
      rintro e V220 ⟨kv,rfl,hx,hp,hg⟩
      obtain ⟨A221,m222,rfl⟩:=hx.slice
      have H223:=hid (H218.out.tree hp hg hx)
      clear hx hp hg
      clear K217
      try dsimp only
      refine hK.out _ _ (fun _=>H223.out.boxS) (fun _=>?_)
      clear hK K
      refine st 4 fun K hK=>?_
      simp only [nAgg]
      go_simp
      have H224:=hid (H223.out.row [(v211,.slice A221 v211.kids.length m222)] 1 rfl (by simp) (by decide) (.mk 31 t3.text [v211]) rfl)
      refine hK.out _ _ (fun _=>H224.out.boxS) (fun _=>?_)
      clear hK K
      refine st 5 fun K hK=>?_
      go_simp
      go_at_call 92
      with_reducible refine (KN.out _ _ _ _ _ _).mono ?_
      rintro e V225 ⟨rfl,hb⟩
      have H226:=hid (H224.out.below hb)
      clear hb
      try dsimp only
      refine hK.out _ _ (fun _=>H226.out.boxS) (fun _=>?_)
      clear hK K
      refine st 6 fun K hK=>?_
      rw [if_pos (by kernel_rfl)]
      with_reducible refine fr_wpStore threeN _ _ (by with_unfolding_all rfl) 0 rfl (nCells (.mk 31 t3.text [v211]) (.slice (some ⟨V220.heap.size,0,none⟩) 1 1)) (by with_unfolding_all rfl) (by with_unfolding_all rfl) rfl (n_one _ _ _ _) H226.out ?_
      intro V227 hV
      have H228:=hid hV
      clear hV
      refine hK.out _ _ (fun h=>absurd rfl h) (fun _=>?_)
      clear hK K
      refine wpAnyS_done (by kernel_rfl) ?_ _
      go_wp2
      rw [R213.out]
      exact ret_n Tryz.results208 (k:=0) rfl H228.out (by with_unfolding_all rfl) rfl ⟨_,rfl,H228.out.give (t:=(.mk 31 t3.text [v211])) (by simp),H228.out.prs,H228.out.pg⟩
end
end Go.Proofs.YtmbeicndhigklaaGreatDoor
