/-
The walks of the parser's small functions: node, named, due, fail, is, takes, must, kind (chapter 15).
-/
import Derived.Test.YtmbeicndhigklaaGreatDoorPSynF
import Derived.Test.YtmbeicndhigklaaGreatDoorPLexW
namespace Go.Proofs.YtmbeicndhigklaaGreatDoor
open Lib (hid)
open Go.RowKit
set_option maxHeartbeats 1000000 in
set_option maxRecDepth 100000 in
theorem syNode_any (k:Int) (t:ByteArray) (A:Option Addr) (n c:Nat) (w:World) :
  Calls Tryz.prog 92 #[.int .i64 k,.string t,.slice A n c] w (RetY (.agg #[.int .i64 k,.string t,.slice A n c]) fun w'=>Below w.heap.size w w'):=by
 go_enter Tryz.func92,Tryz.ntmps92
 go_wp2
 exact bodyPost_ret (v:=.agg #[.int .i64 k,.string t,.slice A n c]) (by simp [results,Tryz.results92,go_sem]) rfl ⟨rfl,(Below.refl _ w).alloc (Nat.le_refl _) _⟩
theorem due_at {l:List Tk} {p:Nat} (h:p<l.length):l[p]?=some (dueT l p):=by
 unfold dueT;rw [List.getD_eq_getElem?_getD,List.getElem?_eq_getElem h];rfl
theorem due_past {l:List Tk} {p:Nat} (h:¬p<l.length):dueT l p=tkNone:=by
 unfold dueT;rw [List.getD_eq_getElem?_getD,List.getElem?_eq_none (by omega)];rfl
set_option maxHeartbeats 1000000 in
set_option maxRecDepth 100000 in
theorem syDue_any (g:Nat) (l:List Tk) (en:Nat) (s:PT) (w:World) (h:PrS g l en s w) :
  Calls Tryz.prog 122 #[.pointer (some ⟨g,0,none⟩)] w (OkW g l en s w (tkAgg (dueT l s.at'))):=by
 have HF:=hid (Fr.start h)
 clear h
 go_enter Tryz.func122,Tryz.ntmps122
 go_wp2_with (with_reducible refine frAK HF.out ?_)
 intro V hV
 have HV:=hid hV
 obtain ⟨A,cap,c0,ht,hc⟩:=hV.prs.c0
 have c1:=hV.prs.c1
 clear hV
 by_cases hp:s.at'<l.length
 ·have z1:decide ((s.at':Int)<(l.length:Int))=true:=decide_eq_true (by omega)
  go_upto_region 1 with fail
  go_quiet (fail)
  have HV2:=hid (HV.out.drewN nq)
  generalize V.drewN nq=V2 at *
  clear c0 ht c1 hc
  obtain ⟨A2,cap2,c0,ht,hc⟩:=HV2.out.prs.c0
  have c1:=HV2.out.prs.c1
  obtain ⟨q,rfl,d0,d1,d2⟩:=ht.at (due_at hp)
  obtain ⟨e0,e1,e2⟩:V2.cell? ⟨w.heap.size,0,none⟩=some (.int .i64 0)∧V2.cell? ⟨w.heap.size,1,none⟩=some (.string ⟨#[]⟩)∧V2.cell? ⟨w.heap.size,2,none⟩=some (.int .i64 0):=
   ⟨HV2.out.cell 0 rfl 0 rfl,HV2.out.cell 0 rfl 1 rfl,HV2.out.cell 0 rfl 2 rfl⟩
  have f0:=HV2.out.frozen 0 rfl 0
  have f1:=HV2.out.frozen 0 rfl 1
  have f2:=HV2.out.frozen 0 rfl 2
  have i0:(0:Int)≤(s.at':Int):=by omega
  have i1:(s.at':Int)<(l.length:Int):=by omega
  go_upto_region 2 with fail
  go_still_tail 10,(by kernel_rfl)
  go_wp2_with fail
  have hend:=(HV2.out.set 0 rfl (tkCs (dueT l s.at')) rfl).drew
  exact ret_k Tryz.results122 (k:=0) rfl hend (by simp) rfl ⟨rfl,hend.prs,hend.pg⟩
 ·have z1:decide ((s.at':Int)<(l.length:Int))=false:=decide_eq_false (by omega)
  have hd:=hid (due_past hp)
  go_upto_region 1 with fail
  go_quiet (fail)
  have HV2:=hid (HV.out.drewN nq)
  generalize V.drewN nq=V2 at *
  clear c0 ht c1 hc
  obtain ⟨e0,e1,e2⟩:V2.cell? ⟨w.heap.size,0,none⟩=some (.int .i64 0)∧V2.cell? ⟨w.heap.size,1,none⟩=some (.string ⟨#[]⟩)∧V2.cell? ⟨w.heap.size,2,none⟩=some (.int .i64 0):=
   ⟨HV2.out.cell 0 rfl 0 rfl,HV2.out.cell 0 rfl 1 rfl,HV2.out.cell 0 rfl 2 rfl⟩
  have f0:=HV2.out.frozen 0 rfl 0
  have f1:=HV2.out.frozen 0 rfl 1
  have f2:=HV2.out.frozen 0 rfl 2
  go_wp2_with fail
  have hend:=HV2.out.set 0 rfl (tkCs tkNone) rfl
  rw [hd.out]
  exact ret_k Tryz.results122 (k:=0) rfl hend (by simp) rfl ⟨rfl,hend.prs,hend.pg⟩
theorem fail_to {α:Type} (l:List Tk) (en:Nat) (p:Nat):∃a n,(failY l en p:PY α)=.bad a n:=by
 unfold failY;split
 ·exact ⟨_,_,rfl⟩
 ·exact ⟨_,_,rfl⟩
set_option maxHeartbeats 1000000 in
set_option maxRecDepth 100000 in
theorem syFail_any (g:Nat) (l:List Tk) (en:Nat) (s:PT) (w:World) (h:PrS g l en s w) (a n:Nat) (hf:(failY l en s.at':PY Unit)=.bad a n) :
  Calls Tryz.prog 29 #[.pointer (some ⟨g,0,none⟩)] w (BdY g a n w):=by
 have HV:=hid (Fr.start h)
 obtain ⟨A,cap,c0,ht,hc⟩:=h.c0
 have c1:=h.c1
 clear h
 by_cases hp:s.at'<l.length
 ·have z1:decide ((l.length:Int)≤(s.at':Int))=false:=decide_eq_false (by omega)
  unfold failY at hf
  rw [if_neg (by omega)] at hf
  injection hf with h1 h2
  subst h1 h2
  go_enter Tryz.func29,Tryz.ntmps29
  go_upto_region 0 with fail
  go_quiet (fail)
  have HV2:=hid (HV.out.drewN nq)
  generalize w.drewN nq=V2 at *
  clear c0 ht c1 hc
  obtain ⟨A2,cap2,c0,ht,hc⟩:=HV2.out.prs.c0
  have c1:=HV2.out.prs.c1
  obtain ⟨q,rfl,d0,d1,d2⟩:=ht.at (due_at hp)
  have i0:(0:Int)≤(s.at':Int):=by omega
  have i1:(s.at':Int)<(l.length:Int):=by omega
  go_upto_region 2 with fail
  go_still_tail 13,(by kernel_rfl)
  go_wp2
  exact ⟨rfl,rfl,HV2.out.drew.pg⟩
 ·have z1:decide ((l.length:Int)≤(s.at':Int))=true:=decide_eq_true (by omega)
  unfold failY at hf
  rw [if_pos (by omega)] at hf
  injection hf with h1 h2
  subst h1 h2
  go_enter Tryz.func29,Tryz.ntmps29
  go_upto_region 0 with fail
  go_quiet (fail)
  have HV2:=hid (HV.out.drewN nq)
  generalize w.drewN nq=V2 at *
  clear c0 ht c1 hc
  have c2:=HV2.out.prs.c2
  go_wp2
  exact ⟨rfl,rfl,HV2.out.pg⟩
theorem wordT_of (t:List UInt8):Lib.containsS wordsL ⟨t.toArray⟩=wordT t:=by
 have h1:wordsL=wordsT.map fun x=>(⟨x.toArray⟩:ByteArray):=rfl
 unfold wordT
 rw [Bool.eq_iff_iff,Lib.containsS_iff,h1]
 simp
set_option maxHeartbeats 1000000 in
set_option maxRecDepth 100000 in
theorem syIs_any (g:Nat) (l:List Tk) (en:Nat) (s:PT) (t:List UInt8) (w:World) (h:PrS g l en s w) :
  Calls Tryz.prog 121 #[.pointer (some ⟨g,0,none⟩),.string ⟨t.toArray⟩] w (OkW g l en s w (.bool (isT l t s.at'))):=by
 have HF:=hid (Fr.start h)
 have KD:=hid (fun W (h:PrS g l en s W)=>syDue_any g l en s W h)
 have KW:=hid (fun W=>RetY.of (lexWord_any ⟨t.toArray⟩ W))
 rw [wordT_of] at KW
 have his:isT l t s.at'=((dueT l s.at').text==t&&((dueT l s.at').kind==6||((dueT l s.at').kind==2&&wordT t))):=rfl
 rw [his]
 clear h his
 generalize dueT l s.at'=k at *
 generalize wordT t=wd at *
 go_enter Tryz.func121,Tryz.ntmps121
 go_wp2_with (go_at_call 122;with_reducible refine (KD.out _ HF.out.prs).mono ?_)
 rintro e W1 ⟨rfl,h1,k1⟩
 have H1:=hid (HF.out.kept h1 k1)
 clear h1 k1
 go_wp2_with (with_reducible refine frAK H1.out ?_)
 intro V2 hV
 have H2:=hid hV
 clear hV
 go_wp2_with (with_reducible refine fr_store threeK (by with_reducible rfl) _ _ (by with_reducible rfl) 0 rfl (tkCs k) (by simp [Act.eval]) (by simp [Act.eval,tkAgg,tkCs]) rfl (k_one k) H2.out ?_)
 intro V3 hV
 have H3:=hid hV
 have c0:=hV.cell 0 rfl 0 rfl
 have c1:=hV.cell 0 rfl 1 rfl
 clear hV
 go_wp2_with (go_at_call 50;with_reducible refine (KW.out _).mono ?_)
 all_goals first
  | (rintro e W4 ⟨rfl,hb4⟩;have H4:=hid (H3.out.below hb4);go_wp2_with fail;go_ret;refine ⟨?_,H4.out.prs,H4.out.pg⟩;have a2:k.kind=2:=(by omega);rw [a2];simp [*];done)
  | (go_ret;refine ⟨?_,H3.out.prs,H3.out.pg⟩;have a6:k.kind=6:=(by omega);simp [a6];done)
  | (go_ret;refine ⟨?_,H3.out.prs,H3.out.pg⟩;have a6:(k.kind==6)=false:=(beq_false_of_ne (by omega));have a2:(k.kind==2)=false:=(beq_false_of_ne (by omega));have b6:((k.kind:Int)==6)=false:=(beq_false_of_ne (by omega));rw [a6,a2,b6];rfl)
  | (go_ret;refine ⟨?_,H3.out.prs,H3.out.pg⟩;simp [*];done)
  | fail
section
variable (g:Nat) (l:List Tk) (en:Nat) (s:PT) (w:World)
set_option maxHeartbeats 1000000 in
set_option maxRecDepth 100000 in
theorem syTakes_yes (t:List UInt8) (h:PrS g l en s w) (hl:l.length≤1000000) (hb:isT l t s.at'=true) :
  Calls Tryz.prog 88 #[.pointer (some ⟨g,0,none⟩),.string ⟨t.toArray⟩] w (OkW g l en (nextT s) w (.bool true)):=by
 have HF:=hid (Fr.start h)
 have hp:=isT_lt hb
 have KI:=fun W (h:PrS g l en s W)=>syIs_any g l en s t W h
 rw [hb] at KI
 have KI:=hid KI
 clear h hb
 go_enter Tryz.func88,Tryz.ntmps88
 go_wp2_with (go_at_call 121;with_reducible refine (KI.out _ HF.out.prs).mono ?_)
 rintro e W1 ⟨rfl,h1,k1⟩
 have H1:=hid (HF.out.kept h1 k1)
 have c1:=h1.c1
 have f1:=h1.frozen 1
 clear h1 k1
 go_wp2
 have H2:=H1.out.next
 go_ret
 exact ⟨rfl,H2.prs,H2.pg⟩
set_option maxHeartbeats 1000000 in
set_option maxRecDepth 100000 in
theorem syTakes_no (t:List UInt8) (h:PrS g l en s w) (hb:¬isT l t s.at'=true) :
  Calls Tryz.prog 88 #[.pointer (some ⟨g,0,none⟩),.string ⟨t.toArray⟩] w (OkW g l en s w (.bool false)):=by
 have HF:=hid (Fr.start h)
 have KI:=fun W (h:PrS g l en s W)=>syIs_any g l en s t W h
 rw [show isT l t s.at'=false by simpa using hb] at KI
 have KI:=hid KI
 clear h hb
 go_enter Tryz.func88,Tryz.ntmps88
 go_wp2_with (go_at_call 121;with_reducible refine (KI.out _ HF.out.prs).mono ?_)
 rintro e W1 ⟨rfl,h1,k1⟩
 have H1:=hid (HF.out.kept h1 k1)
 clear h1 k1
 go_wp2
 go_ret
 exact ⟨rfl,H1.out.prs,H1.out.pg⟩
set_option maxHeartbeats 1000000 in
set_option maxRecDepth 100000 in
theorem syMust_any (t:List UInt8) (h:PrS g l en s w) (hl:l.length≤1000000) :
  Calls Tryz.prog 91 #[.pointer (some ⟨g,0,none⟩),.string ⟨t.toArray⟩] w (ResW g l en w (fun _=>.tuple #[]) (mustT l en t s)):=by
 have HF:=hid (Fr.start h)
 obtain ⟨a,n,hf⟩:=fail_to (α:=Unit) l en s.at'
 by_cases hb:isT l t s.at'=true
 ·rw [show mustT l en t s=.ok () (nextT s) from if_pos hb]
  have KT:=hid (fun W (h:PrS g l en s W)=>syTakes_yes g l en s W t h hl hb)
  clear h hf hb
  go_enter Tryz.func91,Tryz.ntmps91
  go_wp2_with (go_at_call 88;with_reducible refine (KT.out _ HF.out.prs).mono ?_)
  rintro e W1 ⟨rfl,h1,k1⟩
  have H1:=hid (HF.out.kept h1 k1)
  clear h1 k1
  go_wp2
  exact bodyPost_end (v:=.tuple #[]) (by simp [results,Tryz.results91]) rfl ⟨rfl,H1.out.prs,H1.out.pg⟩
 ·rw [show mustT l en t s=.bad a n from (if_neg hb).trans (by exact hf)]
  have KT:=hid (fun W (h:PrS g l en s W)=>syTakes_no g l en s W t h hb)
  have KF:=hid (fun W (h:PrS g l en s W)=>syFail_any g l en s W h a n hf)
  clear h hf hb
  go_enter Tryz.func91,Tryz.ntmps91
  go_wp2_with (go_at_call 88;with_reducible refine (KT.out _ HF.out.prs).mono ?_)
  rintro e W1 ⟨rfl,h1,k1⟩
  have H1:=hid (HF.out.kept h1 k1)
  clear h1 k1
  go_wp2_with (go_at_call 29;with_reducible refine (KF.out _ H1.out.prs).mono ?_)
  rintro e W2 ⟨rfl,k2⟩
  have K2:=hid (H1.out.pg.trans k2)
  clear k2
  unfold stopE
  go_wp2
  exact ⟨rfl,rfl,K2.out⟩
set_option maxHeartbeats 1000000 in
set_option maxRecDepth 100000 in
theorem syKind_any (k:Nat) (h:PrS g l en s w) (hl:l.length≤1000000) (hk0:k≠0) :
  Calls Tryz.prog 90 #[.pointer (some ⟨g,0,none⟩),.int .i64 (k:Int)] w (ResW g l en w tkAgg (kindT l en k s)):=by
 have HF:=hid (Fr.start h)
 have KD:=hid (fun W (h:PrS g l en s W)=>syDue_any g l en s W h)
 obtain ⟨a,n,hf⟩:=fail_to (α:=Unit) l en s.at'
 have hf2:(failY l en s.at':PY Tk)=.bad a n:=by
  unfold failY at hf ⊢
  split at hf <;> (injection hf with h1 h2;subst h1 h2;first | rw [if_pos ‹_›] | rw [if_neg ‹_›])
 have KF:=hid (fun W (h:PrS g l en s W)=>syFail_any g l en s W h a n hf)
 by_cases hk:(dueT l s.at').kind=k
 ·rw [show kindT l en k s=.ok (dueT l s.at') (nextT s) from if_pos hk]
  have hp:=due_some (l:=l) (p:=s.at') (by omega)
  clear h hf hf2
  generalize dueT l s.at'=t at *
  have z1:((t.kind:Int) != (k:Int))=false:=by simp [hk]
  clear hk
  go_enter Tryz.func90,Tryz.ntmps90
  go_wp2_with (with_reducible refine frAK HF.out ?_)
  intro V1 hV
  have H1:=hid hV
  clear hV
  go_wp2_with (go_at_call 122;with_reducible refine (KD.out _ H1.out.prs).mono ?_)
  rintro e W2 ⟨rfl,h2,k2⟩
  have H2:=hid (H1.out.kept h2 k2)
  clear h2 k2
  go_wp2_with (with_reducible refine frAK H2.out ?_)
  intro V3 hV
  have H3:=hid hV
  clear hV
  go_wp2_with (with_reducible refine fr_store threeK (by with_reducible rfl) _ _ (by with_reducible rfl) 1 rfl (tkCs t) (by simp [Act.eval]) (by simp [Act.eval,tkAgg,tkCs]) rfl (k_one t) H3.out ?_)
  intro V4 hV
  have H4:=hid hV
  have c0:=hV.cell 1 rfl 0 rfl
  have c1:=hV.prs.c1
  have f1:=hV.prs.frozen 1
  clear hV
  have H5:=hid H4.out.next
  go_wp2_with (first
   | (with_reducible refine fr_load threeK (by with_reducible rfl) _ (by with_reducible rfl) 1 rfl (by simp [Act.eval]) H5.out ?_)
   | (with_reducible refine fr_store threeK (by with_reducible rfl) _ _ (by with_reducible rfl) 0 rfl (tkCs t) (by first | (simp [Act.eval];done) | simp [Act.eval,Act.put]) (by first | (simp [Act.eval];done) | simp [Act.eval,Act.put]) rfl (k_one t) H5.out ?_))
  intro V6 hV
  have H6:=hid hV
  clear hV
  go_wp2
  exact ret_k Tryz.results90 (k:=0) rfl H6.out (by simp) rfl ⟨rfl,H6.out.prs,H6.out.pg⟩
 ·rw [show kindT l en k s=.bad a n from (if_neg hk).trans hf2]
  clear h hf hf2
  generalize dueT l s.at'=t at *
  have z1:((t.kind:Int) != (k:Int))=true:=by simp;omega
  clear hk
  go_enter Tryz.func90,Tryz.ntmps90
  go_wp2_with (with_reducible refine frAK HF.out ?_)
  intro V1 hV
  have H1:=hid hV
  clear hV
  go_wp2_with (go_at_call 122;with_reducible refine (KD.out _ H1.out.prs).mono ?_)
  rintro e W2 ⟨rfl,h2,k2⟩
  have H2:=hid (H1.out.kept h2 k2)
  clear h2 k2
  go_wp2_with (with_reducible refine frAK H2.out ?_)
  intro V3 hV
  have H3:=hid hV
  clear hV
  go_wp2_with (with_reducible refine fr_store threeK (by with_reducible rfl) _ _ (by with_reducible rfl) 1 rfl (tkCs t) (by simp [Act.eval]) (by simp [Act.eval,tkAgg,tkCs]) rfl (k_one t) H3.out ?_)
  intro V4 hV
  have H4:=hid hV
  have c0:=hV.cell 1 rfl 0 rfl
  clear hV
  go_wp2_with (go_at_call 29;with_reducible refine (KF.out _ H4.out.prs).mono ?_)
  rintro e W5 ⟨rfl,k5⟩
  have K5:=hid (H4.out.pg.trans k5)
  clear k5
  unfold stopE
  go_wp2
  exact ⟨rfl,rfl,K5.out⟩
end
end Go.Proofs.YtmbeicndhigklaaGreatDoor
namespace Go.Proofs.YtmbeicndhigklaaGreatDoor
open Lib (hid)
open Go.RowKit
section
variable {α β:Type}
theorem bind_of {r:PY β} {x:PY α} {f:α→PT→PY β} {v:α} {s:PT} (h:r=x.bind f) (hx:x=.ok v s):r=f v s:=by rw [h,hx];rfl
theorem bind_bad {r:PY β} {x:PY α} {f:α→PT→PY β} {a n:Nat} (h:r=x.bind f) (hx:x=.bad a n):r=.bad a n:=by rw [h,hx];rfl
theorem ite_yes {r x y:PY α} {c:Prop} [Decidable c] (h:r=if c then x else y) (hc:c):r=x:=h.trans (if_pos hc)
theorem ite_no {r x y:PY α} {c:Prop} [Decidable c] (h:r=if c then x else y) (hc:¬c):r=y:=h.trans (if_neg hc)
end
structure KnotW (g:Nat) (l:List Tk) (en:Nat) (R:Knot) (n:Nat):Prop where
 pipe:∀(s:PT) (W:World),PrS g l en s W→s.at'≤l.length→l.length<n+s.at'→s.pipes≤600→Calls Tryz.prog 28 #[.pointer (some ⟨g,0,none⟩)] W (ResN g l en W (R.pipe s))
 alt:∀(s:PT) (W:World),PrS g l en s W→s.at'≤l.length→l.length<n+s.at'→s.pipes≤600→Calls Tryz.prog 93 #[.pointer (some ⟨g,0,none⟩)] W (ResN g l en W (R.alt s))
 neg:∀(s:PT) (W:World),PrS g l en s W→s.at'≤l.length→l.length<n+s.at'→s.pipes≤600→Calls Tryz.prog 149 #[.pointer (some ⟨g,0,none⟩)] W (ResN g l en W (R.neg s))
 post:∀(s:PT) (W:World),PrS g l en s W→s.at'≤l.length→l.length<n+s.at'→s.pipes≤600→Calls Tryz.prog 174 #[.pointer (some ⟨g,0,none⟩)] W (ResN g l en W (R.post s))
 pat:∀(s:PT) (W:World),PrS g l en s W→s.at'≤l.length→l.length<n+s.at'→s.pipes≤600→Calls Tryz.prog 175 #[.pointer (some ⟨g,0,none⟩)] W (ResN g l en W (R.pat s))
structure Env (numE:List UInt8→Nat) (g:Nat) (l:List Tk) (en:Nat) (R:Knot) (n:Nat):Prop where
 fit:FitY numE l en
 ok:KnotOk l en R n
 walk:KnotW g l en R n
 len:l.length≤1000000
def MkN (t:Nd) (w:World) (e:Ending) (w':World):Prop:=∃kv,e=.returned (nAgg t kv)∧NX (fun q=>w.heap.size≤q) w' t kv∧Below w.heap.size w w'
theorem ret_n0 {fn:Func} {k:Nat} (hr:fn.results=#[.cell k TN]) {a:Act} {W:World} {r:Nat} {cs:List Value} {z:Nat×Nat} (hh:W.heap[r]?=some (.cells cs.toArray TN z)) (h3:cs.length=3)
  (ht:a.tmps.getD k undef=.pointer (some ⟨r,0,none⟩)) (hd:a.defers=[]) {R:Ending→World→Prop} (hR:R (.returned (.agg cs.toArray)) W):bodyPost Tryz.prog fn R .ret a W:=by
 have ht':a.tmps[k]?.getD undef=.pointer (some ⟨r,0,none⟩):=by simpa using ht
 refine bodyPost_ret (v:=.agg cs.toArray) ?_ hd hR
 obtain ⟨d,hd,hrow⟩:=underN
 have:=run_loadVar_mid W r 0 TN cs d (range_of hh) hd hrow (by rw [sizeN,h3])
 simp [results,hr,ht',asAddr,this]
theorem NX.two {F:Nat→Prop} {w:World} {g:Nat} {ys:List (Nd×Value)} {z:Nat×Nat} (hh:w.heap[g]?=some (.cells (nzCells ys).toArray TN z)) (h:NZ F w ys) (hg:F g) (hl:ys.length≤1000) {x:Nd} (hx:x.kids=ys.map Prod.fst):NX F w x (.slice (some ⟨g,0,none⟩) ys.length ys.length):=by
 unfold NX
 rw [hx]
 exact NZ.kidsAt hh (fun j v hj=>by simpa using hj) h (fun q h=>h) hg ⟨Nat.le_refl _,by unfold maxLen;omega⟩
set_option maxHeartbeats 1000000 in
set_option maxRecDepth 100000 in
theorem syNamed_any (t:List UInt8) (w:World):Calls Tryz.prog 203 #[.string ⟨t.toArray⟩] w (MkN (namedN t) w):=by
 have KN:=hid (fun k t A n c W=>syNode_any k t A n c W)
 go_enter Tryz.func203,Tryz.ntmps203
 go_wp2_with (go_at_call 92;with_reducible refine (KN.out _ _ _ _ _ _).mono ?_)
 rintro e W1 ⟨rfl,h1⟩
 go_wp2_with (go_at_call 92;with_reducible refine (KN.out _ _ _ _ _ _).mono ?_)
 rintro e W2 ⟨rfl,h2⟩
 have hr1:W1.heap[w.heap.size]?=some (.cells zN.toArray TN (0,0)):=heap_call (Go.heap_alloc_new w _) h1
 have hr2:W2.heap[w.heap.size]?=some (.cells zN.toArray TN (0,0)):=heap_call ((Below.heap_alloc W1 _ _ (Array.getElem?_eq_some_iff.1 hr1).1).trans hr1) h2
 have hk2:W2.heap[W1.heap.size]?=some (.cells (nzCells [(.mk 5 t [],rNil)]).toArray TN (0,0)):=heap_call (Go.heap_alloc_new W1 _) h2
 have s1:=h1.size
 have s2:=h2.size
 rw [World.size_alloc] at s1 s2
 have HB:=hid (((Below.refl w.heap.size w).alloc (Nat.le_refl _) _).trans ((h1.mono (by rw [World.size_alloc];omega)).trans (((Below.refl _ W1).alloc (by omega) _).trans (h2.mono (by rw [World.size_alloc];omega)))))
 have c0:W2.cell? ⟨w.heap.size,0,none⟩=some (.int .i64 0):=by rw [Lib.cell_of_heap hr2];rfl
 have c1:W2.cell? ⟨w.heap.size,1,none⟩=some (.string ⟨#[]⟩):=by rw [Lib.cell_of_heap hr2];rfl
 have c2:W2.cell? ⟨w.heap.size,2,none⟩=some rNil:=by rw [Lib.cell_of_heap hr2];rfl
 have f0:=Lib.frozen_of_heap hr2 0
 have f1:=Lib.frozen_of_heap hr2 1
 have f2:=Lib.frozen_of_heap hr2 2
 have HR:=hid hr2
 have HK:=hid hk2
 clear h1 h2 hr1 hr2 hk2
 go_wp2_with fail
 have hne:W1.heap.size≠w.heap.size:=by omega
 refine ret_n0 Tryz.results203 (setCells_whole (vs:=nCells (namedN t) (.slice (some ⟨W1.heap.size,0,none⟩) 1 1)) HR.out rfl) rfl (by simp) rfl ?_
 refine ⟨.slice (some ⟨W1.heap.size,0,none⟩) 1 1,rfl,?_,?_⟩
 ·refine NX.two (ys:=[(.mk 5 t [],rNil)]) ((setCells_far _ _ 0 W2 _ hne).trans HK.out) (fun z hz=>?_) (by omega) (by simp) rfl
  obtain rfl:=List.mem_singleton.1 hz
  exact .leaf rfl
 ·exact setCells_below _ (Nat.le_refl _) _ 0 W2 HB.out
def strK (t:Tk):Nat×Bool:=
 if t.kind=2∧t.text=tOr then (2,false)
 else if t.kind=2∧t.text=tAnd then (3,false)
 else if t.kind≠6 then (0,false)
 else if signs1T.contains t.text=true then (1,true)
 else if signs4T.contains t.text=true then (4,true)
 else if signs5T.contains t.text=true then (5,false)
 else if signs6T.contains t.text=true then (6,false)
 else (0,false)
theorem fld0 (a p:Int) (t:ByteArray) (w:World):(Instr.field 86 (.agg #[.int .i64 a,.string t,.int .i64 p]) 0).run Tryz.prog w=.ok (.int .i64 a) w:=by kernel_rfl
theorem fld1 (a p:Int) (t:ByteArray) (w:World):(Instr.field 86 (.agg #[.int .i64 a,.string t,.int .i64 p]) 1).run Tryz.prog w=.ok (.string t) w:=by kernel_rfl
theorem bind_assoc' {α β γ:Type} (x:PY α) (f:α→PT→PY β) (k:β→PT→PY γ):(x.bind f).bind k=x.bind fun v s=>(f v s).bind k:=by cases x <;> rfl
def wholeK (l:List Tk) (R:Knot) (n:Nd) (s:PT):PY Nd:=if isT l tBar s.at'=true then (R.pipe (nextT s)).bind fun m s=>.ok (.mk 15 [] [n,m]) s else .ok n s
section
variable {numE:List UInt8→Nat} {l:List Tk} {en:Nat} {R:Knot}
theorem comma_yes {f:Nat} {x:Nd} {s:PT} {K:Nd→PT→PY Nd} {r:PY Nd} (h:r=(commasF numE l en R (f+1) x s).bind K) (hb:isT l tComma s.at'=true):r=(altB numE l en R (nextT s)).bind fun m s=>(commasF numE l en R f (.mk 16 [] [x,m]) s).bind K:=by
 rw [h,commasF,if_pos hb,bind_assoc']
theorem comma_no {f:Nat} {x:Nd} {s:PT} {K:Nd→PT→PY Nd} {r:PY Nd} (h:r=(commasF numE l en R (f+1) x s).bind K) (hb:¬isT l tComma s.at'=true):r=K x s:=by
 rw [h,commasF,if_neg hb];rfl
theorem list_one {sep:List UInt8} {one:PT→PY Nd} {f:Nat} {s:PT} {K:List Nd→PT→PY Nd} {r:PY Nd} (h:r=(listF l sep one (f+1) s).bind K):r=(one s).bind fun n s=>(if isT l sep s.at'=true then (listF l sep one f (nextT s)).bind fun ns s=>.ok (n::ns) s else .ok [n] s:PY (List Nd)).bind K:=by
 rw [h,listF,bind_assoc']
theorem list_yes {sep:List UInt8} {one:PT→PY Nd} {f:Nat} {n:Nd} {s:PT} {K:List Nd→PT→PY Nd} {r:PY Nd} (h:r=(if isT l sep s.at'=true then (listF l sep one f (nextT s)).bind fun ns s=>.ok (n::ns) s else .ok [n] s:PY (List Nd)).bind K) (hb:isT l sep s.at'=true):r=(listF l sep one f (nextT s)).bind fun ns s=>K (n::ns) s:=by
 rw [h,if_pos hb,bind_assoc'];rfl
theorem list_no {sep:List UInt8} {one:PT→PY Nd} {f:Nat} {n:Nd} {s:PT} {K:List Nd→PT→PY Nd} {r:PY Nd} (h:r=(if isT l sep s.at'=true then (listF l sep one f (nextT s)).bind fun ns s=>.ok (n::ns) s else .ok [n] s:PY (List Nd)).bind K) (hb:¬isT l sep s.at'=true):r=K [n] s:=by
 rw [h,if_neg hb];rfl
end
def OkF (g:Nat) (l:List Tk) (en:Nat) (k:Nat) (s':PT) (w:World) (ns:List Nd) (e:Ending) (w':World):Prop:=
 ∃A c zs,e=.returned (nAgg (.mk k [] []) (.slice A (zs:List (Nd×Value)).length c))∧zs.map Prod.fst=ns∧NRow w.heap.size w' (.slice A zs.length c) zs∧PrS g l en s' w'∧PG g w w'
def ResF (g:Nat) (l:List Tk) (en:Nat) (k:Nat) (w:World) (r:PY (List Nd)) (e:Ending) (w':World):Prop:=match r with
 | .ok ns s'=>OkF g l en k s' w ns e w'
 | .bad a n=>BdY g a n w e w'
theorem choF_succ (l:List Tk) (en:Nat) (R:Knot) (f:Nat) (s:PT):choF l en R (f+1) s=(R.pipe s).bind fun c s=>(mustT l en tThen s).bind fun _ s=>(R.pipe s).bind fun a s=>
  if isT l tElif s.at'=true then (choF l en R f (nextT s)).bind fun b s=>.ok (.mk 18 [] [c,a,b]) s
  else if isT l tElse s.at'=true then (R.pipe (nextT s)).bind fun b s=>(mustT l en tEnd s).bind fun _ s=>.ok (.mk 18 [] [c,a,b]) s
  else (mustT l en tEnd s).bind fun _ s=>.ok (.mk 18 [] [c,a,ndNone]) s:=rfl
theorem parts_succ (l:List Tk) (en:Nat) (R:Knot) (f:Nat) (s:PT):partsF l en R (f+1) s=if (dueT l s.at').kind=8 then (partsF l en R f (nextT s)).bind fun ns s'=>.ok (.mk 5 (dueT l s.at').text []::ns) s'
  else if (dueT l s.at').kind=9 then
   (R.pipe (nextT s)).bind fun n s=>(kindT l en 10 s).bind fun _ s=>(partsF l en R f s).bind fun ns s=>.ok (n::ns) s
  else (kindT l en 11 s).bind fun _ s=>.ok [] s:=rfl
theorem sufF_succ (l:List Tk) (en:Nat) (R:Knot) (f:Nat) (n:Nd) (s:PT):sufF l en R (f+1) n s=if (dueT l s.at').kind=3 then sufF l en R f (.mk 10 [] [n,namedN (dueT l s.at').text]) (nextT s)
  else if (isT l tDot s.at'&&aheadT l 1 7 [] s.at')=true then (textB l en R [] (nextT s)).bind fun m s=>sufF l en R f (.mk 10 [] [n,m]) s
  else if (isT l tDot s.at'&&aheadT l 1 6 tBrk s.at')=true then (innerB l en R n (nextT s)).bind fun m s=>sufF l en R f m s
  else if isT l tBrk s.at'=true then (innerB l en R n s).bind fun m s=>sufF l en R f m s
  else if isT l tQuest s.at'=true then sufF l en R f (.mk 13 [] [n]) (nextT s)
  else .ok n s:=rfl
theorem opF_succ (l:List Tk) (next:PT→PY Nd) (least f:Nat) (n:Nd) (s:PT):opF l next least (f+1) n s=if (strT l s.at').1=least then (next (nextT s)).bind fun m s'=>if (strT l s.at').2=true then .ok (.mk 17 (dueT l s.at').text [n,m]) s' else opF l next least f (.mk 17 (dueT l s.at').text [n,m]) s' else .ok n s:=rfl
theorem fail_nd {l:List Tk} {en p a n:Nat} (hf:(failY l en p:PY Unit)=.bad a n):(failY l en p:PY Nd)=.bad a n:=by
 unfold failY at hf ⊢
 split at hf <;> (injection hf with h1 h2;subst h1 h2;first | rw [if_pos ‹_›] | rw [if_neg ‹_›])
section
variable {l:List Tk} {en f:Nat} {R:Knot} {s:PT} {K:List Nd→PT→PY Nd} {r:PY Nd}
theorem parts_8 {t:Tk} (h:r=(partsF l en R (f+1) s).bind K) (ht:t=dueT l s.at') (hk:t.kind=8):r=(partsF l en R f (nextT s)).bind fun ns s'=>K (.mk 5 t.text []::ns) s':=by
 subst ht
 rw [h,parts_succ,if_pos hk,bind_assoc'];rfl
theorem parts_9 {t:Tk} (h:r=(partsF l en R (f+1) s).bind K) (ht:t=dueT l s.at') (hk:t.kind=9):r=(R.pipe (nextT s)).bind fun n s=>(kindT l en 10 s).bind fun _ s=>(partsF l en R f s).bind fun ns s'=>K (n::ns) s':=by
 subst ht
 rw [h,parts_succ,if_neg (by omega),if_pos hk];simp only [bind_assoc'];rfl
theorem parts_e {t:Tk} (h:r=(partsF l en R (f+1) s).bind K) (ht:t=dueT l s.at') (h8:¬t.kind=8) (h9:¬t.kind=9):r=(kindT l en 11 s).bind fun _ s=>K [] s:=by
 subst ht
 rw [h,parts_succ,if_neg h8,if_neg h9];simp only [bind_assoc'];rfl
end
set_option maxHeartbeats 4000000 in
set_option maxRecDepth 100000 in
theorem syStr_any (g:Nat) (l:List Tk) (en:Nat) (s:PT) (w:World) (h:PrS g l en s w) :
  Calls Tryz.prog 150 #[.pointer (some ⟨g,0,none⟩)] w (OkW g l en s w (.tuple #[.int .i64 ((strT l s.at').1:Int),.bool (strT l s.at').2])):=by
 have HF:=hid (Fr.start h)
 have KD:=hid (fun W (h:PrS g l en s W)=>syDue_any g l en s W h)
 rw [show strT l s.at'=strK (dueT l s.at') from rfl]
 clear h
 generalize dueT l s.at'=k at *
 obtain ⟨q,hq⟩:∃q,q=strK k:=⟨_,rfl⟩
 rw [←hq]
 have HQ:=hid hq
 clear hq
 go_enter Tryz.func150,Tryz.ntmps150
 go_wp2_with (go_at_call 122;with_reducible refine (KD.out _ HF.out.prs).mono ?_)
 rintro e W1 ⟨rfl,h1,k1⟩
 have H1:=hid (HF.out.kept h1 k1)
 clear h1 k1
 go_wp2_with (with_reducible refine frAK H1.out ?_)
 intro V2 hV
 have H2:=hid hV
 clear hV
 go_wp2_with (with_reducible refine fr_store threeK (by with_reducible rfl) _ _ (by with_reducible rfl) 0 rfl (tkCs k) (by simp [Act.eval]) (by simp [Act.eval,tkAgg,tkCs]) rfl (k_one k) H2.out ?_)
 intro V3 hV
 have H3:=hid hV
 have c0:=hV.cell 0 rfl 0 rfl
 have c1:=hV.cell 0 rfl 1 rfl
 clear hV
 have fin:∀(a:Nat) (b:Bool),strK k=(a,b)→q=(a,b):=fun a b e=>HQ.out.trans e
 have FIN:=hid fin
 clear fin
 by_cases k2:k.kind=2
 ·rw [k2] at c0
  by_cases hto:k.text=tOr
  ·have hq:=FIN.out 2 false (if_pos ⟨k2,hto⟩)
   rw [hto] at c1
   subst hq
   clear k2 hto
   go_wp2
   go_ret2
   exact ⟨rfl,H3.out.prs,H3.out.pg⟩
  by_cases ta:k.text=tAnd
  ·have hq:=FIN.out 3 false ((if_neg (fun h=>hto h.2)).trans (if_pos ⟨k2,ta⟩))
   rw [ta] at c1
   subst hq
   clear k2 hto ta
   go_wp2
   go_ret2
   exact ⟨rfl,H3.out.prs,H3.out.pg⟩
  ·have hq:=FIN.out 0 false ((if_neg (fun h=>hto h.2)).trans ((if_neg (fun h=>ta h.2)).trans (if_pos (by omega))))
   have z1:(k.text==[111,114])=false:=beq_false_of_ne hto
   have z2:(k.text==[97,110,100])=false:=beq_false_of_ne ta
   subst hq
   clear k2 hto ta
   go_wp2
   go_ret2
   exact ⟨rfl,H3.out.prs,H3.out.pg⟩
 by_cases k6:k.kind=6
 ·rw [k6] at c0
  have e0:strK k=(if signs1T.contains k.text=true then (1,true) else if signs4T.contains k.text=true then (4,true) else if signs5T.contains k.text=true then (5,false) else if signs6T.contains k.text=true then (6,false) else (0,false)):=
   (if_neg (fun h=>k2 h.1)).trans ((if_neg (fun h=>k2 h.1)).trans (if_neg (fun h=>h k6)))
  have E0:=hid e0
  clear e0
  by_cases h:k.text=[61]
  ·have hq:=FIN.out 1 true (by rw [E0.out,h];rfl)
   rw [h] at c1
   subst hq
   clear h k2 k6
   go_wp2
   go_ret2
   exact ⟨rfl,H3.out.prs,H3.out.pg⟩
  have z0:(k.text==[61])=false:=beq_false_of_ne h
  clear h
  by_cases h:k.text=[124,61]
  ·have hq:=FIN.out 1 true (by rw [E0.out,h];rfl)
   rw [h] at c1
   subst hq
   clear h k2 k6
   go_wp2
   go_ret2
   exact ⟨rfl,H3.out.prs,H3.out.pg⟩
  have z1:(k.text==[124,61])=false:=beq_false_of_ne h
  clear h
  by_cases h:k.text=[43,61]
  ·have hq:=FIN.out 1 true (by rw [E0.out,h];rfl)
   rw [h] at c1
   subst hq
   clear h k2 k6
   go_wp2
   go_ret2
   exact ⟨rfl,H3.out.prs,H3.out.pg⟩
  have z2:(k.text==[43,61])=false:=beq_false_of_ne h
  clear h
  by_cases h:k.text=[45,61]
  ·have hq:=FIN.out 1 true (by rw [E0.out,h];rfl)
   rw [h] at c1
   subst hq
   clear h k2 k6
   go_wp2
   go_ret2
   exact ⟨rfl,H3.out.prs,H3.out.pg⟩
  have z3:(k.text==[45,61])=false:=beq_false_of_ne h
  clear h
  by_cases h:k.text=[42,61]
  ·have hq:=FIN.out 1 true (by rw [E0.out,h];rfl)
   rw [h] at c1
   subst hq
   clear h k2 k6
   go_wp2
   go_ret2
   exact ⟨rfl,H3.out.prs,H3.out.pg⟩
  have z4:(k.text==[42,61])=false:=beq_false_of_ne h
  clear h
  by_cases h:k.text=[47,61]
  ·have hq:=FIN.out 1 true (by rw [E0.out,h];rfl)
   rw [h] at c1
   subst hq
   clear h k2 k6
   go_wp2
   go_ret2
   exact ⟨rfl,H3.out.prs,H3.out.pg⟩
  have z5:(k.text==[47,61])=false:=beq_false_of_ne h
  clear h
  by_cases h:k.text=[37,61]
  ·have hq:=FIN.out 1 true (by rw [E0.out,h];rfl)
   rw [h] at c1
   subst hq
   clear h k2 k6
   go_wp2
   go_ret2
   exact ⟨rfl,H3.out.prs,H3.out.pg⟩
  have z6:(k.text==[37,61])=false:=beq_false_of_ne h
  clear h
  by_cases h:k.text=[47,47,61]
  ·have hq:=FIN.out 1 true (by rw [E0.out,h];rfl)
   rw [h] at c1
   subst hq
   clear h k2 k6
   go_wp2
   go_ret2
   exact ⟨rfl,H3.out.prs,H3.out.pg⟩
  have z7:(k.text==[47,47,61])=false:=beq_false_of_ne h
  clear h
  by_cases h:k.text=[61,61]
  ·have hq:=FIN.out 4 true (by rw [E0.out,h];rfl)
   rw [h] at c1
   subst hq
   clear h k2 k6
   go_wp2
   go_ret2
   exact ⟨rfl,H3.out.prs,H3.out.pg⟩
  have z8:(k.text==[61,61])=false:=beq_false_of_ne h
  clear h
  by_cases h:k.text=[33,61]
  ·have hq:=FIN.out 4 true (by rw [E0.out,h];rfl)
   rw [h] at c1
   subst hq
   clear h k2 k6
   go_wp2
   go_ret2
   exact ⟨rfl,H3.out.prs,H3.out.pg⟩
  have z9:(k.text==[33,61])=false:=beq_false_of_ne h
  clear h
  by_cases h:k.text=[60]
  ·have hq:=FIN.out 4 true (by rw [E0.out,h];rfl)
   rw [h] at c1
   subst hq
   clear h k2 k6
   go_wp2
   go_ret2
   exact ⟨rfl,H3.out.prs,H3.out.pg⟩
  have z10:(k.text==[60])=false:=beq_false_of_ne h
  clear h
  by_cases h:k.text=[60,61]
  ·have hq:=FIN.out 4 true (by rw [E0.out,h];rfl)
   rw [h] at c1
   subst hq
   clear h k2 k6
   go_wp2
   go_ret2
   exact ⟨rfl,H3.out.prs,H3.out.pg⟩
  have z11:(k.text==[60,61])=false:=beq_false_of_ne h
  clear h
  by_cases h:k.text=[62]
  ·have hq:=FIN.out 4 true (by rw [E0.out,h];rfl)
   rw [h] at c1
   subst hq
   clear h k2 k6
   go_wp2
   go_ret2
   exact ⟨rfl,H3.out.prs,H3.out.pg⟩
  have z12:(k.text==[62])=false:=beq_false_of_ne h
  clear h
  by_cases h:k.text=[62,61]
  ·have hq:=FIN.out 4 true (by rw [E0.out,h];rfl)
   rw [h] at c1
   subst hq
   clear h k2 k6
   go_wp2
   go_ret2
   exact ⟨rfl,H3.out.prs,H3.out.pg⟩
  have z13:(k.text==[62,61])=false:=beq_false_of_ne h
  clear h
  by_cases h:k.text=[43]
  ·have hq:=FIN.out 5 false (by rw [E0.out,h];rfl)
   rw [h] at c1
   subst hq
   clear h k2 k6
   go_wp2
   go_ret2
   exact ⟨rfl,H3.out.prs,H3.out.pg⟩
  have z14:(k.text==[43])=false:=beq_false_of_ne h
  clear h
  by_cases h:k.text=[45]
  ·have hq:=FIN.out 5 false (by rw [E0.out,h];rfl)
   rw [h] at c1
   subst hq
   clear h k2 k6
   go_wp2
   go_ret2
   exact ⟨rfl,H3.out.prs,H3.out.pg⟩
  have z15:(k.text==[45])=false:=beq_false_of_ne h
  clear h
  by_cases h:k.text=[42]
  ·have hq:=FIN.out 6 false (by rw [E0.out,h];rfl)
   rw [h] at c1
   subst hq
   clear h k2 k6
   go_wp2
   go_ret2
   exact ⟨rfl,H3.out.prs,H3.out.pg⟩
  have z16:(k.text==[42])=false:=beq_false_of_ne h
  clear h
  by_cases h:k.text=[47]
  ·have hq:=FIN.out 6 false (by rw [E0.out,h];rfl)
   rw [h] at c1
   subst hq
   clear h k2 k6
   go_wp2
   go_ret2
   exact ⟨rfl,H3.out.prs,H3.out.pg⟩
  have z17:(k.text==[47])=false:=beq_false_of_ne h
  clear h
  by_cases h:k.text=[37]
  ·have hq:=FIN.out 6 false (by rw [E0.out,h];rfl)
   rw [h] at c1
   subst hq
   clear h k2 k6
   go_wp2
   go_ret2
   exact ⟨rfl,H3.out.prs,H3.out.pg⟩
  have z18:(k.text==[37])=false:=beq_false_of_ne h
  clear h
  have hq:=FIN.out 0 false (by rw [E0.out];simp only [signs1T,signs4T,signs5T,signs6T,List.contains_cons,List.contains_nil,z0,z1,z2,z3,z4,z5,z6,z7,z8,z9,z10,z11,z12,z13,z14,z15,z16,z17,z18];rfl)
  subst hq
  clear k2 k6
  go_wp2
  go_ret2
  exact ⟨rfl,H3.out.prs,H3.out.pg⟩
 ·have hq:=FIN.out 0 false ((if_neg (fun h=>k2 h.1)).trans ((if_neg (fun h=>k2 h.1)).trans (if_pos k6)))
  have z1:((k.kind:Int)==2)=false:=beq_false_of_ne (by omega)
  have z2:((k.kind:Int) != 6)=true:=by simp;omega
  have z3:((k.kind:Int)==6)=false:=beq_false_of_ne (by omega)
  subst hq
  clear k2 k6
  go_wp2
  go_ret2
  exact ⟨rfl,H3.out.prs,H3.out.pg⟩
abbrev CB (g:Nat) (l:List Tk) (en:Nat) (s:PT) (f:FuncId) (a m:Nat) (x:List Value):Prop:=∀W,PrS g l en s W→Calls Tryz.prog f (.pointer (some ⟨g,0,none⟩)::x).toArray W (BdY g a m W)
abbrev CO (g:Nat) (l:List Tk) (en:Nat) (s:PT) (f:FuncId) (t:PT) (v:Value) (x:List Value):Prop:=∀W,PrS g l en s W→Calls Tryz.prog f (.pointer (some ⟨g,0,none⟩)::x).toArray W (OkW g l en t W v)
abbrev CN (g:Nat) (l:List Tk) (en:Nat) (s:PT) (f:FuncId) (t:PT) (v:Nd) (x:List Value):Prop:=∀W,PrS g l en s W→Calls Tryz.prog f (.pointer (some ⟨g,0,none⟩)::x).toArray W (OkN g l en t W v)
theorem tkY (g:Nat) {l:List Tk} (en:Nat) (x:ByteArray) {s s1:PT} {t:List UInt8} (hs:s1=nextT s) (hl:l.length≤1000000) (hb:isT l t s.at'=true) (e:x=⟨t.toArray⟩:=by rfl):CO g l en s 88 s1 (.bool true) [.string x]:=by
 subst hs;subst e;exact fun W h=>syTakes_yes g l en s W t h hl hb
theorem tkN (g:Nat) {l:List Tk} (en:Nat) (x:ByteArray) {s:PT} {t:List UInt8} (hb:¬isT l t s.at'=true) (e:x=⟨t.toArray⟩:=by rfl):CO g l en s 88 s (.bool false) [.string x]:=by
 subst e;exact fun W h=>syTakes_no g l en s W t h hb
section
variable {P:Program} {md:Region.Mode} {ops:Array Oper} {Q:Exit→Act→World→Prop} {S:World→Prop} {la:Nat}
theorem tk11 (i:Nat) (v:Value) (c:List Nat) {oi:Oper} {fuel:Nat} {listed:Array Bool} {a:Act} {w:World} (s:S w) (h:wpAnyS P md ops Q S la fuel (listed.setIfInBounds i true) (a.put oi.dst v) w) (hi:ops[i]?=some oi:=by rfl)
 (hs:Region.noSelect ops=true:=by kernel_rfl) (hf:Region.free md ops listed i=true:=by kernel_rfl) (hr:(Region.ready md ops listed).contains i=true:=by kernel_rfl) (hc:chainB md ops (i::c)=true:=by kernel_rfl) (hl:c.contains la=true:=by kernel_rfl) (ho:offB listed (i::c)=true:=by kernel_rfl)
 (hQ:∀c a w,Q (.panic c) (a.put oi.dst v) w→Q (.panic c) a w:=by exact fun _ _ _ h=>h) (y:YieldsIf P ops S oi v a:=by exact .inl ⟨by kernel_rfl,fun _ H=>by have cX:=H.cell 1 rfl 1 rfl;go_simp⟩):wpAnyS P md ops Q S la (fuel+1) listed a w:=wpAnyS_take c hi hs hf hr hc hl ho hQ y s h
theorem tk12 (i:Nat) (v:Value) (c:List Nat) {oi:Oper} {fuel:Nat} {listed:Array Bool} {a:Act} {w:World} (s:S w) (h:wpAnyS P md ops Q S la fuel (listed.setIfInBounds i true) (a.put oi.dst v) w) (hi:ops[i]?=some oi:=by rfl)
 (hs:Region.noSelect ops=true:=by kernel_rfl) (hf:Region.free md ops listed i=true:=by kernel_rfl) (hr:(Region.ready md ops listed).contains i=true:=by kernel_rfl) (hc:chainB md ops (i::c)=true:=by kernel_rfl) (hl:c.contains la=true:=by kernel_rfl) (ho:offB listed (i::c)=true:=by kernel_rfl)
 (hQ:∀c a w,Q (.panic c) (a.put oi.dst v) w→Q (.panic c) a w:=by exact fun _ _ _ h=>h) (y:YieldsIf P ops S oi v a:=by exact .inl ⟨by kernel_rfl,fun _ H=>by have cX:=H.cell 1 rfl 2 rfl;go_simp⟩):wpAnyS P md ops Q S la (fuel+1) listed a w:=wpAnyS_take c hi hs hf hr hc hl ho hQ y s h
end
end Go.Proofs.YtmbeicndhigklaaGreatDoor
