/-
Plain Lean: a text in quotes is read alike, whatever stands behind it; where none goes on, the bytes up to there end too early (chapter 5).
-/
import Derived.Test.YtmbeicndhigklaaGreatDoorPUtfC
import Derived.Deep.Cut
namespace Go.Proofs.YtmbeicndhigklaaGreatDoor
open Lib (hid)
theorem bt_take (l:List UInt8) (k i:Nat) (h:i<k):bt (l.take k) i=bt l i:=by
 unfold bt;rw [List.getElem?_take,if_pos h]
theorem bt_app (a b:List UInt8) (i:Nat) (h:i<a.length):bt (a++b) i=bt a i:=by
 unfold bt;rw [List.getElem?_append_left h]
theorem fourF_app:∀(f:Nat) (a b:List UInt8) (i h:Nat),i+f≤a.length→fourF f (a++b) i h=fourF f a i h
 | 0,_,_,_,_,_=>rfl
 | f+1,a,b,i,h,hl=>by
  unfold fourF
  rw [if_neg (by rw [List.length_append];omega),if_neg (by omega),bt_app a b i (by omega)]
  cases hexV (bt a i) with
  | none=>rfl
  | some d=>exact fourF_app f a b (i+1) (16 * h+d) (by omega)
theorem four_app (a b:List UInt8) (h:4≤a.length):fourL (a++b)=fourL a:=fourF_app 4 a b 0 0 (by omega)
def lowP (m:List UInt8):Bool:=decide (6≤m.length)&&decide (bt m 0=92)&&decide (bt m 1=117)&&decide ((fourL (m.drop 2)).2=4)&&decide (56320≤(fourL (m.drop 2)).1)&&decide ((fourL (m.drop 2)).1≤57343)
theorem numbered_low (l:List UInt8) (h6:6≤l.length):numberedP l =
  if (fourL (l.drop 2)).2<4 then faultP l (2+(fourL (l.drop 2)).2)
  else if (fourL (l.drop 2)).1<55296∨57343<(fourL (l.drop 2)).1 then ⟨(fourL (l.drop 2)).1,6,0⟩
  else if (fourL (l.drop 2)).1<56320∧lowP (l.drop 6)=true then ⟨65536+((fourL (l.drop 2)).1-55296) * 1024+(fourL (l.drop 8)).1-56320,12,0⟩
  else ⟨65533,6,0⟩:=by
 unfold numberedP
 have e:((fourL (l.drop 2)).1<56320∧12≤l.length∧bt l 6=92∧bt l 7=117∧(fourL (l.drop 8)).2=4∧56320≤(fourL (l.drop 8)).1∧(fourL (l.drop 8)).1≤57343)↔((fourL (l.drop 2)).1<56320∧lowP (l.drop 6)=true):=by
  unfold lowP
  simp only [Bool.and_eq_true,decide_eq_true_eq,List.length_drop,bt_drop,List.drop_drop,Nat.add_zero]
  constructor
  ·rintro ⟨a,b,c,d,e,f,g⟩;exact ⟨a,⟨⟨⟨⟨⟨by omega,c⟩,d⟩,e⟩,f⟩,g⟩⟩
  ·rintro ⟨a,⟨⟨⟨⟨⟨b,c⟩,d⟩,e⟩,f⟩,g⟩⟩;exact ⟨a,by omega,c,d,e,f,g⟩
 simp only [e]
theorem lowP_app (a b:List UInt8) (h:6≤a.length):lowP (a++b)=lowP a:=by
 unfold lowP
 have e:(a++b).drop 2=a.drop 2++b:=List.drop_append_of_le_length (by omega)
 rw [e,four_app _ _ (by rw [List.length_drop];omega),bt_app _ _ _ (by omega),bt_app _ _ _ (by omega),decide_eq_true h,decide_eq_true (by rw [List.length_append];omega)]
theorem lowP_len (m:List UInt8) (h:lowP m=true):6≤m.length:=by
 unfold lowP at h
 simp only [Bool.and_eq_true,decide_eq_true_eq] at h
 exact h.1.1.1.1.1
theorem fourF_stop:∀(f:Nat) (l:List UInt8) (i h j:Nat),i≤j→hexV (bt l j)=none→(fourF f l i h).2≤j
 | 0,_,_,_,_,hij,_=>hij
 | f+1,l,i,h,j,hij,hn=>by
  unfold fourF
  split
  ·exact hij
  ·by_cases e:i=j
   ·subst e;rw [hn];exact Nat.le_refl _
   ·cases hexV (bt l i) with
    | none=>exact hij
    | some d=>exact fourF_stop f l (i+1) _ j (by omega) hn
theorem lowP_shut (m:List UInt8) (j:Nat) (hj:j<6) (h:bt m j=34):lowP m=false:=by
 cases hl:lowP m with
 | false=>rfl
 | true=>
  unfold lowP at hl
  simp only [Bool.and_eq_true,decide_eq_true_eq] at hl
  obtain ⟨⟨⟨⟨⟨_,h0⟩,h1⟩,h4⟩,_⟩,_⟩:=hl
  exfalso
  by_cases e0:j=0
  ·subst e0;omega
  by_cases e1:j=1
  ·subst e1;omega
  have hb:bt (m.drop 2) (j-2)=34:=by rw [bt_drop,show 2+(j-2)=j by omega];exact h
  have:=fourF_stop 4 (m.drop 2) 0 0 (j-2) (Nat.zero_le _) (by rw [hb];rfl)
  have h4':(fourF 4 (m.drop 2) 0 0).2=4:=h4
  omega
theorem nextP_eq' (l:List UInt8) (h:l.length≠0) (h92:bt l 0=92):nextP l=escapedP l:=by
 unfold nextP
 rw [if_neg h,if_neg (by omega),if_pos h92]
end Go.Proofs.YtmbeicndhigklaaGreatDoor
namespace Go.Proofs.YtmbeicndhigklaaGreatDoor
open Lib (hid)
open Go.RowKit
theorem ret_pc {p q:Pc} (h:p=q):Ending.returned (pcVal p)=.returned (pcVal q):=by rw [h]
set_option maxHeartbeats 1000000 in
set_option maxRecDepth 100000 in
theorem quoFault_any (A:Option Addr) (n cap:Nat) (l:List UInt8) (m:Nat) (w:World) (hR:RdB w A n l) (hn:n≤17592186044416) (hm:m≤n) :
  Calls Tryz.prog 170 #[.slice A n cap,.int .i64 m] w fun e w'=>e=.returned (pcVal (faultP l m))∧Below w.heap.size w w':=by
 have hl:=hid hR.1
 have HR:=hid hR
 clear hR
 by_cases h:m<n
 ·obtain ⟨b,off,rfl,hb,hc⟩:=HR.out.2 (by omega)
  have hc1:=hc m h
  have hx:=bt_lt l m
  go_enter Tryz.func170,Tryz.ntmps170
  go_wp2
  ·rename_i h1 h2
   go_returns
   refine ⟨?_,(Below.refl _ w).alloc (Nat.le_refl _) _⟩
   refine ret_pc (p:=⟨0,m,7⟩) ?_
   unfold faultP
   rw [if_neg (by rw [hl.out];omega),if_pos (by omega)]
  ·rename_i h1 h2
   go_returns
   refine ⟨?_,(Below.refl _ w).alloc (Nat.le_refl _) _⟩
   refine ret_pc (p:=⟨0,m,2⟩) ?_
   unfold faultP
   rw [if_neg (by rw [hl.out];omega),if_neg (by omega)]
 ·have he:m=n:=by omega
  subst he
  go_enter Tryz.func170,Tryz.ntmps170
  go_wp2
  go_returns
  refine ⟨?_,(Below.refl _ w).alloc (Nat.le_refl _) _⟩
  refine ret_pc (p:=⟨0,m,5⟩) ?_
  unfold faultP
  rw [if_pos (by rw [hl.out];exact Nat.le_refl _)]
end Go.Proofs.YtmbeicndhigklaaGreatDoor
namespace Go.Proofs.YtmbeicndhigklaaGreatDoor
open Lib (hid)
open Go.RowKit
theorem ret_four {p q:Nat×Nat} (h:p=q):Ending.returned (.tuple #[.int .i64 (p.1:Int),.int .i64 (p.2:Int)])=.returned (.tuple #[.int .i64 (q.1:Int),.int .i64 (q.2:Int)]):=by rw [h]
set_option maxHeartbeats 1000000 in
set_option maxRecDepth 100000 in
theorem quoFour_any (A:Option Addr) (n cap:Nat) (l:List UInt8) (w:World) (hR:RdB w A n l) (hn:n≤17592186044416) :
  Calls Tryz.prog 244 #[.slice A n cap] w fun e w'=>e=.returned (.tuple #[.int .i64 ((fourL l).1:Int),.int .i64 ((fourL l).2:Int)])∧w'=w:=by
 have hl:=hid hR.1
 have HR:=hid hR
 clear hR
 have k1:=fun (c:Int) w=>Tryz.strings_IndexByte ⟨hexB.toArray⟩ c w
 have K1:=hid k1
 clear k1
 go_enter Tryz.func244,Tryz.ntmps244
 go_wp2
 go_loopw [4,7] (fun a b wr=>∃k h:Nat,k≤4∧h<16 ^ k∧a=.int .i64 h∧b=.int .i64 k∧Hid (fourL l=fourF (4-k) l k h)∧wr=w) (fun _ b _=>4-(intOf b).toNat)
 case atStart=>exact ⟨0,0,by omega,by decide,rfl,rfl,rfl,rfl⟩
 case round=>
  obtain ⟨k,h,hk,hh,rfl,rfl,hf,rfl⟩:=hrel
  by_cases h4:k<4
  ·by_cases hkn:k<n
   ·obtain ⟨b,off,rfl,hb,hc⟩:=HR.out.2 (by omega)
    have hc1:=hc k hkn
    have hx:=bt_lt l k
    have hk4:=hex_none (bt l k) hx
    have hs4:=hex_some (bt l k) hx
    have HN:=hid hk4
    have HS:=hid hs4
    clear hk4 hs4
    go_wp2_with (go_at_call 79;refine (K1.out _ _).mono ?_)
    rintro e w1 ⟨rfl,rfl⟩
    have hI:Lib.indexByte hexB (bits BinOp.or IntKind.u8 (bt l k:Int) 32).toNat.toUInt8=hexI (bt l k):=rfl
    have hff:fourF (4-k) l k h=match hexV (bt l k) with | none=>(h,k) | some d=>fourF (3-k) l (k+1) (16 * h+d):=by
     rw [show 4-k=(3-k)+1 by omega]
     show (if l.length≤k then (h,k) else _) = _
     rw [if_neg (by rw [hl.out];omega)]
     all_goals (cases hexV (bt l k) <;> rfl)
    have HF:=hid hff
    clear hff
    cases hv:hexV (bt l k) with
    | none=>
     have hn':=HN.out hv
     rw [hv] at HF
     go_wp2
     all_goals first
      | (exfalso;omega)
      | (go_ret2;refine ⟨?_,rfl⟩;refine ret_four (p:=(h,k)) ?_;rw [hf.out,HF.out])
    | some d=>
     obtain ⟨hd,he,h48,h57⟩:=HS.out d hv
     rw [hv] at HF
     have hh4:h<65536:=Nat.lt_of_lt_of_le hh (Nat.pow_le_pow_right (n:=16) (j:=4) (by decide) (by omega))
     have e2:=or16 h d hh4 hd
     go_wp2
     all_goals first
      | (exfalso;omega)
      | skip
     all_goals (
      refine ⟨⟨k+1,16 * h+d,by omega,by rw [Nat.pow_succ];omega,?_,rfl,?_,trivial⟩,?_⟩
      ·rw [show (h:Int) * 16=16 * (h:Int) by omega,e2]
      ·exact hid (by rw [hf.out,HF.out,show 4-(k+1)=3-k by omega])
      ·simp [intOf];omega)
   ·go_wp2
    go_ret2
    refine ⟨?_,rfl⟩
    refine ret_four (p:=(h,k)) ?_
    rw [hf.out,show 4-k=(3-k)+1 by omega]
    show _ = (if l.length≤k then (h,k) else _)
    rw [if_pos (by rw [hl.out];omega)]
  ·obtain rfl:k=4:=by omega
   go_wp2
   go_ret2
   refine ⟨?_,rfl⟩
   exact ret_four (p:=(h,4)) hf.out.symm
end Go.Proofs.YtmbeicndhigklaaGreatDoor
namespace Go.Proofs.YtmbeicndhigklaaGreatDoor
open Lib (hid)
open Go.RowKit
def OwnP (w:World) (g:Nat) (p:Pc):Prop:=Own3 183 w g (.int .i64 (p.point:Int)) (.int .i64 (p.size:Int)) (.int .i64 (p.err:Int))
theorem heap_setCell_self {w:World} {g i:Nat} {T:TypeId} {c:Array Value} (h:w.heap[g]?=some (.cells c T (0,0))) (x:Value) :
  (w.setCell ⟨g,i,none⟩ x).heap[g]?=some (.cells (c.setIfInBounds i x) T (0,0)):=by
 show (w.heap.modify g _)[g]? = _
 rw [Array.getElem?_modify,if_pos rfl,h]
 rfl
theorem OwnP.put {w:World} {g:Nat} {x y z:Value} (h:Own3 183 w g x y z) (p:Pc) :
  OwnP (((w.setCell ⟨g,0,none⟩ (.int .i64 (p.point:Int))).setCell ⟨g,1,none⟩ (.int .i64 (p.size:Int))).setCell ⟨g,2,none⟩ (.int .i64 (p.err:Int))) g p:=
 heap_setCell_self (heap_setCell_self (heap_setCell_self h _) _) _
theorem OwnP.mk' {w:World} {x y z:Int} (p:Pc) (hx:x=(p.point:Int)) (hy:y=(p.size:Int)) (hz:z=(p.err:Int)) :
  OwnP (w.alloc (.cells #[.int .i64 x,.int .i64 y,.int .i64 z] 183)) w.heap.size p:=by
 subst hx;subst hy;subst hz;exact Own3.new _ w _ _ _
theorem ret_piece {fn:Func} (hr:fn.results=#[.cell 2 183]) {a:Act} {W:World} {g:Nat} {p:Pc} (O:OwnP W g p)
  (ht:a.tmps.getD 2 undef=.pointer (some ⟨g,0,none⟩)) (hd:a.defers=[]) {R:Ending→World→Prop} (hR:R (.returned (pcVal p)) W):bodyPost Tryz.prog fn R .ret a W:=by
 obtain ⟨c0,c1,c2,_,_,_⟩:=Own3.cells O
 have ht':a.tmps[2]?.getD undef=.pointer (some ⟨g,0,none⟩):=by simpa using ht
 refine bodyPost_ret (v:=pcVal p) ?_ hd hR
 simp [results,hr,ht',go_sem,c0,c1,c2,pcVal]
end Go.Proofs.YtmbeicndhigklaaGreatDoor
namespace Go.Proofs.YtmbeicndhigklaaGreatDoor
open Lib (hid)
open Go.RowKit
set_option maxHeartbeats 2000000 in
set_option maxRecDepth 100000 in
theorem quoNumbered_0 (A:Option Addr) (l:List UInt8) (w:World) (hR:RdB w A 2 l) :
  Calls Tryz.prog 235 #[.slice A 2 2] w fun e w'=>e=.returned (pcVal (numberedP l))∧Below w.heap.size w w':=by
 have hl:=hid hR.1
 have HR:=hid hR
 obtain ⟨b,off,rfl,hb,hc⟩:=hR.2 (by omega)
 have hd:l.drop 2=[]:=List.drop_eq_nil_of_le (by rw [hR.1];exact Nat.le_refl _)
 clear hR
 have hnp:numberedP l=faultP l 2:=by unfold numberedP;rw [hd];rfl
 rw [hnp]
 clear hnp hd
 have k1:=fun (w':World)=>quoFour_any (some ⟨b,off,none⟩) 0 0 [] w' ⟨rfl,fun h=>absurd h (by decide)⟩ (by decide)
 have K1:=hid k1
 clear k1
 have k3:=fun (w':World) (hw:RdB w' (some ⟨b,off,none⟩) 2 l)=>quoFault_any _ 2 2 _ 2 w' hw (by omega) (by omega)
 have K3:=hid k3
 clear k3
 generalize faultP l 2=V at K3 ⊢
 go_enter Tryz.func235,Tryz.ntmps235
 go_wp2_with (go_at_call 244;refine (K1.out _).mono ?_)
 rintro e w1 ⟨rfl,rfl⟩
 simp only [show fourL []=(0,0) from rfl]
 have hb1:Below w.heap.size w (w.alloc (.cells #[.int .i64 0,.int .i64 0,.int .i64 0] 183)):=(Below.refl _ w).alloc (Nat.le_refl _) _
 go_wp2_with (go_at_call 170;refine (K3.out _ (HR.out.below hb1)).mono ?_)
 rintro e w2 ⟨rfl,hb2⟩
 unfold pcVal
 have O:=hid ((Own3.new 183 w (.int .i64 0) (.int .i64 0) (.int .i64 0)).below hb2)
 obtain ⟨c0,c1,c2,f0,f1,f2⟩:=O.out.cells
 go_wp2
 exact ret_piece rfl (OwnP.put O.out V) rfl rfl ⟨rfl,below_put3 (below_new hb2) (Nat.le_refl _) _ _ _⟩
set_option maxHeartbeats 2000000 in
set_option maxRecDepth 100000 in
theorem quoNumbered_1 (A:Option Addr) (n cap:Nat) (l:List UInt8) (w:World) (hR:RdB w A n l) (hn:n≤17592186044416) (h2:2≤n) (hc2:2<cap) (h12:n<12) :
  Calls Tryz.prog 235 #[.slice A n cap] w fun e w'=>e=.returned (pcVal (numberedP l))∧Below w.heap.size w w':=by
 have hl:=hid hR.1
 have HR:=hid hR
 obtain ⟨b,off,rfl,hb,hc⟩:=hR.2 (by omega)
 have HC:=hid (hR.cut' h2)
 clear hR
 have hnp:numberedP l=if (fourL (l.drop 2)).2<4 then faultP l (2+(fourL (l.drop 2)).2)
  else if (fourL (l.drop 2)).1<55296∨57343<(fourL (l.drop 2)).1 then ⟨(fourL (l.drop 2)).1,6,0⟩
  else ⟨65533,6,0⟩:=by
  unfold numberedP
  rw [if_neg (c:=_ ∧ 12≤l.length∧_) (fun h=>by have:=h.2.1;rw [hl.out] at this;omega)]
 have HP:=hid hnp
 clear hnp
 have k1:=fun (w':World) (hw:RdB w' (some ⟨b,off+2,none⟩) (n-2) (l.drop 2))=>quoFour_any _ (n-2) (cap-2) _ w' hw (by omega)
 have K1:=hid k1
 clear k1
 have k3:=fun (m:Nat) (w':World) (hw:RdB w' (some ⟨b,off,none⟩) n l) (hm:m≤n)=>quoFault_any _ n cap _ m w' hw hn hm
 have K3:=hid k3
 clear k3
 have hf:=fourL_le (l.drop 2)
 have hlen:(l.drop 2).length=n-2:=by rw [List.length_drop,hl.out]
 generalize numberedP l=V at HP ⊢
 generalize hF:fourL (l.drop 2)=F at HP hf K1
 obtain ⟨h,m⟩:=F
 simp only [] at HP hf
 obtain ⟨hf1,hf2,hf3⟩:=hf
 rw [hlen] at hf3
 clear hF hlen
 have hb1:Below w.heap.size w (w.alloc (.cells #[.int .i64 0,.int .i64 0,.int .i64 0] 183)):=(Below.refl _ w).alloc (Nat.le_refl _) _
 clear hn
 go_enter Tryz.func235,Tryz.ntmps235
 go_wp2_with fail
 refine (K1.out _ (HC.out.below hb1)).mono ?_
 rintro e w1 ⟨rfl,rfl⟩
 by_cases hm:m<4
 ·go_wp2_with (go_at_call 170;refine (K3.out (2+m) _ (HR.out.below hb1) (by omega)).mono ?_)
  rintro e w2 ⟨rfl,hb2⟩
  rw [if_pos hm] at HP
  rw [←HP.out]
  unfold pcVal
  have O:=hid ((Own3.new 183 w (.int .i64 0) (.int .i64 0) (.int .i64 0)).below hb2)
  obtain ⟨c0,c1,c2,f0,f1,f2⟩:=O.out.cells
  go_wp2
  exact ret_piece rfl (OwnP.put O.out V) rfl rfl ⟨rfl,below_put3 (below_new hb2) (Nat.le_refl _) _ _ _⟩
 ·rw [if_neg hm] at HP
  obtain rfl:m=4:=by omega
  clear hm hf2 hf3
  by_cases hh:h<55296∨57343<h
  ·rw [if_pos hh] at HP
   rcases hh with hh | hh
   all_goals
    go_wp2
    exact ret_piece (p:=⟨h,6,0⟩) rfl (Own3.new _ w _ _ _) rfl rfl ⟨by rw [HP.out],(Below.refl _ w).alloc (Nat.le_refl _) _⟩
  ·rw [if_neg hh] at HP
   have h1:(55296:Int)≤(h:Int):=by omega
   have h2:(h:Int)≤57343:=by omega
   have d1:decide ((h:Int)<55296)=false:=decide_eq_false (by omega)
   have d2:decide ((57343:Int)<(h:Int))=false:=decide_eq_false (by omega)
   clear hh hf1
   by_cases hx:h<56320
   ·have hx':(h:Int)<56320:=by omega
    have h12':(n:Int)<12:=by omega
    have d3:decide ((h:Int)<56320)=true:=decide_eq_true hx'
    have d4:decide ((12:Int)≤(n:Int))=false:=decide_eq_false (by omega)
    clear h12 hx
    go_wp2
    exact ret_piece (p:=⟨65533,6,0⟩) rfl (Own3.new _ w _ _ _) rfl rfl ⟨by rw [HP.out],(Below.refl _ w).alloc (Nat.le_refl _) _⟩
   ·have hx':(56320:Int)≤(h:Int):=by omega
    have d3:decide ((h:Int)<56320)=false:=decide_eq_false (by omega)
    clear hx
    go_wp2
    exact ret_piece (p:=⟨65533,6,0⟩) rfl (Own3.new _ w _ _ _) rfl rfl ⟨by rw [HP.out],(Below.refl _ w).alloc (Nat.le_refl _) _⟩
end Go.Proofs.YtmbeicndhigklaaGreatDoor
namespace Go.Proofs.YtmbeicndhigklaaGreatDoor
open Lib (hid)
open Go.RowKit
theorem eq_true_of {c k:Nat} (h:c=k):(((c:Nat):Int)==(k:Int))=true:=by simp [h]
theorem eq_false_of {c k:Nat} (h:¬c=k):(((c:Nat):Int)==(k:Int))=false:=by simp;omega
set_option maxHeartbeats 4000000 in
set_option maxRecDepth 100000 in
theorem quoNumbered_2 (A:Option Addr) (n cap:Nat) (l:List UInt8) (w:World) (hR:RdB w A n l) (hn:n≤17592186044416) (hcap:n≤cap) (h12:12≤n) :
  Calls Tryz.prog 235 #[.slice A n cap] w fun e w'=>e=.returned (pcVal (numberedP l))∧Below w.heap.size w w':=by
 have hl:=hid hR.1
 have HR:=hid hR
 obtain ⟨b,off,rfl,hb,hc⟩:=hR.2 (by omega)
 have HC:=hid (hR.cut' (i:=2) (by omega))
 have HC8:=hid (hR.cut' (i:=8) (by omega))
 clear hR
 have hc6:=hc 6 (by omega)
 have hc7:=hc 7 (by omega)
 clear hc
 have hnp:numberedP l=if (fourL (l.drop 2)).2<4 then faultP l (2+(fourL (l.drop 2)).2)
  else if (fourL (l.drop 2)).1<55296∨57343<(fourL (l.drop 2)).1 then ⟨(fourL (l.drop 2)).1,6,0⟩
  else if (fourL (l.drop 2)).1<56320∧bt l 6=92∧bt l 7=117∧(fourL (l.drop 8)).2=4∧56320≤(fourL (l.drop 8)).1∧(fourL (l.drop 8)).1≤57343 then ⟨65536+((fourL (l.drop 2)).1-55296) * 1024+(fourL (l.drop 8)).1-56320,12,0⟩
  else ⟨65533,6,0⟩:=by
  unfold numberedP
  have:12≤l.length:=by rw [hl.out];exact h12
  simp only [this,true_and]
 have HP:=hid hnp
 clear hnp
 have k1:=fun (w':World) (hw:RdB w' (some ⟨b,off+2,none⟩) (n-2) (l.drop 2))=>quoFour_any _ (n-2) (cap-2) _ w' hw (by omega)
 have K1:=hid k1
 clear k1
 have k2:=fun (w':World) (hw:RdB w' (some ⟨b,off+8,none⟩) (n-8) (l.drop 8))=>quoFour_any _ (n-8) (cap-8) _ w' hw (by omega)
 have K2:=hid k2
 clear k2
 have k3:=fun (m:Nat) (w':World) (hw:RdB w' (some ⟨b,off,none⟩) n l) (hm:m≤n)=>quoFault_any _ n cap _ m w' hw hn hm
 have K3:=hid k3
 clear k3
 have hf:=fourL_le (l.drop 2)
 have hg:=fourL_le (l.drop 8)
 have hx6:=bt_lt l 6
 have hx7:=bt_lt l 7
 generalize numberedP l=V at HP ⊢
 generalize hF:fourL (l.drop 2)=F at HP hf K1
 generalize hG:fourL (l.drop 8)=G at HP hg K2
 obtain ⟨h,m⟩:=F
 obtain ⟨k,m'⟩:=G
 simp only [] at HP hf hg
 obtain ⟨hf1,hf2,_⟩:=hf
 obtain ⟨hg1,hg2,_⟩:=hg
 clear hF hG
 generalize bt l 6=c6 at HP hc6 hx6
 generalize bt l 7=c7 at HP hc7 hx7
 have hb1:Below w.heap.size w (w.alloc (.cells #[.int .i64 0,.int .i64 0,.int .i64 0] 183)):=(Below.refl _ w).alloc (Nat.le_refl _) _
 have d4:decide ((12:Int)≤(n:Int))=true:=decide_eq_true (by omega)
 have hcap2:8<cap:=by omega
 have hm2:m≤n-2:=by omega
 clear hn
 go_enter Tryz.func235,Tryz.ntmps235
 go_wp2_with fail
 refine (K1.out _ (HC.out.below hb1)).mono ?_
 rintro e w1 ⟨rfl,rfl⟩
 by_cases hm:m<4
 ·go_wp2_with (go_at_call 170;refine (K3.out (2+m) _ (HR.out.below hb1) (by omega)).mono ?_)
  rintro e w2 ⟨rfl,hb2⟩
  rw [if_pos hm] at HP
  rw [←HP.out]
  unfold pcVal
  have O:=hid ((Own3.new 183 w (.int .i64 0) (.int .i64 0) (.int .i64 0)).below hb2)
  obtain ⟨c0,c1,c2,f0,f1,f2⟩:=O.out.cells
  go_wp2
  exact ret_piece rfl (OwnP.put O.out V) rfl rfl ⟨rfl,below_put3 (below_new hb2) (Nat.le_refl _) _ _ _⟩
 ·rw [if_neg hm] at HP
  obtain rfl:m=4:=by omega
  clear hm hf2 hm2
  by_cases hh:h<55296∨57343<h
  ·rw [if_pos hh] at HP
   rcases hh with hh | hh
   all_goals
    go_wp2
    exact ret_piece (p:=⟨h,6,0⟩) rfl (Own3.new _ w _ _ _) rfl rfl ⟨by rw [HP.out],(Below.refl _ w).alloc (Nat.le_refl _) _⟩
  ·rw [if_neg hh] at HP
   have h1:(55296:Int)≤(h:Int):=by omega
   have h2:(h:Int)≤57343:=by omega
   have d1:decide ((h:Int)<55296)=false:=decide_eq_false (by omega)
   have d2:decide ((57343:Int)<(h:Int))=false:=decide_eq_false (by omega)
   clear hh hf1
   by_cases ha:h<56320∧c6=92∧c7=117
   ·obtain ⟨hx,rfl,rfl⟩:=ha
    have d3:decide ((h:Int)<56320)=true:=decide_eq_true (by omega)
    simp only [hx,true_and] at HP
    clear hx hx6 hx7
    go_wp2_with fail
    refine (K2.out _ (HC8.out.below hb1)).mono ?_
    rintro e w1 ⟨rfl,rfl⟩
    by_cases hy:m'=4∧56320≤k∧k≤57343
    ·obtain ⟨rfl,hk1,hk2⟩:=hy
     have e1:decide ((56320:Int)≤(k:Int))=true:=decide_eq_true (by omega)
     have e2:decide ((k:Int)≤57343)=true:=decide_eq_true (by omega)
     simp only [hk1,hk2,true_and,if_true] at HP
     have hk1':(56320:Int)≤(k:Int):=by omega
     have hk2':(k:Int)≤57343:=by omega
     clear hk1 hk2 hg1 hg2
     go_wp2
     exact ret_piece rfl (OwnP.mk' ⟨65536+(h-55296) * 1024+k-56320,12,0⟩ (by show _ = ((65536+(h-55296) * 1024+k-56320:Nat):Int);omega) rfl rfl) rfl rfl ⟨by rw [HP.out],(Below.refl _ w).alloc (Nat.le_refl _) _⟩
    ·rw [if_neg hy] at HP
     by_cases q1:m'=4
     ·subst q1
      by_cases q2:k<56320
      ·have e1:decide ((56320:Int)≤(k:Int))=false:=decide_eq_false (by omega)
       clear hy q2 hg1 hg2
       go_wp2
       exact ret_piece (p:=⟨65533,6,0⟩) rfl (Own3.new _ w _ _ _) rfl rfl ⟨by rw [HP.out],(Below.refl _ w).alloc (Nat.le_refl _) _⟩
      ·have e1:decide ((56320:Int)≤(k:Int))=true:=decide_eq_true (by omega)
       have e2:decide ((k:Int)≤57343)=false:=decide_eq_false (by omega)
       clear hy q2 hg1 hg2
       go_wp2
       exact ret_piece (p:=⟨65533,6,0⟩) rfl (Own3.new _ w _ _ _) rfl rfl ⟨by rw [HP.out],(Below.refl _ w).alloc (Nat.le_refl _) _⟩
     ·have e0:((m':Int)==4)=false:=eq_false_of q1
      clear hy q1 hg1 hg2
      go_wp2
      exact ret_piece (p:=⟨65533,6,0⟩) rfl (Own3.new _ w _ _ _) rfl rfl ⟨by rw [HP.out],(Below.refl _ w).alloc (Nat.le_refl _) _⟩
   ·rw [if_neg (fun hq=>ha ⟨hq.1,hq.2.1,hq.2.2.1⟩)] at HP
    by_cases q1:h<56320
    ·have d3:decide ((h:Int)<56320)=true:=decide_eq_true (by omega)
     by_cases q2:c6=92
     ·have q3:¬c7=117:=fun e=>ha ⟨q1,q2,e⟩
      have d5:((c6:Int)==92)=true:=eq_true_of q2
      have d6:((c7:Int)==117)=false:=eq_false_of q3
      clear ha q1 q2 q3 hx6 hx7
      go_wp2
      exact ret_piece (p:=⟨65533,6,0⟩) rfl (Own3.new _ w _ _ _) rfl rfl ⟨by rw [HP.out],(Below.refl _ w).alloc (Nat.le_refl _) _⟩
     ·have d5:((c6:Int)==92)=false:=eq_false_of q2
      clear ha q1 q2 hx6 hx7
      go_wp2
      exact ret_piece (p:=⟨65533,6,0⟩) rfl (Own3.new _ w _ _ _) rfl rfl ⟨by rw [HP.out],(Below.refl _ w).alloc (Nat.le_refl _) _⟩
    ·have d3:decide ((h:Int)<56320)=false:=decide_eq_false (by omega)
     clear ha q1 hx6 hx7
     go_wp2
     exact ret_piece (p:=⟨65533,6,0⟩) rfl (Own3.new _ w _ _ _) rfl rfl ⟨by rw [HP.out],(Below.refl _ w).alloc (Nat.le_refl _) _⟩
end Go.Proofs.YtmbeicndhigklaaGreatDoor
namespace Go.Proofs.YtmbeicndhigklaaGreatDoor
open Lib (hid)
open Go.RowKit
theorem quoNumbered_any (A:Option Addr) (n cap:Nat) (l:List UInt8) (w:World) (hR:RdB w A n l) (hn:n≤17592186044416) (hcap:n≤cap) (h2:2≤n) :
  Calls Tryz.prog 235 #[.slice A n cap] w fun e w'=>e=.returned (pcVal (numberedP l))∧Below w.heap.size w w':=by
 by_cases h12:12≤n
 ·exact quoNumbered_2 A n cap l w hR hn hcap h12
 ·by_cases hc:cap=2
  ·obtain rfl:n=2:=by omega
   subst hc
   exact quoNumbered_0 A l w hR
  ·exact quoNumbered_1 A n cap l w hR hn h2 (by omega) (by omega)
set_option maxHeartbeats 4000000 in
set_option maxRecDepth 100000 in
theorem quoEscaped_any (A:Option Addr) (n cap:Nat) (l:List UInt8) (w:World) (hR:RdB w A n l) (hn:n≤17592186044416) (hcap:n≤cap) (h1:1≤n) :
  Calls Tryz.prog 223 #[.slice A n cap] w fun e w'=>e=.returned (pcVal (escapedP l))∧Below w.heap.size w w':=by
 have hl:=hid hR.1
 have HR:=hid hR
 obtain ⟨b,off,rfl,hb,hc⟩:=hR.2 (by omega)
 clear hR
 have hb1:Below w.heap.size w (w.alloc (.cells #[.int .i64 0,.int .i64 0,.int .i64 0] 183)):=(Below.refl _ w).alloc (Nat.le_refl _) _
 have k3:=fun (w':World) (hw:RdB w' (some ⟨b,off,none⟩) n l)=>quoFault_any _ n cap _ 1 w' hw hn h1
 have K3:=hid k3
 clear k3
 have hep:escapedP l=if n<2 then faultP l 1
  else if bt l 1=34∨bt l 1=92∨bt l 1=47 then ⟨bt l 1,2,0⟩
  else if bt l 1=98 then ⟨8,2,0⟩
  else if bt l 1=102 then ⟨12,2,0⟩
  else if bt l 1=110 then ⟨10,2,0⟩
  else if bt l 1=114 then ⟨13,2,0⟩
  else if bt l 1=116 then ⟨9,2,0⟩
  else if bt l 1=117 then numberedP l
  else faultP l 1:=by unfold escapedP;rw [hl.out]
 have HP:=hid hep
 clear hep
 generalize escapedP l=V at HP ⊢
 by_cases h2:n<2
 ·rw [if_pos h2] at HP
  rw [←HP.out] at K3
  clear hc hn hcap
  go_enter Tryz.func223,Tryz.ntmps223
  go_wp2_with (go_at_call 170;refine (K3.out _ (HR.out.below hb1)).mono ?_)
  rintro e w2 ⟨rfl,hb2⟩
  unfold pcVal
  have O:=hid ((Own3.new 183 w (.int .i64 0) (.int .i64 0) (.int .i64 0)).below hb2)
  obtain ⟨c0,c1,c2,f0,f1,f2⟩:=O.out.cells
  go_wp2
  exact ret_piece rfl (OwnP.put O.out V) rfl rfl ⟨rfl,below_put3 (below_new hb2) (Nat.le_refl _) _ _ _⟩
 rw [if_neg h2] at HP
 have h2':1<n:=by omega
 have hc1:=hc 1 h2'
 have k4:=fun (w':World) (hw:RdB w' (some ⟨b,off,none⟩) n l)=>quoNumbered_any _ n cap _ w' hw hn hcap h2'
 have K4:=hid k4
 clear k4
 have hx:=bt_lt l 1
 generalize hC:bt l 1=c at HP hc1 hx
 clear hc hC h2 hn hcap h1
 by_cases q1:c=34∨c=92∨c=47
 ·rw [if_pos q1] at HP
  rcases q1 with rfl | rfl | rfl
  ·go_enter Tryz.func223,Tryz.ntmps223
   go_wp2
   exact ret_piece rfl (OwnP.mk' ⟨34,2,0⟩ rfl rfl rfl) rfl rfl ⟨by rw [HP.out],(Below.refl _ w).alloc (Nat.le_refl _) _⟩
  ·go_enter Tryz.func223,Tryz.ntmps223
   go_wp2
   exact ret_piece rfl (OwnP.mk' ⟨92,2,0⟩ rfl rfl rfl) rfl rfl ⟨by rw [HP.out],(Below.refl _ w).alloc (Nat.le_refl _) _⟩
  ·go_enter Tryz.func223,Tryz.ntmps223
   go_wp2
   exact ret_piece rfl (OwnP.mk' ⟨47,2,0⟩ rfl rfl rfl) rfl rfl ⟨by rw [HP.out],(Below.refl _ w).alloc (Nat.le_refl _) _⟩
 rw [if_neg q1] at HP
 by_cases q2:c=98
 ·rw [if_pos q2] at HP
  subst q2
  clear q1
  go_enter Tryz.func223,Tryz.ntmps223
  go_wp2
  exact ret_piece rfl (OwnP.mk' ⟨8,2,0⟩ rfl rfl rfl) rfl rfl ⟨by rw [HP.out],(Below.refl _ w).alloc (Nat.le_refl _) _⟩
 rw [if_neg q2] at HP
 by_cases q3:c=102
 ·rw [if_pos q3] at HP
  subst q3
  clear q1 q2
  go_enter Tryz.func223,Tryz.ntmps223
  go_wp2
  exact ret_piece rfl (OwnP.mk' ⟨12,2,0⟩ rfl rfl rfl) rfl rfl ⟨by rw [HP.out],(Below.refl _ w).alloc (Nat.le_refl _) _⟩
 rw [if_neg q3] at HP
 by_cases q4:c=110
 ·rw [if_pos q4] at HP
  subst q4
  clear q1 q2 q3
  go_enter Tryz.func223,Tryz.ntmps223
  go_wp2
  exact ret_piece rfl (OwnP.mk' ⟨10,2,0⟩ rfl rfl rfl) rfl rfl ⟨by rw [HP.out],(Below.refl _ w).alloc (Nat.le_refl _) _⟩
 rw [if_neg q4] at HP
 by_cases q5:c=114
 ·rw [if_pos q5] at HP
  subst q5
  clear q1 q2 q3 q4
  go_enter Tryz.func223,Tryz.ntmps223
  go_wp2
  exact ret_piece rfl (OwnP.mk' ⟨13,2,0⟩ rfl rfl rfl) rfl rfl ⟨by rw [HP.out],(Below.refl _ w).alloc (Nat.le_refl _) _⟩
 rw [if_neg q5] at HP
 by_cases q6:c=116
 ·rw [if_pos q6] at HP
  subst q6
  clear q1 q2 q3 q4 q5
  go_enter Tryz.func223,Tryz.ntmps223
  go_wp2
  exact ret_piece rfl (OwnP.mk' ⟨9,2,0⟩ rfl rfl rfl) rfl rfl ⟨by rw [HP.out],(Below.refl _ w).alloc (Nat.le_refl _) _⟩
 rw [if_neg q6] at HP
 by_cases q8:c=117
 ·rw [if_pos q8] at HP
  subst q8
  rw [←HP.out] at K4
  clear q1 q2 q3 q4 q5 q6
  go_enter Tryz.func223,Tryz.ntmps223
  go_wp2_with (go_at_call 235;refine (K4.out _ (HR.out.below hb1)).mono ?_)
  rintro e w2 ⟨rfl,hb2⟩
  unfold pcVal
  have O:=hid ((Own3.new 183 w (.int .i64 0) (.int .i64 0) (.int .i64 0)).below hb2)
  obtain ⟨c0,c1,c2,f0,f1,f2⟩:=O.out.cells
  go_wp2
  exact ret_piece rfl (OwnP.put O.out V) rfl rfl ⟨rfl,below_put3 (below_new hb2) (Nat.le_refl _) _ _ _⟩
 rw [if_neg q8] at HP
 rw [←HP.out] at K3
 have e34:((c:Int)==34)=false:=eq_false_of (k:=34) (by omega)
 have e92:((c:Int)==92)=false:=eq_false_of (k:=92) (by omega)
 have e47:((c:Int)==47)=false:=eq_false_of (k:=47) (by omega)
 have e98:((c:Int)==98)=false:=eq_false_of (k:=98) (by omega)
 have e102:((c:Int)==102)=false:=eq_false_of (k:=102) (by omega)
 have e110:((c:Int)==110)=false:=eq_false_of (k:=110) (by omega)
 have e114:((c:Int)==114)=false:=eq_false_of (k:=114) (by omega)
 have e116:((c:Int)==116)=false:=eq_false_of (k:=116) (by omega)
 have e117:((c:Int)==117)=false:=eq_false_of (k:=117) (by omega)
 clear q1 q2 q3 q4 q5 q6 q8
 go_enter Tryz.func223,Tryz.ntmps223
 go_wp2_with (go_at_call 170;refine (K3.out _ (HR.out.below hb1)).mono ?_)
 rintro e w2 ⟨rfl,hb2⟩
 unfold pcVal
 have O:=hid ((Own3.new 183 w (.int .i64 0) (.int .i64 0) (.int .i64 0)).below hb2)
 obtain ⟨c0,c1,c2,f0,f1,f2⟩:=O.out.cells
 go_wp2
 exact ret_piece rfl (OwnP.put O.out V) rfl rfl ⟨rfl,below_put3 (below_new hb2) (Nat.le_refl _) _ _ _⟩
end Go.Proofs.YtmbeicndhigklaaGreatDoor
namespace Go.Proofs.YtmbeicndhigklaaGreatDoor
open Lib (hid)
open Go.RowKit
abbrev moresL:List (List UInt8):=[[128],[128,128],[128,128,128],[191],[191,191],[191,191,191]]
def tryP (l m:List UInt8):Bool:=decOk (l++m)&&((dec (l++m)).2==(l++m).length)&&decide (127<(dec (l++m)).1)
theorem beginsP_eq (l:List UInt8):beginsP l=(decide (l.length≤3)&&moresL.any (tryP l)):=rfl
abbrev moresV:Value:=.agg #[.string ⟨#[128]⟩,.string ⟨#[128,128]⟩,.string ⟨#[128,128,128]⟩,.string ⟨#[191]⟩,.string ⟨#[191,191]⟩,.string ⟨#[191,191,191]⟩]
theorem mores_at (k:Nat) (hk:k<6) (w:World):(Instr.index 241 moresV (.int .i64 (k:Int))).run Tryz.prog w=.ok (.string ⟨(moresL.getD k []).toArray⟩) w:=by
 obtain rfl | rfl | rfl | rfl | rfl | rfl:k=0∨k=1∨k=2∨k=3∨k=4∨k=5:=by omega
 all_goals kernel_rfl
theorem anyDrop (f:List UInt8→Bool) (k:Nat) (hk:k<6):(moresL.drop k).any f=(f (moresL.getD k [])||(moresL.drop (k+1)).any f):=by
 obtain rfl | rfl | rfl | rfl | rfl | rfl:k=0∨k=1∨k=2∨k=3∨k=4∨k=5:=by omega
 all_goals simp
theorem mores_len (k:Nat):(moresL.getD k []).length≤3:=by
 by_cases hk:k<6
 ·obtain rfl | rfl | rfl | rfl | rfl | rfl:k=0∨k=1∨k=2∨k=3∨k=4∨k=5:=by omega
  all_goals decide
 ·rw [List.getD_eq_getElem?_getD,List.getElem?_eq_none (by simp;omega)];decide
set_option maxHeartbeats 2000000 in
set_option maxRecDepth 100000 in
theorem quoBegins_any (A:Option Addr) (n cap:Nat) (l:List UInt8) (w:World) (hT:Tabs w) (hR:RdB w A n l) (h0:0<n) (hn:n≤17592186044416) :
  Calls Tryz.prog 224 #[.slice A n cap] w fun e w'=>e=.returned (.bool (beginsP l))∧Below w.heap.size w w':=by
 have hl:=hid hR.1
 have HR:=hid hR
 have HT:=hid hT
 clear hR hT
 have hbp:=beginsP_eq l
 have HP:=hid hbp
 clear hbp
 generalize beginsP l=V at HP ⊢
 by_cases h3:n≤3
 ·have hv:V=moresL.any (tryP l):=by rw [HP.out,hl.out,decide_eq_true h3,Bool.true_and]
  have HV:=hid hv
  clear hv HP
  clear hn
  go_enter Tryz.func224,Tryz.ntmps224
  go_wp2
  go_loopw [13] (fun a wr=>∃k:Nat,k≤6∧a=.int .i64 k∧Hid (V=(moresL.drop k).any (tryP l))∧Below w.heap.size w wr) (fun a _=>6-(intOf a).toNat)
  case atStart=>exact ⟨0,by omega,rfl,HV,Below.refl _ w⟩
  case round=>
   obtain ⟨k,hk,rfl,hf,hb⟩:=hrel
   have hR2:=HR.out.below hb
   have HR2:=hid hR2
   by_cases hk6:k<6
   ·have hi:=mores_at k hk6 wr
    have hml:=mores_len k
    have had:=anyDrop (tryP l) k hk6
    generalize moresL.getD k []=m at hi hml had
    have hf':=hid (hf.out.trans had)
    have hcv:=HR2.out.conv (cap:=cap) Tryz.underlying122 Tryz.underlying5 Tryz.underlying9 h0
    have hlen:l.length+m.length≤6:=by have:=hl.out;omega
    have hda:((⟨l.toArray⟩:ByteArray)++⟨m.toArray⟩).data.toList=l++m:=by simp
    have k1:=fun (w':World) (hw:Tabs w')=>utfDecode_any ((⟨l.toArray⟩:ByteArray)++⟨m.toArray⟩) w' hw
    rw [hda] at k1
    have hsz:((⟨l.toArray⟩:ByteArray)++⟨m.toArray⟩).size=l.length+m.length:=by simp [ByteArray.size]
    have htp:tryP l m=(decOk (l++m)&&((dec (l++m)).2==l.length+m.length)&&decide (127<(dec (l++m)).1)):=by unfold tryP;rw [List.length_append]
    have hdv:decVal (l++m)=.tuple #[.int .i64 ((dec (l++m)).1:Int),.int .i64 ((dec (l++m)).2:Int),.bool (decOk (l++m))]:=rfl
    rw [hdv] at k1
    generalize dec (l++m)=D at k1 htp
    generalize decOk (l++m)=O at k1 htp
    obtain ⟨p,q⟩:=D
    simp only [] at k1 htp
    have K1:=hid k1
    have HTP:=hid htp
    have HSZ:=hid hsz
    clear k1 htp hsz hdv hda had hf hR2 hml
    go_wp2_with fail
    refine (K1.out _ (HT.out.below hb (Nat.le_refl _))).mono ?_
    rintro e w1 ⟨rfl,hb1⟩
    by_cases q1:O=true
    ·subst q1
     by_cases q2:q=l.length+m.length
     ·have d2:((q:Int)==((l.length:Int)+(m.length:Int)))=true:=by rw [q2];simp
      have Q2:=hid q2
      clear q2
      by_cases q3:127<p
      ·have d3:decide ((127:Int)<(p:Int))=true:=decide_eq_true (by omega)
       go_wp2
       go_ret
       refine ⟨?_,hb.trans (hb1.mono hb.size)⟩
       rw [hf'.out,HTP.out,Q2.out]
       simp [q3]
      ·have d3:decide ((127:Int)<(p:Int))=false:=decide_eq_false (by omega)
       have hno:tryP l m=false:=by rw [HTP.out,decide_eq_false q3,Bool.and_false]
       go_wp2
       go_roundw
       case rel=>exact ⟨k+1,by omega,by go_num,hid (hf'.out.trans (by rw [hno,Bool.false_or])),hb.trans (hb1.mono hb.size)⟩
       case measure=>simp [intOf];omega
     ·have d2:((q:Int)==((l.length:Int)+(m.length:Int)))=false:=by simp;omega
      have hno:tryP l m=false:=by rw [HTP.out,beq_false_of_ne q2];rfl
      clear q2
      go_wp2
      go_roundw
      case rel=>exact ⟨k+1,by omega,by go_num,hid (hf'.out.trans (by rw [hno,Bool.false_or])),hb.trans (hb1.mono hb.size)⟩
      case measure=>simp [intOf];omega
    ·have q1':O=false:=by simpa using q1
     subst q1'
     have hno:tryP l m=false:=by rw [HTP.out];rfl
     clear q1
     go_wp2
     go_roundw
     case rel=>exact ⟨k+1,by omega,by go_num,hid (hf'.out.trans (by rw [hno,Bool.false_or])),hb.trans (hb1.mono hb.size)⟩
     case measure=>simp [intOf];omega
   ·obtain rfl:k=6:=by omega
    go_wp2
    go_ret
    refine ⟨?_,hb⟩
    rw [hf.out]
    rfl
 ·have hv:V=false:=by rw [HP.out,hl.out,decide_eq_false h3,Bool.false_and]
  have h3':(3:Int)<(n:Int):=by omega
  subst hv
  clear hn
  go_enter Tryz.func224,Tryz.ntmps224
  go_wp2
  go_ret
  exact ⟨rfl,Below.refl _ w⟩
end Go.Proofs.YtmbeicndhigklaaGreatDoor
