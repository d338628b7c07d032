/-
  The walk of the law ScopeKnown (chapter 17).
-/
import Derived.Test.YtmbeicndhigklaaGreatDoorASl
namespace Go.Proofs.YtmbeicndhigklaaGreatDoor
open Go.RowKit
theorem wfB_nat (k:IntKind) (m z:Int) (h0:k.min=0) (h1:k.max+1=m) (h:(Lit.int k z).wf=true):0≤z∧z<m:=by
 have h2:(decide (k.min≤z)&&decide (z≤k.max))=true:=h
 rw [Bool.and_eq_true,decide_eq_true_iff,decide_eq_true_iff] at h2
 omega
theorem ck_all {known:List (List UInt8)}:∀(l:List (List UInt8)),(∀x∈l,x∈known)→ckY known l=([],0)
 | [],_=>rfl
 | x::r,h=>by
  rw [ckY,if_pos (by simpa using h x (List.mem_cons_self ..))]
  exact ck_all r (fun y hy=>h y (List.mem_cons_of_mem _ hy))
theorem ck_first {known:List (List UInt8)} {x:List UInt8} (hx:x ∉ known):∀(a b:List (List UInt8)),(∀y∈a,y∈known)→ckY known (a++x::b)=(x,11)
 | [],b,_=>by rw [List.nil_append,ckY,if_neg (by simpa using hx)]
 | y::a,b,h=>by
  rw [List.cons_append,ckY,if_pos (by simpa using h y (List.mem_cons_self ..))]
  exact ck_first hx a b (fun z hz=>h z (List.mem_cons_of_mem _ hz))
theorem ck_but {L:List (List UInt8)} (hn:L.Nodup) {k:Nat} {x:List UInt8} (hk:L[k]?=some x):ckY (L.take k++L.drop (k+1)) L=(x,11):=by
 have hlt:=(List.getElem?_eq_some_iff.1 hk).1
 have e:L=L.take k++x::L.drop (k+1):=by
  have h1:L.drop k=x::L.drop (k+1):=by rw [List.drop_eq_getElem_cons hlt,(List.getElem?_eq_some_iff.1 hk).2]
  rw [←h1,List.take_append_drop]
 have hx:x ∉ L.take k++L.drop (k+1):=by
  rw [e,List.nodup_append] at hn
  obtain ⟨_,h2,h3⟩:=hn
  rw [List.nodup_cons] at h2
  intro h
  rcases List.mem_append.1 h with h | h
  ·exact h3 x h x (List.mem_cons_self ..) rfl
  ·exact h2.1 h
 have h:=ck_first (known:=L.take k++L.drop (k+1)) hx (L.take k) (L.drop (k+1)) (fun y hy=>List.mem_append_left _ hy)
 rwa [←e] at h
theorem free_nodup (t:Ny):(freeY t).Nodup:=by
 unfold freeY
 split
 ·exact addN_nodup _ _ List.nodup_nil
 ·exact List.nodup_nil
theorem StrW.take {w:World} {A:Option Addr} {cap:Nat} {xs:List (List UInt8)} (h:StrW w A cap xs) (k:Nat) (hk:k≤xs.length):StrW w A cap (xs.take k):=by
 have hl:(xs.take k).length=k:=by rw [List.length_take];omega
 refine ⟨by rw [hl];exact Nat.le_trans hk h.1,h.2.1,fun hne=>?_⟩
 obtain ⟨g,o,h1,h2,h3⟩:=h.2.2 (fun e=>hne (by rw [e];simp))
 refine ⟨g,o,h1,h2,fun j x hj=>h3 j x ?_⟩
 rw [List.getElem?_take] at hj
 split at hj
 ·exact hj
 ·cases hj
theorem StrW.drop {w:World} {g o:Nat} {cap:Nat} {xs:List (List UInt8)} (h:StrW w (some ⟨g,o,none⟩) cap xs) (m:Nat) (hm:m≤xs.length):StrW w (some ⟨g,o+m,none⟩) (cap-m) (xs.drop m):=by
 refine ⟨by rw [List.length_drop];have:=h.1;omega,fun e=>(by cases e),fun hne=>?_⟩
 obtain ⟨g',o',h1,h2,h3⟩:=h.2.2 (fun e=>hne (by rw [e];simp))
 cases h1
 refine ⟨g,o+m,rfl,h2,fun j x hj=>?_⟩
 rw [List.getElem?_drop] at hj
 rw [Nat.add_assoc]
 exact h3 _ x hj
set_option maxHeartbeats 8000000 in
set_option maxRecDepth 100000 in
theorem scopeKnown_walk (t:Ny) (u:Nat) (hu:u<256) (more:List (List UInt8)) (A Am:Option Addr) (c cm:Nat) (w:World) (h0:YT w t A c) (hm:StrW w Am cm more) (hb0:blkY t≤1048576) (hmn:more.length≤1048576) (hT:Tabs w) (h10:Tab10 w) :
  Calls Tryz.prog 7 #[yAgg t (.slice A t.kids.length c),.int .u8 (u:Int),.slice Am more.length cm] w fun e w'=>e=.returned (.bool true)∧Below w.heap.size w w':=by
 have hTb:Tb w:=⟨hT,h10⟩
 obtain ⟨ti,hi0,hz0,hz1,hz2⟩:=info_parts infoStr
 have KS:=Lib.hid (fun W (hb:Below w.heap.size w W)=>scShown_any W (hTb.below hb (Nat.le_refl _)))
 obtain ⟨W0,hW0⟩:∃W0,W0=w.alloc (.cells (yCells t (.slice A t.kids.length c)).toArray TN):=⟨_,rfl⟩
 have P0:=Lib.hid (show YP W0 w.heap.size t A c by rw [hW0];exact YP.made h0)
 have B0:=Lib.hid (show Below w.heap.size w W0 by rw [hW0];exact (Below.refl _ w).alloc (Nat.le_refl _) _)
 have eW0:W0=w.alloc (.cells #[.int .i64 t.kind,.string ⟨t.text.toArray⟩,.slice A t.kids.length c] TN):=hW0
 have KF:=Lib.hid (fun A c W (hbW:Below w.heap.size w W) (h:YT W t A c)=>scFree_any t (by omega) A c W (hTb.below hbW (Nat.le_refl _)) h)
 have KC:=Lib.hid (fun (known:List (List UInt8)) (hn:known.length≤1099511627776) A c A2 c2 W (hbW:Below w.heap.size w W) (h:YT W t A c) (hv:StrW W A2 c2 known)=>scCheck_any t (by omega) known hn A A2 c c2 W (hTb.below hbW (Nat.le_refl _)) h hv)
 have HM:=Lib.hid (hm.below B0.out)
 have hnd:=free_nodup t
 have hln:=Nat.le_trans (free_len t) hb0
 have hmy0:mayY numE t=false→freeY t=[]:=fun h=>by unfold freeY;rw [if_neg (by rw [h];decide)]
 have hck:∀known,mayY numE t=true→checkY t known=ckY known (freeY t):=fun known h=>by unfold checkY;rw [if_pos h]
 clear hT h10 hTb h0 hW0 hm
 simp only [yAgg] at KF KC ⊢
 go_enter Tryz.func7,Tryz.ntmps7
 go_upto_region 1 with fail
 rw [←eW0]
 clear eW0
 go_wp2_with (go_at_call 8;with_reducible refine (KS.out _ B0.out).mono ?_)
 rintro e w1 ⟨rfl,hb⟩
 have B1:=Lib.hid (B0.out.trans (hb.mono B0.out.size))
 have P0:=Lib.hid (P0.out.below hb)
 have HM:=Lib.hid (HM.out.below hb)
 clear hb B0
 obtain ⟨a0,a1,a2⟩:=P0.out.all
 go_wp2_with (go_at_call 9;with_reducible refine (KF.out _ _ _ B1.out P0.out.kids).mono ?_)
 rintro e w2 ⟨v2,rfl,ho2,hb⟩
 have B2:=Lib.hid (B1.out.trans (hb.mono B1.out.size))
 have P0:=Lib.hid (P0.out.below hb)
 have HM:=Lib.hid (HM.out.below hb)
 obtain ⟨A2,cap2,rfl,hs2,hv2⟩:=own_strW ho2
 have HV2:=Lib.hid hv2
 have HS2:=Lib.hid hs2
 have hcap2:cap2≤maxLen:=by
  rcases ho2.2 with ⟨e,_⟩ | ⟨g,cap',cur,e,_,_,_,h,_⟩
  ·injection e with _ _ e;rw [e];exact Nat.zero_le _
  ·injection e with _ _ e;rw [e];exact h
 clear hb B1 a0 a1 a2 ho2 hv2 hs2
 cases hmy:mayY numE t
 ·rw [hmy0 hmy]
  clear hmy hck hmy0
  go_wp2
  go_ret
  exact ⟨rfl,B2.out⟩
 ·have KC1:=Lib.hid (fun known hn A c A2 c2 W hbW h hv=>by have k:=KC.out known hn A c A2 c2 W hbW h hv;rw [hck known hmy] at k;exact k)
  clear hmy hck hmy0 KC KF KS
  generalize freeY t=L at *
  obtain ⟨kn,hkn⟩:∃kn,kn=[]++more++L:=⟨_,rfl⟩
  have KC2:=Lib.hid (fun A5 c5 W (hb:Below w2.heap.size w2 W) (hv:StrW W A5 c5 kn)=>show Calls Tryz.prog 14 #[.agg #[.int .i64 t.kind,.string ⟨t.text.toArray⟩,.slice A t.kids.length c],.slice A5 kn.length c5] W (CkR ([],0) W) by
   have k:=KC1.out kn (by rw [hkn];simp only [List.length_nil,List.length_append];omega) A c A5 c5 W (B2.out.trans (hb.mono B2.out.size)) (P0.out.below hb).kids hv
   rw [ck_all L (fun x hx=>by rw [hkn];exact List.mem_append_right _ hx)] at k
   exact k)
  have HKN:=Lib.hid hkn
  clear hkn
  go_upto_region 5 with fail
  have HC:=Lib.hid (fun W (hb:Below w2.heap.size w2 W)=>(P0.out.below hb).all)
  refine wp_region_s 11 (fun W'=>Below w2.heap.size w2 W') (by kernel_rfl) ((Below.refl w2.heap.size w2).drew) (fun hS0=>?_)
  refine tk 0 (.agg #[.int .i64 t.kind,.string ⟨t.text.toArray⟩,.slice A t.kids.length c]) [6,7,8,10,11] hS0 ?_ (y:=.inl ⟨by kernel_rfl,fun _ H=>by obtain ⟨cX,cY,cZ⟩:=HC.out _ H;go_simp⟩)
  refine tk 2 (.slice Am more.length cm) [3,5,6,7,8,10,11] hS0 ?_
  refine tk 4 (.slice A2 L.length cap2) [5,6,7,8,10,11] hS0 ?_
  refine st 1 fun K hK=>?_
  go_simp
  have HS3:=Lib.hid (Below.alloc hS0 (Below.size hS0) (.cells #[] 9))
  refine hK.out _ _ (fun _=>HS3.out) (fun _=>?_)
  clear hK K
  refine st 3 fun K hK=>?_
  rw [if_pos (by kernel_rfl)]
  refine wp_append_st _ _ _ 26 rfl w2.heap.size 9 ti _ 16 Tryz.underlying26 hi0 hz0 hz1 hz2 rfl _ _ _ ([]) (more) rfl rfl (World.ownsRow_lit w2 #[] 0 (Nat.le_refl _) (Nat.zero_le _) rfl) (HM.out.below HS3.out) ?_ ?_ (Below.size HS3.out) ?_
  ·show 0+more.length≤_;unfold maxLen;omega
  ·show (0+more.length) * 16≤_;omega
  intro v4 w4 hown hgrow
  have hg:World.grownBy ((w2.alloc (.cells #[] 9)).drew) w4 (some w2.heap.size):=hgrow
  have HS4:=Lib.hid (Below.grown HS3.out hg (Below.size HS3.out) (fun k hk=>by cases hk;exact Nat.le_refl _))
  have HO4:=Lib.hid (show w4.ownsRow w2.heap.size 9 1 v4 (([])++(more)).length (strB (([])++(more))) from hown)
  clear hown hgrow hg
  refine hK.out _ _ (fun _=>HS4.out) (fun _=>?_)
  clear hK K
  refine st 5 fun K hK=>?_
  rw [if_pos (by kernel_rfl)]
  refine wp_append_st _ _ _ 26 rfl w2.heap.size 9 ti _ 16 Tryz.underlying26 hi0 hz0 hz1 hz2 rfl _ _ _ ([]++more) (L) rfl rfl (HO4.out) (HV2.out.below HS4.out) ?_ ?_ (Below.size HS4.out) ?_
  ·show more.length+L.length≤_;unfold maxLen;omega
  ·show (more.length+L.length) * 16≤_;omega
  intro v5 w5 hown hgrow
  have hg:World.grownBy (w4) w5 (v4.ownBlock):=hgrow
  have HS5:=Lib.hid (Below.grown HS4.out hg (Below.size HS4.out) (fun k hk=>(HO4.out.lt k hk).1))
  have HO5:=Lib.hid (show w5.ownsRow w2.heap.size 9 1 v5 (([]++more)++(L)).length (strB (([]++more)++(L))) from hown)
  clear hown hgrow hg
  refine hK.out _ _ (fun _=>HS5.out) (fun _=>?_)
  clear hK K
  obtain ⟨A5,cap5,rfl,_,hv5⟩:=own_strW (show w5.ownsRow w2.heap.size 9 1 v5 kn.length (strB kn) by rw [HKN.out];exact HO5.out)
  have HV5:=Lib.hid hv5
  clear hv5
  refine st 6 fun K hK=>?_
  go_simp
  go_at_call 14
  with_reducible refine (KC2.out A5 cap5 _ HS5.out HV5.out).mono ?_
  rintro e w6 ⟨rfl,hb⟩
  have HS6:=Lib.hid (Below.trans HS5.out (hb.mono (Below.size HS5.out)))
  clear hb
  try dsimp only
  refine hK.out _ _ (fun _=>HS6.out) (fun _=>?_)
  clear hK K
  refine tk 7 (.tuple #[.string ⟨#[]⟩,.int .i64 0]) [8,10,11] HS6.out ?_
  refine tk 8 (.string ⟨#[]⟩) [10,11] HS6.out ?_
  refine tk 9 (.int .i64 0) [11] HS6.out ?_
  refine st 10 fun K hK=>?_
  go_simp
  refine hK.out _ _ (fun _=>HS6.out) (fun _=>?_)
  clear hK K
  refine st 11 fun K hK=>?_
  go_simp
  refine hK.out _ _ (fun h=>absurd rfl h) (fun _=>?_)
  clear hK K
  refine wpAnyS_done (by kernel_rfl) ?_ _
  have B6:=Lib.hid (B2.out.trans (HS6.out.mono B2.out.size))
  have P6:=Lib.hid (P0.out.below HS6.out)
  have HV6:=Lib.hid (HV2.out.below HS6.out)
  have HW6:=Lib.hid (HS2.out.below HS6.out)
  clear HC HS3 HS4 HS5 HS6 HO4 HO5 HV5 hS0 HM HV2 HS2 P0 B2
  by_cases hL:L=[]
  ·subst hL
   go_wp2
   go_ret
   exact ⟨rfl,B6.out⟩
  ·have hpos:0<L.length:=List.length_pos_iff.2 hL
   obtain ⟨g,rfl,hg,hc⟩:=HW6.out.2 hL
   obtain ⟨k,hk⟩:∃k,k=u % L.length:=⟨_,rfl⟩
   have hkl:k<L.length:=by rw [hk];exact Nat.mod_lt _ hpos
   have hkz:(u:Int) % (L.length:Int)=(k:Int):=by rw [hk];rfl
   have hkt:Int.tmod (u:Int) (L.length:Int)=(k:Int):=by rw [hk,Int.tmod_eq_emod_of_nonneg (by omega)];rfl
   obtain ⟨x,hx⟩:∃x,L[k]?=some x:=⟨_,List.getElem?_eq_getElem hkl⟩
   have hnl:L.length≤1048576:=hln
   have HX:=Lib.hid hx
   have HKL:=Lib.hid hkl
   have e0:=hc k x hx
   clear hx hc hk hln
   generalize hn:L.length=n at *
   have HN:=Lib.hid hn
   clear hn
   have hz:((n:Int)==0)=false:=beq_eq_false_iff_ne.2 (by omega)
   have hz1:(1:Int)≤(n:Int):=by omega
   have hz2:¬(n:Int)=0:=by omega
   have hz3:(0:Int)≤(u:Int):=by omega
   go_upto_region 9 with fail
   obtain ⟨T,hTe⟩:∃T,T=L.take k:=⟨_,rfl⟩
   obtain ⟨D,hDe⟩:∃D,D=L.drop (k+1):=⟨_,rfl⟩
   have hTl:T.length=k:=by rw [hTe,List.length_take,HN.out];omega
   have hDl:n-(k+1)=D.length:=by rw [hDe,List.length_drop,HN.out]
   have HTW:=Lib.hid (fun W (hb:Below w6.heap.size w6 W)=>show StrW W (some ⟨g,0,none⟩) cap2 T by rw [hTe];exact (HV6.out.below hb).take k (by rw [HN.out];omega))
   have HDW:=Lib.hid (fun W (hb:Below w6.heap.size w6 W)=>show StrW W (if cap2=k+1 then some ⟨g,0,none⟩ else some ⟨g,k+1,none⟩) (cap2-(k+1)) D by
    have h1:=(HV6.out.below hb).drop (k+1) (by rw [HN.out];omega)
    rw [←hDe,Nat.zero_add] at h1
    split
    ·rename_i hce
     have hD0:D=[]:=List.length_eq_zero_iff.1 (by have:=h1.1;omega)
     exact ⟨h1.1,fun e=>(by cases e),fun hne=>absurd hD0 hne⟩
    ·exact h1)
   obtain ⟨kn2,hkn2⟩:∃kn2,kn2=[]++T++D:=⟨_,rfl⟩
   have KC3:=Lib.hid (fun A5 c5 W (hb:Below w6.heap.size w6 W) (hv:StrW W A5 c5 kn2)=>show Calls Tryz.prog 14 #[.agg #[.int .i64 t.kind,.string ⟨t.text.toArray⟩,.slice A t.kids.length c],.slice A5 kn2.length c5] W (CkR (x,11) W) by
    have h:=KC1.out kn2 (by rw [hkn2];simp only [List.length_nil,List.length_append];omega) A c A5 c5 W (B6.out.trans (hb.mono B6.out.size)) (P6.out.below hb).kids hv
    rw [hkn2,hTe,hDe,List.nil_append,ck_but hnd HX.out] at h
    rw [hkn2,hTe,hDe,List.nil_append]
    exact h)
   have HKN2:=Lib.hid hkn2
   have HC:=Lib.hid (fun W (hb:Below w6.heap.size w6 W)=>(P6.out.below hb).all)
   have hT2:T.length≤1048576:=by omega
   have hD2:D.length≤1048576:=by omega
   have k1:(0:Int)≤(k:Int):=by omega
   have k2:(k:Int)≤(n:Int):=by omega
   have k3:(k:Int)+1≤(n:Int):=by omega
   have k4:(k:Int)<(n:Int):=by omega
   have k7:k≤1048576:=by omega
   have k8:¬(k:Int)+1<0:=by omega
   have k5:n≤cap2:=by have:=HV6.out.1;rw [HN.out] at this;exact this
   have k6:cap2≤9223372036854775807:=by unfold maxLen at hcap2;exact hcap2
   have hw:IntKind.i64.wrap ((k:Int)+1)=(k:Int)+1:=by rw [IntKind.wrap_i64];omega
   have k9:¬cap2<k:=by omega
   clear hkn2 hTe hDe hkl hpos hkz hkt hz hz1 hz2 hz3 hnd hL
   refine wp_region_s 16 (fun W'=>Below w6.heap.size w6 W') (by kernel_rfl) ((Below.refl w6.heap.size w6).drew) (fun hS0=>?_)
   refine tk 0 (.agg #[.int .i64 t.kind,.string ⟨t.text.toArray⟩,.slice A t.kids.length c]) [11,12,13,15,16] hS0 ?_ (y:=.inl ⟨by kernel_rfl,fun _ H=>by obtain ⟨cX,cY,cZ⟩:=HC.out _ H;go_simp⟩)
   refine tk 2 (.slice (some ⟨g,0,none⟩) n cap2) [4,5,10,11,12,13,15,16] hS0 ?_
   refine tk 3 (.int .i64 (k:Int)) [4,5,10,11,12,13,15,16] hS0 ?_
   refine tk 4 (.slice (some ⟨g,0,none⟩) k cap2) [5,10,11,12,13,15,16] hS0 ?_
   refine tk 6 (.slice (some ⟨g,0,none⟩) n cap2) [9,10,11,12,13,15,16] hS0 ?_
   refine tk 7 (.int .i64 (k:Int)) [8,9,10,11,12,13,15,16] hS0 ?_
   refine tk 8 (.int .i64 ((k:Int)+1)) [9,10,11,12,13,15,16] hS0 ?_
   refine tk 9 (.slice (if cap2=k+1 then some ⟨g,0,none⟩ else some ⟨g,k+1,none⟩) D.length (cap2-(k+1))) [10,11,12,13,15,16] hS0 ?_
   refine st 1 fun K hK=>?_
   go_simp
   have HS3:=Lib.hid (Below.alloc hS0 (Below.size hS0) (.cells #[] 9))
   refine hK.out _ _ (fun _=>HS3.out) (fun _=>?_)
   clear hK K
   refine st 5 fun K hK=>?_
   rw [if_pos (by kernel_rfl)]
   refine wp_append_st _ _ _ 26 rfl w6.heap.size 9 ti _ 16 Tryz.underlying26 hi0 hz0 hz1 hz2 rfl _ (some ⟨g,0,none⟩) cap2 ([]) (T) rfl (by rw [hTl];rfl) (World.ownsRow_lit w6 #[] 0 (Nat.le_refl _) (Nat.zero_le _) rfl) (HTW.out _ HS3.out) ?_ ?_ (Below.size HS3.out) ?_
   ·show 0+T.length≤_;unfold maxLen;omega
   ·show (0+T.length) * 16≤_;omega
   intro v4 w4 hown hgrow
   have hg:World.grownBy ((w6.alloc (.cells #[] 9)).drew) w4 (some w6.heap.size):=hgrow
   have HS4:=Lib.hid (Below.grown HS3.out hg (Below.size HS3.out) (fun k hk=>by cases hk;exact Nat.le_refl _))
   have HO4:=Lib.hid (show w4.ownsRow w6.heap.size 9 1 v4 (([])++(T)).length (strB (([])++(T))) from hown)
   clear hown hgrow hg
   refine hK.out _ _ (fun _=>HS4.out) (fun _=>?_)
   clear hK K
   refine st 10 fun K hK=>?_
   rw [if_pos (by kernel_rfl)]
   refine wp_append_st _ _ _ 26 rfl w6.heap.size 9 ti _ 16 Tryz.underlying26 hi0 hz0 hz1 hz2 rfl _ _ (cap2-(k+1)) ([]++T) (D) rfl rfl (HO4.out) (HDW.out _ HS4.out) ?_ ?_ (Below.size HS4.out) ?_
   ·show T.length+D.length≤_;unfold maxLen;omega
   ·show (T.length+D.length) * 16≤_;omega
   intro v5 w5 hown hgrow
   have hg:World.grownBy (w4) w5 (v4.ownBlock):=hgrow
   have HS5:=Lib.hid (Below.grown HS4.out hg (Below.size HS4.out) (fun k hk=>(HO4.out.lt k hk).1))
   have HO5:=Lib.hid (show w5.ownsRow w6.heap.size 9 1 v5 (([]++T)++(D)).length (strB (([]++T)++(D))) from hown)
   clear hown hgrow hg
   refine hK.out _ _ (fun _=>HS5.out) (fun _=>?_)
   clear hK K
   obtain ⟨A5,cap5,rfl,_,hv5⟩:=own_strW (show w5.ownsRow w6.heap.size 9 1 v5 kn2.length (strB kn2) by rw [HKN2.out];exact HO5.out)
   have HV5:=Lib.hid hv5
   clear hv5
   refine st 11 fun K hK=>?_
   go_simp
   go_at_call 14
   with_reducible refine (KC3.out A5 cap5 _ HS5.out HV5.out).mono ?_
   rintro e w7 ⟨rfl,hb⟩
   have HS7:=Lib.hid (Below.trans HS5.out (hb.mono (Below.size HS5.out)))
   clear hb
   try dsimp only
   refine hK.out _ _ (fun _=>HS7.out) (fun _=>?_)
   clear hK K
   refine tk 12 (.tuple #[.string ⟨x.toArray⟩,.int .i64 11]) [13,15,16] HS7.out ?_
   refine tk 13 (.string ⟨x.toArray⟩) [15,16] HS7.out ?_
   refine tk 14 (.int .i64 11) [16] HS7.out ?_
   refine st 15 fun K hK=>?_
   go_simp
   refine hK.out _ _ (fun _=>HS7.out) (fun _=>?_)
   clear hK K
   refine st 16 fun K hK=>?_
   go_simp
   refine hK.out _ _ (fun h=>absurd rfl h) (fun _=>?_)
   clear hK K
   refine wpAnyS_done (by kernel_rfl) ?_ _
   have e1:w7.cell? ⟨g,k,none⟩=some (.string ⟨x.toArray⟩):=by rw [←e0];exact World.cell?_of_block (HS7.out.block g hg)
   have B7:=Lib.hid (B6.out.trans (HS7.out.mono B6.out.size))
   clear HC HS3 HS4 HS5 HS7 HO4 HO5 HV5 hS0 e0
   go_wp2
   all_goals
    go_ret
    exact ⟨rfl,B7.out⟩
end Go.Proofs.YtmbeicndhigklaaGreatDoor
