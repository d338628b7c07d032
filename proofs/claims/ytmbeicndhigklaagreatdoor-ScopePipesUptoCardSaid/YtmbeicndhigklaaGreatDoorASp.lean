/-
  The walk of the law ScopePipes (chapter 17).
-/
import Derived.Test.YtmbeicndhigklaaGreatDoorASl
import Derived.Test.YtmbeicndhigklaaGreatDoorASs
namespace Go.Proofs.YtmbeicndhigklaaGreatDoor
open Go.RowKit
theorem may_kid {t k:Ny} (h:mayY numE t=true) (hk:k∈t.kids) (hf:filN numE 199 k=true) (hn:nstY false k≤nstYs t.kind 0 t.kids):mayY numE k=true:=by
 unfold mayY at h ⊢
 rw [Bool.and_eq_true,Bool.and_eq_true,decide_eq_true_iff,decide_eq_true_iff] at h ⊢
 refine ⟨⟨depY_more (depY_kids h.1.1 k hk),(filN_le (by omega)).1 k hf⟩,?_⟩
 have h2:=h.2
 rw [nstY_eq,if_neg (by rintro ⟨e,_⟩;cases e)] at h2
 split at h2
 ·omega
 ·split at h2 <;> omega
def pipeY (a b:Ny):Ny:=.mk 15 [] [a,b]
theorem pipe_may {a b:Ny} (h:mayY numE (pipeY a b)=true):mayY numE a=true∧mayY numE b=true:=by
 have h1:=h
 unfold mayY at h1
 rw [Bool.and_eq_true,Bool.and_eq_true] at h1
 have h2:filS numE (filN numE 199) (patN numE 199) (pipeY a b)=true:=h1.1.2
 have h3:areM (filN numE 199) (patN numE 199) [a,b] [0,0]=true:=by
  have h4:((pipeY a b).text.isEmpty&&untM (filN numE 199) (patN numE 199) (pipeY a b))=true:=by
   unfold filS at h2
   simpa [pipeY,Ny.kind] using h2
  rw [Bool.and_eq_true] at h4
  have h5:=h4.2
  unfold untM at h5
  simpa [pipeY,Ny.kind,Ny.kids] using h5
 have h6:(stdM (filN numE 199) (patN numE 199) 0 a&&(stdM (filN numE 199) (patN numE 199) 0 b&&true))=true:=h3
 rw [Bool.and_true,Bool.and_eq_true] at h6
 have hn:nstYs (pipeY a b).kind 0 (pipeY a b).kids=max (nstY false a) (max (nstY false b) 0):=by
  show nstYs 15 0 [a,b] = _
  rw [nstYs,nstYs,nstYs]
  rfl
 exact ⟨may_kid h (List.mem_cons_self ..) h6.1 (by rw [hn];omega),may_kid h (List.mem_cons_of_mem _ (List.mem_cons_self ..)) h6.2 (by rw [hn];omega)⟩
theorem pipe_free {a b:Ny} (h:mayY numE (pipeY a b)=true):freeY (pipeY a b)=freeY a++notIn (freeY a) (freeY b):=by
 obtain ⟨h1,h2⟩:=pipe_may h
 unfold freeY
 rw [h,h1,h2,if_pos rfl,if_pos rfl,if_pos rfl]
 have hu:useY (pipeY a b)=useY a++useY b:=by
  rw [useY_eq,useYs_free (k:=(pipeY a b).kind) rfl]
  show []++[a,b].flatMap useY = _
  simp
 rw [hu,addN_append,addN_dedup]
theorem free_len (t:Ny):(freeY t).length≤blkY t:=by
 unfold freeY
 have h1:=addN_len [] (useY t)
 have h2:=use_len t
 rw [List.length_nil] at h1
 split
 ·omega
 ·exact Nat.zero_le _
theorem notIn_step {X Y:List (List UInt8)} {i:Nat} {y:List UInt8} (h:Y[i]?=some y):notIn X (Y.take (i+1))=notIn X (Y.take i)++if X.contains y then [] else [y]:=by
 rw [List.take_add_one,h,notIn_append]
 congr 1
 show notIn X [y] = _
 unfold notIn
 rw [List.filter_cons]
 cases X.contains y <;> rfl
set_option maxHeartbeats 8000000 in
set_option maxRecDepth 100000 in
theorem scopePipes_walk (t0 t1:Ny) (A0 A1:Option Addr) (c0 c1:Nat) (w:World) (h0:YT w t0 A0 c0) (h1:YT w t1 A1 c1) (hb0:blkY t0≤1048576) (hb1:blkY t1≤1048576) (hT:Tabs w) (h10:Tab10 w) :
  Calls Tryz.prog 4 #[yAgg t0 (.slice A0 t0.kids.length c0),yAgg t1 (.slice A1 t1.kids.length c1)] w fun e w'=>e=.returned (.bool true)∧Below w.heap.size w w':=by
 have hTb:Tb w:=⟨hT,h10⟩
 have KS:=Lib.hid (fun W (hb:Below w.heap.size w W)=>scShown_any W (hTb.below hb (Nat.le_refl _)))
 obtain ⟨W0,hW0⟩:∃W0,W0=w.alloc (.cells (yCells t0 (.slice A0 t0.kids.length c0)).toArray TN):=⟨_,rfl⟩
 have P0:=show YP W0 w.heap.size t0 A0 c0 by rw [hW0];exact YP.made h0
 have b0:=show Below w.heap.size w W0 by rw [hW0];exact (Below.refl _ w).alloc (Nat.le_refl _) _
 have eW0:W0=w.alloc (.cells #[.int .i64 t0.kind,.string ⟨t0.text.toArray⟩,.slice A0 t0.kids.length c0] TN):=hW0
 have hsz0:W0.heap.size=w.heap.size+1:=by rw [hW0,World.size_alloc]
 obtain ⟨W1,hW1⟩:∃W1,W1=W0.alloc (.cells (yCells t1 (.slice A1 t1.kids.length c1)).toArray TN):=⟨_,rfl⟩
 have b1:=show Below W0.heap.size W0 W1 by rw [hW1];exact (Below.refl _ W0).alloc (Nat.le_refl _) _
 have P1:=Lib.hid (show YP W1 (w.heap.size+1) t1 A1 c1 by rw [←hsz0,hW1];exact YP.made (YX.below h1 b0))
 have P0:=Lib.hid (P0.below b1)
 have eW1:W1=W0.alloc (.cells #[.int .i64 t1.kind,.string ⟨t1.text.toArray⟩,.slice A1 t1.kids.length c1] TN):=hW1
 have B1:=Lib.hid (b0.trans (b1.mono b0.size))
 have KF:=Lib.hid (fun (t:Ny) (hb:blkY t≤100000000) A c W (hbW:Below w.heap.size w W) (h:YT W t A c)=>scFree_any t hb A c W (hTb.below hbW (Nat.le_refl _)) h)
 have HB0:=Lib.hid hb0
 have HB1:=Lib.hid hb1
 clear hT h10 hTb h0 h1 hb0 hb1 hW0 hW1 b0 b1
 simp only [yAgg] at KF ⊢
 go_enter Tryz.func4,Tryz.ntmps4
 go_upto_region 1 with fail
 rw [←eW0,←eW1]
 clear eW0 eW1 hsz0
 go_wp2_with (go_at_call 8;with_reducible refine (KS.out _ B1.out).mono ?_)
 rintro x w1 ⟨rfl,hb⟩
 have B2:=Lib.hid (B1.out.trans (hb.mono B1.out.size))
 have P0:=Lib.hid (P0.out.below hb)
 have P1:=Lib.hid (P1.out.below hb)
 clear hb B1
 obtain ⟨a0,a1,a2⟩:=P0.out.all
 obtain ⟨d0,d1,d2⟩:=P1.out.all
 obtain ⟨ti,hi0,hz0,hz1,hz2⟩:=info_parts infoStr
 obtain ⟨W2,hW2⟩:∃W2,W2=w1.alloc (.cells #[.int .i64 t0.kind,.string ⟨t0.text.toArray⟩,.slice A0 t0.kids.length c0,.int .i64 t1.kind,.string ⟨t1.text.toArray⟩,.slice A1 t1.kids.length c1] TN):=⟨_,rfl⟩
 have hT2:YT W2 (pipeY t0 t1) (some ⟨w1.heap.size,0,none⟩) 2:=by
  rw [hW2]
  refine YT.new 15 [] [(t0,A0,c0),(t1,A1,c1)] (fun p hp=>?_) (by simp [maxLen])
  simp only [List.mem_cons,List.not_mem_nil,or_false] at hp
  rcases hp with rfl | rfl
  ·exact P0.out.kids
  ·exact P1.out.kids
 have b2:=show Below w1.heap.size w1 W2 by rw [hW2];exact (Below.refl _ w1).alloc (Nat.le_refl _) _
 have hsz2:W2.heap.size=w1.heap.size+1:=by rw [hW2,World.size_alloc]
 obtain ⟨W3,hW3⟩:∃W3,W3=W2.alloc (.cells #[.int .i64 15,.string ⟨#[]⟩,.slice (some ⟨w1.heap.size,0,none⟩) 2 2] TN):=⟨_,rfl⟩
 have b3:=show Below W2.heap.size W2 W3 by rw [hW3];exact (Below.refl _ W2).alloc (Nat.le_refl _) _
 have P2:=show YP W3 (w1.heap.size+1) (pipeY t0 t1) (some ⟨w1.heap.size,0,none⟩) 2 by rw [←hsz2,hW3];exact YP.made hT2
 have b13:=b2.trans (b3.mono b2.size)
 have P0:=Lib.hid (P0.out.below b13)
 have P1:=Lib.hid (P1.out.below b13)
 have B3:=Lib.hid (B2.out.trans (b13.mono B2.out.size))
 obtain ⟨g0,g1,g2⟩:=P2.all
 have f0:W3.cell? ⟨w1.heap.size+1,0,none⟩=some (.int .i64 15):=g0
 have f1:W3.cell? ⟨w1.heap.size+1,1,none⟩=some (.string ⟨#[]⟩):=g1
 have f2:W3.cell? ⟨w1.heap.size+1,2,none⟩=some (.slice (some ⟨w1.heap.size,0,none⟩) 2 2):=g2
 have KT:=Lib.hid (show Calls Tryz.prog 9 #[.agg #[.int .i64 15,.string ⟨#[]⟩,.slice (some ⟨w1.heap.size,0,none⟩) 2 2]] W3 (FrR (mayY numE (pipeY t0 t1)) (freeY (pipeY t0 t1)) W3) from
  KF.out (pipeY t0 t1) (by have h1:=HB0.out;have h2:=HB1.out;rw [blkY_eq];show 0+1+blkYs [t0,t1]≤_;rw [blkYs,blkYs,blkYs];omega) _ _ W3 B3.out P2.kids)
 clear hT2 b2 b3 b13 P2 B2 g0 g1 g2
 go_upto_region 3 with fail
 rw [←hW2,←hW3]
 clear hW2 hW3 hsz2 a0 a1 a2 d0 d1 d2
 go_wp2_with (go_at_call 9;with_reducible refine KT.out.mono ?_)
 rintro x w2 ⟨v2,rfl,ho2,hb2⟩
 have P0:=Lib.hid (P0.out.below hb2)
 have P1:=Lib.hid (P1.out.below hb2)
 have B4:=Lib.hid (B3.out.trans (hb2.mono B3.out.size))
 obtain ⟨A2,cap2,rfl,_,hv2⟩:=own_strW ho2
 have HV2:=Lib.hid hv2
 clear KT B3 ho2 hb2 hv2 f0 f1 f2
 cases hmy:mayY numE (pipeY t0 t1)
 ·clear hmy
  go_wp2
  go_ret
  exact ⟨rfl,B4.out⟩
 ·obtain ⟨m0,m1⟩:=pipe_may hmy
  have HPF:=Lib.hid (pipe_free hmy)
  have K0:=Lib.hid (fun A c W hbW h=>KF.out t0 (by have:=HB0.out;omega) A c W hbW h)
  have K1:=Lib.hid (fun A c W hbW h=>KF.out t1 (by have:=HB1.out;omega) A c W hbW h)
  rw [m0] at K0
  rw [m1] at K1
  have hx1:=free_len t0
  have hx2:=free_len t1
  have hx3:(freeY (pipeY t0 t1)).length≤2097152:=by
   have h1:=HB0.out
   have h2:=HB1.out
   have h3:=notIn_len (freeY t0) (freeY t1)
   rw [HPF.out,List.length_append];omega
  have HX1:=Lib.hid (Nat.le_trans hx1 HB0.out)
  have HX2:=Lib.hid (Nat.le_trans hx2 HB1.out)
  have HX3:=Lib.hid hx3
  clear hmy m0 m1 KF HB0 HB1 hx1 hx2 hx3
  generalize freeY (pipeY t0 t1)=L at *
  generalize freeY t0=X at *
  generalize freeY t1=Y at *
  obtain ⟨a0,a1,a2⟩:=P0.out.all
  go_wp2_with (go_at_call 9;with_reducible refine (K0.out _ _ _ B4.out P0.out.kids).mono ?_)
  rintro x w3 ⟨v3,rfl,ho3,hb3⟩
  have P1:=Lib.hid (P1.out.below hb3)
  have B5:=Lib.hid (B4.out.trans (hb3.mono B4.out.size))
  have HV2:=Lib.hid (HV2.out.below hb3)
  obtain ⟨A3,cap3,rfl,_,hv3⟩:=own_strW ho3
  have HV3:=Lib.hid hv3
  clear B4 ho3 hb3 hv3 a0 a1 a2 P0 K0
  obtain ⟨d0,d1,d2⟩:=P1.out.all
  go_wp2_with (go_at_call 9;with_reducible refine (K1.out _ _ _ B5.out P1.out.kids).mono ?_)
  rintro x w4 ⟨v4,rfl,ho4,hb4⟩
  have B6:=Lib.hid (B5.out.trans (hb4.mono B5.out.size))
  have HV2:=Lib.hid (HV2.out.below hb4)
  have HV3:=Lib.hid (HV3.out.below hb4)
  obtain ⟨A4,cap4,rfl,_,hv4⟩:=own_strW ho4
  have HV4:=Lib.hid hv4
  clear B5 ho4 hb4 hv4 d0 d1 d2 P1 K1
  have hn1:=HX1.out
  have hn2:=HX2.out
  have hn3:=HX3.out
  have bz:=Lib.hid ((Below.refl w4.heap.size w4).alloc (Nat.le_refl _) (.cells #[] 9))
  go_wp2_with (at_builtin;refine wpList_append_st _ rfl _ _ 26 rfl w4.heap.size 9 ti _ 16 Tryz.underlying26 hi0 hz0 hz1 hz2 rfl _ _ _ [] X rfl rfl (World.ownsRow_lit w4 #[] 0 (Nat.le_refl _) (Nat.zero_le _) rfl) (HV3.out.below bz.out) ?c3 ?c4 ?c5 ?_)
  case c3=>simp only [List.length_nil];unfold maxLen;omega
  case c4=>simp only [List.length_nil];omega
  case c5=>exact bz.out.size
  intro v5 w5 hown hgrow
  have B7:=Lib.hid (bz.out.grown hgrow bz.out.size (fun k hk=>by
   have:w4.heap.size=k:=by simpa [Value.ownBlock] using hk
   omega))
  have HO:=Lib.hid (show w5.ownsRow w4.heap.size 9 1 v5 (X++notIn X (Y.take 0)).length (strB (X++notIn X (Y.take 0))) by rw [show X++notIn X (Y.take 0)=X by simp [notIn]];exact hown)
  clear hown hgrow bz
  go_wp2_with fail
  go_loopg [13,14] (Y.length+1) (fun kx v13 v14 wr=>∃i:Nat,v14=.int .i64 (i:Int)∧i≤Y.length∧Y.length-i≤kx∧Hid (wr.ownsRow w4.heap.size 9 1 v13 (X++notIn X (Y.take i)).length (strB (X++notIn X (Y.take i))))∧Below w4.heap.size w4 wr)
  case atStart=>exact ⟨0,rfl,Nat.zero_le _,by omega,HO,B7.out⟩
  case round=>
   obtain ⟨i,rfl,hi,hik,hrel,hb⟩:=hrel
   have HB:=Lib.hid hb
   clear hb
   by_cases hlt:i<Y.length
   ·obtain ⟨y,hy⟩:∃y,Y[i]?=some y:=⟨_,List.getElem?_eq_getElem hlt⟩
    obtain ⟨g,o,rfl,hg,hc⟩:=HV4.out.2.2 (fun e=>by rw [e] at hy;cases hy)
    have e0:=(World.cell?_of_block (HB.out.block g hg) (a:=⟨g,o+i,none⟩)).trans (hc i y hy)
    have hst:=notIn_step (X:=X) hy
    have KW:=Lib.hid (scWithin_any X y A3 cap3 wr (HV3.out.below HB.out) (by omega))
    have hlen:(X++notIn X (Y.take i)).length≤2097152:=by
     have h3:=notIn_len X (Y.take i)
     have h4:(Y.take i).length≤Y.length:=by rw [List.length_take];omega
     rw [List.length_append];omega
    have HST:=Lib.hid hst
    have i0:(0:Int)≤(i:Int):=by omega
    have i1:(i:Int)<(Y.length:Int):=by omega
    clear hst hc hy hg
    generalize X.contains y=q at *
    cases q
    ·have HS2:=Lib.hid (show X++notIn X (Y.take (i+1))=(X++notIn X (Y.take i))++[y] by rw [HST.out,if_neg (by decide),List.append_assoc])
     clear HST
     generalize X++notIn X (Y.take i)=acc at *
     go_wp2_with (go_at_call 12;refine KW.out.mono ?_)
     rintro x w6 ⟨rfl,rfl⟩
     go_wp2_with (at_builtin;refine wpList_append_st _ rfl _ _ 26 rfl w4.heap.size 9 ti _ 16 Tryz.underlying26 hi0 hz0 hz1 hz2 rfl _ _ _ acc [y] rfl rfl (hrel.out.alloc _) (strW_lit wr y) ?c3 ?c4 ?c5 ?_)
     case c3=>simp only [List.length_cons,List.length_nil];unfold maxLen;omega
     case c4=>simp only [List.length_cons,List.length_nil];omega
     case c5=>rw [World.size_alloc];have:=HB.out.size;omega
     intro v7 w7 hown hgrow
     have hb7:=(HB.out.alloc HB.out.size (.cells #[.string ⟨y.toArray⟩] 9)).grown hgrow (by rw [World.size_alloc];have:=HB.out.size;omega) (fun k hk=>((hrel.out.lt k hk)).1)
     have HO7:=Lib.hid (show w7.ownsRow w4.heap.size 9 1 v7 (X++notIn X (Y.take (i+1))).length (strB (X++notIn X (Y.take (i+1)))) by rw [HS2.out,List.length_append];exact hown)
     have HB7:=Lib.hid hb7
     clear hown hgrow hb7
     go_wp2_with fail
     go_roundg (Y.length-(i+1))
     case measure=>omega
     case rel=>exact ⟨i+1,by go_num,by omega,Nat.le_refl _,HO7,HB7.out⟩
    ·have HS2:=Lib.hid (show X++notIn X (Y.take (i+1))=X++notIn X (Y.take i) by rw [HST.out];simp)
     clear HST
     go_wp2_with (go_at_call 12;refine KW.out.mono ?_)
     rintro x w6 ⟨rfl,rfl⟩
     go_wp2_with fail
     go_roundg (Y.length-(i+1))
     case measure=>omega
     case rel=>exact ⟨i+1,by go_num,by omega,Nat.le_refl _,Lib.hid (by rw [HS2.out];exact hrel.out),HB.out⟩
   ·have ho:=hrel.out
    rw [List.take_of_length_le (by omega),←HPF.out] at ho
    obtain ⟨A5,cap5,rfl,_,hv5⟩:=own_strW ho
    have KT:=Lib.hid (scTexts_any L L A2 A5 cap2 cap5 wr (HV2.out.below HB.out) hv5 (by omega))
    rw [show (L==L)=true by simp] at KT
    clear hrel ho hv5
    go_wp2_with (go_at_call 11;refine KT.out.mono ?_)
    rintro x w6 ⟨rfl,hb6⟩
    have B8:=Lib.hid (B6.out.trans ((HB.out.trans (hb6.mono HB.out.size)).mono B6.out.size))
    clear hb6
    go_wp2_with fail
    go_ret
    exact ⟨rfl,B8.out⟩
end Go.Proofs.YtmbeicndhigklaaGreatDoor
