/-
  The walk of the law ScopeBinds (chapter 17).
-/
import Derived.Test.YtmbeicndhigklaaGreatDoorASl
namespace Go.Proofs.YtmbeicndhigklaaGreatDoor
open Go.RowKit
def selfY:Ny:=.mk 1 [] []
def bindY (x:List UInt8) (t:Ny):Ny:=.mk 23 [] [selfY,.mk 28 x [],t]
def labelY (x:List UInt8) (t:Ny):Ny:=.mk 21 x [t]
def defY (x:List UInt8) (t:Ny):Ny:=.mk 26 x [selfY,t]
theorem use_self:useY selfY=[]:=use_leaf rfl (by decide) (by decide) (by decide)
theorem free_of {T t:Ny} {g:List UInt8} (h:mayY numE T=true) (ht:mayY numE t=true) (hu:useY T=notIn [g] (useY t)):freeY T=notIn [g] (freeY t):=by
 unfold freeY
 rw [h,ht,if_pos rfl,if_pos rfl,hu]
 exact addN_notIn [g] (useY t) []
theorem bind_use (x:List UInt8) (t:Ny):useY (bindY x t)=notIn [36::x] (useY t):=by
 have h:useY (.mk 28 x [])=[]:=use_leaf rfl (by show (28:Int)≠24;decide) (by show (28:Int)≠22;decide) (by show (28:Int)≠25;decide)
 unfold bindY
 rw [useY,useYs,useYs,useYs,useYs,h,use_self]
 show []++(notIn [] []++(notIn [] []++(notIn (vrY (.mk 28 x [])) (useY t)++[]))) = _
 rw [vrY,if_pos rfl,List.append_nil]
 rfl
theorem label_use (x:List UInt8) (t:Ny):useY (labelY x t)=notIn [42::x] (useY t):=by
 unfold labelY
 rw [useY,useYs_label]
 show []++notIn [42::x] ([t].flatMap useY) = _
 simp
theorem def_use (x:List UInt8) (t:Ny):useY (defY x t)=notIn [fnN x 0] (useY t):=by
 rw [use_def (defY x t) [] selfY t rfl rfl (fun p hp=>by cases hp),use_self]
 show notIn _ []++notIn [fnN x 0] (useY t) = _
 rfl
theorem YT.none0 {w:World} (t:Ny) (c:Nat) (h:t.kids=[]):YT w t none c:=by
 refine ⟨0,h,none,c,?_⟩
 rw [h]
 rfl
theorem notIn1_step {g:List UInt8} {Y:List (List UInt8)} {i:Nat} {y:List UInt8} (h:Y[i]?=some y):notIn [g] (Y.take (i+1))=notIn [g] (Y.take i)++if y=g then [] else [y]:=by
 rw [notIn_step h]
 congr 1
 by_cases e:y=g
 ·rw [if_pos e,if_pos (by simp [e])]
 ·rw [if_neg e,if_neg (by simp [e])]
set_option maxHeartbeats 8000000 in
set_option maxRecDepth 100000 in
theorem scopeBinds_x (t:Ny) (x:List UInt8) (A:Option Addr) (c:Nat) (w:World) (h0:YT w t A c) (hb0:blkY t≤1048576) (hx0:x.length≤1048576) (hT:Tabs w) (h10:Tab10 w) :
  Calls Tryz.prog 5 #[yAgg t (.slice A t.kids.length c),.string ⟨x.toArray⟩] w fun e w'=>e=.returned (.bool true)∧Below w.heap.size w w':=by
 have hTb:Tb w:=⟨hT,h10⟩
 have KS:=Lib.hid (fun W (hb:Below w.heap.size w W)=>scShown_any W (hTb.below hb (Nat.le_refl _)))
 obtain ⟨W0,hW0⟩:∃W0,W0=w.alloc (.cells (yCells t (.slice A t.kids.length c)).toArray TN):=⟨_,rfl⟩
 have P0:=Lib.hid (show YP W0 w.heap.size t A c by rw [hW0];exact YP.made h0)
 have B0:=Lib.hid (show Below w.heap.size w W0 by rw [hW0];exact (Below.refl _ w).alloc (Nat.le_refl _) _)
 have eW0:W0=w.alloc (.cells #[.int .i64 t.kind,.string ⟨t.text.toArray⟩,.slice A t.kids.length c] TN):=hW0
 have KF:=Lib.hid (fun (t:Ny) (hb:blkY t≤100000000) A c W (hbW:Below w.heap.size w W) (h:YT W t A c)=>scFree_any t hb A c W (hTb.below hbW (Nat.le_refl _)) h)
 have KM:=Lib.hid (fun (t:Ny) (hb:blkY t≤100000000) A c W (hbW:Below w.heap.size w W) (h:YT W t A c)=>shMay_any t (ys_mono (by unfold maxLen;omega) (blk_ys _ t hb).1) (blk_ys _ t hb).2 A c W (hTb.below hbW (Nat.le_refl _)) h)
 have HB0:=Lib.hid hb0
 have hxm:=hx0
 clear hT h10 hTb h0 hb0 hW0
 simp only [yAgg] at KF KM ⊢
 go_enter Tryz.func5,Tryz.ntmps5
 go_upto_region 1 with fail
 rw [←eW0]
 clear eW0
 go_wp2_with (go_at_call 8;with_reducible refine (KS.out _ B0.out).mono ?_)
 rintro e w1 ⟨rfl,hb⟩
 have B1:=Lib.hid (B0.out.trans (hb.mono B0.out.size))
 have P0:=Lib.hid (P0.out.below hb)
 clear hb B0
 obtain ⟨a0,a1,a2⟩:=P0.out.all
 go_wp2_with (go_at_call 9;with_reducible refine (KF.out t (by have:=HB0.out;omega) _ _ _ B1.out P0.out.kids).mono ?_)
 rintro e w2 ⟨v2,rfl,ho2,hb⟩
 have B2:=Lib.hid (B1.out.trans (hb.mono B1.out.size))
 have P0:=Lib.hid (P0.out.below hb)
 obtain ⟨A2,cap2,rfl,_,hv2⟩:=own_strW ho2
 have HV2:=Lib.hid hv2
 clear hb B1 a0 a1 a2 ho2 hv2
 obtain ⟨a0,a1,a2⟩:=P0.out.all
 obtain ⟨W3,hW3⟩:∃W,W=w2.alloc (.cells #[.int .i64 1,.string ⟨#[]⟩,.slice none 0 0] TN):=⟨_,rfl⟩
 have hb:=show Below w2.heap.size w2 W3 by rw [hW3];exact (Below.refl _ w2).alloc (Nat.le_refl _) _
 have PS:=Lib.hid (show YP W3 w2.heap.size selfY none 0 by rw [hW3];exact YP.made (YT.none0 selfY 0 rfl))
 have B3:=Lib.hid (B2.out.trans (hb.mono B2.out.size))
 have P0:=Lib.hid (P0.out.below hb)
 have HV2:=Lib.hid (HV2.out.below hb)
 clear hb B2
 go_upto_region 4 with fail
 rw [←hW3]
 clear hW3 a0 a1 a2
 obtain ⟨a0,a1,a2⟩:=P0.out.all
 obtain ⟨u0,u1,u2⟩:=PS.out.all
 have s0:_ = some (Value.int .i64 1):=u0
 have s1:_ = some (Value.string ⟨#[]⟩):=u1
 have s2:_ = some (Value.slice none 0 0):=u2
 clear u0 u1 u2
 obtain ⟨Wa4,hWa4⟩:∃W,W=W3.alloc (.cells #[.int .i64 1,.string ⟨#[]⟩,.slice none 0 0,.int .i64 28,.string ⟨x.toArray⟩,.slice none 0 0,.int .i64 t.kind,.string ⟨t.text.toArray⟩,.slice A t.kids.length c] TN):=⟨_,rfl⟩
 have hTa4:YT Wa4 (bindY x t) (some ⟨W3.heap.size,0,none⟩) 3:=by
  rw [hWa4]
  refine YT.new 23 [] [(selfY,none,0),(.mk 28 x [],none,0),(t,A,c)] (fun p hp=>?_) (by simp [maxLen])
  simp only [List.mem_cons,List.not_mem_nil,or_false] at hp
  rcases hp with rfl | rfl | rfl
  ·exact YT.none0 _ _ rfl
  ·exact YT.none0 _ _ rfl
  ·exact P0.out.kids
 have hba4:=show Below W3.heap.size W3 Wa4 by rw [hWa4];exact (Below.refl _ W3).alloc (Nat.le_refl _) _
 have hsz4:Wa4.heap.size=W3.heap.size+1:=by rw [hWa4,World.size_alloc]
 obtain ⟨W4,hW4⟩:∃W,W=Wa4.alloc (.cells #[.int .i64 23,.string ⟨#[]⟩,.slice (some ⟨W3.heap.size,0,none⟩) 3 3] TN):=⟨_,rfl⟩
 have hbb4:=show Below Wa4.heap.size Wa4 W4 by rw [hW4];exact (Below.refl _ Wa4).alloc (Nat.le_refl _) _
 have PT4:=Lib.hid (show YP W4 (W3.heap.size+1) (bindY x t) (some ⟨W3.heap.size,0,none⟩) 3 by rw [←hsz4,hW4];exact YP.made hTa4)
 have hb:=hba4.trans (hbb4.mono hba4.size)
 have B4:=Lib.hid (B3.out.trans (hb.mono B3.out.size))
 have P0:=Lib.hid (P0.out.below hb)
 have HV2:=Lib.hid (HV2.out.below hb)
 have PS:=Lib.hid (PS.out.below hb)
 clear hTa4 hba4 hbb4 hb B3
 go_upto_region 5 with fail
 rw [←hWa4,←hW4]
 clear hWa4 hW4 hsz4 a0 a1 a2 s0 s1 s2
 obtain ⟨a0,a1,a2⟩:=P0.out.all
 obtain ⟨Wa5,hWa5⟩:∃W,W=W4.alloc (.cells #[.int .i64 t.kind,.string ⟨t.text.toArray⟩,.slice A t.kids.length c] TN):=⟨_,rfl⟩
 have hTa5:YT Wa5 (labelY x t) (some ⟨W4.heap.size,0,none⟩) 1:=by
  rw [hWa5]
  refine YT.new 21 x [(t,A,c)] (fun p hp=>?_) (by simp [maxLen])
  simp only [List.mem_cons,List.not_mem_nil,or_false] at hp
  rcases hp with rfl
  ·exact P0.out.kids
 have hba5:=show Below W4.heap.size W4 Wa5 by rw [hWa5];exact (Below.refl _ W4).alloc (Nat.le_refl _) _
 have hsz5:Wa5.heap.size=W4.heap.size+1:=by rw [hWa5,World.size_alloc]
 obtain ⟨W5,hW5⟩:∃W,W=Wa5.alloc (.cells #[.int .i64 21,.string ⟨x.toArray⟩,.slice (some ⟨W4.heap.size,0,none⟩) 1 1] TN):=⟨_,rfl⟩
 have hbb5:=show Below Wa5.heap.size Wa5 W5 by rw [hW5];exact (Below.refl _ Wa5).alloc (Nat.le_refl _) _
 have PT5:=Lib.hid (show YP W5 (W4.heap.size+1) (labelY x t) (some ⟨W4.heap.size,0,none⟩) 1 by rw [←hsz5,hW5];exact YP.made hTa5)
 have hb:=hba5.trans (hbb5.mono hba5.size)
 have B5:=Lib.hid (B4.out.trans (hb.mono B4.out.size))
 have P0:=Lib.hid (P0.out.below hb)
 have HV2:=Lib.hid (HV2.out.below hb)
 have PS:=Lib.hid (PS.out.below hb)
 have PT4:=Lib.hid (PT4.out.below hb)
 clear hTa5 hba5 hbb5 hb B4
 go_upto_region 6 with fail
 rw [←hWa5,←hW5]
 clear hWa5 hW5 hsz5 a0 a1 a2
 obtain ⟨a0,a1,a2⟩:=P0.out.all
 obtain ⟨u0,u1,u2⟩:=PS.out.all
 have s0:_ = some (Value.int .i64 1):=u0
 have s1:_ = some (Value.string ⟨#[]⟩):=u1
 have s2:_ = some (Value.slice none 0 0):=u2
 clear u0 u1 u2
 obtain ⟨Wa6,hWa6⟩:∃W,W=W5.alloc (.cells #[.int .i64 1,.string ⟨#[]⟩,.slice none 0 0,.int .i64 t.kind,.string ⟨t.text.toArray⟩,.slice A t.kids.length c] TN):=⟨_,rfl⟩
 have hTa6:YT Wa6 (defY x t) (some ⟨W5.heap.size,0,none⟩) 2:=by
  rw [hWa6]
  refine YT.new 26 x [(selfY,none,0),(t,A,c)] (fun p hp=>?_) (by simp [maxLen])
  simp only [List.mem_cons,List.not_mem_nil,or_false] at hp
  rcases hp with rfl | rfl
  ·exact YT.none0 _ _ rfl
  ·exact P0.out.kids
 have hba6:=show Below W5.heap.size W5 Wa6 by rw [hWa6];exact (Below.refl _ W5).alloc (Nat.le_refl _) _
 have hsz6:Wa6.heap.size=W5.heap.size+1:=by rw [hWa6,World.size_alloc]
 obtain ⟨W6,hW6⟩:∃W,W=Wa6.alloc (.cells #[.int .i64 26,.string ⟨x.toArray⟩,.slice (some ⟨W5.heap.size,0,none⟩) 2 2] TN):=⟨_,rfl⟩
 have hbb6:=show Below Wa6.heap.size Wa6 W6 by rw [hW6];exact (Below.refl _ Wa6).alloc (Nat.le_refl _) _
 have PT6:=Lib.hid (show YP W6 (W5.heap.size+1) (defY x t) (some ⟨W5.heap.size,0,none⟩) 2 by rw [←hsz6,hW6];exact YP.made hTa6)
 have hb:=hba6.trans (hbb6.mono hba6.size)
 have B6:=Lib.hid (B5.out.trans (hb.mono B5.out.size))
 have P0:=Lib.hid (P0.out.below hb)
 have HV2:=Lib.hid (HV2.out.below hb)
 have PS:=Lib.hid (PS.out.below hb)
 have PT4:=Lib.hid (PT4.out.below hb)
 have PT5:=Lib.hid (PT5.out.below hb)
 clear hTa6 hba6 hbb6 hb B5
 go_upto_region 7 with fail
 rw [←hWa6,←hW6]
 clear hWa6 hW6 hsz6 a0 a1 a2 s0 s1 s2
 have hz4:blkY (bindY x t)≤100000000:=by
  have h1:=HB0.out
  rw [blkY_eq]
  show 0+1+blkYs [selfY,.mk 28 x [],t]≤_
  simp [blkYs,blkY,selfY]
  omega
 have KM4:=Lib.hid (fun W (hb:Below W6.heap.size W6 W)=>show Calls Tryz.prog 13 #[.agg #[.int .i64 23,.string ⟨#[]⟩,.slice (some ⟨W3.heap.size,0,none⟩) 3 3]] W (RetY (.bool (mayY numE (bindY x t))) fun w'=>Below W.heap.size W w') from KM.out (bindY x t) hz4 _ _ W (B6.out.trans (hb.mono B6.out.size)) (YX.below PT4.out.kids hb))
 have KF4:=Lib.hid (fun W (hb:Below W6.heap.size W6 W)=>show Calls Tryz.prog 9 #[.agg #[.int .i64 23,.string ⟨#[]⟩,.slice (some ⟨W3.heap.size,0,none⟩) 3 3]] W (FrR (mayY numE (bindY x t)) (freeY (bindY x t)) W) from KF.out (bindY x t) hz4 _ _ W (B6.out.trans (hb.mono B6.out.size)) (YX.below PT4.out.kids hb))
 have C4:=Lib.hid (fun W (hb:Below W6.heap.size W6 W)=>show W.cell? ⟨W3.heap.size+1,0,none⟩=some (.int .i64 23)∧W.cell? ⟨W3.heap.size+1,1,none⟩=some (.string ⟨#[]⟩)∧W.cell? ⟨W3.heap.size+1,2,none⟩=some (.slice (some ⟨W3.heap.size,0,none⟩) 3 3) from (PT4.out.below hb).all)
 have hz5:blkY (labelY x t)≤100000000:=by
  have h1:=HB0.out
  rw [blkY_eq]
  show x.length+1+blkYs [t]≤_
  simp [blkYs]
  omega
 have KM5:=Lib.hid (fun W (hb:Below W6.heap.size W6 W)=>show Calls Tryz.prog 13 #[.agg #[.int .i64 21,.string ⟨x.toArray⟩,.slice (some ⟨W4.heap.size,0,none⟩) 1 1]] W (RetY (.bool (mayY numE (labelY x t))) fun w'=>Below W.heap.size W w') from KM.out (labelY x t) hz5 _ _ W (B6.out.trans (hb.mono B6.out.size)) (YX.below PT5.out.kids hb))
 have KF5:=Lib.hid (fun W (hb:Below W6.heap.size W6 W)=>show Calls Tryz.prog 9 #[.agg #[.int .i64 21,.string ⟨x.toArray⟩,.slice (some ⟨W4.heap.size,0,none⟩) 1 1]] W (FrR (mayY numE (labelY x t)) (freeY (labelY x t)) W) from KF.out (labelY x t) hz5 _ _ W (B6.out.trans (hb.mono B6.out.size)) (YX.below PT5.out.kids hb))
 have C5:=Lib.hid (fun W (hb:Below W6.heap.size W6 W)=>show W.cell? ⟨W4.heap.size+1,0,none⟩=some (.int .i64 21)∧W.cell? ⟨W4.heap.size+1,1,none⟩=some (.string ⟨x.toArray⟩)∧W.cell? ⟨W4.heap.size+1,2,none⟩=some (.slice (some ⟨W4.heap.size,0,none⟩) 1 1) from (PT5.out.below hb).all)
 have hz6:blkY (defY x t)≤100000000:=by
  have h1:=HB0.out
  rw [blkY_eq]
  show x.length+1+blkYs [selfY,t]≤_
  simp [blkYs,blkY,selfY]
  omega
 have KM6:=Lib.hid (fun W (hb:Below W6.heap.size W6 W)=>show Calls Tryz.prog 13 #[.agg #[.int .i64 26,.string ⟨x.toArray⟩,.slice (some ⟨W5.heap.size,0,none⟩) 2 2]] W (RetY (.bool (mayY numE (defY x t))) fun w'=>Below W.heap.size W w') from KM.out (defY x t) hz6 _ _ W (B6.out.trans (hb.mono B6.out.size)) (YX.below PT6.out.kids hb))
 have KF6:=Lib.hid (fun W (hb:Below W6.heap.size W6 W)=>show Calls Tryz.prog 9 #[.agg #[.int .i64 26,.string ⟨x.toArray⟩,.slice (some ⟨W5.heap.size,0,none⟩) 2 2]] W (FrR (mayY numE (defY x t)) (freeY (defY x t)) W) from KF.out (defY x t) hz6 _ _ W (B6.out.trans (hb.mono B6.out.size)) (YX.below PT6.out.kids hb))
 have C6:=Lib.hid (fun W (hb:Below W6.heap.size W6 W)=>show W.cell? ⟨W5.heap.size+1,0,none⟩=some (.int .i64 26)∧W.cell? ⟨W5.heap.size+1,1,none⟩=some (.string ⟨x.toArray⟩)∧W.cell? ⟨W5.heap.size+1,2,none⟩=some (.slice (some ⟨W5.heap.size,0,none⟩) 2 2) from (PT6.out.below hb).all)
 clear PT4 PT5 PT6 PS P0 KM KF KS
 cases hmy:mayY numE t
 ·clear hmy
  go_wp2
  go_ret
  exact ⟨rfl,B6.out⟩
 have B7:=Lib.hid (Below.refl W6.heap.size W6)
 obtain ⟨a0,a1,a2⟩:=C4.out W6 B7.out
 cases h4:mayY numE (bindY x t)
 ·rw [h4] at KM4
  clear h4 hmy
  go_wp2_with (go_at_call 13;with_reducible refine (KM4.out _ B7.out).mono ?_)
  rintro e w7 ⟨rfl,hb7⟩
  go_wp2_with fail
  go_ret
  exact ⟨rfl,B6.out.trans (hb7.mono B6.out.size)⟩
 rw [h4,free_of h4 hmy (bind_use x t)] at KF4
 rw [h4] at KM4
 clear h4
 cases h5:mayY numE (labelY x t)
 ·rw [h5] at KM5
  clear h5 hmy
  go_wp2_with (go_at_call 13;with_reducible refine (KM4.out _ B7.out).mono ?_)
  rintro e w7 ⟨rfl,hb7⟩
  have B8:=Lib.hid (B7.out.trans (hb7.mono B7.out.size))
  clear hb7 a0 a1 a2
  obtain ⟨a0,a1,a2⟩:=C5.out w7 B8.out
  go_wp2_with (go_at_call 13;with_reducible refine (KM5.out _ B8.out).mono ?_)
  rintro e w8 ⟨rfl,hb8⟩
  go_wp2_with fail
  go_ret
  exact ⟨rfl,B6.out.trans ((B8.out.trans (hb8.mono B8.out.size)).mono B6.out.size)⟩
 rw [h5,free_of h5 hmy (label_use x t)] at KF5
 rw [h5] at KM5
 clear h5
 cases h6:mayY numE (defY x t)
 ·rw [h6] at KM6
  clear h6 hmy
  go_wp2_with (go_at_call 13;with_reducible refine (KM4.out _ B7.out).mono ?_)
  rintro e w7 ⟨rfl,hb7⟩
  have B8:=Lib.hid (B7.out.trans (hb7.mono B7.out.size))
  clear hb7 a0 a1 a2
  obtain ⟨a0,a1,a2⟩:=C5.out w7 B8.out
  go_wp2_with (go_at_call 13;with_reducible refine (KM5.out _ B8.out).mono ?_)
  rintro e w8 ⟨rfl,hb8⟩
  have B9:=Lib.hid (B8.out.trans (hb8.mono B8.out.size))
  clear hb8 a0 a1 a2
  obtain ⟨a0,a1,a2⟩:=C6.out w8 B9.out
  go_wp2_with (go_at_call 13;with_reducible refine (KM6.out _ B9.out).mono ?_)
  rintro e w9 ⟨rfl,hb9⟩
  go_wp2_with fail
  go_ret
  exact ⟨rfl,B6.out.trans ((B9.out.trans (hb9.mono B9.out.size)).mono B6.out.size)⟩
 rw [h6,free_of h6 hmy (def_use x t)] at KF6
 rw [h6] at KM6
 have hln:=free_len t
 have hb0':=HB0.out
 have hlt0:(freeY t).length≤1048576:=by omega
 clear h6 hmy hln hb0' hz4 hz5 hz6 HB0
 generalize freeY t=L at *
 obtain ⟨ti,hi0,hzz0,hzz1,hzz2⟩:=info_parts infoStr
 go_wp2_with (go_at_call 13;with_reducible refine (KM4.out _ B7.out).mono ?_)
 rintro e w7 ⟨rfl,hb7⟩
 have B8:=Lib.hid (B7.out.trans (hb7.mono B7.out.size))
 clear hb7 a0 a1 a2
 obtain ⟨a0,a1,a2⟩:=C5.out w7 B8.out
 go_wp2_with (go_at_call 13;with_reducible refine (KM5.out _ B8.out).mono ?_)
 rintro e w8 ⟨rfl,hb8⟩
 have B9:=Lib.hid (B8.out.trans (hb8.mono B8.out.size))
 clear hb8 a0 a1 a2
 obtain ⟨a0,a1,a2⟩:=C6.out w8 B9.out
 go_wp2_with (go_at_call 13;with_reducible refine (KM6.out _ B9.out).mono ?_)
 rintro e w9 ⟨rfl,hb9⟩
 have B10:=Lib.hid (B9.out.trans (hb9.mono B9.out.size))
 clear hb9 a0 a1 a2 B8 B9 B7 KM4 KM5 KM6
 go_wp2_with fail
 go_loopg [12] 4 (fun kx v12 wr=>∃k:Nat,v12=.int .i64 (k:Int)∧k≤3∧3-k≤kx∧Below W6.heap.size W6 wr)
 case atStart=>exact ⟨0,rfl,by omega,by omega,B10.out⟩
 case round=>
  obtain ⟨k,rfl,hk3,hkx,hb⟩:=hrel
  have HB:=Lib.hid hb
  clear hb B10
  by_cases hlt:k<3
  ·have z0:(k:Int)<3:=by omega
   have q1:¬9223372036854775807<1+x.length:=by omega
   have q2:¬9223372036854775807<x.length+2:=by omega
   have h3:k=0∨k=1∨k=2:=by omega
   rcases h3 with rfl | rfl | rfl
   case' inl=>
    obtain ⟨mm,hmm⟩:∃mm,mm+1=3-0:=⟨2-0,rfl⟩
    obtain ⟨a0,a1,a2⟩:=C4.out wr HB.out
    go_wp2_with (go_at_call 9;with_reducible refine (KF4.out _ HB.out).mono ?_)
    rintro e w13 ⟨v13,rfl,ho,hb⟩
    have B13:=Lib.hid (HB.out.trans (hb.mono HB.out.size))
    obtain ⟨A13,cap13,rfl,_,hv⟩:=own_strW ho
    have HV13:=Lib.hid hv
    clear ho hb hv a0 a1 a2
    go_upto_region 20 with fail
    rw [show (⟨#[36]⟩++⟨x.toArray⟩:ByteArray)=⟨(36::x).toArray⟩ from ByteArray.ext (by simp)]
    generalize 36::x=g at *
   case' inr.inl=>
    obtain ⟨mm,hmm⟩:∃mm,mm+1=3-1:=⟨2-1,rfl⟩
    obtain ⟨a0,a1,a2⟩:=C4.out wr HB.out
    go_wp2_with (go_at_call 9;with_reducible refine (KF4.out _ HB.out).mono ?_)
    rintro e w11 ⟨v13,rfl,ho,hb⟩
    have B11:=Lib.hid (HB.out.trans (hb.mono HB.out.size))
    obtain ⟨A13,cap13,rfl,_,hv⟩:=own_strW ho
    have HV13:=Lib.hid hv
    clear ho hb hv a0 a1 a2
    obtain ⟨a0,a1,a2⟩:=C5.out w11 B11.out
    go_wp2_with (go_at_call 9;with_reducible refine (KF5.out _ B11.out).mono ?_)
    rintro e w13 ⟨v13,rfl,ho,hb⟩
    have B13:=Lib.hid (B11.out.trans (hb.mono B11.out.size))
    obtain ⟨A13,cap13,rfl,_,hv⟩:=own_strW ho
    have HV13:=Lib.hid hv
    clear ho hb hv a0 a1 a2
    go_upto_region 20 with fail
    rw [show (⟨#[42]⟩++⟨x.toArray⟩:ByteArray)=⟨(42::x).toArray⟩ from ByteArray.ext (by simp)]
    generalize 42::x=g at *
   case' inr.inr=>
    obtain ⟨mm,hmm⟩:∃mm,mm+1=3-2:=⟨2-2,rfl⟩
    obtain ⟨a0,a1,a2⟩:=C4.out wr HB.out
    go_wp2_with (go_at_call 9;with_reducible refine (KF4.out _ HB.out).mono ?_)
    rintro e w11 ⟨v13,rfl,ho,hb⟩
    have B11:=Lib.hid (HB.out.trans (hb.mono HB.out.size))
    obtain ⟨A13,cap13,rfl,_,hv⟩:=own_strW ho
    have HV13:=Lib.hid hv
    clear ho hb hv a0 a1 a2
    obtain ⟨a0,a1,a2⟩:=C6.out w11 B11.out
    go_wp2_with (go_at_call 9;with_reducible refine (KF6.out _ B11.out).mono ?_)
    rintro e w13 ⟨v13,rfl,ho,hb⟩
    have B13:=Lib.hid (B11.out.trans (hb.mono B11.out.size))
    obtain ⟨A13,cap13,rfl,_,hv⟩:=own_strW ho
    have HV13:=Lib.hid hv
    clear ho hb hv a0 a1 a2
    go_upto_region 20 with fail
    rw [show (⟨x.toArray⟩++⟨#[47,48]⟩:ByteArray)=⟨(fnN x 0).toArray⟩ from ByteArray.ext (by unfold fnN;rw [dd0];simp)]
    generalize fnN x 0=g at *
   all_goals
    clear KF4 KF5 KF6 C4 C5 C6 HB
    have hM:(notIn [g] L).length≤1048576:=by have:=notIn_len [g] L;omega
    go_wp2_with fail
    go_loopg [16,17] (L.length+1) (fun kx v16 v17 wr=>∃i:Nat,v17=.int .i64 (i:Int)∧i≤L.length∧L.length-i≤kx∧Hid (wr.ownsRow w13.heap.size 9 1 v16 (notIn [g] (L.take i)).length (strB (notIn [g] (L.take i))))∧Below w13.heap.size w13 wr)
    case atStart=>exact ⟨0,rfl,Nat.zero_le _,by omega,Lib.hid ⟨rfl,.inl ⟨rfl,rfl⟩⟩,Below.refl _ _⟩
    case round=>
     obtain ⟨i,rfl,hi,hik,hrel,hb⟩:=hrel
     have HBI:=Lib.hid hb
     have HBR:=Lib.hid (B13.out.trans (hb.mono B13.out.size))
     clear hb
     by_cases hlt:i<L.length
     ·obtain ⟨y,hy⟩:∃y,L[i]?=some y:=⟨_,List.getElem?_eq_getElem hlt⟩
      obtain ⟨gg,o,rfl,hg,hc⟩:=HV2.out.2.2 (fun e=>by rw [e] at hy;cases hy)
      have e0:=(World.cell?_of_block (HBR.out.block gg hg) (a:=⟨gg,o+i,none⟩)).trans (hc i y hy)
      have HST:=Lib.hid (notIn1_step (g:=g) hy)
      have i0:(0:Int)≤(i:Int):=by omega
      have i1:(i:Int)<(L.length:Int):=by omega
      clear hc hy hg
      by_cases hyg:y=g
      ·have z1:(y==g)=true:=beq_iff_eq.2 hyg
       have HS2:=Lib.hid (show notIn [g] (L.take (i+1))=notIn [g] (L.take i) by rw [HST.out,if_pos hyg,List.append_nil])
       clear HST hyg
       go_wp2_with fail
       go_roundg (L.length-(i+1))
       case measure=>omega
       case rel=>exact ⟨i+1,by go_num,by omega,Nat.le_refl _,Lib.hid (by rw [HS2.out];exact hrel.out),HBI.out⟩
      ·have z1:(y==g)=false:=beq_eq_false_iff_ne.2 hyg
       have HS2:=Lib.hid (show notIn [g] (L.take (i+1))=notIn [g] (L.take i)++[y] by rw [HST.out,if_neg hyg])
       have hlen:(notIn [g] (L.take i)).length≤1048576:=by
        have h3:=notIn_len [g] (L.take i)
        have h4:(L.take i).length≤L.length:=by rw [List.length_take];omega
        omega
       clear HST hyg
       generalize notIn [g] (L.take i)=acc at *
       go_wp2_with (at_builtin;refine wpList_append_st _ rfl _ _ 26 rfl w13.heap.size 9 ti _ 16 Tryz.underlying26 hi0 hzz0 hzz1 hzz2 rfl _ _ _ acc [y] rfl rfl (hrel.out.alloc _) (strW_lit _ y) ?c3 ?c4 ?c5 ?_)
       case c3=>simp only [List.length_cons,List.length_nil];unfold maxLen;omega
       case c4=>simp only [List.length_cons,List.length_nil];omega
       case c5=>rw [World.size_alloc];have:=HBI.out.size;omega
       intro v20 w20 hown hgrow
       have hb7:=(HBI.out.alloc HBI.out.size (.cells #[.string ⟨y.toArray⟩] 9)).grown hgrow (by rw [World.size_alloc];have:=HBI.out.size;omega) (fun k hk=>((hrel.out.lt k hk)).1)
       have HO7:=Lib.hid (show w20.ownsRow w13.heap.size 9 1 v20 (notIn [g] (L.take (i+1))).length (strB (notIn [g] (L.take (i+1)))) by rw [HS2.out,List.length_append];exact hown)
       have HB7:=Lib.hid hb7
       clear hown hgrow hb7
       go_wp2_with fail
       go_roundg (L.length-(i+1))
       case measure=>omega
       case rel=>exact ⟨i+1,by go_num,by omega,Nat.le_refl _,HO7,HB7.out⟩
     ·have ho:=hrel.out
      rw [List.take_of_length_le (by omega)] at ho
      obtain ⟨A5,cap5,rfl,_,hv5⟩:=own_strW ho
      have KT:=Lib.hid (scTexts_any (notIn [g] L) (notIn [g] L) A13 A5 cap13 cap5 _ (HV13.out.below HBI.out) hv5 (by omega))
      rw [show (notIn [g] L==notIn [g] L)=true by simp] at KT
      clear hrel ho hv5
      generalize notIn [g] L=M at *
      go_wp2_with (go_at_call 11;refine KT.out.mono ?_)
      rintro e w21 ⟨rfl,hb6⟩
      have B8:=Lib.hid (HBR.out.trans (hb6.mono HBR.out.size))
      clear hb6
      go_wp2_with fail
      go_roundg mm
      case measure=>omega
      case rel=>first | exact ⟨1,by go_num,by omega,by omega,B8.out⟩ | exact ⟨2,by go_num,by omega,by omega,B8.out⟩ | exact ⟨3,by go_num,by omega,by omega,B8.out⟩
  ·have z0:¬(k:Int)<3:=by omega
   go_wp2_with fail
   go_ret
   exact ⟨rfl,B6.out.trans (HB.out.mono B6.out.size)⟩
theorem scopeBinds_walk (t:Ny) (s:ByteArray) (A:Option Addr) (c:Nat) (w:World) (h0:YT w t A c) (hb0:blkY t≤1048576) (hx0:s.size≤1048576) (hT:Tabs w) (h10:Tab10 w) :
  Calls Tryz.prog 5 #[yAgg t (.slice A t.kids.length c),.string s] w fun e w'=>e=.returned (.bool true)∧Below w.heap.size w w':=by
 have h:=scopeBinds_x t s.data.toList A c w h0 hb0 (by rw [str_len];exact hx0) hT h10
 rwa [str_back] at h
end Go.Proofs.YtmbeicndhigklaaGreatDoor
