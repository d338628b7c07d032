/-
The walks of dec's noughts, plain, head, fits, Parse (chapter 2, as chapter 15 asks it).
-/
import Derived.Test.YtmbeicndhigklaaGreatDoorPDecB
import Derived.Test.YtmbeicndhigklaaGreatDoorPNum4
namespace Go.Proofs.YtmbeicndhigklaaGreatDoor
open Lib (hid)
open Go.RowKit
theorem B9:2≤1000000000:=by omega
set_option exponentiation.threshold 2000 in
theorem digs_short {N:Nat} (h:N<10 ^ 1000):(digs 1000000000 N).length≤1000:=by
 refine (digs_len 1000000000 B9 N 1000).1 (Nat.lt_of_lt_of_le h ?_)
 exact Nat.pow_le_pow_left (by omega) 1000
theorem digs10_short {N:Nat} (h:N<10 ^ 1000):(digs 10 N).length≤1000:=(digs_len 10 (by omega) N 1000).1 h
theorem takeWhile_le (p:Nat→Bool):∀l:List Nat,(l.takeWhile p).length≤l.length
 | []=>Nat.le_refl _
 | a::r=>by
  rw [List.takeWhile_cons]
  split
  ·have:=takeWhile_le p r;simp;omega
  ·simp
theorem zeros_le (N:Nat):zerosN N≤(digs 10 N).length:=takeWhile_le _ _
theorem noughts_txt {N:Nat} (h:N≠0):(Lib.trimRightB (strD (txt N)) 48).length=(strD (txt N)).length-zerosN N:=by
 have e:txt N=(digs 10 N).reverse:=by unfold txt;rw [if_neg h]
 have hlt:∀x∈digs 10 N,x<10:=digs_lt 10 (by omega) N
 have key:∀l:List Nat,(∀x∈l,x<10)→((strD l).dropWhile (·==48)).length=l.length-(l.takeWhile (·==0)).length:=by
  intro l
  induction l with
  | nil=>intro _;rfl
  | cons a r ih=>
   intro hl
   have ha:=hl a (by simp)
   have ih:=ih (fun x hx=>hl x (by simp [hx]))
   have e1:strD (a::r)=UInt8.ofNat (48+a)::strD r:=rfl
   rw [e1,List.dropWhile_cons,List.takeWhile_cons]
   by_cases h0:a=0
   ·subst h0
    rw [if_pos (by decide),if_pos (by decide),ih]
    simp
   ·have hne:(UInt8.ofNat (48+a)==48)=false:=by
     rw [beq_eq_false_iff_ne]
     intro he
     have:=congrArg UInt8.toNat he
     rw [UInt8.toNat_ofNat_of_lt' (by show 48+a<256;omega)] at this
     have h48:(48:UInt8).toNat=48:=rfl
     omega
    rw [if_neg (by rw [hne];decide),if_neg (by simpa using h0)]
    simp [strD]
 have er:(strD (txt N)).reverse=strD (digs 10 N):=by rw [e];unfold strD;rw [List.map_reverse,List.reverse_reverse]
 unfold Lib.trimRightB
 rw [List.length_reverse,er,key _ hlt]
 have:(strD (txt N)).length=(digs 10 N).length:=by rw [strD_len,e,List.length_reverse]
 rw [this];rfl
theorem digs_cut (N:Nat):(digs 10 (N / 10 ^ zerosN N)).length=(digs 10 N).length-zerosN N:=by
 have:=digs_drop 10 (by omega) N (zerosN N)
 rw [←this,List.length_drop]
set_option maxHeartbeats 1000000 in
set_option maxRecDepth 100000 in
theorem decNoughts_any (x:List UInt8) (z:Nat) (hz:(Lib.trimRightB x 48).length=x.length-z) (hzl:z≤x.length) (hl:x.length≤1000000) (W:World) :
  Calls Tryz.prog 138 #[.string ⟨x.toArray⟩] W (RetY (.int .i64 (z:Int)) fun w'=>w'=W):=by
 have k1:=fun W=>RetY.of (Tryz.strings_TrimRight_one ⟨x.toArray⟩ 48 (by decide) W (by rw [ba_len];omega))
 have e0:(⟨x.toArray⟩:ByteArray).data.toList=x:=rfl
 rw [e0] at k1
 obtain ⟨y,hy⟩:∃y,y=Lib.trimRightB x 48:=⟨_,rfl⟩
 rw [←hy] at k1 hz
 have K1:=hid k1
 have HZ:=hid hz
 clear k1 hz hy e0
 have w1:wrap64 ((x.length:Int)-(y.length:Int))=(z:Int):=by have:=HZ.out;unfold wrap64;omega
 have w2:IntKind.i64.wrap ((x.length:Int)-(y.length:Int))=(z:Int):=by have:=HZ.out;rw [IntKind.wrap_i64];omega
 go_enter Tryz.func138,Tryz.ntmps138
 go_wp2_with (go_at_call 165;refine (K1.out _).mono ?_)
 rintro e w1 ⟨rfl,hw⟩
 subst hw
 go_wp2
 go_ret
 exact ⟨rfl,rfl⟩
set_option maxHeartbeats 2000000 in
set_option maxRecDepth 100000 in
theorem decHead_any (ng:Bool) (A:Option Addr) (n c:Nat) (ex:Int) (N:Nat) (W:World) (hR:RdN .u32 W A n (digs 1000000000 N)) (hN:N<10 ^ 1000) (he:-3000000≤ex∧ex≤3000000) (ht:Tab10 W) :
  Calls Tryz.prog 141 #[.agg #[.bool ng,.slice A n c,.int .i64 ex]] W (RetY (.int .i64 (ex+((digs 10 N).length:Int)-1)) fun w'=>Below W.heap.size W w'):=by
 have hn:=hR.1
 have hsh:=digs_short hN
 have hs10:=digs10_short hN
 have k1:=fun (V:World) (hb:Below W.heap.size W V)=>RetY.of (digits_any A n c (digs 1000000000 N) V (hR.below hb) (by omega) (fun x hx=>Nat.lt_trans (digs_lt 1000000000 B9 N x hx) (by omega)) (ht.below hb))
 rw [val_digs 1000000000 B9 N] at k1
 generalize (digs 10 N).length=k at *
 have K1:=hid k1
 clear k1 hR ht
 obtain ⟨W1,hW1⟩:∃W1,W1=W.alloc (.cells #[.bool ng,.slice A n c,.int .i64 ex] 93):=⟨_,rfl⟩
 have hh:W1.heap[W.heap.size]?=some (.cells #[.bool ng,.slice A n c,.int .i64 ex] 93 (0,0)):=by rw [hW1];exact Go.heap_alloc_new W _
 have hb1:Below W.heap.size W W1:=by rw [hW1];exact (Below.refl _ W).alloc (Nat.le_refl _) _
 have c1:W1.cell? ⟨W.heap.size,1,none⟩=some (.slice A n c):=by rw [Lib.cell_of_heap hh];rfl
 have c2:W1.cell? ⟨W.heap.size,2,none⟩=some (.int .i64 ex):=by rw [Lib.cell_of_heap hh];rfl
 have HB1:=hid hb1
 clear hh hb1
 go_enter Tryz.func141,Tryz.ntmps141
 go_upto_region 1 with fail
 rw [←hW1]
 clear hW1
 have d1:W1.drew.cell? ⟨W.heap.size,1,none⟩=some (.slice A n c):=c1
 have d2:W1.drew.cell? ⟨W.heap.size,2,none⟩=some (.int .i64 ex):=c2
 have HBD:=hid (show Below W.heap.size W W1.drew from HB1.out.drew)
 have hlt:W.heap.size<W1.drew.heap.size:=World.block_lt_of_cell? _ _ d1
 go_region_held3 (fun V=>V.cell? ⟨W.heap.size,1,none⟩=some (.slice A n c)∧V.cell? ⟨W.heap.size,2,none⟩=some (.int .i64 ex))
  (first | exact ⟨d1,d2⟩ | exact ⟨y1,y2⟩ | fail)
  (first
   | (go_at_call 142;(with_reducible refine (K1.out _ HBD.out).mono ?_);rintro e V2 ⟨rfl,hb2⟩;have y1:=(hb2.cell (p:=⟨W.heap.size,1,none⟩) hlt).trans d1;have y2:=(hb2.cell (p:=⟨W.heap.size,2,none⟩) hlt).trans d2;have HB2:=hid (HBD.out.trans (hb2.mono HBD.out.size)))
   | fail)
 have w1:IntKind.i64.wrap (ex+(k:Int))=ex+(k:Int):=by rw [IntKind.wrap_i64];omega
 have w2:IntKind.i64.wrap (ex+(k:Int)-1)=ex+(k:Int)-1:=by rw [IntKind.wrap_i64];omega
 rw [w1,w2]
 go_wp2
 go_ret
 exact ⟨rfl,HB2.out⟩
def fitB (N:Nat) (ex:Int):Bool:=decide (N=0)||(decide ((digs 10 N).length≤400)&&(decide (-10000≤ex+((digs 10 N).length:Int)-1)&&decide (ex+((digs 10 N).length:Int)-1≤10000)))
set_option maxHeartbeats 2000000 in
set_option maxRecDepth 100000 in
theorem decFits_any (ng:Bool) (A:Option Addr) (c:Nat) (ex:Int) (N:Nat) (W:World) (hR:RdN .u32 W A (digs 1000000000 N).length (digs 1000000000 N)) (hN:N<10 ^ 1000) (he:-3000000≤ex∧ex≤3000000) (ht:Tab10 W) :
  Calls Tryz.prog 107 #[.agg #[.bool ng,.slice A (digs 1000000000 N).length c,.int .i64 ex]] W (RetY (.bool (fitB N ex)) fun w'=>Below W.heap.size W w'):=by
 have hsh:=digs_short hN
 have hs10:=digs10_short hN
 have hz:(digs 1000000000 N).length=0↔N=0:=by rw [List.length_eq_zero_iff];exact digs_nil 1000000000 N B9
 have k1:=fun (V:World) (hb:Below W.heap.size W V)=>RetY.of (digits_any A (digs 1000000000 N).length c (digs 1000000000 N) V (hR.below hb) (by omega) (fun x hx=>Nat.lt_trans (digs_lt 1000000000 B9 N x hx) (by omega)) (ht.below hb))
 rw [val_digs 1000000000 B9 N] at k1
 have k2:=fun (V:World) (hb:Below W.heap.size W V)=>decHead_any ng A (digs 1000000000 N).length c ex N V (hR.below hb) hN he (ht.below hb)
 have hfb:fitB N ex=(decide (N=0)||(decide ((digs 10 N).length≤400)&&(decide (-10000≤ex+((digs 10 N).length:Int)-1)&&decide (ex+((digs 10 N).length:Int)-1≤10000)))):=rfl
 rw [hfb]
 clear hfb
 generalize (digs 10 N).length=k at *
 generalize (digs 1000000000 N).length=n at *
 obtain ⟨W1,hW1⟩:∃W1,W1=W.alloc (.cells #[.bool ng,.slice A n c,.int .i64 ex] 93):=⟨_,rfl⟩
 have hh:W1.heap[W.heap.size]?=some (.cells #[.bool ng,.slice A n c,.int .i64 ex] 93 (0,0)):=by rw [hW1];exact Go.heap_alloc_new W _
 have hb1:Below W.heap.size W W1:=by rw [hW1];exact (Below.refl _ W).alloc (Nat.le_refl _) _
 have hlt:W.heap.size<W1.heap.size:=(Array.getElem?_eq_some_iff.1 hh).1
 have c0:W1.cell? ⟨W.heap.size,0,none⟩=some (.bool ng):=by rw [Lib.cell_of_heap hh];rfl
 have c1:W1.cell? ⟨W.heap.size,1,none⟩=some (.slice A n c):=by rw [Lib.cell_of_heap hh];rfl
 have c2:W1.cell? ⟨W.heap.size,2,none⟩=some (.int .i64 ex):=by rw [Lib.cell_of_heap hh];rfl
 have HB1:=hid hb1
 have K1:=hid k1
 have K2:=hid k2
 clear hh hb1 k1 k2 hR ht
 by_cases h0:N=0
 ·have hn0:n=0:=hz.2 h0
  rw [decide_eq_true h0,Bool.true_or]
  have z1:((n:Int)==0)=true:=by rw [hn0];rfl
  clear hz hn0
  go_enter Tryz.func107,Tryz.ntmps107
  go_upto_region 1 with fail
  rw [←hW1]
  clear hW1
  go_wp2
  go_ret
  exact ⟨rfl,HB1.out⟩
 ·have hn0:n≠0:=fun e=>h0 (hz.1 e)
  rw [decide_eq_false h0,Bool.false_or]
  have z1:((n:Int)==0)=false:=beq_false_of_ne (by omega)
  clear hz h0
  obtain ⟨hd,hhd⟩:∃h:Int,h=ex+(k:Int)-1:=⟨_,rfl⟩
  rw [←hhd] at K2 ⊢
  clear hhd
  go_enter Tryz.func107,Tryz.ntmps107
  go_upto_region 1 with fail
  rw [←hW1]
  clear hW1
  go_wp2_with (go_at_call 141;refine (K2.out _ HB1.out).mono ?_)
  rintro e V2 ⟨rfl,hb2⟩
  have y1:=(hb2.cell (p:=⟨W.heap.size,1,none⟩) hlt).trans c1
  have HB2:=hid (HB1.out.trans (hb2.mono HB1.out.size))
  clear c0 c1 c2 hb2
  by_cases h4:k≤400
  ·have z2:decide ((k:Int)≤400)=true:=decide_eq_true (by omega)
   by_cases h1:-10000≤hd
   ·have z3:decide (-10000≤hd)=true:=decide_eq_true h1
    by_cases h2:hd≤10000
    ·have z4:decide (hd≤10000)=true:=decide_eq_true h2
     have HR:=hid (show true=(decide (k≤400)&&(decide (-10000≤hd)&&decide (hd≤10000))) by simp [h4,h1,h2])
     clear h4 h1 h2
     go_wp2_with (go_at_call 142;refine (K1.out _ HB2.out).mono ?_)
     rintro e V3 ⟨rfl,hb3⟩
     go_wp2
     go_ret
     exact ⟨by rw [←HR.out];rfl,HB2.out.trans (hb3.mono HB2.out.size)⟩
    ·have z4:decide (hd≤10000)=false:=decide_eq_false h2
     have HR:=hid (show false=(decide (k≤400)&&(decide (-10000≤hd)&&decide (hd≤10000))) by simp [h2])
     clear h4 h1 h2
     go_wp2_with (go_at_call 142;refine (K1.out _ HB2.out).mono ?_)
     rintro e V3 ⟨rfl,hb3⟩
     go_wp2
     go_ret
     exact ⟨by rw [←HR.out];rfl,HB2.out.trans (hb3.mono HB2.out.size)⟩
   ·have z3:decide (-10000≤hd)=false:=decide_eq_false h1
    have HR:=hid (show false=(decide (k≤400)&&(decide (-10000≤hd)&&decide (hd≤10000))) by simp [h1])
    clear h4 h1
    go_wp2_with (go_at_call 142;refine (K1.out _ HB2.out).mono ?_)
    rintro e V3 ⟨rfl,hb3⟩
    go_wp2
    go_ret
    exact ⟨by rw [←HR.out];rfl,HB2.out.trans (hb3.mono HB2.out.size)⟩
  ·have z2:decide ((k:Int)≤400)=false:=decide_eq_false (by omega)
   have HR:=hid (show false=(decide (k≤400)&&(decide (-10000≤hd)&&decide (hd≤10000))) by simp [h4])
   clear h4
   go_wp2_with (go_at_call 142;refine (K1.out _ HB2.out).mono ?_)
   rintro e V3 ⟨rfl,hb3⟩
   go_wp2
   go_ret
   exact ⟨by rw [←HR.out];rfl,HB2.out.trans (hb3.mono HB2.out.size)⟩
abbrev TDec:TypeId:=93
theorem sizeD:(Tryz.prog.info? TDec).map (·.size)=some 3:=by kernel_rfl
theorem underD:∃d,Tryz.prog.underlying TDec=some d∧d.isRow=true:=⟨_,Tryz.underlying93,rfl⟩
theorem ret_d {fn:Func} {k:Nat} (hr:fn.results=#[.cell k TDec]) {a:Act} {W:World} {r:Nat} {cs:List Value} {z:Nat×Nat} (hh:W.heap[r]?=some (.cells cs.toArray TDec z)) (h3:cs.length=3)
  (ht:a.tmps.getD k undef=.pointer (some ⟨r,0,none⟩)) (hd:a.defers=[]) {R:Ending→World→Prop} (hR:R (.returned (.agg cs.toArray)) W):bodyPost Tryz.prog fn R .ret a W:=by
 have ht':a.tmps[k]?.getD undef=.pointer (some ⟨r,0,none⟩):=by simpa using ht
 refine bodyPost_ret (v:=.agg cs.toArray) ?_ hd hR
 obtain ⟨d,hd,hrow⟩:=underD
 have:=run_loadVar_mid W r 0 TDec cs d (range_of hh) hd hrow (by rw [sizeD,h3])
 simp [results,hr,ht',asAddr,this]
theorem set3 {W:World} {b:Nat} {x y z:Value} {T:TypeId} (h:W.heap[b]?=some (.cells #[x,y,z] T (0,0))) (x' y' z':Value):(((W.setCell ⟨b,0,none⟩ x').setCell ⟨b,1,none⟩ y').setCell ⟨b,2,none⟩ z').heap[b]?=some (.cells [x',y',z'].toArray T (0,0)):=rheap_set (k:=2) (rheap_set (k:=1) (rheap_set (k:=0) h x') y') z'
theorem below3 {B b:Nat} {w W:World} (h:Below B w W) (hb:B≤b) (x' y' z':Value):Below B w (((W.setCell ⟨b,0,none⟩ x').setCell ⟨b,1,none⟩ y').setCell ⟨b,2,none⟩ z'):=((h.setCell (p:=⟨b,0,none⟩) hb _).setCell (p:=⟨b,1,none⟩) hb _).setCell (p:=⟨b,2,none⟩) hb _
theorem dec_cells {V:World} {b:Nat} {x y z:Value} {T:TypeId} (h:V.heap[b]?=some (.cells #[x,y,z] T (0,0))):(V.cell? ⟨b,0,none⟩=some x∧V.cell? ⟨b,1,none⟩=some y∧V.cell? ⟨b,2,none⟩=some z)∧V.frozen? ⟨b,0,none⟩=false∧V.frozen? ⟨b,1,none⟩=false∧V.frozen? ⟨b,2,none⟩=false:=by
 refine ⟨⟨?_,?_,?_⟩,Lib.frozen_of_heap h 0,Lib.frozen_of_heap h 1,Lib.frozen_of_heap h 2⟩ <;> (rw [Lib.cell_of_heap h];rfl)
theorem RdN.far {k:IntKind} {w:World} {A:Option Addr} {n:Nat} {l:List Nat} (h:RdN k w A n l) {b i:Nat} {v:Value} (hb:∀a,A=some a→a.block≠b):RdN k (w.setCell ⟨b,i,none⟩ v) A n l:=by
 refine ⟨h.1,fun hn=>?_⟩
 obtain ⟨q,off,e,hlt,hc⟩:=h.2 hn
 have hq:b≠q:=fun e2=>hb _ e e2.symm
 exact ⟨q,off,e,by simp only [World.setCell,Array.size_modify];exact hlt,fun j hj=>cell_far (p:=⟨b,i,none⟩) (a:=⟨q,off+j,none⟩) hq (hc j hj)⟩
def PlainR (N:Nat) (ex:Int) (w:World) (e:Ending) (w':World):Prop:=
 ∃ng A c ex',e=.returned (.agg #[.bool ng,.slice A (digs 1000000000 (N / 10 ^ zerosN N)).length c,.int .i64 ex'])∧RdN .u32 w' A (digs 1000000000 (N / 10 ^ zerosN N)).length (digs 1000000000 (N / 10 ^ zerosN N))∧(N=0∧ex'=0∨N≠0∧ex'=ex+(zerosN N:Int))∧Below w.heap.size w w'
set_option maxHeartbeats 2000000 in
set_option maxRecDepth 100000 in
theorem decPlain_any (ng:Bool) (A:Option Addr) (c:Nat) (ex:Int) (N:Nat) (W:World) (hR:RdN .u32 W A (digs 1000000000 N).length (digs 1000000000 N)) (hN:N<10 ^ 1000) (he:-2000000≤ex∧ex≤2000000) (ht:Tab10 W) :
  Calls Tryz.prog 106 #[.bool ng,.slice A (digs 1000000000 N).length c,.int .i64 ex] W (PlainR N ex W):=by
 have hsh:=digs_short hN
 have hs10:=digs10_short hN
 have hzl:=zeros_le N
 have hlt9:∀x∈digs 1000000000 N,x<4294967296:=fun x hx=>Nat.lt_trans (digs_lt 1000000000 B9 N x hx) (by omega)
 have K1:=hid (fun (V:World) (hb:Below W.heap.size W V)=>norm_any A (digs 1000000000 N).length c (digs 1000000000 N) V (hR.below hb) (by omega) hlt9)
 rw [val_digs 1000000000 B9 N] at K1
 obtain ⟨W1,hW1⟩:∃W1,W1=W.alloc (.cells #[.bool false,.slice none 0 0,.int .i64 0] 93):=⟨_,rfl⟩
 have hh:W1.heap[W.heap.size]?=some (.cells #[.bool false,.slice none 0 0,.int .i64 0] 93 (0,0)):=by rw [hW1];exact Go.heap_alloc_new W _
 have hb1:Below W.heap.size W W1:=by rw [hW1];exact (Below.refl _ W).alloc (Nat.le_refl _) _
 have HB1:=hid hb1
 have HH1:=hid hh
 have HT:=hid ht
 clear hh hb1 hR ht
 have hlt:W.heap.size<W1.heap.size:=(Array.getElem?_eq_some_iff.1 HH1.out).1
 by_cases h0:N=0
 ·subst h0
  have e0:digs 1000000000 0=[]:=digs_zero _
  have e1:digs 1000000000 (0 / 10 ^ zerosN 0)=[]:=by rw [Nat.zero_div];exact digs_zero _
  unfold PlainR
  rw [e1]
  rw [e0] at K1 ⊢
  go_enter Tryz.func106,Tryz.ntmps106
  go_upto_region 1 with fail
  rw [←hW1]
  clear hW1
  go_wp2_with (go_at_call 137;refine (K1.out _ HB1.out).mono ?_)
  rintro e V2 ⟨v,rfl,hown,hb2⟩
  rw [e0] at hown
  obtain ⟨B2,c2,rfl,_,_,_⟩:=hown.rd
  have hh2:=(hb2.block _ hlt).trans HH1.out
  obtain ⟨⟨d0,d1,d2⟩,f0,f1,f2⟩:=dec_cells hh2
  have HH2:=hid hh2
  have HB2:=hid (HB1.out.trans (hb2.mono HB1.out.size))
  clear hb2 hh2 hown
  go_wp2
  exact ret_d Tryz.results106 (set3 HH2.out (.bool false) (.slice none 0 0) (.int .i64 0)) rfl (by simp) rfl ⟨_,_,_,_,rfl,RdN.none0 rfl rfl,.inl ⟨trivial,rfl⟩,below3 HB2.out (Nat.le_refl _) _ _ _⟩
 ·have hne:digs 1000000000 N≠[]:=fun e=>h0 ((digs_nil 1000000000 N B9).1 e)
  have htl:(strD (txt N)).length=(digs 10 N).length:=by rw [strD_len];unfold txt;rw [if_neg h0,List.length_reverse]
  have KN:=hid (fun V=>decNoughts_any (strD (txt N)) (zerosN N) (noughts_txt h0) (by omega) (by omega) V)
  have H0:=hid h0
  obtain ⟨z,hz⟩:∃z,z=zerosN N:=⟨_,rfl⟩
  unfold PlainR
  rw [←hz] at KN hzl ⊢
  have KTX:=fun (A:Option Addr) (c:Nat) (V:World) (h:RdN .u32 V A (digs 1000000000 N).length (digs 1000000000 N)) (hb:Below W.heap.size W V)=>RetY.of (text_any A (digs 1000000000 N).length c (digs 1000000000 N) V h (by omega) hlt9 (HT.out.below hb))
  have KCT:=fun (A:Option Addr) (c:Nat) (V:World) (h:RdN .u32 V A (digs 1000000000 N).length (digs 1000000000 N))=>cut_any A (digs 1000000000 N).length c (digs 1000000000 N) z V h (by omega) hlt9 (by omega)
  rw [val_digs 1000000000 B9 N] at KTX KCT
  generalize strD (txt N)=tx at KN htl KTX
  have HLN:=hid hsh
  have hnz:(digs 1000000000 N).length≠0:=fun e=>hne (List.length_eq_zero_iff.1 e)
  generalize hD:digs 1000000000 N=D at *
  generalize hE:digs 1000000000 (N / 10 ^ z)=E at *
  have KX:=hid KTX
  have KC:=hid KCT
  have z1:((D.length:Int)==0)=false:=beq_false_of_ne (by omega)
  have w1:IntKind.i64.wrap (ex+(z:Int))=ex+(z:Int):=by rw [IntKind.wrap_i64];omega
  have w2:wrap64 (ex+(z:Int))=ex+(z:Int):=by unfold wrap64;omega
  clear KTX KCT hne htl hlt9 h0 hnz hz
  go_enter Tryz.func106,Tryz.ntmps106
  go_upto_region 1 with fail
  rw [←hW1]
  clear hW1
  go_wp2_with (go_at_call 137;refine (K1.out _ HB1.out).mono ?_)
  rintro e V2 ⟨v,rfl,hown,hb2⟩
  rw [hD] at hown
  obtain ⟨B2,c2,rfl,_,hrd2,_⟩:=hown.rd
  have hh2:=(hb2.block _ hlt).trans HH1.out
  have HB2:=hid (HB1.out.trans (hb2.mono HB1.out.size))
  have HR2:=hid hrd2
  have HH2:=hid hh2
  have l2:=hb2.size
  clear hb2 hh2 hown hrd2
  go_wp2_with (go_at_call 139;refine (KX.out _ _ _ HR2.out HB2.out).mono ?_)
  rintro e V3 ⟨rfl,hb3⟩
  have HB3:=hid (HB2.out.trans (hb3.mono HB2.out.size))
  have HR3:=hid (HR2.out.below hb3)
  have HH3:=hid ((hb3.block _ (Nat.lt_of_lt_of_le hlt l2)).trans HH2.out)
  have l3:=hb3.size
  clear hb3
  go_wp2_with (go_at_call 138;refine (KN.out _).mono ?_)
  rintro e V4 ⟨rfl,hw⟩
  subst hw
  go_wp2_with (go_at_call 140;with_reducible refine (KC.out _ _ _ HR3.out).mono ?_)
  rintro e V5 ⟨q5,r5,rfl,hq,hr,hb5⟩
  rw [hE] at hq
  obtain ⟨B5,c5,rfl,_,hrd5,hge⟩:=hq.rd
  have HB5:=hid (HB3.out.trans (hb5.mono HB3.out.size))
  have hh5:=(hb5.block _ (by omega)).trans HH3.out
  obtain ⟨⟨d0,d1,d2⟩,f0,f1,f2⟩:=dec_cells hh5
  have HH5:=hid hh5
  have hfar:∀a,B5=some a→a.block≠W.heap.size:=fun a ha=>by have:=hge a ha;omega
  have HR5:=hid hrd5
  clear hb5 hh5 hq hr hrd5 hge
  go_wp2
  exact ret_d Tryz.results106 (set3 HH5.out (.bool ng) (.slice B5 E.length c5) (.int .i64 (ex+(z:Int)))) rfl (by simp) rfl ⟨_,_,_,_,rfl,((HR5.out.far hfar).far hfar).far hfar,.inr ⟨H0.out,rfl⟩,below3 HB5.out (Nat.le_refl _) _ _ _⟩
end Go.Proofs.YtmbeicndhigklaaGreatDoor
namespace Go.Proofs.YtmbeicndhigklaaGreatDoor
open Lib (hid)
open Go.RowKit
theorem digs_zeros {N:Nat} (h:N≠0):N / 10 ^ zerosN N≠0:=fun e=>by
 have h1:N<10 ^ zerosN N:=by
  have hp:0<10 ^ zerosN N:=Nat.pow_pos (by omega)
  exact (Nat.div_eq_zero_iff_lt hp).1 e
 have h2:=(digs_len 10 (by omega) N (zerosN N)).1 h1
 have hv:∀l:List Nat,l.length≤(l.takeWhile (·==0)).length→val 10 l=0:=by
  intro l
  induction l with
  | nil=>intro _;rfl
  | cons a r ih=>
   intro hl
   rw [List.takeWhile_cons] at hl
   by_cases h0:a=0
   ·subst h0
    rw [if_pos (by decide)] at hl
    have:=ih (by simpa using hl)
    unfold val
    rw [this]
   ·rw [if_neg (by simpa using h0)] at hl
    simp at hl
 have:=hv _ h2
 rw [val_digs 10 (by omega)] at this
 exact h this
theorem fit_eq {N:Nat} {e ex:Int} (h:N=0∧ex=0∨N≠0∧ex=e+(zerosN N:Int)):fitE N e=if fitB (N / 10 ^ zerosN N) ex=true then 0 else 3:=by
 rcases h with ⟨h,rfl⟩ | ⟨h,rfl⟩
 ·subst h
  have e1:0 / 10 ^ zerosN 0=0:=Nat.zero_div _
  rw [e1]
  unfold fitE
  rw [if_pos rfl,if_pos (by decide)]
 ·have hz:=digs_zeros h
  have hl:=digs_cut N
  have hzl:=zeros_le N
  unfold fitE fitB
  rw [if_neg h,decide_eq_false hz,Bool.false_or,hl]
  generalize (digs 10 N).length=k at *
  generalize zerosN N=z at *
  by_cases h1:k-z≤400∧-10000≤e+(k:Int)-1∧e+(k:Int)-1≤10000
  ·rw [if_pos h1,decide_eq_true h1.1,decide_eq_true (show -10000≤e+(z:Int)+((k-z:Nat):Int)-1 by omega),decide_eq_true (show e+(z:Int)+((k-z:Nat):Int)-1≤10000 by omega)];rfl
  ·rw [if_neg h1,if_neg]
   intro hb
   simp only [Bool.and_eq_true,decide_eq_true_eq] at hb
   exact h1 ⟨hb.1,by omega,by omega⟩
theorem scan_parts {l:List UInt8} {t:NumT} (h:scanN l=some t):(∀b∈t.whole++t.behind,digB b.toNat=true)∧t.whole≠[]∧-999999≤t.exp∧t.exp≤999999∧(t.whole++t.behind).length≤l.length:=by
 have hpow:∀(ng:Bool) (w b:List UInt8) (m:Bool) (p:List UInt8),powT ng w b m p=some t→t.whole=w∧t.behind=b∧-999999≤t.exp∧t.exp≤999999:=by
  intro ng w b m p h
  unfold powT at h
  by_cases hd:digN p=0∨digN p<p.length
  ·rw [if_pos hd] at h;cases h
  ·rw [if_neg hd] at h
   injection h with h
   subst h
   have hs:=smallN_lt p (digN_all p (by have:=digN_le p;omega))
   refine ⟨rfl,rfl,?_,?_⟩ <;> (simp only;split <;> omega)
 have hexp:∀(ng:Bool) (w b r:List UInt8),expT ng w b r=some t→t.whole=w∧t.behind=b∧-999999≤t.exp∧t.exp≤999999:=by
  intro ng w b r h
  unfold expT at h
  split at h
  ·injection h with h;subst h;exact ⟨rfl,rfl,by simp,by simp⟩
  split at h
  ·cases h
  split at h
  ·exact hpow _ _ _ _ _ h
  split at h
  ·exact hpow _ _ _ _ _ h
  ·exact hpow _ _ _ _ _ h
 have hwhole:∀(ng:Bool) (r:List UInt8),wholeT ng r=some t→(∀b∈t.whole++t.behind,digB b.toNat=true)∧t.whole≠[]∧-999999≤t.exp∧t.exp≤999999∧(t.whole++t.behind).length≤r.length:=by
  intro ng r h
  rw [whole_eq] at h
  have hdl:=digN_le r
  have htd:=take_dig r
  split at h
  ·cases h
  rename_i hn
  have hw:r.take (digN r)≠[]:=fun e=>hn (.inl e)
  unfold fracT at h
  split at h
  ·split at h
   ·cases h
   ·obtain ⟨h1,h2,h3,h4⟩:=hexp _ _ _ _ h
    have hdl2:=digN_le ((r.drop (digN r)).drop 1)
    rw [List.length_drop,List.length_drop] at hdl2
    refine ⟨fun b hb=>?_,by rw [h1];exact hw,h3,h4,?_⟩
    ·rw [h1,h2] at hb
     rcases List.mem_append.1 hb with hb | hb
     ·exact digN_take_all _ _ hb
     ·exact digN_take_all _ _ hb
    ·rw [h1,h2,List.length_append,htd,take_dig];omega
  ·obtain ⟨h1,h2,h3,h4⟩:=hexp _ _ _ _ h
   refine ⟨fun b hb=>?_,by rw [h1];exact hw,h3,h4,?_⟩
   ·rw [h1,h2,List.append_nil] at hb
    exact digN_take_all _ _ hb
   ·rw [h1,h2,List.append_nil,htd];exact hdl
 rw [scan_eq] at h
 obtain ⟨h1,h2,h3,h4,h5⟩:=hwhole _ _ h
 exact ⟨h1,h2,h3,h4,Nat.le_trans h5 (drop1_le l 45)⟩
set_option exponentiation.threshold 2000 in
theorem ten_up {a b:Nat} (h1:a<10 ^ b) (h2:b≤1000):a<10 ^ 1000:=Nat.lt_of_lt_of_le h1 (Nat.pow_le_pow_right (by decide) h2)
theorem limb_digits (y:List UInt8) (hd:∀b∈y,digB b.toNat=true) (hn:y≠[]) (hl:y.length≤1000000) (V:World) :
  Calls Tryz.prog 105 #[.string ⟨y.toArray⟩] V fun e V'=>∃v,e=.returned (.tuple #[v,.int .i64 0])∧OwnN .u32 152 V.heap.size V' v (digs 1000000000 (decD (dgL y)))∧Below V.heap.size V V':=by
 have e1:digsOf (bytesN ⟨y.toArray⟩)=dgL y:=by unfold digsOf bytesN dgL;simp
 have hok:okP (bytesN ⟨y.toArray⟩)=true:=by
  have hb:bytesN ⟨y.toArray⟩=y.map UInt8.toNat:=rfl
  rw [hb]
  refine okP_good _ (by simp [hn]) fun j hj=>?_
  have hjl:j<y.length:=by simpa using hj
  have e:(y.map UInt8.toNat).getD j 0=(y[j]).toNat:=by rw [List.getD_eq_getElem?_getD,List.getElem?_map,List.getElem?_eq_getElem hjl];rfl
  rw [e]
  exact digB_pos (hd _ (List.getElem_mem hjl))
 refine (parse_any ⟨y.toArray⟩ V (by rw [ba_len];omega)).mono fun e V' h=>?_
 rcases h with ⟨_,h⟩ | ⟨h,_⟩
 ·rw [e1] at h;exact h
 ·rw [hok] at h;cases h
def ParD (k:Nat) (w:World) (e:Ending) (w':World):Prop:=
 ∃ng A n c ex,e=.returned (.tuple #[.agg #[.bool ng,.slice A n c,.int .i64 ex],.int .i64 (k:Int)])∧Below w.heap.size w w'
theorem ret_dd {a:Act} {W:World} {r:Nat} {cs:List Value} {z:Nat×Nat} {v:Value} (hh:W.heap[r]?=some (.cells cs.toArray TDec z)) (h3:cs.length=3)
  (ht:a.tmps.getD 2 undef=.pointer (some ⟨r,0,none⟩)) (hv:a.tmps.getD 3 undef=v) (hd:a.defers=[]) {R:Ending→World→Prop} (hR:R (.returned (.tuple #[.agg cs.toArray,v])) W):bodyPost Tryz.prog Tryz.f70 R .ret a W:=by
 have ht':a.tmps[2]?.getD undef=.pointer (some ⟨r,0,none⟩):=by simpa using ht
 have hv':a.tmps[3]?.getD undef=v:=by simpa using hv
 refine bodyPost_ret (v:=.tuple #[.agg cs.toArray,v]) ?_ hd hR
 obtain ⟨d,hd,hrow⟩:=underD
 have:=run_loadVar_mid W r 0 TDec cs d (range_of hh) hd hrow (by rw [sizeD,h3])
 simp [results,Tryz.results70,ht',hv',asAddr,this,Result.andThen]
set_option maxHeartbeats 4000000 in
set_option maxRecDepth 100000 in
theorem decParse_any (x:List UInt8) (W:World) (hx:x.length≤100000000) (ht:Tab10 W):Calls Tryz.prog 70 #[.string ⟨x.toArray⟩] W (ParD (numE x) W):=by
 have KS:=hid (fun V=>decScan_any x V hx)
 obtain ⟨W1,hW1⟩:∃W1,W1=W.alloc (.cells #[.bool false,.slice none 0 0,.int .i64 0] 93):=⟨_,rfl⟩
 have hh:W1.heap[W.heap.size]?=some (.cells #[.bool false,.slice none 0 0,.int .i64 0] 93 (0,0)):=by rw [hW1];exact Go.heap_alloc_new W _
 have hb1:Below W.heap.size W W1:=by rw [hW1];exact (Below.refl _ W).alloc (Nat.le_refl _) _
 have hlt:W.heap.size<W1.heap.size:=(Array.getElem?_eq_some_iff.1 hh).1
 have HB1:=hid hb1
 have HH1:=hid hh
 have HT:=hid ht
 clear hh hb1 ht
 have HLN:=hid (ba_len x)
 unfold numE
 cases hsc:scanN x with
 | none=>
  rw [hsc] at KS
  simp only
  go_enter Tryz.func70,Tryz.ntmps70
  go_upto_region 1 with fail
  rw [←hW1]
  clear hW1
  go_wp2_with (go_at_call 104;with_reducible refine (KS.out _).mono ?_)
  rintro e V2 ⟨hb2,rfl⟩
  have hh2:=(hb2.block _ hlt).trans HH1.out
  obtain ⟨⟨d0,d1,d2⟩,f0,f1,f2⟩:=dec_cells hh2
  have HH2:=hid hh2
  have HB2:=hid (HB1.out.trans (hb2.mono HB1.out.size))
  clear hb2 hh2
  go_wp2
  exact ret_dd (set3 HH2.out (.bool false) (.slice none 0 0) (.int .i64 0)) rfl (by simp) rfl rfl ⟨_,_,_,_,_,rfl,below3 HB2.out (Nat.le_refl _) _ _ _⟩
 | some t=>
  rw [hsc] at KS
  simp only
  obtain ⟨hdg,hwn,he1,he2,hle⟩:=scan_parts hsc
  by_cases hbig:1000<x.length
  ·rw [if_pos hbig]
   have z1:decide ((1000:Int)<(x.length:Int))=true:=decide_eq_true (by omega)
   clear hbig hdg hwn hsc
   go_enter Tryz.func70,Tryz.ntmps70
   go_upto_region 1 with fail
   rw [←hW1]
   clear hW1
   go_wp2_with (go_at_call 104;with_reducible refine (KS.out _).mono ?_)
   rintro e V2 ⟨hb2,rfl⟩
   have hh2:=(hb2.block _ hlt).trans HH1.out
   obtain ⟨⟨d0,d1,d2⟩,f0,f1,f2⟩:=dec_cells hh2
   have HH2:=hid hh2
   have HB2:=hid (HB1.out.trans (hb2.mono HB1.out.size))
   clear hb2 hh2
   go_wp2
   exact ret_dd (set3 HH2.out (.bool false) (.slice none 0 0) (.int .i64 0)) rfl (by simp) rfl rfl ⟨_,_,_,_,_,rfl,below3 HB2.out (Nat.le_refl _) _ _ _⟩
  ·rw [if_neg hbig]
   have z1:decide ((1000:Int)<(x.length:Int))=false:=decide_eq_false (by omega)
   have hwl:(t.whole++t.behind).length≤1000:=by omega
   have hll:t.behind.length≤1000∧t.whole.length≤1000:=by rw [List.length_append] at hwl;omega
   have KP:=hid (limb_digits (t.whole++t.behind) hdg (by simp [hwn]) (by omega))
   have hN:decD (dgL (t.whole++t.behind))<10 ^ 1000:=by
    have h1:=dec_lt (dgL (t.whole++t.behind)) (digits_lt hdg)
    have h2:(dgL (t.whole++t.behind)).length≤1000:=by unfold dgL;rw [List.length_map];exact hwl
    exact ten_up h1 h2
   have hadd:(⟨t.whole.toArray⟩:ByteArray)++⟨t.behind.toArray⟩=⟨(t.whole++t.behind).toArray⟩:=by apply ByteArray.ext;simp
   obtain ⟨ex,hex⟩:∃k,k=t.exp-(t.behind.length:Int):=⟨_,rfl⟩
   have hexb:-1000999≤ex∧ex≤999999:=by omega
   have w1:IntKind.i64.wrap (t.exp-(t.behind.length:Int))=ex:=by rw [IntKind.wrap_i64];omega
   have w2:wrap64 (t.exp-(t.behind.length:Int))=ex:=by unfold wrap64;omega
   have HL1:=hid (ba_len t.whole)
   have HL2:=hid (ba_len t.behind)
   rw [←hex]
   obtain ⟨N,hNe⟩:∃N,N=decD (dgL (t.whole++t.behind)):=⟨_,rfl⟩
   rw [←hNe] at hN KP ⊢
   have HFE:=hid (fun e2 h=>fit_eq (N:=N) (e:=ex) (ex:=e2) h)
   obtain ⟨fe,hfe⟩:∃k,k=fitE N ex:=⟨_,rfl⟩
   rw [←hfe]
   have HF2:=hid hfe
   have KPL:=hid (fun (ng:Bool) (A:Option Addr) (c:Nat) (V:World) (hR:RdN .u32 V A (digs 1000000000 N).length (digs 1000000000 N)) (ht:Tab10 V)=>decPlain_any ng A c ex N V hR hN (by omega) ht)
   have hN2:N / 10 ^ zerosN N<10 ^ 1000:=Nat.lt_of_le_of_lt (Nat.div_le_self _ _) hN
   have KFT:=hid (fun (ng:Bool) (A:Option Addr) (c:Nat) (e2:Int) (V:World) (hR:RdN .u32 V A (digs 1000000000 (N / 10 ^ zerosN N)).length (digs 1000000000 (N / 10 ^ zerosN N))) (he:-3000000≤e2∧e2≤3000000) (ht:Tab10 V)=>decFits_any ng A c e2 (N / 10 ^ zerosN N) V hR hN2 he ht)
   have hz1000:zerosN N≤1000:=Nat.le_trans (zeros_le N) (digs10_short hN)
   clear hbig hdg hwn hsc hwl hN hN2 hex hNe hfe
   go_enter Tryz.func70,Tryz.ntmps70
   go_upto_region 1 with fail
   rw [←hW1]
   clear hW1
   go_wp2_with (go_at_call 104;with_reducible refine (KS.out _).mono ?_)
   rintro e V2 ⟨hb2,rfl⟩
   have HH2:=hid ((hb2.block _ hlt).trans HH1.out)
   have HB2:=hid (HB1.out.trans (hb2.mono HB1.out.size))
   have l2:=hb2.size
   clear hb2
   go_wp2_with (go_at_call 105;with_reducible refine (KP.out _).mono ?_)
   rintro e V3 ⟨v,rfl,hown,hb3⟩
   obtain ⟨A3,c3,rfl,_,hrd3,_⟩:=hown.rd
   have HH3:=hid ((hb3.block _ (by omega)).trans HH2.out)
   have HB3:=hid (HB2.out.trans (hb3.mono HB2.out.size))
   have HR3:=hid hrd3
   have l3:=hb3.size
   clear hb3 hown hrd3
   go_wp2_with (go_at_call 106;with_reducible refine (KPL.out _ _ _ _ HR3.out (HT.out.below HB3.out)).mono ?_)
   rintro e V4 ⟨ng,A4,c4,e4,rfl,hrd4,hcase,hb4⟩
   have HFE2:=hid (HF2.out.trans (HFE.out e4 hcase))
   have he4:-3000000≤e4∧e4≤3000000:=by omega
   have HH4:=hid ((hb4.block _ (by omega)).trans HH3.out)
   have HB4:=hid (HB3.out.trans (hb4.mono HB3.out.size))
   have HR4:=hid hrd4
   have l4:=hb4.size
   clear hb4 hrd4 hcase
   have KF2:=hid (fun (V:World) (hb:Below V4.heap.size V4 V)=>KFT.out ng A4 c4 e4 V (HR4.out.below hb) he4 (HT.out.below (HB4.out.trans (hb.mono HB4.out.size))))
   clear KFT
   generalize fitB (N / 10 ^ zerosN N) e4=fb at *
   generalize digs 1000000000 (N / 10 ^ zerosN N)=E at *
   go_upto_region 8 with fail
   obtain ⟨V5,hV5⟩:∃V5,V5=V4.alloc (.cells #[.bool ng,.slice A4 E.length c4,.int .i64 e4] TDec):=⟨_,rfl⟩
   have HX5:=hid (show V5.heap[V4.heap.size]?=some (.cells #[.bool ng,.slice A4 E.length c4,.int .i64 e4] TDec (0,0)) by rw [hV5];exact Go.heap_alloc_new V4 _)
   have HB5:=hid (show Below V4.heap.size V4 V5 by rw [hV5];exact (Below.refl _ V4).alloc (Nat.le_refl _) _)
   rw [←hV5]
   clear hV5
   have HH5:=hid ((HB5.out.block _ (by omega)).trans HH4.out)
   obtain ⟨⟨x0,x1,x2⟩,_,_,_⟩:=dec_cells HX5.out
   have hl5:V4.heap.size<V5.heap.size:=(Array.getElem?_eq_some_iff.1 HX5.out).1
   go_wp2_with (go_at_call 107;with_reducible refine (KF2.out _ HB5.out).mono ?_)
   rintro e V6 ⟨rfl,hb6⟩
   have hx6:=(hb6.block _ hl5).trans HX5.out
   have hh6:=(hb6.block _ (by omega)).trans HH5.out
   have HH6:=hid hh6
   have HB6:=hid (HB4.out.trans ((HB5.out.trans (hb6.mono HB5.out.size)).mono HB4.out.size))
   clear x0 x1 x2 hb6
   obtain ⟨⟨x0,x1,x2⟩,_,_,_⟩:=dec_cells hx6
   obtain ⟨⟨d0,d1,d2⟩,f0,f1,f2⟩:=dec_cells hh6
   clear hx6 hh6
   have hne:¬W.heap.size=V4.heap.size:=by omega
   cases fb with
   | true=>
    have HE:=hid (HFE2.out.trans (if_pos rfl))
    go_wp2
    rw [HE.out]
    exact ret_dd (set3 HH6.out (.bool ng) (.slice A4 E.length c4) (.int .i64 e4)) rfl (by simp) rfl rfl ⟨_,_,_,_,_,rfl,below3 HB6.out (Nat.le_refl _) _ _ _⟩
   | false=>
    have HE:=hid (HFE2.out.trans (if_neg (by decide)))
    go_wp2
    rw [HE.out]
    exact ret_dd (set3 HH6.out (.bool false) (.slice none 0 0) (.int .i64 0)) rfl (by simp) rfl rfl ⟨_,_,_,_,_,rfl,below3 HB6.out (Nat.le_refl _) _ _ _⟩
end Go.Proofs.YtmbeicndhigklaaGreatDoor
