/-
The walk of the reader's sign (chapter 14).
-/
import Derived.Test.YtmbeicndhigklaaGreatDoorPLexHf
import Derived.Test.YtmbeicndhigklaaGreatDoorPLexP
namespace Go.Proofs.YtmbeicndhigklaaGreatDoor
open Lib (hid)
open Go.RowKit
section
variable {w0 w:World} {g:Nat} {S:ByteArray} {s:LS}
theorem txCells_length (l:List Nat):(txCells l).length=l.length:=by unfold txCells;simp
theorem LxV.top (h:LxV w0 g S s w) {x:Nat} {ts:List Nat} (hts:s.texts=x::ts):∃q cap,w.cell? ⟨g,3,none⟩=some (.slice (some ⟨q,0,none⟩) (ts.length+1) cap)∧w.cell? ⟨q,ts.length,none⟩=some (.int .i64 (x:Int))∧w.frozen? ⟨q,ts.length,none⟩=false ∧
  ts.length+1≤cap∧∀y:Nat,LxV w0 g S { s with texts:=y::ts } (w.setCell ⟨q,ts.length,none⟩ (.int .i64 (y:Int))):=by
 obtain ⟨hb,h2,tv,xv,hh,ho,hx⟩:=h
 rw [hts,txCells_cons] at hx
 have hx':=hx
 rcases hx'.2 with ⟨_,h0⟩ | ⟨q,cap,cur,rfl,hq,hqq,h1,h3,h4,h5⟩
 ·simp at h0
 have hl:(txCells ts).length=ts.length:=txCells_length ts
 refine ⟨q,cap,by rw [Lib.cell_of_heap hh];rfl,?_,hx.frozenAt ts.length,h1,fun y=>?_⟩
 ·rw [hx.cellAt ts.length (by simp)]
  rw [List.getElem?_append_right (by omega),hl,Nat.sub_self];rfl
 ·have hst:=(hx.stored ts.length (.int .i64 (y:Int))).1
  have hset:(txCells ts++[Value.int .i64 (x:Int)]).set ts.length (.int .i64 (y:Int))=txCells (y::ts):=by
   rw [txCells_cons,List.set_append_right _ _ (by omega),hl,Nat.sub_self];rfl
  rw [hset] at hst
  have hqg:q≠g:=fun e=>by subst e;rw [hh] at hqq;injection hqq with hqq;injection hqq with _ hqq _;exact absurd hqq (by decide)
  exact ⟨hb.setCell (p:=⟨q,ts.length,none⟩) hq _,h2,tv,_,(lheap_far hqg).trans hh,lowns_far ho hqq (by decide) _,hst⟩
theorem LxV.bare (h:LxV w0 g S s w) (hts:s.texts=[]):∃A cap,w.cell? ⟨g,3,none⟩=some (.slice A 0 cap):=by
 obtain ⟨tv,xv,_,_,c3,_,hx⟩:=h.rows
 obtain ⟨A,cap,rfl⟩:=lowns_slice hx
 rw [hts] at c3
 exact ⟨A,cap,c3⟩
end
theorem signS_nil (l:List UInt8) (s:LS) (t:List UInt8) (h:t≠[]) (hx:s.texts=[]):signS l s t=putS { s with texts:=[] } 6 t t.length:=by
 obtain ⟨p,k,x,e⟩:=s
 simp only at hx
 subst hx
 unfold signS
 rw [if_neg h]
set_option maxHeartbeats 1000000 in
set_option maxRecDepth 100000 in
theorem lexSignM_any (w0:World) (hT:Tabs w0) (g:Nat) (S:ByteArray) (s:LS) (h50:s.texts.length≤100) (hsm:∀x∈s.texts,x≤16777216) (t:List UInt8) (ht3:t.length≤3) (w:World) (hp:s.pos<S.size) (hS:S.size≤16777216) (ht:s.toks.length≤16777210) (h:LxV w0 g S s w) :
  Calls Tryz.prog 86 #[.pointer (some ⟨g,0,none⟩),.string ⟨t.toArray⟩] w fun e w'=>e=.returned (.tuple #[])∧LxV w0 g S (signS S.data.toList s t) w':=by
 have c1:=h.c1
 have KF:=hid (fun (W:World) (h:LxV w0 g S s W)=>RetE.of (lexFail_any w0 g S s W s.pos 2 h))
 have kput:∀(tx:List Nat) (W:World),LxV w0 g S { s with texts:=tx } W→Calls Tryz.prog 80 #[.pointer (some ⟨g,0,none⟩),.int .i64 ((6:Nat):Int),.string ⟨t.toArray⟩,.int .i64 (t.length:Int)] W (RetE (.tuple #[]) (LxV w0 g S (putS { s with texts:=tx } 6 t t.length))):=
  fun tx W h=>RetE.of (lexPut_any w0 g S { s with texts:=tx } W 6 t t.length (by simp only;omega) (by omega) (by simp only;omega) h)
 have hsize:(⟨t.toArray⟩:ByteArray).size=t.length:=rfl
 by_cases h0:t=[]
 ·subst h0
  have HS:Hid (signS S.data.toList s []=failS s s.pos 2):=hid (by unfold signS;rw [if_pos rfl])
  cases htx:s.texts with
  | nil=>
   obtain ⟨A,cap,c3⟩:=h.bare htx
   have H:=hid h
   clear h htx hsm kput hsize
   go_enter Tryz.func86,Tryz.ntmps86
   go_wp2_with (go_at_call 59;refine (KF.out _ H.out).mono ?_)
   rintro e w1 ⟨rfl,h1⟩
   go_wp2
   go_returns
   exact ⟨rfl,by rw [HS.out];exact h1⟩
  | cons x ts=>
   obtain ⟨q,cap,c3,c4,g4,hcap,hput⟩:=h.top htx
   have H:=hid h
   rw [htx] at h50
   have h50':ts.length≤100:=by simp only [List.length_cons] at h50;omega
   clear h htx hsm kput hsize hput c4 g4 hcap h50
   go_enter Tryz.func86,Tryz.ntmps86
   go_wp2_with (go_at_call 59;refine (KF.out _ H.out).mono ?_)
   rintro e w1 ⟨rfl,h1⟩
   go_wp2
   go_returns
   exact ⟨rfl,by rw [HS.out];exact h1⟩
 ·have hl0:0<t.length:=List.length_pos_iff.2 h0
  by_cases h40:t=[40]
  ·subst h40
   cases htx:s.texts with
   | nil=>
    have HS:=hid (signS_nil S.data.toList s [40] h0 htx)
    obtain ⟨A,cap,c3⟩:=h.bare htx
    have H:=hid (show LxV w0 g S { s with texts:=[] } w by rw [←htx];exact h)
    have KP:=hid (kput [])
    clear h htx hsm kput hsize h0
    go_enter Tryz.func86,Tryz.ntmps86
    go_wp2_with (go_at_call 80;refine (KP.out _ H.out).mono ?_)
    rintro e w1 ⟨rfl,h1⟩
    go_wp2
    go_returns
    exact ⟨rfl,by rw [HS.out];exact h1⟩
   | cons x ts=>
    have HS:Hid (signS S.data.toList s [40]=putS { s with texts:=(x+1)::ts } 6 [40] 1):=hid (by unfold signS;rw [if_neg h0,htx];rfl)
    obtain ⟨q,cap,c3,c4,g4,hcap,hput⟩:=h.top htx
    have H:=hid (hput (x+1))
    have KP:=hid (kput ((x+1)::ts))
    rw [htx] at h50 hsm
    have h50':ts.length≤100:=by simp only [List.length_cons] at h50;omega
    have hx:=hsm x (List.mem_cons_self ..)
    clear h htx hsm kput hsize hput h50 h0
    go_enter Tryz.func86,Tryz.ntmps86
    go_wp2_with (go_at_call 80;refine (KP.out _ H.out).mono ?_)
    rintro e w1 ⟨rfl,h1⟩
    go_wp2
    go_returns
    exact ⟨rfl,by rw [HS.out];exact h1⟩
  by_cases h41:t=[41]
  ·subst h41
   cases htx:s.texts with
   | nil=>
    have HS:=hid (signS_nil S.data.toList s [41] h0 htx)
    obtain ⟨A,cap,c3⟩:=h.bare htx
    have H:=hid (show LxV w0 g S { s with texts:=[] } w by rw [←htx];exact h)
    have KP:=hid (kput [])
    clear h htx hsm kput hsize h0
    go_enter Tryz.func86,Tryz.ntmps86
    go_wp2_with (go_at_call 80;refine (KP.out _ H.out).mono ?_)
    rintro e w1 ⟨rfl,h1⟩
    go_wp2
    go_returns
    exact ⟨rfl,by rw [HS.out];exact h1⟩
   | cons x ts=>
    obtain ⟨q,cap,c3,c4,g4,hcap,hput⟩:=h.top htx
    by_cases hx0:x=0
    ·have HS:Hid (signS S.data.toList s [41]=textS S.data.toList (putS s 10 [] 1)):=hid (by unfold signS;rw [if_neg h0,htx];simp only;rw [if_neg (by decide),if_pos trivial,if_pos hx0])
     have hx1:((x:Int)==0)=true:=by rw [hx0];rfl
     have KO:=hid (fun (W:World) (h:LxV w0 g S s W)=>RetE.of (lexPut_any w0 g S s W 10 [] 1 (by omega) (by omega) (by omega) h))
     have KT:=hid (fun (W:World) (h:LxV w0 g S (putS s 10 [] 1) W)=>RetE.of (lexText_any w0 hT g S (putS s 10 [] 1) x ts htx (by rw [htx] at h50;simp only [List.length_cons] at h50;omega) W (by simp only [putS];omega) (by omega) (by simp only [putS,List.length_append,List.length_singleton];omega) h))
     have H:=hid h
     rw [htx] at h50
     have h50':ts.length≤100:=by simp only [List.length_cons] at h50;omega
     clear h htx hsm kput hsize hput h50 h0 hx0
     go_enter Tryz.func86,Tryz.ntmps86
     go_wp2_with (go_at_call 80;refine (KO.out _ H.out).mono ?_)
     rintro e w1 ⟨rfl,h1⟩
     have H1:=hid h1
     clear h1
     go_wp2_with (go_at_call 81;refine (KT.out _ H1.out).mono ?_)
     rintro e w2 ⟨rfl,h2⟩
     go_wp2
     go_returns
     exact ⟨rfl,by rw [HS.out];exact h2⟩
    ·have HS:Hid (signS S.data.toList s [41]=putS { s with texts:=(x-1)::ts } 6 [41] 1):=hid (by unfold signS;rw [if_neg h0,htx];simp only;rw [if_neg (by decide),if_pos trivial,if_neg hx0];rfl)
     have hx1:((x:Int)==0)=false:=beq_false_of_ne (by omega)
     have hxi:(x:Int)-1=((x-1:Nat):Int):=by omega
     have H:=hid (hput (x-1))
     have KP:=hid (kput ((x-1)::ts))
     rw [htx] at h50 hsm
     have h50':ts.length≤100:=by simp only [List.length_cons] at h50;omega
     have hx:=hsm x (List.mem_cons_self ..)
     have HXI:=hid hxi
     clear h htx hsm kput hsize hput h50 h0 hx0 hxi
     go_enter Tryz.func86,Tryz.ntmps86
     go_wp2_with (rw [HXI.out];go_at_call 80;refine (KP.out _ H.out).mono ?_)
     rintro e w1 ⟨rfl,h1⟩
     go_wp2
     go_returns
     exact ⟨rfl,by rw [HS.out];exact h1⟩
  ·have hd:∀z:List UInt8,t≠z→((⟨t.toArray⟩:ByteArray).toList==z)=false:=fun z hz=>by rw [Lib.toList_data];exact beq_false_of_ne hz
   have d0:¬(⟨t.toArray⟩:ByteArray).toList=[]:=by rw [Lib.toList_data];exact h0
   have d1:(⟨t.toArray⟩:ByteArray).toList.isEmpty=false:=by rw [Lib.toList_data];cases t with
    | nil=>exact absurd rfl h0
    | cons _ _=>rfl
   have d40:=hd [40] h40
   have d41:=hd [41] h41
   have n40:¬(⟨t.toArray⟩:ByteArray).toList=[40]:=by rw [Lib.toList_data];exact h40
   have n41:¬(⟨t.toArray⟩:ByteArray).toList=[41]:=by rw [Lib.toList_data];exact h41
   have hS0:signS S.data.toList s t=putS s 6 t t.length:=by
    unfold signS;rw [if_neg h0]
    cases s.texts with
    | nil=>rfl
    | cons x ts=>simp only;rw [if_neg h40,if_neg h41]
   have HS:=hid hS0
   have KP:=hid (kput s.texts)
   have H:=hid h
   have hx3:∃A n cap,w.cell? ⟨g,3,none⟩=some (.slice A n cap)∧n≤100:=by
    cases htx:s.texts with
    | nil=>obtain ⟨A,cap,c3⟩:=h.bare htx;exact ⟨A,0,cap,c3,by omega⟩
    | cons x ts=>obtain ⟨q,cap,c3,_⟩:=h.top htx;exact ⟨_,_,cap,c3,by rw [htx] at h50;exact h50⟩
   obtain ⟨A,n,cap,c3,hn⟩:=hx3
   have HSZ:=hid hsize
   clear h hd hS0 hsm kput h0 h40 h41 h50
   generalize (⟨t.toArray⟩:ByteArray)=T at *
   have hsize:=HSZ.out
   clear HSZ
   go_enter Tryz.func86,Tryz.ntmps86
   go_wp2_with (go_at_call 80;refine (KP.out _ H.out).mono ?_)
   rintro e w1 ⟨rfl,h1⟩
   go_wp2
   go_returns
   exact ⟨rfl,by rw [HS.out];exact h1⟩
end Go.Proofs.YtmbeicndhigklaaGreatDoor
namespace Go.Proofs.YtmbeicndhigklaaGreatDoor
open Lib (hid)
open Go.RowKit
theorem infoInt:(Tryz.prog.info? 3).map (fun i=>(i.zero,i.size,i.bytes))=some (some (.int .i64 0),1,8):=by kernel_rfl
theorem LxV.grows_texts {w0 w:World} {g:Nat} {S:ByteArray} {s:LS} (h:LxV w0 g S s w) {xv:Value} (hxv:w.cell? ⟨g,3,none⟩=some xv) {o:Obj} {w5:World} (hg:(w.alloc o).grownBy w5 xv.ownBlock) :
  w5.cell? ⟨g,3,none⟩=some xv∧w5.frozen? ⟨g,3,none⟩=false∧∀(v5:Value) (n:Nat),w5.ownsRow w0.heap.size 3 1 v5 (s.texts.length+1) (txCells s.texts++[Value.int .i64 (n:Int)]) →
   LxV w0 g S { s with texts:=n::s.texts } (w5.setCell ⟨g,3,none⟩ v5):=by
 obtain ⟨hb,h2,tv,xv',hh,ho,hx⟩:=h
 have e:xv'=xv:=by rw [Lib.cell_of_heap hh] at hxv;exact Option.some.inj hxv
 subst e
 have hlt:g<w.heap.size:=(Array.getElem?_eq_some_iff.1 hh).1
 have hblk:∀k,xv'.ownBlock=some k→w0.heap.size≤k∧k<w.heap.size∧∃c z,w.heap[k]?=some (.cells c 3 z):=fun k hk=>by
  rcases hx.2 with ⟨hv,_⟩ | ⟨q,cap',cur,hv,hg2,hh2,_⟩
  ·rw [hv] at hk;cases hk
  ·rw [hv] at hk
   have e:q=k:=by simpa [Value.ownBlock] using hk
   subst e
   exact ⟨hg2,(Array.getElem?_eq_some_iff.1 hh2).1,_,_,hh2⟩
 have hal:(w.alloc o).heap[g]?=some (.cells #[.string S,.int .i64 (s.pos:Int),tv,xv',.int .i64 (s.err:Int)] 83 (0,0)):=(Below.heap_alloc w o g hlt).trans hh
 have h5:w5.heap[g]?=some (.cells #[.string S,.int .i64 (s.pos:Int),tv,xv',.int .i64 (s.err:Int)] 83 (0,0)):=by
  rw [hg.block g (Array.getElem?_eq_some_iff.1 hal).1 (fun e=>?_)]
  ·exact hal
  ·obtain ⟨_,_,c,z,h3⟩:=hblk g e.symm
   rw [hh] at h3;injection h3 with h3;injection h3 with _ h3 _;exact absurd h3 (by decide)
 have hb5:Below w0.heap.size w0 w5:=(hb.alloc hb.size o).grown hg (by rw [World.size_alloc];have:=hb.size;exact Nat.le_succ_of_le this) (fun k hk=>(hblk k hk).1)
 have ht5:w5.ownsRow w0.heap.size 86 3 tv s.toks.length (tkCells s.toks):=by
  refine lowns_grown (lowns_below ho ((Below.refl _ w).alloc (Nat.le_refl _) o)) hg (fun k hk=>.inr ?_)
  obtain ⟨_,hlt2,c,z,h3⟩:=hblk k hk
  exact ⟨c,_,z,(Below.heap_alloc w o k hlt2).trans h3,by decide⟩
 refine ⟨by rw [Lib.cell_of_heap h5];rfl,Lib.frozen_of_heap h5 3,fun v5 n ho5=>?_⟩
 rw [←txCells_cons] at ho5
 exact ⟨hb5.setCell (p:=⟨g,3,none⟩) h2 _,h2,tv,v5,lheap_set h5 v5,lowns_far ht5 h5 (by decide) _,lowns_far ho5 h5 (by decide) _⟩
theorem news1 (W:World) (a:Value) (T:TypeId):∀(j:Nat) (u:Value),[a][j]?=some u→(W.alloc (.cells #[a] T)).cell? ((⟨W.heap.size,0,none⟩:Addr).add j)=some u:=fun j u h=>by
 have hadd:(⟨W.heap.size,0,none⟩:Addr).add j=⟨W.heap.size,0+j,none⟩:=by unfold Addr.add;split <;> simp_all
 rw [hadd,Nat.zero_add]
 refine (World.cell?_alloc_at (w:=W) _ _ _ _ rfl).trans ?_
 simpa using h
theorem tokenS_of (l:List UInt8) (s:LS) (r:List UInt8) (h:l.drop s.pos=r):tokenS l s =
  if bt r 0=34 then (if 50≤s.texts.length then failS s s.pos 6 else textS l { putS s 7 [] 1 with texts:=0::s.texts })
  else if digB (bt r 0) then putS s 1 (r.take (numN r)) (numN r)
  else if letB (bt r 0) then putS s 2 (r.take (nameN r)) (nameN r)
  else if bt r 0=36 then markS l s 4 []
  else if bt r 0=64 then markS l s 5 [64]
  else if bt r 0=46∧letB (bt r 1) then markS l s 3 []
  else signS l s (signL r):=by subst h;rfl
theorem str_take (R:ByteArray) (x:List UInt8) (h:R.data.toList=x) (n:Nat):R.extract 0 n=⟨(x.take n).toArray⟩:=ba_ext (by rw [take_ext,h])
set_option maxHeartbeats 4000000 in
set_option maxRecDepth 100000 in
theorem lexToken_any (w0:World) (hT:Tabs w0) (g:Nat) (S:ByteArray) (s:LS) (hf:FineS s) (w:World) (hp:s.pos<S.size) (hS:S.size≤8388608) (h:LxV w0 g S s w) :
  Calls Tryz.prog 58 #[.pointer (some ⟨g,0,none⟩)] w fun e w'=>e=.returned (.tuple #[])∧LxV w0 g S (tokenS S.data.toList s) w':=by
 obtain ⟨f1,f2,f3⟩:=hf
 have hl:=h.size
 have c0:=h.c0
 have c1:=h.c1
 obtain ⟨R,hR⟩:∃R,S.extract s.pos S.size=R:=⟨_,rfl⟩
 obtain ⟨x,hx⟩:∃x,S.data.toList.drop s.pos=x:=⟨_,rfl⟩
 have hRx:R.data.toList=x:=by rw [←hR,←hx];exact ext_drop S s.pos
 have hRs:R.size=S.size-s.pos:=by rw [Lib.size_eq,hRx,←hx,List.length_drop,←Lib.size_eq]
 have hR0:0<R.size:=by omega
 have hb:R[0].toNat=bt x 0:=by rw [←hRx];exact (bt_s R 0 hR0).symm
 have hlet0:=lexLetter_any R[0].toNat (UInt8.toNat_lt _)
 have hdig0:=lexDigit_any R[0].toNat
 have hlet:∀W,Calls Tryz.prog 84 #[.int .u8 (R[0].toNat:Int)] W fun e w'=>e=.returned (.bool (letB (bt x 0)))∧W=w':=fun W=>by rw [←hb];exact hlet0 W
 have hdig:∀W,Calls Tryz.prog 82 #[.int .u8 (R[0].toNat:Int)] W fun e w'=>e=.returned (.bool (digB (bt x 0)))∧W=w':=fun W=>by rw [←hb];exact hdig0 W
 clear hlet0 hdig0
 have htok:=tokenS_of S.data.toList s x hx
 have KF:=hid (fun (q:Nat) (W:World) (h:LxV w0 g S s W)=>RetE.of (lexFail_any w0 g S s W s.pos q h))
 have kput:∀(k:Nat) (t:List UInt8) (n:Nat) (_:n≤S.size) (W:World),LxV w0 g S s W→Calls Tryz.prog 80 #[.pointer (some ⟨g,0,none⟩),.int .i64 (k:Int),.string ⟨t.toArray⟩,.int .i64 (n:Int)] W (RetE (.tuple #[]) (LxV w0 g S (putS s k t n))):=
  fun k t n hn W h=>RetE.of (lexPut_any w0 g S s W k t n (by omega) (by omega) (by omega) h)
 have kmark:∀(k:Nat) (keep:List UInt8) (_:keep.length≤1) (W:World),LxV w0 g S s W→Calls Tryz.prog 85 #[.pointer (some ⟨g,0,none⟩),.int .i64 (k:Int),.string ⟨keep.toArray⟩] W (RetE (.tuple #[]) (LxV w0 g S (markS S.data.toList s k keep))):=
  fun k keep hk W h=>RetE.of (lexMarked_any w0 g S s W k keep hk hp (by omega) (by omega) h)
 have H:=hid h
 by_cases a1:bt x 0=34
 ·rw [if_pos a1] at htok
  have z1:((R[0].toNat:Int)==34)=true:=by rw [hb,a1];rfl
  obtain ⟨tv,xv,_,_,c3,_,hxo⟩:=h.rows
  obtain ⟨A3,cap3,rfl⟩:=lowns_slice hxo
  by_cases a2:50≤s.texts.length
  ·rw [if_pos a2] at htok
   have HTOK:=hid htok
   clear htok hb a1 hx hRx kput kmark h hlet hdig f3 hxo
   go_enter Tryz.func58,Tryz.ntmps58
   go_wp2
   go_quiet (fail)
   go_wp2_with (go_at_call 59;refine (KF.out 6 _ (H.out.drewN _)).mono ?_)
   rintro e w1 ⟨rfl,h1⟩
   go_wp2
   go_returns
   exact ⟨rfl,by rw [HTOK.out];exact h1⟩
  ·rw [if_neg a2] at htok
   have HTOK:=hid htok
   have KP:=hid (kput 7 [] 1 (by omega))
   clear htok hb a1 hx hRx kput kmark h hlet hdig f3 hxo
   go_enter Tryz.func58,Tryz.ntmps58
   go_wp2
   go_quiet (fail)
   go_wp2_with (go_at_call 80;refine (KP.out _ (H.out.drewN _)).mono ?_)
   rintro e w1 ⟨rfl,h1⟩
   obtain ⟨tv1,xv1,_,_,c31,_,hxo1⟩:=h1.rows
   obtain ⟨i0,hi,hz0,hz1,hz2⟩:=info_parts infoInt
   have g31:=h1.frozen 3
   have H1:=hid h1
   have HXO:=hid hxo1
   have hs1:=h1.size
   have C31:=hid c31
   have hl7:(putS s 7 [] 1).texts=s.texts:=rfl
   have hln:(putS s 7 [] 1).texts.length≤50:=f2
   clear h1 hxo1
   go_wp2_with (at_builtin;refine wpList_append_own _ rfl _ _ 81 rfl w0.heap.size 3 i0 (.int .i64 0) 1 8 Tryz.underlying81 hi hz0 hz1 hz2 rfl (by decide) _ _ _ rfl (HXO.out.alloc _) ⟨w1.heap.size,0,none⟩ 1 1 [.int .i64 ((0:Nat):Int)] rfl rfl ?c1 ?c2 ?c3 ?c4 ?c5 ?_)
   case c1=>exact news1 w1 _ _
   case c2=>simp [Value.oneCell']
   case c3=>unfold maxLen;omega
   case c4=>omega
   case c5=>simp;omega
   intro v5 w5 hown5 hgrow5 _
   obtain ⟨e6,e7,e8⟩:=H1.out.grows_texts C31.out hgrow5
   have E8:=hid (e8 v5 0 hown5)
   clear e8
   obtain ⟨A5,cap5,rfl⟩:=lowns_slice hown5
   have KT:=hid (fun (W:World) (h:LxV w0 g S { putS s 7 [] 1 with texts:=0::s.texts } W)=>RetE.of (lexText_any w0 hT g S { putS s 7 [] 1 with texts:=0::s.texts } 0 s.texts rfl (by omega) W (by simp only [putS];omega) (by omega) (by simp only [putS,List.length_append,List.length_singleton];omega) h))
   go_wp2_with (go_at_call 81;refine (KT.out _ E8.out).mono ?_)
   rintro e w6 ⟨rfl,h6⟩
   go_wp2
   go_returns
   exact ⟨rfl,by rw [HTOK.out];exact h6⟩
 rw [if_neg a1] at htok
 have z1:((R[0].toNat:Int)==34)=false:=by rw [hb];exact beq_false_of_ne (by omega)
 by_cases a2:digB (bt x 0)=true
 ·rw [if_pos a2] at htok
  have KD:=hid (fun W=>(RetE.of (hdig W)).mono (R':=RetE (.bool true) (fun w'=>W=w')) (by rintro e w' ⟨rfl,h⟩;exact ⟨by rw [a2],h⟩))
  have hnl:=(numN_le x).2
  have hxl:x.length=R.size:=by rw [←hRx,Lib.size_eq]
  have knum:=fun W=>lexNumber_any R W (by omega)
  rw [hRx] at knum
  have hcut:=str_take R x hRx (numN x)
  have hTs:(⟨(x.take (numN x)).toArray⟩:ByteArray).size=numN x:=by show (x.take (numN x)).length = _;rw [List.length_take,Nat.min_eq_left hnl]
  have KP:=kput 1 (x.take (numN x)) (numN x) (by omega)
  simp only [hcut] at knum
  have HTOK:=hid htok
  clear htok hcut
  generalize (⟨(x.take (numN x)).toArray⟩:ByteArray)=T at knum hTs KP
  generalize hnn:numN x=n at *
  clear hnn
  have KN:=hid (fun W=>RetE.of (knum W))
  replace KP:=hid KP
  clear knum hnl hxl a1 a2 hx hRx kput kmark h hlet hdig f3 hb
  go_enter Tryz.func58,Tryz.ntmps58
  go_wp2
  go_quiet (fail)
  go_wp2_with (go_at_call 82;refine (KD.out _).mono ?_)
  rintro e w1 ⟨rfl,rfl⟩
  go_wp2_with (go_at_call 83;refine (KN.out _).mono ?_)
  rintro e w1 ⟨rfl,rfl⟩
  go_wp2_with (go_at_call 80;refine (KP.out _ (H.out.drewN _)).mono ?_)
  rintro e w1 ⟨rfl,h1⟩
  go_wp2
  go_returns
  exact ⟨rfl,by rw [HTOK.out];exact h1⟩
 rw [if_neg a2] at htok
 have a2f:digB (bt x 0)=false:=by simpa using a2
 have KD:=hid (fun W=>(RetE.of (hdig W)).mono (R':=RetE (.bool false) (fun w'=>W=w')) (by rintro e w' ⟨rfl,h⟩;exact ⟨by rw [a2f],h⟩))
 by_cases a3:letB (bt x 0)=true
 ·rw [if_pos a3] at htok
  have KL:=hid (fun W=>(RetE.of (hlet W)).mono (R':=RetE (.bool true) (fun w'=>W=w')) (by rintro e w' ⟨rfl,h⟩;exact ⟨by rw [a3],h⟩))
  have hnl:=nameN_le x
  have hxl:x.length=R.size:=by rw [←hRx,Lib.size_eq]
  have knum:=fun W=>lexname_any R W (by omega)
  rw [hRx] at knum
  have hcut:=str_take R x hRx (nameN x)
  have hTs:(⟨(x.take (nameN x)).toArray⟩:ByteArray).size=nameN x:=by show (x.take (nameN x)).length = _;rw [List.length_take,Nat.min_eq_left hnl]
  have KP:=kput 2 (x.take (nameN x)) (nameN x) (by omega)
  simp only [hcut] at knum
  have HTOK:=hid htok
  clear htok hcut
  generalize (⟨(x.take (nameN x)).toArray⟩:ByteArray)=T at knum hTs KP
  generalize hnn:nameN x=n at *
  clear hnn
  have KN:=hid (fun W=>RetE.of (knum W))
  replace KP:=hid KP
  clear knum hnl hxl a1 a2 a2f a3 hx hRx kput kmark h hlet hdig f3 hb
  go_enter Tryz.func58,Tryz.ntmps58
  go_wp2
  go_quiet (fail)
  go_wp2_with (go_at_call 82;refine (KD.out _).mono ?_)
  rintro e w1 ⟨rfl,rfl⟩
  go_wp2_with (go_at_call 84;refine (KL.out _).mono ?_)
  rintro e w1 ⟨rfl,rfl⟩
  go_wp2_with (go_at_call 72;refine (KN.out _).mono ?_)
  rintro e w1 ⟨rfl,rfl⟩
  go_wp2_with (go_at_call 80;refine (KP.out _ (H.out.drewN _)).mono ?_)
  rintro e w1 ⟨rfl,h1⟩
  go_wp2
  go_returns
  exact ⟨rfl,by rw [HTOK.out];exact h1⟩
 rw [if_neg a3] at htok
 have a3f:letB (bt x 0)=false:=by simpa using a3
 have KL:=hid (fun W=>(RetE.of (hlet W)).mono (R':=RetE (.bool false) (fun w'=>W=w')) (by rintro e w' ⟨rfl,h⟩;exact ⟨by rw [a3f],h⟩))
 by_cases a4:bt x 0=36
 ·rw [if_pos a4] at htok
  have z2:((R[0].toNat:Int)==36)=true:=by rw [hb,a4];rfl
  have KM:=hid (kmark 4 [] (by simp))
  have HTOK:=hid htok
  clear htok a1 a2 a2f a3 a3f a4  hx hRx kput kmark h hlet hdig f3 hb
  go_enter Tryz.func58,Tryz.ntmps58
  go_wp2
  go_quiet (fail)
  go_wp2_with (go_at_call 82;refine (KD.out _).mono ?_)
  rintro e w1 ⟨rfl,rfl⟩
  go_wp2_with (go_at_call 84;refine (KL.out _).mono ?_)
  rintro e w1 ⟨rfl,rfl⟩
  go_wp2_with (go_at_call 85;refine (KM.out _ (H.out.drewN _)).mono ?_)
  rintro e w1 ⟨rfl,h1⟩
  go_wp2
  go_returns
  exact ⟨rfl,by rw [HTOK.out];exact h1⟩
 rw [if_neg a4] at htok
 have ya4:((R[0].toNat:Int)==36)=false:=by rw [hb];exact beq_false_of_ne (by omega)
 by_cases a5:bt x 0=64
 ·rw [if_pos a5] at htok
  have z2:((R[0].toNat:Int)==64)=true:=by rw [hb,a5];rfl
  have KM:=hid (kmark 5 [64] (by simp))
  have HTOK:=hid htok
  clear htok a1 a2 a2f a3 a3f a5  hx hRx kput kmark h hlet hdig f3 hb
  go_enter Tryz.func58,Tryz.ntmps58
  go_wp2
  go_quiet (fail)
  go_wp2_with (go_at_call 82;refine (KD.out _).mono ?_)
  rintro e w1 ⟨rfl,rfl⟩
  go_wp2_with (go_at_call 84;refine (KL.out _).mono ?_)
  rintro e w1 ⟨rfl,rfl⟩
  go_wp2_with (go_at_call 85;refine (KM.out _ (H.out.drewN _)).mono ?_)
  rintro e w1 ⟨rfl,h1⟩
  go_wp2
  go_returns
  exact ⟨rfl,by rw [HTOK.out];exact h1⟩
 rw [if_neg a5] at htok
 have ya5:((R[0].toNat:Int)==64)=false:=by rw [hb];exact beq_false_of_ne (by omega)
 have KS0:=fun W=>RetE.of (lexsign_any R W hR0 (by omega))
 rw [hRx] at KS0
 have KS:=hid KS0
 have hsl:=signL_form x
 have hs3:(signL x).length≤3:=by
  by_cases e:signL x=[]
  ·rw [e];exact Nat.zero_le _
  ·rcases hsl e with h2 | ⟨c,h2,_⟩
   ·exact (by decide:∀y∈signs2,y.length≤3) _ h2
   ·rw [h2];simp
 have KM:=hid (fun (W:World) (h:LxV w0 g S s W)=>RetE.of (lexSignM_any w0 hT g S s (by omega) (fun y hy=>by have:=f3 y hy;omega) (signL x) hs3 W hp (by omega) (by omega) h))
 have k1:1<R.size→∀W,Calls Tryz.prog 84 #[.int .u8 (R[1]!.toNat:Int)] W (RetE (.bool (letB (bt x 1))) (fun w'=>W=w')):=fun h1 W=>by
  have:=lexLetter_any R[1]!.toNat (UInt8.toNat_lt _) W
  rw [getElem!_pos R 1 h1,←bt_s R 1 h1,hRx] at this
  rw [getElem!_pos R 1 h1,←bt_s R 1 h1,hRx]
  exact RetE.of this
 clear hsl KS0
 generalize signL x=T at *
 by_cases a6:bt x 0=46
 ·have z6:((R[0].toNat:Int)==46)=true:=by rw [hb,a6];rfl
  by_cases a7:1<R.size
  ·have z7:decide ((1:Int)<(R.size:Int))=true:=decide_eq_true (by omega)
   have k1:=k1 a7
   rw [getElem!_pos R 1 a7] at k1
   by_cases a8:letB (bt x 1)=true
   ·rw [if_pos ⟨a6,a8⟩] at htok
    rw [a8] at k1
    have K1:=hid k1
    have KM:=hid (kmark 3 [] (by simp))
    have HTOK:=hid htok
    clear htok a1 a2 a2f a3 a3f a4 a5 a6 a8 hx hRx kput kmark h hlet hdig f3 hb k1 hs3
    go_enter Tryz.func58,Tryz.ntmps58
    go_wp2
    go_quiet (fail)
    go_wp2_with (go_at_call 82;refine (KD.out _).mono ?_)
    rintro e w1 ⟨rfl,rfl⟩
    go_wp2_with (go_at_call 84;refine (KL.out _).mono ?_)
    rintro e w1 ⟨rfl,rfl⟩
    go_wp2_with (go_at_call 84;refine (K1.out _).mono ?_)
    rintro e w1 ⟨rfl,rfl⟩
    go_wp2_with (go_at_call 85;refine (KM.out _ (H.out.drewN _)).mono ?_)
    rintro e w1 ⟨rfl,h1⟩
    go_wp2
    go_returns
    exact ⟨rfl,by rw [HTOK.out];exact h1⟩
   ·rw [if_neg (fun h=>a8 h.2)] at htok
    have a8f:letB (bt x 1)=false:=by simpa using a8
    rw [a8f] at k1
    have K1:=hid k1
    have HTOK:=hid htok
    clear htok a1 a2 a2f a3 a3f a4 a5 a6 a8 a8f hx hRx kput kmark h hlet hdig f3 hb k1 hs3
    go_enter Tryz.func58,Tryz.ntmps58
    go_wp2
    go_quiet (fail)
    go_wp2_with (go_at_call 82;refine (KD.out _).mono ?_)
    rintro e w1 ⟨rfl,rfl⟩
    go_wp2_with (go_at_call 84;refine (KL.out _).mono ?_)
    rintro e w1 ⟨rfl,rfl⟩
    go_wp2_with (go_at_call 84;refine (K1.out _).mono ?_)
    rintro e w1 ⟨rfl,rfl⟩
    go_wp2_with (go_at_call 87;refine (KS.out _).mono ?_)
    rintro e w1 ⟨rfl,rfl⟩
    go_wp2_with (go_at_call 86;refine (KM.out _ (H.out.drewN _)).mono ?_)
    rintro e w1 ⟨rfl,h1⟩
    go_wp2
    go_returns
    exact ⟨rfl,by rw [HTOK.out];exact h1⟩
  ·have z7:decide ((1:Int)<(R.size:Int))=false:=decide_eq_false (by omega)
   have a8f:letB (bt x 1)=false:=by rw [←hRx,bt_e R 1 (by omega)];rfl
   rw [if_neg (fun h=>by rw [a8f] at h;cases h.2)] at htok
   have HTOK:=hid htok
   clear htok a1 a2 a2f a3 a3f a4 a5 a6 a8f hx hRx kput kmark h hlet hdig f3 hb k1 hs3
   go_enter Tryz.func58,Tryz.ntmps58
   go_wp2
   go_quiet (fail)
   go_wp2_with (go_at_call 82;refine (KD.out _).mono ?_)
   rintro e w1 ⟨rfl,rfl⟩
   go_wp2_with (go_at_call 84;refine (KL.out _).mono ?_)
   rintro e w1 ⟨rfl,rfl⟩
   go_wp2_with (go_at_call 87;refine (KS.out _).mono ?_)
   rintro e w1 ⟨rfl,rfl⟩
   go_wp2_with (go_at_call 86;refine (KM.out _ (H.out.drewN _)).mono ?_)
   rintro e w1 ⟨rfl,h1⟩
   go_wp2
   go_returns
   exact ⟨rfl,by rw [HTOK.out];exact h1⟩
 ·have z6:((R[0].toNat:Int)==46)=false:=by rw [hb];exact beq_false_of_ne (by omega)
  rw [if_neg (fun h=>a6 h.1)] at htok
  have HTOK:=hid htok
  clear htok a1 a2 a2f a3 a3f a4 a5 a6 hx hRx kput kmark h hlet hdig f3 hb k1 hs3
  go_enter Tryz.func58,Tryz.ntmps58
  go_wp2
  go_quiet (fail)
  go_wp2_with (go_at_call 82;refine (KD.out _).mono ?_)
  rintro e w1 ⟨rfl,rfl⟩
  go_wp2_with (go_at_call 84;refine (KL.out _).mono ?_)
  rintro e w1 ⟨rfl,rfl⟩
  go_wp2_with (go_at_call 87;refine (KS.out _).mono ?_)
  rintro e w1 ⟨rfl,rfl⟩
  go_wp2_with (go_at_call 86;refine (KM.out _ (H.out.drewN _)).mono ?_)
  rintro e w1 ⟨rfl,h1⟩
  go_wp2
  go_returns
  exact ⟨rfl,by rw [HTOK.out];exact h1⟩
end Go.Proofs.YtmbeicndhigklaaGreatDoor
namespace Go.Proofs.YtmbeicndhigklaaGreatDoor
open Lib (hid)
end Go.Proofs.YtmbeicndhigklaaGreatDoor
namespace Go.Proofs.YtmbeicndhigklaaGreatDoor
open Lib (hid)
section
variable (t:List UInt8)
theorem runF_step (f:Nat) (l:List UInt8) (s:LS):runF (f+1) l s=if l.length≤(skipS l s).pos then skipS l s else if (tokenS l (skipS l s)).err≠0 then tokenS l (skipS l s) else runF f l (tokenS l (skipS l s)):=rfl
end
end Go.Proofs.YtmbeicndhigklaaGreatDoor
