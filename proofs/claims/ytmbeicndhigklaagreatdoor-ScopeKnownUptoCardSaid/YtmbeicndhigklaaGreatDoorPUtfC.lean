/-
The walks of utf's and its reference's Decode, Valid, Explode.
-/
import Derived.Test.YtmbeicndhigklaaGreatDoorPUtfS
import Derived.Test.YtmbeicndhigklaaGreatDoorPBld
import Derived.Laws.IdiomStrings
import Derived.ShutString
import Derived.Lib.Bytealg
namespace Go.Proofs.YtmbeicndhigklaaGreatDoor
open Lib (hid)
open Go.RowKit
def Tabs (w:World):Prop:=Lib.Utf8Tabs 0 1 w∧0<w.heap.size∧1<w.heap.size
theorem Tabs.below {B:Nat} {w w':World} (h:Tabs w) (hb:Below B w w') (hB:w.heap.size≤B):Tabs w':=by
 refine ⟨⟨fun c hc=>?_,fun i hi=>⟨?_,?_⟩⟩,Nat.lt_of_lt_of_le h.2.1 hb.size,Nat.lt_of_lt_of_le h.2.2 hb.size⟩
 ·rw [hb.cell (by simp only [];have:=h.2.1;omega)];exact h.1.1 c hc
 ·rw [hb.cell (by simp only [];have:=h.2.2;omega)];exact (h.1.2 i hi).1
 ·rw [hb.cell (by simp only [];have:=h.2.2;omega)];exact (h.1.2 i hi).2
set_option maxHeartbeats 400000 in
set_option maxRecDepth 100000 in
theorem utfDecode_any (s:ByteArray) (w:World) (hT:Tabs w) :
  Calls Tryz.prog 78 #[.string s] w fun e w'=>e=.returned (decVal s.data.toList)∧Below w.heap.size w w':=by
 have hd:=dec_go s
 have h1:(Lib.decodeGo s).1=(dec s.data.toList).1:=by rw [hd]
 have h2:(Lib.decodeGo s).2=(dec s.data.toList).2:=by rw [hd]
 have hle:=dec_le s.data.toList
 have hk:decOk s.data.toList=(decide (1<(dec s.data.toList).2)||((dec s.data.toList).2==1&&decide ((dec s.data.toList).1<128))):=rfl
 have hv:decVal s.data.toList=.tuple #[.int .i64 (dec s.data.toList).1,.int .i64 (dec s.data.toList).2,.bool (decOk s.data.toList)]:=rfl
 rw [hk] at hv
 clear hk hd
 have H1:=hid h1
 have H2:=hid h2
 clear h1 h2
 have HV:=hid hv
 clear hv
 obtain ⟨c,hc⟩:∃c,c=Calls Tryz.prog 112 #[.string s] w:=⟨_,rfl⟩
 have hcall:=Tryz.utf8_DecodeRuneInString s w hT.1
 rw [H1.out,H2.out] at hcall
 generalize (dec s.data.toList).1=r at hcall hle HV
 generalize (dec s.data.toList).2=n at hcall hle HV
 obtain ⟨hr,hn⟩:=hle
 have hr':(r:Int)≤1114111:=by omega
 have hn':(n:Int)≤4:=by omega
 have HC:=hid hcall
 clear hcall hc c
 rcases Nat.lt_trichotomy n 1 with h | h | h
 ·obtain rfl:n=0:=by omega
  go_enter Tryz.func78,Tryz.ntmps78
  go_wp2_with (go_at_call 112;refine HC.out.mono ?_;rintro e w1 ⟨rfl,hb⟩)
  go_ret3
  exact ⟨by rw [HV.out];rfl,by assumption⟩
 ·subst h
  by_cases h128:(r:Int)<128
  ·go_enter Tryz.func78,Tryz.ntmps78
   go_wp2_with (go_at_call 112;refine HC.out.mono ?_;rintro e w1 ⟨rfl,hb⟩)
   go_ret3
   exact ⟨by rw [HV.out];simp;omega,by assumption⟩
  ·go_enter Tryz.func78,Tryz.ntmps78
   go_wp2_with (go_at_call 112;refine HC.out.mono ?_;rintro e w1 ⟨rfl,hb⟩)
   go_ret3
   exact ⟨by rw [HV.out];simp;omega,by assumption⟩
 ·have h':(1:Int)<(n:Int):=by omega
  go_enter Tryz.func78,Tryz.ntmps78
  go_wp2_with (go_at_call 112;refine HC.out.mono ?_;rintro e w1 ⟨rfl,hb⟩)
  go_ret3
  exact ⟨by rw [HV.out];simp;omega,by assumption⟩
end Go.Proofs.YtmbeicndhigklaaGreatDoor
namespace Go.Proofs.YtmbeicndhigklaaGreatDoor
open Lib (hid)
open Go.RowKit
theorem info_int:(Tryz.prog.info? 3).map (fun i=>(i.zero,i.size,i.bytes))=some (some (.int .i64 0),1,8):=by kernel_rfl
theorem ret_nat {k:IntKind} {a b:Nat} (h:a=b):Ending.returned (.int k (a:Int))=.returned (.int k (b:Int)):=by rw [h]
set_option maxHeartbeats 400000 in
set_option maxRecDepth 100000 in
theorem refValid_any (s:ByteArray) (w:World) (hs:s.size≤maxLen) :
  Calls Tryz.prog 129 #[.string s] w fun e w'=>e=.returned (.int .i64 (valid s.data.toList))∧Below w.heap.size w w':=by
 have hsz:=Lib.size_eq s
 have HSZ:=hid hsz
 clear hsz
 have hs':=hs
 unfold maxLen at hs
 have HS:=hid hs'
 clear hs'
 go_enter Tryz.func129,Tryz.ntmps129
 go_wp2
 go_loopw [3] (fun a wr=>∃k:Nat,k≤s.size∧a=.int .i64 k∧Hid (valid s.data.toList=k+valid (s.data.toList.drop k))∧Below w.heap.size w wr) (fun a _=>s.size-(intOf a).toNat)
 case atStart=>exact ⟨0,Nat.zero_le _,rfl,(Nat.zero_add _).symm,Below.refl _ _⟩
 case round=>
  obtain ⟨k,hk,rfl,hv,hb⟩:=hrel
  by_cases hlt:k<s.size
  ·have hext:=drop_extract s k
   have hne:(s.data.toList.drop k).length≠0:=by rw [List.length_drop,←HSZ.out];omega
   have hn:=dec_n _ hne
   have HL:=hid (show (s.data.toList.drop k).length=s.size-k by rw [List.length_drop,←HSZ.out])
   have hn3:(dec (s.data.toList.drop k)).2≤s.size-k:=by rw [←HL.out];exact hn.2.2
   have hD:Calls Tryz.prog 159 #[.string (s.extract k s.size)] wr fun e w'=>e=.returned (.tuple #[.int .i64 (dec (s.data.toList.drop k)).1,.int .i64 (dec (s.data.toList.drop k)).2,.bool (decOk (s.data.toList.drop k))])∧Below wr.heap.size wr w':=by
    have:=refDecode_any (s.extract k s.size) wr (by rw [Lib.size_eq,hext,HL.out];have:=HS.out;omega)
    rw [hext] at this
    exact this
   have hst:=valid_step _ hne
   have hsp:=valid_stop (s.data.toList.drop k)
   rw [List.drop_drop] at hst
   have hle:=dec_le (s.data.toList.drop k)
   have HNE:=hid hne
   clear hext hne
   generalize valid (s.data.toList.drop k)=V at hv hst hsp
   generalize (dec (s.data.toList.drop k)).1=r at hD hle
   generalize (dec (s.data.toList.drop k)).2=n at hD hn hst hle hn3
   generalize decOk (s.data.toList.drop k)=ok at hD hst hsp
   have HD:=hid hD
   have HST:=hid hst
   have HSP:=hid hsp
   clear hD hst hsp
   obtain ⟨hn1,hn2,_⟩:=hn
   cases ok
   ·go_wp2_with (go_at_call 159;refine HD.out.mono ?_;rintro e w1 ⟨rfl,hb1⟩)
    go_ret
    exact ⟨ret_nat (by have:=hv.out;have:=HSP.out (by simp);omega),hb.trans (hb1.mono hb.size)⟩
   ·go_wp2_with (go_at_call 159;refine HD.out.mono ?_;rintro e w1 ⟨rfl,hb1⟩)
    go_roundw
    case rel=>exact ⟨k+n,by omega,by go_num,by have:=hv.out;have:=HST.out (by simp);show _ = _;omega,hb.trans (hb1.mono hb.size)⟩
    case measure=>simp [intOf];omega
  ·have hk':k=s.size:=by omega
   have hd:valid (s.data.toList.drop k)=0:=valid_nil _ (by rw [List.length_drop,←HSZ.out];omega)
   have HD:=hid hd
   have HK:=hid hk'
   clear hd hk'
   go_wp2
   go_ret
   exact ⟨ret_nat (by have:=hv.out;have:=HD.out;omega),hb⟩
set_option maxHeartbeats 400000 in
set_option maxRecDepth 100000 in
theorem utfValid_any (s:ByteArray) (w:World) (hT:Tabs w) (hs:s.size≤maxLen) :
  Calls Tryz.prog 56 #[.string s] w fun e w'=>e=.returned (.int .i64 (valid s.data.toList))∧Below w.heap.size w w':=by
 have hsz:=Lib.size_eq s
 have HSZ:=hid hsz
 clear hsz
 have hs':=hs
 unfold maxLen at hs
 have HS:=hid hs'
 clear hs'
 go_enter Tryz.func56,Tryz.ntmps56
 go_wp2
 go_loopw [3] (fun a wr=>∃k:Nat,k≤s.size∧a=.int .i64 k∧Hid (valid s.data.toList=k+valid (s.data.toList.drop k))∧Below w.heap.size w wr) (fun a _=>s.size-(intOf a).toNat)
 case atStart=>exact ⟨0,Nat.zero_le _,rfl,(Nat.zero_add _).symm,Below.refl _ _⟩
 case round=>
  obtain ⟨k,hk,rfl,hv,hb⟩:=hrel
  by_cases hlt:k<s.size
  ·have hext:=drop_extract s k
   have hne:(s.data.toList.drop k).length≠0:=by rw [List.length_drop,←HSZ.out];omega
   have hn:=dec_n _ hne
   have HL:=hid (show (s.data.toList.drop k).length=s.size-k by rw [List.length_drop,←HSZ.out])
   have hn3:(dec (s.data.toList.drop k)).2≤s.size-k:=by rw [←HL.out];exact hn.2.2
   have hD:Calls Tryz.prog 78 #[.string (s.extract k s.size)] wr fun e w'=>e=.returned (.tuple #[.int .i64 (dec (s.data.toList.drop k)).1,.int .i64 (dec (s.data.toList.drop k)).2,.bool (decOk (s.data.toList.drop k))])∧Below wr.heap.size wr w':=by
    have:=utfDecode_any (s.extract k s.size) wr (hT.below hb (Nat.le_refl _))
    rw [hext] at this
    exact this
   have hst:=valid_step _ hne
   have hsp:=valid_stop (s.data.toList.drop k)
   rw [List.drop_drop] at hst
   have hle:=dec_le (s.data.toList.drop k)
   have HNE:=hid hne
   clear hext hne
   generalize valid (s.data.toList.drop k)=V at hv hst hsp
   generalize (dec (s.data.toList.drop k)).1=r at hD hle
   generalize (dec (s.data.toList.drop k)).2=n at hD hn hst hle hn3
   generalize decOk (s.data.toList.drop k)=ok at hD hst hsp
   have HD:=hid hD
   have HST:=hid hst
   have HSP:=hid hsp
   clear hD hst hsp
   obtain ⟨hn1,hn2,_⟩:=hn
   cases ok
   ·go_wp2_with (go_at_call 78;refine HD.out.mono ?_;rintro e w1 ⟨rfl,hb1⟩)
    go_ret
    exact ⟨ret_nat (by have:=hv.out;have:=HSP.out (by simp);omega),hb.trans (hb1.mono hb.size)⟩
   ·go_wp2_with (go_at_call 78;refine HD.out.mono ?_;rintro e w1 ⟨rfl,hb1⟩)
    go_roundw
    case rel=>exact ⟨k+n,by omega,by go_num,by have:=hv.out;have:=HST.out (by simp);show _ = _;omega,hb.trans (hb1.mono hb.size)⟩
    case measure=>simp [intOf];omega
  ·have hk':k=s.size:=by omega
   have hd:valid (s.data.toList.drop k)=0:=valid_nil _ (by rw [List.length_drop,←HSZ.out];omega)
   have HD:=hid hd
   have HK:=hid hk'
   clear hd hk'
   go_wp2
   go_ret
   exact ⟨ret_nat (by have:=hv.out;have:=HD.out;omega),hb⟩
end Go.Proofs.YtmbeicndhigklaaGreatDoor
namespace Go.Proofs.YtmbeicndhigklaaGreatDoor
open Lib (hid)
open Go.RowKit
theorem own_iterAt {w:World} {base:Nat} {e:TypeId} {size:Nat} {v:Value} {n:Nat} {xs:List Value} (h:w.ownsRow base e size v n xs) {k:Nat} {s:ByteArray} {pos:Nat} (hk:w.heap[k]?=some (.stringIter s pos)) (pos':Nat):(w.iterAt k s pos').ownsRow base e size v n xs:=by
 refine ⟨h.1,?_⟩
 rcases h.2 with h2 | ⟨g,cap,cur,hv,hg,hh,r⟩
 ·exact .inl h2
 ·refine .inr ⟨g,cap,cur,hv,hg,?_,r⟩
  rw [Lib.iterAt_other _ _ _ _ _ (by rintro rfl;rw [hk] at hh;cases hh)]
  exact hh
def ints (l:List Int):List Value:=l.map (Value.int .i64)
theorem ints_append (l:List Int) (x:Int):ints l++[.int .i64 x]=ints (l++[x]):=by simp [ints]
def OwnInts (base:Nat) (w:World) (v:Value) (l:List Int):Prop:=w.ownsRow base 3 1 v l.length (ints l)
def IsOwn (l:List Int) (w w':World) (e:Ending):Prop:=∃v,e=.returned v∧OwnInts w.heap.size w' v l∧Below w.heap.size w w'
end Go.Proofs.YtmbeicndhigklaaGreatDoor
namespace Go.Proofs.YtmbeicndhigklaaGreatDoor
open Lib (hid)
open Go.RowKit
theorem own_ne_iter {w:World} {base:Nat} {e:TypeId} {size:Nat} {v:Value} {n:Nat} {xs:List Value} (h:w.ownsRow base e size v n xs) {k:Nat} {s:ByteArray} {pos:Nat} (hk:w.heap[k]?=some (.stringIter s pos)):some k≠v.ownBlock:=by
 rcases h.2 with ⟨hv,_⟩ | ⟨g,cap,cur,hv,hg,hh,_⟩
 ·rw [hv];simp [Value.ownBlock]
 ·rw [hv]
  intro e
  have:k=g:=by simpa [Value.ownBlock] using e
  subst this
  rw [hk] at hh;cases hh
theorem next_at {P:Program} (w:World) (k:Nat) (s:ByteArray) (pos:Nat) (ty:TypeId) (hk:w.heap[k]?=some (.stringIter s pos)) (h:pos<s.size) :
  (Instr.next (.pointer (some ⟨k,0,none⟩)) true ty).run P w=.ok (.tuple #[.bool true,.int .i64 pos,.int .i32 (dec (s.data.toList.drop pos)).1]) (w.iterAt k s (pos+(dec (s.data.toList.drop pos)).2)):=by
 rw [Lib.run_next_any_at w k s pos ty hk h,decode_drop s pos h]
set_option maxHeartbeats 400000 in
set_option maxRecDepth 100000 in
theorem utfExplode_any (s:ByteArray) (w:World) (hs:s.size≤17592186044416) :
  Calls Tryz.prog 147 #[.string s] w fun e w'=>IsOwn (explode s.data.toList) w w' e:=by
 obtain ⟨i0,hi,hz0,hz1,hz2⟩:=info_parts info_int
 have HSZ:=hid (Lib.size_eq s)
 go_enter Tryz.func147,Tryz.ntmps147
 go_wp2
 go_loopw [3] (fun v wr=>∃(k:Nat) (acc:List Int),k≤s.size∧wr.heap[w.heap.size]?=some (.stringIter s k)∧OwnInts w.heap.size wr v acc∧Hid (explode s.data.toList=acc++explode (s.data.toList.drop k))∧acc.length≤k∧Below w.heap.size w wr) (fun _ wr=>s.size-wr.iterPos w.heap.size)
 case atStart=>exact ⟨0,[],Nat.zero_le _,World.iter_heap w s 0,World.ownsRow_nil _ _ _ _,rfl,Nat.le_refl _,(Below.refl _ w).alloc (Nat.le_refl _) _⟩
 case round=>
  obtain ⟨k,acc,hk,hit,hown,hv,hal,hb⟩:=hrel
  have hsz:w.heap.size<wr.heap.size:=(Array.getElem?_eq_some_iff.1 hit).1
  by_cases hlt:k<s.size
  ·have hne:(s.data.toList.drop k).length≠0:=by rw [List.length_drop,←HSZ.out];omega
   have hn:=dec_n _ hne
   have hl:(s.data.toList.drop k).length=s.size-k:=by rw [List.length_drop,←HSZ.out]
   have hn3:(dec (s.data.toList.drop k)).2≤s.size-k:=by rw [←hl];exact hn.2.2
   have hnx:∀ty,(Instr.next (.pointer (some ⟨w.heap.size,0,none⟩)) true ty).run Tryz.prog wr = _:=fun ty=>next_at wr w.heap.size s k ty hit hlt
   have hst:=explode_cons _ hne
   rw [List.drop_drop] at hst
   have hle:=dec_le (s.data.toList.drop k)
   clear hl hne
   generalize explode (s.data.toList.drop k)=V at hv hst
   generalize (dec (s.data.toList.drop k)).1=r at hnx hle hst
   generalize (dec (s.data.toList.drop k)).2=n at hnx hn hst hle hn3
   obtain ⟨hn1,hn2,_⟩:=hn
   have hr:(r:Int)≤1114111:=by omega
   have HST:=hid hst
   clear hst
   have hown1:=own_iterAt hown hit (k+n)
   have hit1:=Lib.iterAt_heap wr w.heap.size s k (k+n) hit
   have hb1:=Lib.below_iterAt hb (k:=w.heap.size) (Nat.le_refl _) s (k+n)
   have hsz1:w.heap.size<(wr.iterAt w.heap.size s (k+n)).heap.size:=by rw [Lib.iterAt_size];exact hsz
   have HIT1:=hid hit1
   have HIT:=hid hit
   clear hit1 hit hown hb
   go_wp2_with (at_builtin;refine wpList_append_own _ rfl _ _ 81 rfl w.heap.size 3 i0 (.int .i64 0) 1 8 Tryz.underlying81 hi hz0 hz1 hz2 rfl (by decide) _ _ _ rfl (hown1.alloc _) ⟨(wr.iterAt w.heap.size s (k+n)).heap.size,0,none⟩ 1 1 [.int .i64 r] rfl rfl ?c1 ?c2 ?c3 ?c4 ?c5 ?_)
   case c1=>exact cell_one_new _ _ _
   case c2=>intro u hu;simp at hu;subst hu;rfl
   case c3=>unfold maxLen;omega
   case c4=>omega
   case c5=>simp;omega
   intro v' w2 hown' hgrow _
   have hit2:w2.heap[w.heap.size]?=some (.stringIter s (k+n)):=by
    rw [hgrow.block w.heap.size (by simp;omega) (own_ne_iter hown1 HIT1.out),Below.heap_alloc _ _ _ hsz1]
    exact HIT1.out
   have hb2:=(hb1.alloc (by omega) _).grown hgrow (by simp;omega) (fun j hj=>(hown1.lt j hj).1)
   have HIT2:=hid hit2
   clear hit2
   go_wp2
   go_roundw
   case rel=>
    refine ⟨k+n,acc++[(r:Int)],by omega,HIT2.out,?_,?_,by simp;omega,hb2⟩
    ·unfold OwnInts;rw [←ints_append,List.length_append];exact hown'
    ·show _ = _;rw [hv.out,HST.out];simp
   case measure=>rw [iterPos_of HIT2.out,iterPos_of HIT.out];omega
  ·have hnx:∀ty,(Instr.next (.pointer (some ⟨w.heap.size,0,none⟩)) true ty).run Tryz.prog wr = _:=fun ty=>Lib.run_next_end_at wr w.heap.size s k ty hit hlt
   have hd:explode (s.data.toList.drop k)=[]:=explode_nil _ (by rw [List.length_drop,←HSZ.out];omega)
   have HD:=hid hd
   clear hd
   go_wp2
   go_ret
   refine ⟨_,rfl,?_,hb⟩
   have:=hv.out
   rw [HD.out,List.append_nil] at this
   rw [this]
   exact hown
theorem runeCells_enc (p:Int) (h:isPt p=true):Lib.runeCells p=Lib.byteCells (enc p):=by
 rw [enc_rune p h,Lib.byteCells_encodeRune]
theorem enc_pos (p:Int):1≤(enc p).length∧(enc p).length≤4:=by rw [enc_len];(repeat' split) <;> omega
end Go.Proofs.YtmbeicndhigklaaGreatDoor
namespace Go.Proofs.YtmbeicndhigklaaGreatDoor
open Lib (hid)
open Go.RowKit
theorem bld_below {T e:TypeId} {B b:Nat} {bs:List Value} {w w':World} (h:Lib.IsBuilderF T e B b bs w) (hb:Below w.heap.size w w'):Lib.IsBuilderF T e B b bs w':=by
 rcases h with h | h
 ·left
  obtain ⟨hB,v,hbk,hown,hne⟩:=h
  refine ⟨hB,v,by rw [hb.block b (Array.getElem?_eq_some_iff.1 hbk).1];exact hbk,?_,hne⟩
  refine ⟨hown.1,?_⟩
  rcases hown.2 with h2 | ⟨g,cap,cur,fz,hv,hg,hh,r⟩
  ·exact .inl h2
  ·exact .inr ⟨g,cap,cur,fz,hv,hg,by rw [hb.block g (Array.getElem?_eq_some_iff.1 hh).1];exact hh,r⟩
 ·right
  obtain ⟨hB,v,hbk,hown,hne⟩:=h
  refine ⟨hB,v,by rw [hb.block b (Array.getElem?_eq_some_iff.1 hbk).1];exact hbk,?_,hne⟩
  refine ⟨hown.1,?_⟩
  rcases hown.2 with h2 | ⟨g,cap,cur,fz,hv,hg,hh,r⟩
  ·exact .inl h2
  ·exact .inr ⟨g,cap,cur,fz,hv,hg,by rw [hb.block g (Array.getElem?_eq_some_iff.1 hh).1];exact hh,r⟩
end Go.Proofs.YtmbeicndhigklaaGreatDoor
namespace Go.Proofs.YtmbeicndhigklaaGreatDoor
open Lib (hid)
def hexV (c:Nat):Option Nat:=if 48≤c∧c≤57 then some (c-48) else if 97≤c∧c≤102 then some (c-87) else if 65≤c∧c≤70 then some (c-55) else none
def fourF:Nat→List UInt8→Nat→Nat→Nat×Nat
 | 0,_,i,h=>(h,i)
 | f+1,l,i,h=>if l.length≤i then (h,i) else match hexV (bt l i) with
  | none=>(h,i)
  | some d=>fourF f l (i+1) (16 * h+d)
def fourL (l:List UInt8):Nat×Nat:=fourF 4 l 0 0
structure Pc where
 point:Nat
 size:Nat
 err:Nat
deriving DecidableEq
def faultP (l:List UInt8) (n:Nat):Pc:=⟨0,n,if l.length≤n then 5 else if 127<bt l n then 7 else 2⟩
def numberedP (l:List UInt8):Pc:=
 if (fourL (l.drop 2)).2<4 then faultP l (2+(fourL (l.drop 2)).2)
 else if (fourL (l.drop 2)).1<55296∨57343<(fourL (l.drop 2)).1 then ⟨(fourL (l.drop 2)).1,6,0⟩
 else if (fourL (l.drop 2)).1<56320∧12≤l.length∧bt l 6=92∧bt l 7=117∧(fourL (l.drop 8)).2=4∧56320≤(fourL (l.drop 8)).1∧(fourL (l.drop 8)).1≤57343 then ⟨65536+((fourL (l.drop 2)).1-55296) * 1024+(fourL (l.drop 8)).1-56320,12,0⟩
 else ⟨65533,6,0⟩
def escapedP (l:List UInt8):Pc:=
 if l.length<2 then faultP l 1
 else if bt l 1=34∨bt l 1=92∨bt l 1=47 then ⟨bt l 1,2,0⟩
 else if bt l 1=98 then ⟨8,2,0⟩
 else if bt l 1=102 then ⟨12,2,0⟩
 else if bt l 1=110 then ⟨10,2,0⟩
 else if bt l 1=114 then ⟨13,2,0⟩
 else if bt l 1=116 then ⟨9,2,0⟩
 else if bt l 1=117 then numberedP l
 else faultP l 1
def beginsP (l:List UInt8):Bool:=
 decide (l.length≤3)&&[[128],[128,128],[128,128,128],[191],[191,191],[191,191,191]].any fun m=>decOk (l++m)&&((dec (l++m)).2==(l++m).length)&&decide (127<(dec (l++m)).1)
def nextP (l:List UInt8):Pc:=
 if l.length=0 then faultP l 0
 else if bt l 0=34 then ⟨0,0,0⟩
 else if bt l 0=92 then escapedP l
 else if bt l 0<32 then faultP l 0
 else if decOk (l.take 4) then ⟨(dec (l.take 4)).1,(dec (l.take 4)).2,0⟩
 else if beginsP l then faultP l l.length
 else faultP l 0
def piecesF:Nat→List UInt8→List Pc
 | 0,_=>[]
 | f+1,l=>if (nextP l).err≠0∨(nextP l).size=0 then [nextP l] else nextP l::piecesF f (l.drop (nextP l).size)
def piecesP (l:List UInt8):List Pc:=piecesF (l.length+1) l
end Go.Proofs.YtmbeicndhigklaaGreatDoor
namespace Go.Proofs.YtmbeicndhigklaaGreatDoor
open Lib (hid)
open Go.RowKit
def RdB (w:World) (A:Option Addr) (n:Nat) (l:List UInt8):Prop:=
 l.length=n∧(0<n→∃b off,A=some ⟨b,off,none⟩∧b<w.heap.size∧∀i,i<n→w.cell? ⟨b,off+i,none⟩=some (.int .u8 (bt l i:Nat)))
theorem RdB.below {w w':World} {A:Option Addr} {n:Nat} {l:List UInt8} (h:RdB w A n l) (hb:Below w.heap.size w w'):RdB w' A n l:=by
 refine ⟨h.1,fun hn=>?_⟩
 obtain ⟨b,off,e,hlt,hc⟩:=h.2 hn
 exact ⟨b,off,e,Nat.lt_of_lt_of_le hlt hb.size,fun i hi=>(hb.cell (p:=⟨b,off+i,none⟩) hlt).trans (hc i hi)⟩
def cutA (A:Option Addr) (lo cap:Nat):Option Addr:=if cap=lo then A else A.map (·.add lo)
theorem add_flat (b off k:Nat):(⟨b,off,none⟩:Addr).add k=⟨b,off+k,none⟩:=by unfold Addr.add;split <;> simp_all
theorem RdB.cut {w:World} {A:Option Addr} {n cap:Nat} {l:List UInt8} (h:RdB w A n l) {i:Nat} (hi:i≤n) (hc:n≤cap):RdB w (cutA A i cap) (n-i) (l.drop i):=by
 refine ⟨by rw [List.length_drop,h.1],fun h0=>?_⟩
 obtain ⟨b,off,e,hlt,hcell⟩:=h.2 (by omega)
 refine ⟨b,off+i,?_,hlt,fun j hj=>?_⟩
 ·unfold cutA
  rw [if_neg (by omega),e,Option.map_some,add_flat]
 ·rw [Nat.add_assoc,hcell (i+j) (by omega),bt_drop]
theorem RdB.take {w:World} {A:Option Addr} {n:Nat} {l:List UInt8} (h:RdB w A n l) {m:Nat} (hm:m≤n):RdB w A m (l.take m):=by
 refine ⟨by rw [List.length_take,h.1];omega,fun h0=>?_⟩
 obtain ⟨b,off,e,hlt,hc⟩:=h.2 (by omega)
 refine ⟨b,off,e,hlt,fun j hj=>?_⟩
 rw [hc j (by omega)]
 unfold bt
 rw [List.getElem?_take,if_pos hj]
theorem RdB.conv {P:Program} {w:World} {A:Option Addr} {n cap:Nat} {l:List UInt8} (h:RdB w A n l) {src e dst:TypeId} (hs:P.underlying src=some (.slice e)) (he:P.underlying e=some (.int .u8)) (hd:P.underlying dst=some .string) (h0:0<n) :
  (convert src dst (.slice A n cap)).run P w=.ok (.string ⟨l.toArray⟩) w:=by
 obtain ⟨b,off,rfl,_,hc⟩:=h.2 h0
 have:=run_convert_bytes_back w src dst e ⟨b,off,none⟩ cap l hs he hd (fun j hj=>by
  rw [add_flat,hc j (by rw [←h.1];exact hj)]
  unfold bt
  rw [List.getElem?_eq_getElem hj];rfl)
 rwa [h.1] at this
def pcVal (p:Pc):Value:=.agg #[.int .i64 (p.point:Int),.int .i64 (p.size:Int),.int .i64 (p.err:Int)]
theorem RdB.cut' {w:World} {b off n:Nat} {l:List UInt8} (h:RdB w (some ⟨b,off,none⟩) n l) {i:Nat} (hi:i≤n):RdB w (some ⟨b,off+i,none⟩) (n-i) (l.drop i):=by
 refine ⟨by rw [List.length_drop,h.1],fun h0=>?_⟩
 obtain ⟨b',off',e,hlt,hcell⟩:=h.2 (by omega)
 obtain ⟨rfl,rfl⟩:b=b'∧off=off':=by simpa using e
 refine ⟨b,off+i,rfl,hlt,fun j hj=>?_⟩
 rw [Nat.add_assoc,hcell (i+j) (by omega),bt_drop]
theorem below_new {w w2:World} {o:Obj} (h:Below (w.alloc o).heap.size (w.alloc o) w2):Below w.heap.size w w2:=((Below.refl _ w).alloc (Nat.le_refl _) o).trans (h.mono (by simp))
theorem below_put3 {B:Nat} {w w2:World} (h:Below B w w2) {g:Nat} (hg:B≤g) (x y z:Value):Below B w (((w2.setCell ⟨g,0,none⟩ x).setCell ⟨g,1,none⟩ y).setCell ⟨g,2,none⟩ z):=
 ((h.setCell (p:=⟨g,0,none⟩) hg x).setCell (p:=⟨g,1,none⟩) hg y).setCell (p:=⟨g,2,none⟩) hg z
def Own3 (T:TypeId) (w:World) (g:Nat) (x y z:Value):Prop:=w.heap[g]?=some (.cells #[x,y,z] T (0,0))
theorem Own3.new (T:TypeId) (w:World) (x y z:Value):Own3 T (w.alloc (.cells #[x,y,z] T)) w.heap.size x y z:=by
 show (w.heap.push _)[w.heap.size]? = _
 simp
theorem Own3.lt {T:TypeId} {w:World} {g:Nat} {x y z:Value} (h:Own3 T w g x y z):g<w.heap.size:=(Array.getElem?_eq_some_iff.1 h).1
theorem Own3.below {T:TypeId} {w w':World} {g:Nat} {x y z:Value} (h:Own3 T w g x y z) (hb:Below w.heap.size w w'):Own3 T w' g x y z:=(hb.block g h.lt).trans h
theorem Own3.cells {T:TypeId} {w:World} {g:Nat} {x y z:Value} (h:Own3 T w g x y z) :
  w.cell? ⟨g,0,none⟩=some x∧w.cell? ⟨g,1,none⟩=some y∧w.cell? ⟨g,2,none⟩=some z∧w.frozen? ⟨g,0,none⟩=false∧w.frozen? ⟨g,1,none⟩=false∧w.frozen? ⟨g,2,none⟩=false:=
 ⟨by rw [Lib.cell_of_heap h];rfl,by rw [Lib.cell_of_heap h];rfl,by rw [Lib.cell_of_heap h];rfl,Lib.frozen_of_heap h 0,Lib.frozen_of_heap h 1,Lib.frozen_of_heap h 2⟩
end Go.Proofs.YtmbeicndhigklaaGreatDoor
namespace Go.Proofs.YtmbeicndhigklaaGreatDoor
open Lib (hid)
abbrev hexB:List UInt8:=[48,49,50,51,52,53,54,55,56,57,97,98,99,100,101,102]
def hexI (c:Nat):Int:=Lib.indexByte hexB (bits BinOp.or IntKind.u8 (c:Int) 32).toNat.toUInt8
def hexOk (c:Nat):Bool:=match hexV c with
 | none=>decide (hexI c<0∨c<48∨(57<c∧c<65))
 | some d=>decide (d<16)&&decide (hexI c=(d:Int))&&decide (48≤c)&&decide (¬(57<c∧c<65))
theorem hexOk_all:∀c:Fin 256,hexOk c.val=true:=by decide +kernel
theorem hex_none (c:Nat) (hc:c<256) (h:hexV c=none):hexI c<0∨c<48∨(57<c∧c<65):=by
 have:=hexOk_all ⟨c,hc⟩
 unfold hexOk at this
 simp only [h] at this
 exact of_decide_eq_true this
theorem hex_some (c:Nat) (hc:c<256) (d:Nat) (h:hexV c=some d):d<16∧hexI c=(d:Int)∧48≤c∧¬(57<c∧c<65):=by
 have:=hexOk_all ⟨c,hc⟩
 unfold hexOk at this
 simp only [h,Bool.and_eq_true,decide_eq_true_eq] at this
 exact ⟨this.1.1.1,this.1.1.2,this.1.2,this.2⟩
theorem or16 (h d:Nat) (hh:h<65536) (hd:d<16):bits BinOp.or IntKind.i64 (16 * h:Int) (d:Int)=((16 * h+d:Nat):Int):=by
 show IntKind.i64.wrap ((BitVec.ofInt 64 (16 * h:Int) ||| BitVec.ofInt 64 (d:Int)).toNat:Int) = _
 have e1:(BitVec.ofInt 64 (16 * h:Int)).toNat=16 * h:=by
  rw [show (16 * h:Int)=((16 * h:Nat):Int) by push_cast;rfl,BitVec.ofInt_natCast,BitVec.toNat_ofNat];exact Nat.mod_eq_of_lt (by omega)
 have e2:(BitVec.ofInt 64 (d:Int)).toNat=d:=by rw [BitVec.ofInt_natCast,BitVec.toNat_ofNat];exact Nat.mod_eq_of_lt (by omega)
 rw [BitVec.toNat_or,e1,e2]
 have:=Nat.two_pow_add_eq_or_of_lt (i:=4) (b:=d) (by omega) h
 rw [show (2:Nat) ^ 4=16 from rfl] at this
 rw [←this,IntWalk.i64_in _ (by omega)]
theorem fourF_le:∀(f:Nat) (l:List UInt8) (i h:Nat),h<16 ^ i→(fourF f l i h).1<16 ^ (fourF f l i h).2∧i≤(fourF f l i h).2∧(fourF f l i h).2≤i+f∧(i≤l.length→(fourF f l i h).2≤l.length)
 | 0,l,i,h,hh=>⟨hh,Nat.le_refl _,Nat.le_refl _,fun h=>h⟩
 | f+1,l,i,h,hh=>by
  unfold fourF
  split
  ·exact ⟨hh,Nat.le_refl _,by simp only [];omega,fun h=>h⟩
  ·cases hv:hexV (bt l i) with
   | none=>exact ⟨hh,Nat.le_refl _,by simp only [];omega,fun h=>h⟩
   | some d=>
    have:=hex_some _ (bt_lt l i) d hv
    obtain ⟨h1,h2,h3,h4⟩:=fourF_le f l (i+1) (16 * h+d) (by rw [Nat.pow_succ];omega)
    exact ⟨h1,Nat.le_trans (Nat.le_succ _) h2,Nat.le_trans h3 (by omega),fun h=>h4 (by omega)⟩
theorem fourL_le (l:List UInt8):(fourL l).1<65536∧(fourL l).2≤4∧(fourL l).2≤l.length:=by
 obtain ⟨h1,h2,h3,h4⟩:=fourF_le 4 l 0 0 (by decide)
 refine ⟨Nat.lt_of_lt_of_le h1 ?_,by unfold fourL;omega,h4 (Nat.zero_le _)⟩
 exact Nat.pow_le_pow_right (n:=16) (j:=4) (by decide) (by omega)
end Go.Proofs.YtmbeicndhigklaaGreatDoor
namespace Go.Proofs.YtmbeicndhigklaaGreatDoor
open Lib (hid)
def okPc (p:Pc):Prop:=p.size≤12∧p.err≤7∧isPt (p.point:Int)=true
instance:DecidablePred okPc:=fun p=>inferInstanceAs (Decidable (p.size≤12∧p.err≤7∧isPt (p.point:Int)=true))
abbrev Pq:={ p:Pc // okPc p }
theorem pt_small (p:Nat) (h:p<55296):isPt (p:Int)=true:=by rw [isPt_iff];omega
theorem faultP_ok (l:List UInt8) (n:Nat) (h:n≤12):okPc (faultP l n):=by
 refine ⟨h,?_,pt_small 0 (by decide)⟩
 show (if l.length≤n then 5 else if 127<bt l n then 7 else 2)≤7
 (repeat' split) <;> omega
theorem faultP_err (l:List UInt8) (n:Nat):(faultP l n).err≠0:=by
 show (if l.length≤n then 5 else if 127<bt l n then 7 else 2)≠0
 (repeat' split) <;> omega
theorem numberedP_ok (l:List UInt8):okPc (numberedP l):=by
 have h:=fourL_le (l.drop 2)
 have g:=fourL_le (l.drop 8)
 unfold numberedP
 split
 ·exact faultP_ok _ _ (by omega)
 split
 ·refine ⟨show 6≤12 by decide,show 0≤7 by decide,?_⟩
  rw [isPt_iff];simp only [];omega
 split
 ·refine ⟨show 12≤12 by decide,show 0≤7 by decide,?_⟩
  rw [isPt_iff];simp only [];omega
 ·exact ⟨by decide,by decide,by decide⟩
theorem numberedP_size (l:List UInt8) (h:(numberedP l).err=0):6≤(numberedP l).size∧(numberedP l).size≤l.length:=by
 have k:=fourL_le (l.drop 2)
 rw [List.length_drop] at k
 revert h
 unfold numberedP
 split
 ·intro h;exact absurd h (faultP_err _ _)
 split
 ·intro _;simp only [];omega
 split
 ·intro _;simp only [];omega
 ·intro _;simp only [];omega
theorem escapedP_ok (l:List UInt8):okPc (escapedP l):=by
 unfold escapedP
 split
 ·exact faultP_ok _ _ (by omega)
 split
 ·rename_i h
  refine ⟨show 2≤12 by decide,show 0≤7 by decide,?_⟩
  rw [isPt_iff];simp only [];omega
 (repeat' split) <;> first | exact numberedP_ok l | exact faultP_ok _ _ (by omega) | exact ⟨by decide,by decide,by decide⟩
theorem escapedP_size (l:List UInt8) (h:(escapedP l).err=0):2≤(escapedP l).size∧(escapedP l).size≤l.length:=by
 revert h
 unfold escapedP
 (repeat' split) <;> intro h <;> first
  | exact absurd h (faultP_err _ _)
  | (have:=numberedP_size l h;omega)
  | (simp only [];omega)
theorem nextP_ok (l:List UInt8):okPc (nextP l):=by
 unfold nextP
 split
 ·exact faultP_ok _ _ (by omega)
 split
 ·exact ⟨by decide,by decide,by decide⟩
 split
 ·exact escapedP_ok l
 split
 ·exact faultP_ok _ _ (by omega)
 split
 ·exact ⟨Nat.le_trans (dec_le _).2 (by decide),show 0≤7 by decide,dec_pt _⟩
 split
 ·rename_i hb
  refine faultP_ok _ _ ?_
  unfold beginsP at hb
  simp only [Bool.and_eq_true,decide_eq_true_eq] at hb
  omega
 ·exact faultP_ok _ _ (by omega)
theorem nextP_size (l:List UInt8) (h:(nextP l).err=0):(nextP l).size≤l.length:=by
 revert h
 unfold nextP
 split
 ·intro h;exact absurd h (faultP_err _ _)
 rename_i h0
 split
 ·intro _;exact Nat.zero_le _
 split
 ·intro h;exact (escapedP_size l h).2
 split
 ·intro h;exact absurd h (faultP_err _ _)
 split
 ·intro _
  have:=dec_n (l.take 4) (by rw [List.length_take];omega)
  rw [List.length_take] at this
  simp only [];omega
 split
 ·intro h;exact absurd h (faultP_err _ _)
 ·intro h;exact absurd h (faultP_err _ _)
def lastP (p:Pc):Prop:=p.err≠0∨p.size=0
instance:DecidablePred lastP:=fun p=>inferInstanceAs (Decidable (p.err≠0∨p.size=0))
theorem piecesF_more:∀(f g:Nat) (l:List UInt8),l.length<f→l.length<g→piecesF f l=piecesF g l
 | 0,_,_,h,_=>absurd h (Nat.not_lt_zero _)
 | _+1,0,_,_,h=>absurd h (Nat.not_lt_zero _)
 | f+1,g+1,l,hf,hg=>by
  unfold piecesF
  by_cases h:(nextP l).err≠0∨(nextP l).size=0
  ·rw [if_pos h,if_pos h]
  ·rw [if_neg h,if_neg h]
   have hs:=nextP_size l (by omega)
   rw [piecesF_more f g (l.drop (nextP l).size) (by rw [List.length_drop];omega) (by rw [List.length_drop];omega)]
theorem piecesP_eq (l:List UInt8):piecesP l=if lastP (nextP l) then [nextP l] else nextP l::piecesP (l.drop (nextP l).size):=by
 show piecesF (l.length+1) l = _
 unfold piecesF
 by_cases h:(nextP l).err≠0∨(nextP l).size=0
 ·rw [if_pos h,if_pos (show lastP _ from h)]
 ·rw [if_neg h,if_neg (show ¬lastP _ from h)]
  have hs:=nextP_size l (by omega)
  rw [piecesF_more l.length ((l.drop (nextP l).size).length+1) _ (by rw [List.length_drop];omega) (by omega)]
  rfl
theorem piecesP_last (l:List UInt8) (h:lastP (nextP l)):piecesP l=[nextP l]:=by rw [piecesP_eq,if_pos h]
theorem piecesP_cons (l:List UInt8) (h:¬lastP (nextP l)):piecesP l=nextP l::piecesP (l.drop (nextP l).size):=by rw [piecesP_eq,if_neg h]
theorem piecesP_len:∀(k:Nat) (l:List UInt8),l.length≤k→(piecesP l).length≤l.length+1
 | 0,l,h=>by
  have:(nextP l).err≠0∨(nextP l).size=0:=by
   by_cases he:(nextP l).err=0
   ·exact .inr (by have:=nextP_size l he;omega)
   ·exact .inl he
  rw [piecesP_last l this];simp
 | k+1,l,h=>by
  by_cases hl:lastP (nextP l)
  ·rw [piecesP_last l hl];simp
  ·rw [piecesP_cons l hl,List.length_cons]
   have h1:(nextP l).err=0∧(nextP l).size≠0:=by unfold lastP at hl;omega
   have hs:=nextP_size l h1.1
   have:=piecesP_len k (l.drop (nextP l).size) (by rw [List.length_drop];omega)
   rw [List.length_drop] at this
   omega
theorem piecesP_okF:∀(k:Nat) (l:List UInt8),l.length≤k→∀p∈piecesP l,okPc p
 | 0,l,h=>by
  have:(nextP l).err≠0∨(nextP l).size=0:=by
   by_cases he:(nextP l).err=0
   ·exact .inr (by have:=nextP_size l he;omega)
   ·exact .inl he
  rw [piecesP_last l this]
  intro p hp;rw [List.mem_singleton.1 hp];exact nextP_ok l
 | k+1,l,h=>by
  by_cases hl:lastP (nextP l)
  ·rw [piecesP_last l hl]
   intro p hp;rw [List.mem_singleton.1 hp];exact nextP_ok l
  ·rw [piecesP_cons l hl]
   have h1:(nextP l).err=0∧(nextP l).size≠0:=by unfold lastP at hl;omega
   have hs:=nextP_size l h1.1
   have:=piecesP_okF k (l.drop (nextP l).size) (by rw [List.length_drop];omega)
   intro p hp
   rcases List.mem_cons.1 hp with rfl | hp
   ·exact nextP_ok l
   ·exact this p hp
theorem piecesP_ok (l:List UInt8):∀p∈piecesP l,okPc p:=piecesP_okF l.length l (Nat.le_refl _)
def piecesQ (l:List UInt8):List Pq:=(piecesP l).attach.map fun x=>⟨x.1,piecesP_ok l x.1 x.2⟩
theorem piecesQ_val (l:List UInt8):(piecesQ l).map (·.1)=piecesP l:=by
 unfold piecesQ;rw [List.map_map];exact List.attach_map_subtype_val _
def sizeP (ps:List Pc):Nat:=(ps.map (·.size)).sum
theorem sizeP_snoc (ps:List Pc) (p:Pc):sizeP (ps++[p])=sizeP ps+p.size:=by simp [sizeP]
theorem sizeP_cons (ps:List Pc) (p:Pc):sizeP (p::ps)=p.size+sizeP ps:=by simp [sizeP]
theorem sizeP_nil:sizeP []=0:=rfl
def textP (ps:List Pc):List UInt8:=ps.flatMap fun p=>if 0<p.size then enc (p.point:Int) else []
theorem textP_snoc (ps:List Pc) (p:Pc):textP (ps++[p])=textP ps++if 0<p.size then enc (p.point:Int) else []:=by simp [textP]
theorem textP_nil:textP []=[]:=rfl
theorem textP_cons (ps:List Pc) (p:Pc):textP (p::ps)=(if 0<p.size then enc (p.point:Int) else [])++textP ps:=by simp [textP]
def errP (ps:List Pc):Nat:=((ps.find? fun p=>p.err != 0).map (·.err)).getD 0
end Go.Proofs.YtmbeicndhigklaaGreatDoor
