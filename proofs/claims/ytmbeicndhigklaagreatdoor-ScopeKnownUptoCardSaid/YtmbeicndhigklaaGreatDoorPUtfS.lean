/-
Plain Lean: code points and bytes, as the document's chapter 4 has them. No program in sight.
-/
import Derived.Shelf.Unicode.DecodeSlow
import Derived.Lib.RuneBytes
import Derived.Lib.Strings
import Derived.Laws.BytesArg
import Derived.Test.YtmbeicndhigklaaGreatDoorRows
import Derived.WalkKit
import Derived.WalkSpells
import Derived.WalkLawsBesides
import Derived.Handy
import Derived.Lib.Hide
import Derived.Deep.RegionWith
import Derived.Deep.QuietTactic
import Derived.BigQuiet
namespace Go.Proofs.YtmbeicndhigklaaGreatDoor
open Lib (hid)
def isPt (p:Int):Bool:=decide (0≤p)&&decide (p≤1114111)&&(decide (p<55296)||decide (57343<p))
theorem isPt_iff (p:Int):isPt p=true↔0≤p∧p≤1114111∧(p<55296∨57343<p):=by
 simp [isPt];omega
def ptBytes (p:Int):List Int:=
 if p<128 then [p]
 else if p<2048 then [192+p / 64,128+p % 64]
 else if p<65536 then [224+p / 4096,128+p / 64 % 64,128+p % 64]
 else [240+p / 262144,128+p / 4096 % 64,128+p / 64 % 64,128+p % 64]
def enc (p:Int):List UInt8:=(ptBytes p).map fun n=>UInt8.ofNat n.toNat
theorem strOf_ptBytes (p:Int):strOfNums (ptBytes p)=⟨(enc p).toArray⟩:=rfl
theorem ptBytes_rune (p:Int) (h:isPt p=true):ptBytes p=Lib.encodeRuneZ p:=by
 rw [isPt_iff] at h
 unfold ptBytes Lib.encodeRuneZ
 (repeat' split) <;> first | rfl | (exfalso;omega)
theorem enc_rune (p:Int) (h:isPt p=true):enc p=Lib.encodeRune p:=by
 unfold enc Lib.encodeRune
 rw [ptBytes_rune p h];try rfl
theorem ptBytes_len (p:Int):(ptBytes p).length=if p<128 then 1 else if p<2048 then 2 else if p<65536 then 3 else 4:=by
 unfold ptBytes;(repeat' split) <;> rfl
theorem enc_len (p:Int):(enc p).length=if p<128 then 1 else if p<2048 then 2 else if p<65536 then 3 else 4:=by
 unfold enc;rw [List.length_map,ptBytes_len]
def bt (l:List UInt8) (k:Nat):Nat:=(l[k]?.getD 0).toNat
theorem bt_lt (l:List UInt8) (k:Nat):bt l k<256:=UInt8.toNat_lt _
theorem get_bt (s:ByteArray) (k:Nat):(s.get! k).toNat=bt s.data.toList k:=by
 unfold bt
 have:s.get! k=(s.data[k]?).getD 0:=by
  show s.data[k]! = _
  rw [getElem!_def]
  cases s.data[k]? <;> rfl
 rw [this];simp
theorem bt_drop (l:List UInt8) (i k:Nat):bt (l.drop i) k=bt l (i+k):=by
 unfold bt;rw [List.getElem?_drop]
def dec (l:List UInt8):Nat×Nat:=if l.length=0 then (65533,0) else Lib.decodeN l.length (bt l 0) (bt l 1) (bt l 2) (bt l 3)
def decOk (l:List UInt8):Bool:=decide (1<(dec l).2)||((dec l).2==1&&decide ((dec l).1<128))
theorem dec_go (s:ByteArray):Lib.decodeGo s=dec s.data.toList:=by
 unfold Lib.decodeGo dec
 rw [Lib.size_eq]
 split
 ·rfl
 ·rw [Lib.decode_at,Lib.size_eq];simp only [get_bt,Nat.sub_zero,Nat.zero_add]
theorem decode_drop (s:ByteArray) (i:Nat) (h:i<s.size):Utf8.decode s i=dec (s.data.toList.drop i):=by
 rw [Lib.decode_at,Lib.size_eq]
 rw [Lib.size_eq] at h
 unfold dec
 rw [List.length_drop,if_neg (by omega)]
 simp only [get_bt,bt_drop,Nat.add_zero]
theorem decodeN_cases (n b0 b1 b2 b3:Nat) (h0:b0<256) (h1:b1<256) (h2:b2<256) (h3:b3<256) :
  (b0<128∧Lib.decodeN n b0 b1 b2 b3=(b0,1)) ∨
  (1<n∧192≤b0∧b0<224∧128≤b1∧b1<192∧128≤(b0-192) * 64+(b1-128)∧Lib.decodeN n b0 b1 b2 b3=((b0-192) * 64+(b1-128),2)) ∨
  (2<n∧224≤b0∧b0<240∧128≤b1∧b1<192∧128≤b2∧b2<192∧2048≤(b0-224) * 4096+(b1-128) * 64+(b2-128) ∧
   ((b0-224) * 4096+(b1-128) * 64+(b2-128)<55296∨57343<(b0-224) * 4096+(b1-128) * 64+(b2-128)) ∧
   Lib.decodeN n b0 b1 b2 b3=((b0-224) * 4096+(b1-128) * 64+(b2-128),3)) ∨
  (3<n∧240≤b0∧b0<248∧128≤b1∧b1<192∧128≤b2∧b2<192∧128≤b3∧b3<192∧65536≤(b0-240) * 262144+(b1-128) * 4096+(b2-128) * 64+(b3-128) ∧
   (b0-240) * 262144+(b1-128) * 4096+(b2-128) * 64+(b3-128)≤1114111 ∧
   Lib.decodeN n b0 b1 b2 b3=((b0-240) * 262144+(b1-128) * 4096+(b2-128) * 64+(b3-128),4)) ∨
  (128≤b0∧Lib.decodeN n b0 b1 b2 b3=(65533,1)):=by
 unfold Lib.decodeN
 split
 ·left;exact ⟨by assumption,rfl⟩
 split
 ·split
  ·right;left;refine ⟨by omega,by omega,by omega,by omega,by omega,by omega,?_⟩;rw [Prod.mk.injEq];exact ⟨by omega,rfl⟩
  ·right;right;right;right;exact ⟨by omega,rfl⟩
 split
 ·split
  ·right;right;left;refine ⟨by omega,by omega,by omega,by omega,by omega,by omega,by omega,by omega,by omega,?_⟩;rw [Prod.mk.injEq];exact ⟨by omega,rfl⟩
  ·right;right;right;right;exact ⟨by omega,rfl⟩
 split
 ·split
  ·right;right;right;left;refine ⟨by omega,by omega,by omega,by omega,by omega,by omega,by omega,by omega,by omega,by omega,by omega,?_⟩;rw [Prod.mk.injEq];exact ⟨by omega,rfl⟩
  ·right;right;right;right;exact ⟨by omega,rfl⟩
 ·right;right;right;right;exact ⟨by omega,rfl⟩
theorem dec_n (l:List UInt8) (h:l.length≠0):1≤(dec l).2∧(dec l).2≤4∧(dec l).2≤l.length:=by
 unfold dec
 rw [if_neg h]
 rcases decodeN_cases l.length (bt l 0) (bt l 1) (bt l 2) (bt l 3) (bt_lt _ _) (bt_lt _ _) (bt_lt _ _) (bt_lt _ _) with ⟨_,e⟩ | ⟨_,_,_,_,_,_,e⟩ | ⟨_,_,_,_,_,_,_,_,_,e⟩ | ⟨_,_,_,_,_,_,_,_,_,_,_,e⟩ | ⟨_,e⟩ <;> rw [e] <;> simp only [] <;> omega
theorem dec_pt (l:List UInt8):isPt (dec l).1=true:=by
 rw [isPt_iff]
 unfold dec
 split
 ·simp
 rcases decodeN_cases l.length (bt l 0) (bt l 1) (bt l 2) (bt l 3) (bt_lt _ _) (bt_lt _ _) (bt_lt _ _) (bt_lt _ _) with ⟨_,e⟩ | ⟨_,_,_,_,_,_,e⟩ | ⟨_,_,_,_,_,_,_,_,_,e⟩ | ⟨_,_,_,_,_,_,_,_,_,_,_,e⟩ | ⟨_,e⟩ <;> rw [e] <;> simp only [] <;> omega
theorem dec_le (l:List UInt8):(dec l).1≤1114111∧(dec l).2≤4:=by
 have h:=dec_pt l
 rw [isPt_iff] at h
 by_cases h0:l.length=0
 ·have:(dec l).2=0:=by unfold dec;rw [if_pos h0]
  omega
 ·have:=dec_n l h0;omega
theorem ofNat_iff (x:Int) (h:0≤x∧x<256) (c:UInt8):UInt8.ofNat x.toNat=c↔x=c.toNat:=by
 rw [←UInt8.toNat_inj,UInt8.toNat_ofNat']
 rw [Nat.mod_eq_of_lt (by omega)]
 omega
theorem bt_cons0 (c:UInt8) (r:List UInt8):bt (c::r) 0=c.toNat:=rfl
theorem bt_cons (c:UInt8) (r:List UInt8) (k:Nat):bt (c::r) (k+1)=bt r k:=rfl
theorem ref2 (c0 c1:UInt8) (r:List UInt8) (p:Int) (h:192≤c0.toNat) (h':c0.toNat<224) (hp:p=64 * ((c0.toNat:Int)-192)+(c1.toNat:Int) % 64) :
  dec (c0::c1::r)=if isPt p=true∧enc p=[c0,c1] then (p.toNat,2) else (65533,1):=by
 have x1:=c1.toNat_lt
 unfold dec
 rw [if_neg (by simp)]
 simp only [bt_cons0,bt_cons]
 generalize hn:(c0::c1::r).length=n
 have hn2:2≤n:=by rw [←hn];simp
 generalize bt r 0=b2,bt r 1=b3
 have key:(isPt p=true∧enc p=[c0,c1])↔(c1.toNat / 64=2∧c0.toNat % 32 * 64+c1.toNat % 64 ≥ 128):=by
  rw [isPt_iff]
  constructor
  ·rintro ⟨hi,he⟩
   unfold enc ptBytes at he
   split at he
   ·simp at he
   split at he
   ·simp only [List.map_cons,List.map_nil,List.cons.injEq,and_true] at he
    rw [ofNat_iff _ (by omega),ofNat_iff _ (by omega)] at he
    omega
   ·exfalso;omega
  ·intro he
   refine ⟨by omega,?_⟩
   unfold enc ptBytes
   rw [if_neg (by omega),if_pos (by omega)]
   simp only [List.map_cons,List.map_nil,List.cons.injEq,and_true]
   rw [ofNat_iff _ (by omega),ofNat_iff _ (by omega)]
   omega
 unfold Lib.decodeN
 rw [if_neg (by omega)]
 by_cases hk:isPt p=true∧enc p=[c0,c1]
 ·rw [if_pos hk]
  rw [key] at hk
  rw [if_pos (by omega),if_pos (by omega),Prod.mk.injEq]
  exact ⟨by omega,rfl⟩
 ·rw [if_neg hk]
  rw [key] at hk
  split
  ·rw [if_neg (by omega)]
  ·rw [if_neg (by omega),if_neg (by omega)]
theorem ref3 (c0 c1 c2:UInt8) (r:List UInt8) (p:Int) (h:224≤c0.toNat) (h':c0.toNat<240) (hp:p=64 * (64 * ((c0.toNat:Int)-224)+(c1.toNat:Int) % 64)+(c2.toNat:Int) % 64) :
  dec (c0::c1::c2::r)=if isPt p=true∧enc p=[c0,c1,c2] then (p.toNat,3) else (65533,1):=by
 have x1:=c1.toNat_lt
 have x2:=c2.toNat_lt
 unfold dec
 rw [if_neg (by simp)]
 simp only [bt_cons0,bt_cons]
 generalize hn:(c0::c1::c2::r).length=n
 have hn2:3≤n:=by rw [←hn];simp
 generalize bt r 0=b3
 have key:(isPt p=true∧enc p=[c0,c1,c2])↔(c1.toNat / 64=2∧c2.toNat / 64=2∧c0.toNat % 16 * 4096+c1.toNat % 64 * 64+c2.toNat % 64 ≥ 2048∧(c0.toNat % 16 * 4096+c1.toNat % 64 * 64+c2.toNat % 64<55296∨57344≤c0.toNat % 16 * 4096+c1.toNat % 64 * 64+c2.toNat % 64)):=by
  rw [isPt_iff]
  constructor
  ·rintro ⟨hi,he⟩
   unfold enc ptBytes at he
   split at he
   ·simp at he
   split at he
   ·simp at he
   split at he
   ·simp only [List.map_cons,List.map_nil,List.cons.injEq,and_true] at he
    rw [ofNat_iff _ (by omega),ofNat_iff _ (by omega),ofNat_iff _ (by omega)] at he
    omega
   ·exfalso;omega
  ·intro he
   refine ⟨by omega,?_⟩
   unfold enc ptBytes
   rw [if_neg (by omega),if_neg (by omega),if_pos (by omega)]
   simp only [List.map_cons,List.map_nil,List.cons.injEq,and_true]
   rw [ofNat_iff _ (by omega),ofNat_iff _ (by omega),ofNat_iff _ (by omega)]
   omega
 unfold Lib.decodeN
 rw [if_neg (by omega),if_neg (by omega)]
 by_cases hk:isPt p=true∧enc p=[c0,c1,c2]
 ·rw [if_pos hk]
  rw [key] at hk
  rw [if_pos (by omega),if_pos (by omega),Prod.mk.injEq]
  exact ⟨by omega,rfl⟩
 ·rw [if_neg hk]
  rw [key] at hk
  split
  ·rw [if_neg (by omega)]
  ·rw [if_neg (by omega)]
theorem ref4 (c0 c1 c2 c3:UInt8) (r:List UInt8) (p:Int) (h:240≤c0.toNat) (h':c0.toNat<248) (hp:p=64 * (64 * (64 * ((c0.toNat:Int)-240)+(c1.toNat:Int) % 64)+(c2.toNat:Int) % 64)+(c3.toNat:Int) % 64) :
  dec (c0::c1::c2::c3::r)=if isPt p=true∧enc p=[c0,c1,c2,c3] then (p.toNat,4) else (65533,1):=by
 have x1:=c1.toNat_lt
 have x2:=c2.toNat_lt
 have x3:=c3.toNat_lt
 unfold dec
 rw [if_neg (by simp)]
 simp only [bt_cons0,bt_cons]
 generalize hn:(c0::c1::c2::c3::r).length=n
 have hn2:4≤n:=by rw [←hn];simp
 have key:(isPt p=true∧enc p=[c0,c1,c2,c3])↔(c1.toNat / 64=2∧c2.toNat / 64=2∧c3.toNat / 64=2∧c0.toNat % 8 * 262144+c1.toNat % 64 * 4096+c2.toNat % 64 * 64+c3.toNat % 64 ≥ 65536∧c0.toNat % 8 * 262144+c1.toNat % 64 * 4096+c2.toNat % 64 * 64+c3.toNat % 64≤1114111):=by
  rw [isPt_iff]
  constructor
  ·rintro ⟨hi,he⟩
   unfold enc ptBytes at he
   split at he
   ·simp at he
   split at he
   ·simp at he
   split at he
   ·simp at he
   ·simp only [List.map_cons,List.map_nil,List.cons.injEq,and_true] at he
    rw [ofNat_iff _ (by omega),ofNat_iff _ (by omega),ofNat_iff _ (by omega),ofNat_iff _ (by omega)] at he
    omega
  ·intro he
   refine ⟨by omega,?_⟩
   unfold enc ptBytes
   rw [if_neg (by omega),if_neg (by omega),if_neg (by omega)]
   simp only [List.map_cons,List.map_nil,List.cons.injEq,and_true]
   rw [ofNat_iff _ (by omega),ofNat_iff _ (by omega),ofNat_iff _ (by omega),ofNat_iff _ (by omega)]
   omega
 unfold Lib.decodeN
 rw [if_neg (by omega),if_neg (by omega),if_neg (by omega)]
 by_cases hk:isPt p=true∧enc p=[c0,c1,c2,c3]
 ·rw [if_pos hk]
  rw [key] at hk
  rw [if_pos (by omega),if_pos (by omega),Prod.mk.injEq]
  exact ⟨by omega,rfl⟩
 ·rw [if_neg hk]
  rw [key] at hk
  split
  ·rw [if_neg (by omega)]
  ·rfl
theorem ref_bad (l:List UInt8) (h0:l.length≠0) (h:(128≤bt l 0∧bt l 0<192)∨248≤bt l 0∨(192≤bt l 0∧l.length<2)∨(224≤bt l 0∧l.length<3)∨(240≤bt l 0∧l.length<4)):dec l=(65533,1):=by
 unfold dec
 rw [if_neg h0]
 have:=bt_lt l 0
 rcases decodeN_cases l.length (bt l 0) (bt l 1) (bt l 2) (bt l 3) (bt_lt _ _) (bt_lt _ _) (bt_lt _ _) (bt_lt _ _) with ⟨_,e⟩ | ⟨_,_,_,_,_,_,e⟩ | ⟨_,_,_,_,_,_,_,_,_,e⟩ | ⟨_,_,_,_,_,_,_,_,_,_,_,e⟩ | ⟨_,e⟩
 ·omega
 ·omega
 ·omega
 ·omega
 ·exact e
theorem ref_one (l:List UInt8) (h0:l.length≠0) (h:bt l 0<128):dec l=(bt l 0,1):=by
 unfold dec
 rw [if_neg h0]
 simp [Lib.decodeN,h]
theorem data_get (s:ByteArray) (k:Nat) (h:k<s.size):s.data.toList[k]?=some s[k]:=by
 rw [Array.getElem?_toList,Array.getElem?_eq_getElem h];rfl
theorem bt_get (s:ByteArray) (k:Nat) (h:k<s.size):bt s.data.toList k=s[k].toNat:=by
 unfold bt;rw [data_get s k h];rfl
theorem data_two (s:ByteArray) (h:2≤s.size):s.data.toList=s[0]::s[1]::s.data.toList.drop 2:=by
 have h0:=data_get s 0 (by omega);have h1:=data_get s 1 (by omega)
 match hl:s.data.toList,h0,h1 with
 | a::b::r,h0,h1=>simp at h0 h1;simp [h0,h1]
theorem data_three (s:ByteArray) (h:3≤s.size):s.data.toList=s[0]::s[1]::s[2]::s.data.toList.drop 3:=by
 have h0:=data_get s 0 (by omega);have h1:=data_get s 1 (by omega);have h2:=data_get s 2 (by omega)
 match hl:s.data.toList,h0,h1,h2 with
 | a::b::c::r,h0,h1,h2=>simp at h0 h1 h2;simp [h0,h1,h2]
theorem data_four (s:ByteArray) (h:4≤s.size):s.data.toList=s[0]::s[1]::s[2]::s[3]::s.data.toList.drop 4:=by
 have h0:=data_get s 0 (by omega);have h1:=data_get s 1 (by omega);have h2:=data_get s 2 (by omega);have h3:=data_get s 3 (by omega)
 match hl:s.data.toList,h0,h1,h2,h3 with
 | a::b::c::d::r,h0,h1,h2,h3=>simp at h0 h1 h2 h3;simp [h0,h1,h2,h3]
theorem test_enc (s:ByteArray) (p:Int) (n:Nat) (b:Bool) (h:((strOfNums (ptBytes p)).toList==(s.extract 0 n).toList)=b):(enc p=s.data.toList.take n)↔b=true:=by
 rw [strOf_ptBytes,Lib.toList_data,Lib.toList_data,Lib.extract_data] at h
 simp only [List.drop_zero,Nat.sub_zero] at h
 subst h
 exact beq_iff_eq.symm
theorem ref2_s (s:ByteArray) (h:2≤s.size) (hb:(192:Int)≤s[0].toNat) (hb':(s[0].toNat:Int)<224) (p:Int) (hp:64 * ((s[0].toNat:Int)-192)+(s[1].toNat:Int) % 64=p) :
  dec s.data.toList=if isPt p=true∧enc p=s.data.toList.take 2 then (p.toNat,2) else (65533,1):=by
 have e:=data_two s h
 have:=ref2 s[0] s[1] (s.data.toList.drop 2) p (by omega) (by omega) hp.symm
 rw [←e] at this
 rw [this]
 have e2:s.data.toList.take 2=[s[0],s[1]]:=by rw [e];rfl
 rw [e2]
theorem ref3_s (s:ByteArray) (h:3≤s.size) (hb:(224:Int)≤s[0].toNat) (hb':(s[0].toNat:Int)<240) (p:Int) (hp:64 * (64 * ((s[0].toNat:Int)-224)+(s[1].toNat:Int) % 64)+(s[2].toNat:Int) % 64=p) :
  dec s.data.toList=if isPt p=true∧enc p=s.data.toList.take 3 then (p.toNat,3) else (65533,1):=by
 have e:=data_three s h
 have:=ref3 s[0] s[1] s[2] (s.data.toList.drop 3) p (by omega) (by omega) hp.symm
 rw [←e] at this
 rw [this]
 have e2:s.data.toList.take 3=[s[0],s[1],s[2]]:=by rw [e];rfl
 rw [e2]
theorem ref4_s (s:ByteArray) (h:4≤s.size) (hb:(240:Int)≤s[0].toNat) (hb':(s[0].toNat:Int)<248) (p:Int) (hp:64 * (64 * (64 * ((s[0].toNat:Int)-240)+(s[1].toNat:Int) % 64)+(s[2].toNat:Int) % 64)+(s[3].toNat:Int) % 64=p) :
  dec s.data.toList=if isPt p=true∧enc p=s.data.toList.take 4 then (p.toNat,4) else (65533,1):=by
 have e:=data_four s h
 have:=ref4 s[0] s[1] s[2] s[3] (s.data.toList.drop 4) p (by omega) (by omega) hp.symm
 rw [←e] at this
 rw [this]
 have e2:s.data.toList.take 4=[s[0],s[1],s[2],s[3]]:=by rw [e];rfl
 rw [e2]
def decVal (l:List UInt8):Value:=.tuple #[.int .i64 (dec l).1,.int .i64 (dec l).2,.bool (decOk l)]
theorem decVal_hit (l:List UInt8) (p:Int) (n:Nat) (hn:2≤n) (h0:0≤p) (h:dec l=(p.toNat,n)):Value.tuple #[.int .i64 p,.int .i64 n,.bool true]=decVal l:=by
 unfold decVal decOk
 rw [h]
 have e:((p.toNat:Nat):Int)=p:=Int.toNat_of_nonneg h0
 simp only [e]
 rw [decide_eq_true (show 1<n by omega)]
 rfl
theorem decVal_miss (l:List UInt8) (h:dec l=(65533,1)):Value.tuple #[.int .i64 65533,.int .i64 1,.bool false]=decVal l:=by
 unfold decVal decOk;rw [h];rfl
theorem decVal_none (l:List UInt8) (h:l.length=0):Value.tuple #[.int .i64 65533,.int .i64 0,.bool false]=decVal l:=by
 unfold decVal decOk dec;rw [if_pos h];rfl
theorem decVal_one (l:List UInt8) (b:Nat) (hb:b<128) (h:dec l=(b,1)):Value.tuple #[.int .i64 b,.int .i64 1,.bool true]=decVal l:=by
 unfold decVal decOk;rw [h];simp [hb]
def explodeF:Nat→List UInt8→List Int
 | 0,_=>[]
 | k+1,l=>if l.length=0 then [] else ((dec l).1:Int)::explodeF k (l.drop (dec l).2)
def explode (l:List UInt8):List Int:=explodeF l.length l
theorem explodeF_eq:∀(k:Nat) (l:List UInt8),l.length≤k→explodeF k l=explodeF l.length l
 | 0,l,h=>by
  have:l=[]:=List.eq_nil_of_length_eq_zero (by omega)
  subst this;rfl
 | k+1,l,h=>by
  by_cases h0:l.length=0
  ·have:l=[]:=List.eq_nil_of_length_eq_zero h0
   subst this;simp [explodeF]
  ·have hn:=dec_n l h0
   obtain ⟨m,hm⟩:∃m,l.length=m+1:=⟨l.length-1,by omega⟩
   have hd:(l.drop (dec l).2).length≤m:=by rw [List.length_drop];omega
   have e1:=explodeF_eq k (l.drop (dec l).2) (by omega)
   have e2:explodeF m (l.drop (dec l).2)=explodeF (l.drop (dec l).2).length (l.drop (dec l).2):=by
    by_cases hmk:m=k
    ·subst hmk;exact e1
    ·exact explodeF_eq m (l.drop (dec l).2) hd
   rw [hm]
   simp only [explodeF,if_neg h0,e1,e2]
 termination_by k=>k
theorem explode_nil (l:List UInt8) (h:l.length=0):explode l=[]:=by
 unfold explode;rw [h];rfl
theorem explode_cons (l:List UInt8) (h:l.length≠0):explode l=((dec l).1:Int)::explode (l.drop (dec l).2):=by
 have hn:=dec_n l h
 obtain ⟨m,hm⟩:∃m,l.length=m+1:=⟨l.length-1,by omega⟩
 unfold explode
 rw [hm]
 simp only [explodeF,if_neg h]
 rw [explodeF_eq m _ (by rw [List.length_drop];omega)]
def validF:Nat→List UInt8→Nat
 | 0,_=>0
 | k+1,l=>if l.length=0 then 0 else if decOk l=true then (dec l).2+validF k (l.drop (dec l).2) else 0
def valid (l:List UInt8):Nat:=validF l.length l
theorem validF_eq:∀(k:Nat) (l:List UInt8),l.length≤k→validF k l=validF l.length l
 | 0,l,h=>by
  have:l=[]:=List.eq_nil_of_length_eq_zero (by omega)
  subst this;rfl
 | k+1,l,h=>by
  by_cases h0:l.length=0
  ·have:l=[]:=List.eq_nil_of_length_eq_zero h0
   subst this;simp [validF]
  ·have hn:=dec_n l h0
   obtain ⟨m,hm⟩:∃m,l.length=m+1:=⟨l.length-1,by omega⟩
   have hd:(l.drop (dec l).2).length≤m:=by rw [List.length_drop];omega
   have e1:=validF_eq k (l.drop (dec l).2) (by omega)
   have e2:validF m (l.drop (dec l).2)=validF (l.drop (dec l).2).length (l.drop (dec l).2):=by
    by_cases hmk:m=k
    ·subst hmk;exact e1
    ·exact validF_eq m (l.drop (dec l).2) hd
   rw [hm]
   simp only [validF,if_neg h0,e1,e2]
 termination_by k=>k
theorem valid_nil (l:List UInt8) (h:l.length=0):valid l=0:=by
 unfold valid;rw [h];rfl
theorem valid_stop (l:List UInt8) (h:decOk l=false):valid l=0:=by
 unfold valid
 cases hl:l.length with
 | zero=>rfl
 | succ m=>simp [validF,h]
theorem valid_step (l:List UInt8) (h0:l.length≠0) (h:decOk l=true):valid l=(dec l).2+valid (l.drop (dec l).2):=by
 have hn:=dec_n l h0
 obtain ⟨m,hm⟩:∃m,l.length=m+1:=⟨l.length-1,by omega⟩
 unfold valid
 rw [hm]
 simp only [validF,if_neg h0,if_pos h]
 rw [validF_eq m _ (by rw [List.length_drop];omega)]
theorem drop_extract (s:ByteArray) (k:Nat):(s.extract k s.size).data.toList=s.data.toList.drop k:=by
 rw [Lib.extract_data,Lib.size_eq,List.take_of_length_le (by simp)]
end Go.Proofs.YtmbeicndhigklaaGreatDoor
namespace Go.Proofs.YtmbeicndhigklaaGreatDoor
open Lib (hid)
open Go.RowKit
theorem isPt_eq (p:Int) (b:Bool) (h:b=isPt p):Ending.returned (.bool b)=.returned (.bool (isPt p)):=by rw [h]
set_option maxHeartbeats 400000 in
theorem refIs_any (p:Int) (w:World) :
  Calls Tryz.prog 184 #[.int .i64 p] w fun e w'=>e=.returned (.bool (isPt p))∧w=w':=by
 go_enter Tryz.func184,Tryz.ntmps184
 go_wp2
 all_goals go_ret
 all_goals refine ⟨isPt_eq _ _ ?_,rfl⟩
 all_goals simp [isPt]
 all_goals omega
def refSizeOf (c:UInt8):Int:=if c.toNat<128 then 1 else if c.toNat<192 then 0 else if c.toNat<224 then 2 else if c.toNat<240 then 3 else if c.toNat<248 then 4 else 0
theorem ret_int {k:IntKind} {a b:Int} (h:a=b):Ending.returned (.int k a)=.returned (.int k b):=by rw [h]
set_option maxHeartbeats 400000 in
set_option maxRecDepth 100000 in
theorem refSize_any (c:UInt8) (w:World) :
  Calls Tryz.prog 183 #[.int .u8 c.toNat] w fun e w'=>e=.returned (.int .i64 (refSizeOf c))∧w=w':=by
 go_enter Tryz.func183,Tryz.ntmps183
 go_wp2
 all_goals go_ret
 all_goals refine ⟨ret_int ?_,rfl⟩
 all_goals unfold refSizeOf
 all_goals (repeat' split)
 all_goals omega
theorem conv_new {P:Program} {src e dst:TypeId} (hs:P.underlying src=some (.slice e)) (he:P.underlying e=some (.int .u8)) (hd:P.underlying dst=some .string) (w:World) (xs:List Int) (cs:Array Value) (t:TypeId) (n c:Nat)
  (hcs:cs.toList=xs.map (Value.int .u8)) (hn:n=xs.length) :
  (convert src dst (.slice (some ⟨w.heap.size,0,none⟩) n c)).run P (w.alloc (.cells cs t))=.ok (.string (strOfNums xs)) (w.alloc (.cells cs t)):=by
 refine run_convert_bytes_arg _ src e hs he _ _ _ _ xs hn.symm (fun i hi=>?_) dst hd
 rw [World.cell?_alloc_at _ _ _ _ rfl]
 have hi':i<cs.toList.length:=by rw [hcs,List.length_map];omega
 have:cs[0+i]?=cs.toList[i]?:=by simp
 rw [this,hcs,List.getElem?_map,List.getElem?_eq_getElem (by omega)]
 simp [List.getD,List.getElem?_eq_getElem (show i<xs.length by omega)]
set_option maxHeartbeats 400000 in
theorem refBytes_any (p:Int) (w:World) (h0:0≤p) (h1:p≤1114111) :
  Calls Tryz.prog 185 #[.int .i64 p] w fun e w'=>e=.returned (.string (strOfNums (ptBytes p)))∧Below w.heap.size w w':=by
 have k1:=fun (w:World) (a:Int)=>conv_new (P:=Tryz.prog) Tryz.underlying122 Tryz.underlying5 Tryz.underlying9 w [a] #[.int .u8 a] 5 1 1 rfl rfl
 have k2:=fun (w:World) (a b:Int)=>conv_new (P:=Tryz.prog) Tryz.underlying122 Tryz.underlying5 Tryz.underlying9 w [a,b] #[.int .u8 a,.int .u8 b] 5 2 2 rfl rfl
 have k3:=fun (w:World) (a b c:Int)=>conv_new (P:=Tryz.prog) Tryz.underlying122 Tryz.underlying5 Tryz.underlying9 w [a,b,c] #[.int .u8 a,.int .u8 b,.int .u8 c] 5 3 3 rfl rfl
 have k4:=fun (w:World) (a b c d:Int)=>conv_new (P:=Tryz.prog) Tryz.underlying122 Tryz.underlying5 Tryz.underlying9 w [a,b,c,d] #[.int .u8 a,.int .u8 b,.int .u8 c,.int .u8 d] 5 4 4 rfl rfl
 go_enter Tryz.func185,Tryz.ntmps185
 go_wp2
 all_goals go_ret
 all_goals refine ⟨?_,by go_grown⟩
 all_goals unfold ptBytes
 ·rw [if_pos (by assumption)];rfl
 ·rw [if_neg (by omega),if_pos (by assumption)];rfl
 ·rw [if_neg (by omega),if_neg (by omega),if_pos (by assumption)];rfl
 ·rw [if_neg (by omega),if_neg (by omega),if_neg (by omega)];rfl
theorem refIs_yes (p:Int) (w:World) (h:isPt p=true) :
  Calls Tryz.prog 184 #[.int .i64 p] w fun e w'=>e=.returned (.bool true)∧w=w':=by have:=refIs_any p w;rw [h] at this;exact this
theorem refIs_no (p:Int) (w:World) (h:isPt p=false) :
  Calls Tryz.prog 184 #[.int .i64 p] w fun e w'=>e=.returned (.bool false)∧w=w':=by have:=refIs_any p w;rw [h] at this;exact this
end Go.Proofs.YtmbeicndhigklaaGreatDoor
namespace Go.Proofs.YtmbeicndhigklaaGreatDoor
open Lib (hid)
open Go.RowKit
theorem quiet_left {P:Program} {f:FuncId} {args:Array Value} {w:World} {n:Nat} {v:Value}
  (h:Calls P f args (w.drewN n) fun e w'=>e=.returned v∧w.drewN n=w'):Calls P f args (w.drewN n) fun e w''=>e=.returned v∧∃m,w''=w.drewN m:=
 h.mono fun _ _ ⟨he,hm⟩=>⟨he,n,hm.symm⟩
set_option maxHeartbeats 800000 in
set_option maxRecDepth 100000 in
theorem refDecode_2 (s:ByteArray) (w:World) (hs:s.size≤maxLen) (hn:2≤s.size) (hb0:(192:Int)≤(s[0].toNat:Int)) (hb1:(s[0].toNat:Int)<224) :
  Calls Tryz.prog 159 #[.string s] w fun e w'=>e=.returned (decVal s.data.toList)∧Below w.heap.size w w':=by
 unfold maxLen at hs
 have hsz:refSizeOf s[0]=2:=by unfold refSizeOf;(repeat' split) <;> omega
 have HSZ:=hid hsz
 clear hsz
 obtain ⟨x1,x1'⟩:(0:Int)≤s[1].toNat∧(s[1].toNat:Int)<256:=by have:=s[1].toNat_lt;omega
 go_enter Tryz.func159,Tryz.ntmps159
 go_wp2_with (first | (go_at_call 183;refine (refSize_any _ _).mono ?_;rintro e w' ⟨rfl,rfl⟩;rw [HSZ.out]))
 go_rounds 3
 generalize hp:64 * ((s[0].toNat:Int)-192)+(s[1].toNat:Int) % 64=p
 have HP:=hid hp
 clear hp
 cases hI:isPt p
 ·have HI:=hid hI
  clear hI
  go_quiet ((go_at_call 184;exact quiet_left (refIs_no _ _ HI.out)))
  go_wp2
  all_goals go_ret3
  all_goals exact ⟨congrArg _ (decVal_miss _ (by rw [ref2_s s hn hb0 hb1 p HP.out,HI.out];simp)),⟨rfl,rfl,rfl,Nat.le_refl _,fun _ _=>rfl⟩⟩
 ·have HI:=hid hI
  clear hI
  go_region_with (first | (go_at_call 184;refine (refIs_yes _ _ HI.out).mono ?_;rintro e w' ⟨rfl,rfl⟩) | (go_at_call 185;refine (refBytes_any _ _ (by have:=(isPt_iff _).1 HI.out;omega) (by have:=(isPt_iff _).1 HI.out;omega)).mono ?_;rintro e w' ⟨rfl,hb⟩))
  all_goals go_wp2
  all_goals go_ret3
  ·exact ⟨congrArg _ (decVal_hit _ p 2 (by omega) ((isPt_iff _).1 HI.out).1 (by rw [ref2_s s hn hb0 hb1 p HP.out,if_pos ⟨HI.out,(test_enc s p 2 true ‹_›).2 rfl⟩])),by first | assumption | exact (Below.refl _ _).drew.trans ‹_›⟩
  ·exact ⟨congrArg _ (decVal_miss _ (by rw [ref2_s s hn hb0 hb1 p HP.out,if_neg (fun hh=>absurd ((test_enc s p 2 false ‹_›).1 hh.2) (by simp))])),by first | assumption | exact (Below.refl _ _).drew.trans ‹_›⟩
set_option maxHeartbeats 800000 in
set_option maxRecDepth 100000 in
theorem refDecode_3 (s:ByteArray) (w:World) (hs:s.size≤maxLen) (hn:3≤s.size) (hb0:(224:Int)≤(s[0].toNat:Int)) (hb1:(s[0].toNat:Int)<240) :
  Calls Tryz.prog 159 #[.string s] w fun e w'=>e=.returned (decVal s.data.toList)∧Below w.heap.size w w':=by
 unfold maxLen at hs
 have hsz:refSizeOf s[0]=3:=by unfold refSizeOf;(repeat' split) <;> omega
 have HSZ:=hid hsz
 clear hsz
 obtain ⟨x1,x1'⟩:(0:Int)≤s[1].toNat∧(s[1].toNat:Int)<256:=by have:=s[1].toNat_lt;omega
 obtain ⟨x2,x2'⟩:(0:Int)≤s[2].toNat∧(s[2].toNat:Int)<256:=by have:=s[2].toNat_lt;omega
 go_enter Tryz.func159,Tryz.ntmps159
 go_wp2_with (first | (go_at_call 183;refine (refSize_any _ _).mono ?_;rintro e w' ⟨rfl,rfl⟩;rw [HSZ.out]))
 go_rounds 4
 generalize hp:64 * (64 * ((s[0].toNat:Int)-224)+(s[1].toNat:Int) % 64)+(s[2].toNat:Int) % 64=p
 have HP:=hid hp
 clear hp
 cases hI:isPt p
 ·have HI:=hid hI
  clear hI
  go_quiet ((go_at_call 184;exact quiet_left (refIs_no _ _ HI.out)))
  go_wp2
  all_goals go_ret3
  all_goals exact ⟨congrArg _ (decVal_miss _ (by rw [ref3_s s hn hb0 hb1 p HP.out,HI.out];simp)),⟨rfl,rfl,rfl,Nat.le_refl _,fun _ _=>rfl⟩⟩
 ·have HI:=hid hI
  clear hI
  go_region_with (first | (go_at_call 184;refine (refIs_yes _ _ HI.out).mono ?_;rintro e w' ⟨rfl,rfl⟩) | (go_at_call 185;refine (refBytes_any _ _ (by have:=(isPt_iff _).1 HI.out;omega) (by have:=(isPt_iff _).1 HI.out;omega)).mono ?_;rintro e w' ⟨rfl,hb⟩))
  all_goals go_wp2
  all_goals go_ret3
  ·exact ⟨congrArg _ (decVal_hit _ p 3 (by omega) ((isPt_iff _).1 HI.out).1 (by rw [ref3_s s hn hb0 hb1 p HP.out,if_pos ⟨HI.out,(test_enc s p 3 true ‹_›).2 rfl⟩])),by first | assumption | exact (Below.refl _ _).drew.trans ‹_›⟩
  ·exact ⟨congrArg _ (decVal_miss _ (by rw [ref3_s s hn hb0 hb1 p HP.out,if_neg (fun hh=>absurd ((test_enc s p 3 false ‹_›).1 hh.2) (by simp))])),by first | assumption | exact (Below.refl _ _).drew.trans ‹_›⟩
set_option maxHeartbeats 800000 in
set_option maxRecDepth 100000 in
theorem refDecode_4 (s:ByteArray) (w:World) (hs:s.size≤maxLen) (hn:4≤s.size) (hb0:(240:Int)≤(s[0].toNat:Int)) (hb1:(s[0].toNat:Int)<248) :
  Calls Tryz.prog 159 #[.string s] w fun e w'=>e=.returned (decVal s.data.toList)∧Below w.heap.size w w':=by
 unfold maxLen at hs
 have hsz:refSizeOf s[0]=4:=by unfold refSizeOf;(repeat' split) <;> omega
 have HSZ:=hid hsz
 clear hsz
 obtain ⟨x1,x1'⟩:(0:Int)≤s[1].toNat∧(s[1].toNat:Int)<256:=by have:=s[1].toNat_lt;omega
 obtain ⟨x2,x2'⟩:(0:Int)≤s[2].toNat∧(s[2].toNat:Int)<256:=by have:=s[2].toNat_lt;omega
 obtain ⟨x3,x3'⟩:(0:Int)≤s[3].toNat∧(s[3].toNat:Int)<256:=by have:=s[3].toNat_lt;omega
 go_enter Tryz.func159,Tryz.ntmps159
 go_wp2_with (first | (go_at_call 183;refine (refSize_any _ _).mono ?_;rintro e w' ⟨rfl,rfl⟩;rw [HSZ.out]))
 go_rounds 5
 generalize hp:64 * (64 * (64 * ((s[0].toNat:Int)-240)+(s[1].toNat:Int) % 64)+(s[2].toNat:Int) % 64)+(s[3].toNat:Int) % 64=p
 have HP:=hid hp
 clear hp
 cases hI:isPt p
 ·have HI:=hid hI
  clear hI
  go_quiet ((go_at_call 184;exact quiet_left (refIs_no _ _ HI.out)))
  go_wp2
  all_goals go_ret3
  all_goals exact ⟨congrArg _ (decVal_miss _ (by rw [ref4_s s hn hb0 hb1 p HP.out,HI.out];simp)),⟨rfl,rfl,rfl,Nat.le_refl _,fun _ _=>rfl⟩⟩
 ·have HI:=hid hI
  clear hI
  go_region_with (first | (go_at_call 184;refine (refIs_yes _ _ HI.out).mono ?_;rintro e w' ⟨rfl,rfl⟩) | (go_at_call 185;refine (refBytes_any _ _ (by have:=(isPt_iff _).1 HI.out;omega) (by have:=(isPt_iff _).1 HI.out;omega)).mono ?_;rintro e w' ⟨rfl,hb⟩))
  all_goals go_wp2
  all_goals go_ret3
  ·exact ⟨congrArg _ (decVal_hit _ p 4 (by omega) ((isPt_iff _).1 HI.out).1 (by rw [ref4_s s hn hb0 hb1 p HP.out,if_pos ⟨HI.out,(test_enc s p 4 true ‹_›).2 rfl⟩])),by first | assumption | exact (Below.refl _ _).drew.trans ‹_›⟩
  ·exact ⟨congrArg _ (decVal_miss _ (by rw [ref4_s s hn hb0 hb1 p HP.out,if_neg (fun hh=>absurd ((test_enc s p 4 false ‹_›).1 hh.2) (by simp))])),by first | assumption | exact (Below.refl _ _).drew.trans ‹_›⟩
set_option maxHeartbeats 400000 in
set_option maxRecDepth 100000 in
theorem refDecode_none (s:ByteArray) (w:World) (hn:s.size=0) :
  Calls Tryz.prog 159 #[.string s] w fun e w'=>e=.returned (decVal s.data.toList)∧Below w.heap.size w w':=by
 have hz:((s.size:Int)==0)=true:=by rw [hn];rfl
 have HN:=hid hn
 clear hn
 go_enter Tryz.func159,Tryz.ntmps159
 go_wp2
 go_ret3
 exact ⟨congrArg _ (decVal_none _ (by rw [←Lib.size_eq];exact HN.out)),Below.refl _ _⟩
set_option maxHeartbeats 400000 in
set_option maxRecDepth 100000 in
theorem refDecode_one (s:ByteArray) (w:World) (hs:s.size≤maxLen) (hn:1≤s.size) (hb:(s[0].toNat:Int)<128) :
  Calls Tryz.prog 159 #[.string s] w fun e w'=>e=.returned (decVal s.data.toList)∧Below w.heap.size w w':=by
 unfold maxLen at hs
 have hsz:refSizeOf s[0]=1:=by unfold refSizeOf;(repeat' split) <;> omega
 have HSZ:=hid hsz
 clear hsz
 go_enter Tryz.func159,Tryz.ntmps159
 go_wp2_with (first | (go_at_call 183;refine (refSize_any _ _).mono ?_;rintro e w' ⟨rfl,rfl⟩;rw [HSZ.out]))
 go_ret3
 exact ⟨congrArg _ (decVal_one _ _ (by omega) (by rw [ref_one _ (by rw [←Lib.size_eq];omega) (by rw [bt_get s 0 (by omega)];omega),bt_get s 0 (by omega)])),Below.refl _ _⟩
set_option maxHeartbeats 400000 in
set_option maxRecDepth 100000 in
theorem refDecode_bad (s:ByteArray) (w:World) (hs:s.size≤maxLen) (hn:1≤s.size) (m:Int) (hm:refSizeOf s[0]=m) (hb:m=0∨(s.size:Int)<m) :
  Calls Tryz.prog 159 #[.string s] w fun e w'=>e=.returned (decVal s.data.toList)∧Below w.heap.size w w':=by
 unfold maxLen at hs
 have hd:dec s.data.toList=(65533,1):=by
  refine ref_bad _ (by rw [←Lib.size_eq];omega) ?_
  rw [bt_get s 0 (by omega),←Lib.size_eq]
  unfold refSizeOf at hm
  (repeat' split at hm) <;> omega
 have HD:=hid hd
 clear hd
 have hm':m=0∨(2≤m∧(s.size:Int)<m∧m≤4):=by
  unfold refSizeOf at hm
  (repeat' split at hm) <;> omega
 have HSZ:=hid hm
 clear hm hb
 rcases hm' with rfl | ⟨h1,h2,h3⟩
 ·go_enter Tryz.func159,Tryz.ntmps159
  go_wp2_with (first | (go_at_call 183;refine (refSize_any _ _).mono ?_;rintro e w' ⟨rfl,rfl⟩;rw [HSZ.out]))
  go_ret3
  exact ⟨congrArg _ (decVal_miss _ HD.out),Below.refl _ _⟩
 ·have h0:(m==0)=false:=by simp;omega
  go_enter Tryz.func159,Tryz.ntmps159
  go_wp2_with (first | (go_at_call 183;refine (refSize_any _ _).mono ?_;rintro e w' ⟨rfl,rfl⟩;rw [HSZ.out]))
  go_ret3
  exact ⟨congrArg _ (decVal_miss _ HD.out),Below.refl _ _⟩
theorem refDecode_any (s:ByteArray) (w:World) (hs:s.size≤maxLen) :
  Calls Tryz.prog 159 #[.string s] w fun e w'=>e=.returned (decVal s.data.toList)∧Below w.heap.size w w':=by
 by_cases h0:s.size=0
 ·exact refDecode_none s w h0
 by_cases h1:s[0].toNat<128
 ·exact refDecode_one s w hs (by omega) (by omega)
 by_cases hbad:refSizeOf s[0]=0∨(s.size:Int)<refSizeOf s[0]
 ·exact refDecode_bad s w hs (by omega) _ rfl hbad
 have hs':refSizeOf s[0]≠0∧refSizeOf s[0]≤s.size:=by omega
 by_cases h2:s[0].toNat<192
 ·exfalso;unfold refSizeOf at hs';rw [if_neg h1,if_pos h2] at hs';omega
 by_cases h3:s[0].toNat<224
 ·refine refDecode_2 s w hs ?_ (by omega) (by omega)
  unfold refSizeOf at hs';rw [if_neg h1,if_neg h2,if_pos h3] at hs';omega
 by_cases h4:s[0].toNat<240
 ·refine refDecode_3 s w hs ?_ (by omega) (by omega)
  unfold refSizeOf at hs';rw [if_neg h1,if_neg h2,if_neg h3,if_pos h4] at hs';omega
 by_cases h5:s[0].toNat<248
 ·refine refDecode_4 s w hs ?_ (by omega) (by omega)
  unfold refSizeOf at hs';rw [if_neg h1,if_neg h2,if_neg h3,if_neg h4,if_pos h5] at hs';omega
 ·exfalso;unfold refSizeOf at hs';rw [if_neg h1,if_neg h2,if_neg h3,if_neg h4,if_neg h5] at hs';omega
end Go.Proofs.YtmbeicndhigklaaGreatDoor
