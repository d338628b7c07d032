/-
Plain Lean: a piece as lex looks for it, by reading it in quotes, is the piece that begins there (chapter 14). No program in sight.
-/
import Derived.Test.YtmbeicndhigklaaGreatDoorPLexP
import Derived.Test.YtmbeicndhigklaaGreatDoorPLexD
import Derived.Lib.ConvBytes
import Derived.Test.YtmbeicndhigklaaGreatDoorPBld
import Derived.Test.YtmbeicndhigklaaGreatDoorShelf
namespace Go.Proofs.YtmbeicndhigklaaGreatDoor
open Lib (hid)
def tryR (l:List UInt8) (n:Nat):Option (List UInt8):=
 if n≤l.length∧(readP (34::(l.take n++[34]))).2.2=0∧(readP (34::(l.take n++[34]))).2.1=n+2∧(explode (readP (34::(l.take n++[34]))).1).length=1 then some (readP (34::(l.take n++[34]))).1 else none
def tryAll (l:List UInt8):List Nat→List UInt8×Nat
 | []=>([],0)
 | n::r=>match tryR l n with
  | some t=>(t,n)
  | none=>tryAll l r
def sizesR (l:List UInt8):List Nat:=if bt l 1=117 then [12,6] else [2]
def pieceR (l:List UInt8):List UInt8×Nat:=tryAll l (sizesR l)
theorem errP_cons2 (p:Pc) (ps:List Pc):errP (p::ps)=if p.err≠0 then p.err else errP ps:=by
 unfold errP
 rw [List.find?_cons]
 by_cases h:p.err=0
 ·simp [h]
 ·rw [show (p.err != 0)=true from bne_iff_ne.2 h,if_pos h];rfl
theorem read_quoted (z:List UInt8):readP (34::z)=if errP (piecesP z)≠0 then ([],1+sizeP (piecesP z),errP (piecesP z)) else (textP (piecesP z),2+sizeP (piecesP z),0):=by
 unfold readP
 rw [if_neg (by rw [bt_cons0];simp)];rfl
theorem pieces_end:piecesP [34]=[⟨0,0,0⟩]:=by decide +kernel
section
variable (l:List UInt8) (n:Nat)
theorem try_yes (p:Nat) (h0:0<n) (hn:n≤l.length) (h:nextP (l.take n++[34])=⟨p,n,0⟩):tryR l n=some (enc (p:Int)):=by
 have hz:(l.take n++[34]).drop n=[34]:=by rw [List.drop_append];simp [hn]
 have hp:piecesP (l.take n++[34])=[⟨p,n,0⟩,⟨0,0,0⟩]:=by
  rw [piecesP_cons _ (by rw [h];intro hl;rcases hl with h1 | h1 <;> simp only at h1 <;> omega),h]
  simp only
  rw [hz,pieces_end]
 have hpt:isPt (p:Int)=true:=by
  have:=(nextP_ok (l.take n++[34])).2.2
  rw [h] at this;exact this
 have hr:readP (34::(l.take n++[34]))=(enc (p:Int),n+2,0):=by
  rw [read_quoted,hp]
  have e1:errP [⟨p,n,0⟩,⟨0,0,0⟩]=0:=by rw [errP_cons2,if_neg (by simp),errP_cons2,if_neg (by simp)];rfl
  rw [e1,if_neg (by simp),textP_cons,textP_cons,textP_nil,sizeP_cons,sizeP_cons,sizeP_nil]
  simp only [Nat.lt_irrefl,if_false,List.append_nil]
  rw [if_pos h0]
  simp only [Prod.mk.injEq,and_true,true_and];omega
 have he:explode (enc (p:Int))=[(p:Int)]:=by
  have:=explode_enc (p:Int) hpt []
  rw [List.append_nil,explode_nil [] rfl] at this;exact this
 unfold tryR
 generalize readP (34::(l.take n++[34]))=R at hr
 subst hr
 have hc:n≤l.length∧(0:Nat)=0∧n+2=n+2∧(explode (enc (p:Int))).length=1:=⟨hn,rfl,rfl,by rw [he];rfl⟩
 simp only [hc,and_self,if_true]
theorem try_far (h:l.length<n):tryR l n=none:=by unfold tryR;rw [if_neg (fun h2=>by omega)]
theorem try_bad (h:(nextP (l.take n++[34])).err≠0):tryR l n=none:=by
 have hp:piecesP (l.take n++[34])=[nextP (l.take n++[34])]:=piecesP_last _ (.inl h)
 have he:errP (piecesP (l.take n++[34]))≠0:=by rw [hp,errP_cons2,if_pos h];exact h
 unfold tryR
 rw [read_quoted,if_pos he]
 exact if_neg (fun h2=>he h2.2.1)
theorem try_two (p m:Nat) (h0:0<m) (hm:m<n) (hn:n≤l.length) (h:nextP (l.take n++[34])=⟨p,m,0⟩):tryR l n=none:=by
 generalize hz:l.take n++[34]=z at h
 have hzl:z.length=n+1:=by rw [←hz,List.length_append,List.length_take,Nat.min_eq_left hn];rfl
 have hp:piecesP z=⟨p,m,0⟩::piecesP (z.drop m):=by
  rw [piecesP_cons _ (by rw [h];intro hl;rcases hl with h1 | h1 <;> simp only at h1 <;> omega),h]
 have hpt:isPt (p:Int)=true:=by
  have:=(nextP_ok z).2.2
  rw [h] at this;exact this
 unfold tryR
 rw [hz,read_quoted]
 by_cases he:errP (piecesP z)≠0
 ·rw [if_pos he]
  exact if_neg (fun h2=>he h2.2.1)
 rw [if_neg he]
 refine if_neg (fun h2=>?_)
 obtain ⟨_,_,h3,h4⟩:=h2
 simp only at h3 h4
 rw [hp,errP_cons2,if_neg (by simp)] at he
 rw [hp,sizeP_cons] at h3
 simp only at h3
 by_cases hl:lastP (nextP (z.drop m))
 ·rw [piecesP_last _ hl] at he h3
  rcases hl with h5 | h5
  ·rw [errP_cons2,if_pos h5] at he;exact he h5
  ·rw [sizeP_cons,h5,sizeP_nil] at h3;omega
 ·have hq:=(nextP_ok (z.drop m)).2.2
  rw [hp,piecesP_cons _ hl,textP_cons,textP_cons] at h4
  have hs:0<(nextP (z.drop m)).size:=Nat.pos_of_ne_zero (fun e=>hl (.inr e))
  simp only at h4
  rw [if_pos h0,if_pos hs,explode_enc _ hpt,explode_enc _ hq] at h4
  simp at h4
end
theorem numbered_ext (a x:List UInt8) (ha:12≤a.length) (h:¬(fourL (a.drop 2)).2<4):numberedP (a++x)=numberedP a:=by
 rw [numbered_low _ (by rw [List.length_append];omega),numbered_low _ (by omega)]
 have e1:(a++x).drop 2=a.drop 2++x:=List.drop_append_of_le_length (by omega)
 have e2:(a++x).drop 6=a.drop 6++x:=List.drop_append_of_le_length (by omega)
 have e3:(a++x).drop 8=a.drop 8++x:=List.drop_append_of_le_length (by omega)
 rw [e1,e2,e3,four_app _ _ (by rw [List.length_drop];omega),lowP_app _ _ (by rw [List.length_drop];omega),four_app _ _ (by rw [List.length_drop];omega),if_neg h,if_neg h]
theorem four_cut (l:List UInt8) (k:Nat) (hk:6≤k) (hl:k≤l.length) (x:List UInt8):fourL ((l.take k++x).drop 2)=fourL (l.drop 2):=by
 have e1:(l.take k++x).drop 2=(l.take k).drop 2++x:=List.drop_append_of_le_length (by rw [List.length_take];omega)
 have e2:l.drop 2=(l.take k).drop 2++l.drop k:=by
  conv=>lhs;rw [←List.take_append_drop k l]
  exact List.drop_append_of_le_length (by rw [List.length_take];omega)
 rw [e1,e2,four_app _ _ (by rw [List.length_drop,List.length_take];omega),four_app _ _ (by rw [List.length_drop,List.length_take];omega)]
theorem numbered_bad (l:List UInt8) (h:(fourL (l.drop 2)).2<4):(numberedP l).err≠0:=by
 unfold numberedP;rw [if_pos h];exact faultP_err _ _
theorem low_quote:lowP [34]=false:=by decide +kernel
theorem esc_u (l:List UInt8) (h2:2≤l.length) (h:bt l 1=117):escapedP l=numberedP l:=by
 unfold escapedP
 rw [if_neg (by omega),if_neg (by omega),if_neg (by omega),if_neg (by omega),if_neg (by omega),if_neg (by omega),if_neg (by omega),if_pos h]
theorem esc_plain (l m:List UInt8) (h2:2≤l.length) (h2':2≤m.length) (hm:bt m 1=bt l 1) (h:bt l 1≠117):((escapedP l).err≠0∧(escapedP m).err≠0)∨∃p,escapedP l=⟨p,2,0⟩∧escapedP m=⟨p,2,0⟩:=by
 have A:¬l.length<2:=by omega
 have B:¬m.length<2:=by omega
 unfold escapedP
 rw [if_neg A,if_neg B,hm]
 by_cases a1:bt l 1=34∨bt l 1=92∨bt l 1=47
 ·rw [if_pos a1,if_pos a1];exact .inr ⟨_,rfl,rfl⟩
 rw [if_neg a1,if_neg a1]
 by_cases a2:bt l 1=98
 ·rw [if_pos a2,if_pos a2];exact .inr ⟨_,rfl,rfl⟩
 rw [if_neg a2,if_neg a2]
 by_cases a3:bt l 1=102
 ·rw [if_pos a3,if_pos a3];exact .inr ⟨_,rfl,rfl⟩
 rw [if_neg a3,if_neg a3]
 by_cases a4:bt l 1=110
 ·rw [if_pos a4,if_pos a4];exact .inr ⟨_,rfl,rfl⟩
 rw [if_neg a4,if_neg a4]
 by_cases a5:bt l 1=114
 ·rw [if_pos a5,if_pos a5];exact .inr ⟨_,rfl,rfl⟩
 rw [if_neg a5,if_neg a5]
 by_cases a6:bt l 1=116
 ·rw [if_pos a6,if_pos a6];exact .inr ⟨_,rfl,rfl⟩
 rw [if_neg a6,if_neg a6,if_neg h,if_neg h]
 exact .inl ⟨faultP_err _ _,faultP_err _ _⟩
theorem pieceR_eq (l:List UInt8) (h0:bt l 0=92):pieceR l=pieceP l:=by
 have hl0:=len_of_bt (l:=l) (k:=0) (by omega)
 have hz:∀n,1≤n→nextP (l.take n++[34])=escapedP (l.take n++[34]):=fun n hn=>nextP_eq' _ (by simp) (by rw [bt_app _ _ _ (by rw [List.length_take];omega),bt_take _ _ _ hn];exact h0)
 have hb1:∀n,2≤n→n≤l.length→bt (l.take n++[34]) 1=bt l 1:=fun n hn hl=>by rw [bt_app _ _ _ (by rw [List.length_take];omega),bt_take _ _ _ (by omega)]
 have hlen:∀n,n≤l.length→(l.take n++[34]).length=n+1:=fun n hn=>by rw [List.length_append,List.length_take,Nat.min_eq_left hn];rfl
 unfold pieceR sizesR
 rcases Nat.lt_or_ge l.length 2 with h2 | h2
 ·have hb:bt l 1=0:=bt_past _ _ (by omega)
  rw [if_neg (by omega)]
  unfold tryAll pieceP
  rw [try_far l 2 h2]
  have he:(escapedP l).err≠0:=by unfold escapedP;rw [if_pos h2];exact faultP_err _ _
  rw [if_neg he];rfl
 by_cases hu:bt l 1=117
 ·rw [if_pos hu]
  have e:=esc_u l h2 hu
  by_cases h4:(fourL (l.drop 2)).2<4
  ·have hbad:∀n,6≤n→tryR l n=none:=fun n hn=>by
    rcases Nat.lt_or_ge l.length n with h5 | h5
    ·exact try_far l n h5
    ·refine try_bad l n ?_
     rw [hz n (by omega),esc_u _ (by rw [hlen n h5];omega) (by rw [hb1 n (by omega) h5];exact hu)]
     exact numbered_bad _ (by rw [four_cut l n hn h5];exact h4)
   unfold tryAll tryAll pieceP
   rw [hbad 12 (by omega),hbad 6 (by omega),if_neg (by rw [e];exact numbered_bad _ h4)];rfl
  have h6:6≤l.length:=by have:=(fourL_le (l.drop 2)).2.2;rw [List.length_drop] at this;omega
  have e6:escapedP (l.take 6++[34])=if (fourL (l.drop 2)).1<55296∨57343<(fourL (l.drop 2)).1 then ⟨(fourL (l.drop 2)).1,6,0⟩ else ⟨65533,6,0⟩:=by
   rw [esc_u _ (by rw [hlen 6 h6];omega) (by rw [hb1 6 (by omega) h6];exact hu),numbered_low _ (by rw [hlen 6 h6];omega),four_cut l 6 (by omega) h6,if_neg h4]
   have:(l.take 6++[34]).drop 6=[34]:=by rw [List.drop_append];simp [h6]
   rw [this,low_quote]
   simp
  have e12:12≤l.length→escapedP (l.take 12++[34])=numberedP l:=fun h12=>by
   have h4':¬(fourL ((l.take 12).drop 2)).2<4:=by
    have:=four_cut l 12 (by omega) h12 []
    rw [List.append_nil] at this
    rw [this];exact h4
   rw [esc_u _ (by rw [hlen 12 h12];omega) (by rw [hb1 12 (by omega) h12];exact hu),numbered_ext _ _ (by rw [List.length_take];omega) h4']
   conv=>rhs;rw [←List.take_append_drop 12 l]
   rw [numbered_ext _ _ (by rw [List.length_take];omega) h4']
  have eN:=numbered_low l h6
  rw [if_neg h4] at eN
  unfold tryAll tryAll pieceP
  rw [e]
  by_cases c1:(fourL (l.drop 2)).1<55296∨57343<(fourL (l.drop 2)).1
  ·rw [if_pos c1] at eN e6
   have h12:tryR l 12=none:=by
    rcases Nat.lt_or_ge l.length 12 with h5 | h5
    ·exact try_far l 12 h5
    ·exact try_two l 12 _ 6 (by omega) (by omega) h5 (by rw [hz 12 (by omega),e12 h5,eN])
   rw [h12,try_yes l 6 _ (by omega) h6 (by rw [hz 6 (by omega),e6]),eN];rfl
  rw [if_neg c1] at eN e6
  by_cases c2:(fourL (l.drop 2)).1<56320∧lowP (l.drop 6)=true
  ·rw [if_pos c2] at eN
   have h5:12≤l.length:=by have:=lowP_len _ c2.2;rw [List.length_drop] at this;omega
   rw [try_yes l 12 _ (by omega) h5 (by rw [hz 12 (by omega),e12 h5,eN]),eN];rfl
  ·rw [if_neg c2] at eN
   have h12:tryR l 12=none:=by
    rcases Nat.lt_or_ge l.length 12 with h5 | h5
    ·exact try_far l 12 h5
    ·exact try_two l 12 _ 6 (by omega) (by omega) h5 (by rw [hz 12 (by omega),e12 h5,eN])
   rw [h12,try_yes l 6 _ (by omega) h6 (by rw [hz 6 (by omega),e6]),eN];rfl
 ·rw [if_neg hu]
  unfold tryAll pieceP
  rcases esc_plain l (l.take 2++[34]) h2 (by rw [hlen 2 h2];omega) (hb1 2 (by omega) h2) hu with ⟨h3,h4⟩ | ⟨p,h3,h4⟩
  ·rw [try_bad l 2 (by rw [hz 2 (by omega)];exact h4),if_neg h3];rfl
  ·rw [try_yes l 2 p (by omega) h2 (by rw [hz 2 (by omega)];exact h4),h3];rfl
end Go.Proofs.YtmbeicndhigklaaGreatDoor
namespace Go.Proofs.YtmbeicndhigklaaGreatDoor
open Lib (hid)
open Go.RowKit
theorem lconv_run (w:World) (X:ByteArray):(convert 9 122 (.string X)).run Tryz.prog w=.ok (.slice (some ⟨w.heap.size,0,none⟩) X.size (grownCap w X.size 0 5)) (Lib.bytesWorld w 5 X):=
 Lib.run_convert_string_bytes (P:=Tryz.prog) w 9 122 5 X Tryz.underlying9 Tryz.underlying122 Tryz.underlying5
theorem lbytes_below (w:World) (X:ByteArray):Below w.heap.size w (Lib.bytesWorld w 5 X):=
 ⟨rfl,rfl,rfl,by rw [Lib.bytesWorld_size];omega,fun k hk=>Lib.bytesWorld_at_old w _ _ k hk⟩
theorem lconv_rd (w:World) (X:ByteArray):RdB (Lib.bytesWorld w 5 X) (some ⟨w.heap.size,0,none⟩) X.size X.data.toList:=by
 refine ⟨(Lib.size_eq X).symm,fun _=>⟨w.heap.size,0,rfl,by rw [Lib.bytesWorld_size];exact Nat.lt_succ_self _,fun i hi=>?_⟩⟩
 rw [Nat.zero_add,Lib.cell_of_heap (Lib.bytesWorld_at_new w 5 X)]
 unfold Lib.bytesCells bt
 rw [Lib.size_eq] at hi
 rw [Array.getElem?_append_left (by simpa using hi)]
 have hi':i<X.data.size:=by simpa using hi
 rw [Array.getElem?_map,Array.getElem?_eq_getElem hi',Array.getElem?_toList,Array.getElem?_eq_getElem hi']
 rfl
theorem read_conv (w:World) (hT:Tabs w) (X:ByteArray) (hn:X.size≤17592186044416) :
  Calls Tryz.prog 146 #[.slice (some ⟨w.heap.size,0,none⟩) X.size (grownCap w X.size 0 5)] (Lib.bytesWorld w 5 X) fun e w'=>e=.returned (readV X.data.toList)∧Below w.heap.size w w':=
 (quoRead_any _ _ _ _ _ (hT.below (lbytes_below w X) (Nat.le_refl _)) (lconv_rd w X) hn (grownCap_ge w X.size 0 _)).mono fun _ _ h=>⟨h.1,(lbytes_below w X).trans (h.2.mono (by rw [Lib.bytesWorld_size];omega))⟩
theorem readP_small (x:List UInt8):(readP (34::x)).2.1≤2+12 * (x.length+1):=by
 have h1:=sizeQ_le (piecesQ x)
 have h2:=piecesP_len x.length x (Nat.le_refl _)
 have h3:(piecesQ x).length=(piecesP x).length:=by
  have:=congrArg List.length (valsQ_all x)
  rwa [show (valsQ (piecesQ x)).length=(piecesQ x).length from List.length_map _] at this
 rw [valsQ_all,h3] at h1
 rw [read_quoted]
 split <;> simp only <;> omega
set_option maxHeartbeats 1000000 in
set_option maxRecDepth 100000 in
theorem lexViable_any (s:ByteArray) (w:World) (hT:Tabs w) (hs:s.size≤1073741824) :
  Calls Tryz.prog 118 #[.string s] w fun e w'=>e=.returned (.int .i64 (((readP (34::s.data.toList.take 6)).2.1:Int)-1))∧Below w.heap.size w w':=by
 obtain ⟨X,hX⟩:∃X:ByteArray,(⟨#[34]⟩++s.extract 0 (min (s.size:Int) 6).toNat:ByteArray)=X:=⟨_,rfl⟩
 have hXl:X.data.toList=34::s.data.toList.take 6:=by
  rw [←hX]
  have e1:(⟨#[34]⟩++s.extract 0 (min (s.size:Int) 6).toNat:ByteArray).data.toList=34::(s.extract 0 (min (s.size:Int) 6).toNat).data.toList:=by simp
  rw [e1,take_ext]
  congr 1
  rcases Nat.lt_or_ge s.size 6 with h | h
  ·rw [show (min (s.size:Int) 6).toNat=s.size by omega,List.take_of_length_le (by rw [←Lib.size_eq];exact Nat.le_refl _),List.take_of_length_le (by rw [←Lib.size_eq];omega)]
  ·rw [show (min (s.size:Int) 6).toNat=6 by omega]
 have hXs:X.size≤7:=by rw [Lib.size_eq,hXl,List.length_cons,List.length_take];omega
 have hrd:=read_conv w hT X (by omega)
 have hrv:readV X.data.toList=.tuple #[.string ⟨(readP (34::s.data.toList.take 6)).1.toArray⟩,.int .i64 ((readP (34::s.data.toList.take 6)).2.1:Int),.int .i64 ((readP (34::s.data.toList.take 6)).2.2:Int)]:=by rw [hXl];rfl
 rw [hrv] at hrd
 have hle:=readP_small (s.data.toList.take 6)
 have hl6:(s.data.toList.take 6).length≤6:=by rw [List.length_take];omega
 clear hrv hXl
 generalize readP (34::s.data.toList.take 6)=R at *
 have hle':R.2.1≤100:=by omega
 clear hle hl6
 have hcv:=lconv_run w X
 have HRD:=hid hrd
 have HX:=hid hX
 clear hrd hX
 go_enter Tryz.func118,Tryz.ntmps118
 go_upto_region 1 with fail
 go_wp2_with fail
 rw [HX.out,hcv]
 simp only [Result.andThen]
 rw [Oper.upon_value]
 go_wp2_with (go_at_call 146;refine HRD.out.mono ?_)
 rintro e w1 ⟨rfl,hb1⟩
 go_wp2
 go_ret
 exact ⟨rfl,hb1⟩
end Go.Proofs.YtmbeicndhigklaaGreatDoor
namespace Go.Proofs.YtmbeicndhigklaaGreatDoor
open Lib (hid)
open Go.RowKit
def pieceV (p:List UInt8×Nat):Value:=.tuple #[.string ⟨p.1.toArray⟩,.int .i64 (p.2:Int)]
def SzRow (w:World) (b:Nat) (l:List Nat):Prop:=∀i,i<l.length→w.cell? ⟨b,i,none⟩=some (.int .i64 ((l.getD i 0:Nat):Int))
theorem SzRow.below {w w':World} {b:Nat} {l:List Nat} (h:SzRow w b l) (hlt:b<w.heap.size) (hb:Below w.heap.size w w'):SzRow w' b l:=fun i hi=>(hb.cell (p:=⟨b,i,none⟩) hlt).trans (h i hi)
theorem sizesR_len (l:List UInt8):(sizesR l).length≤2∧∀n∈sizesR l,n≤12∧2≤n:=by
 unfold sizesR;split <;> simp
theorem tryAll_at (l:List UInt8) (L:List Nat) (k:Nat) (h:k<L.length):tryAll l (L.drop k)=match tryR l L[k] with
  | some t=>(t,L[k])
  | none=>tryAll l (L.drop (k+1)):=by rw [List.drop_eq_getElem_cons h];rfl
theorem readP_text (x:List UInt8):(readP (34::x)).1.length≤4 * (x.length+1):=by
 have h1:=textQ_le (piecesQ x)
 have h2:=piecesP_len x.length x (Nat.le_refl _)
 have h3:(piecesQ x).length=(piecesP x).length:=by
  have:=congrArg List.length (valsQ_all x)
  rwa [show (valsQ (piecesQ x)).length=(piecesQ x).length from List.length_map _] at this
 rw [valsQ_all,h3] at h1
 rw [read_quoted]
 split
 ·simp
 ·simp only;omega
set_option maxHeartbeats 2000000 in
set_option maxRecDepth 100000 in
theorem lexPiece_any (s:ByteArray) (w:World) (hT:Tabs w) (hs:s.size≤1073741824) :
  Calls Tryz.prog 117 #[.string s] w fun e w'=>e=.returned (pieceV (pieceR s.data.toList))∧Below w.heap.size w w':=by
 have HB:=hid (bt_s s)
 have HB0:=hid (bt_e s)
 have hp:pieceR s.data.toList=tryAll s.data.toList (sizesR s.data.toList):=rfl
 have hsz:sizesR s.data.toList=if bt s.data.toList 1=117 then [12,6] else [2]:=rfl
 have hlen:=sizesR_len s.data.toList
 have HP:=hid hp
 have HSZ:=hid hsz
 clear hp hsz
 generalize hL:sizesR s.data.toList=L at HP HSZ hlen
 clear hL
 go_enter Tryz.func117,Tryz.ntmps117
 go_upto_region 2 with fail
 go_cut [18] (fun t wx=>t=.bool (decide (bt s.data.toList 1=117))∧wx=w.alloc (.cells #[.int .i64 2] 3))
 case first=>
  by_cases hlt:1<s.size
  ·have hb:=HB.out 1 hlt
   have hlti:decide ((1:Int)<(s.size:Int))=true:=decide_eq_true (by omega)
   by_cases hu:bt s.data.toList 1=117
   ·have hz:((s[1].toNat:Int)==117)=true:=by rw [hb] at hu;rw [hu];rfl
    go_wp2_with fail
    go_meet
    exact ⟨by rw [decide_eq_true hu],rfl⟩
   ·have hz:((s[1].toNat:Int)==117)=false:=by rw [hb] at hu;exact beq_false_of_ne (by omega)
    go_wp2_with fail
    go_meet
    exact ⟨by rw [decide_eq_false hu],rfl⟩
  ·have hlti:decide ((1:Int)<(s.size:Int))=false:=decide_eq_false (by omega)
   go_wp2_with fail
   go_meet
   exact ⟨by rw [HB0.out 1 (by omega)];rfl,rfl⟩
 case rest=>
  obtain ⟨rfl,rfl⟩:=hcut
  go_upto_if 18 with fail
  go_cut [4] (fun v wx=>∃b,v=.slice (some ⟨b,0,none⟩) L.length L.length∧w.heap.size≤b∧b<wx.heap.size∧SzRow wx b L∧Below w.heap.size w wx)
  case first=>
   by_cases hu:bt s.data.toList 1=117
   ·obtain rfl:L=[12,6]:=by rw [HSZ.out,if_pos hu]
    rw [decide_eq_true hu]
    go_wp2_with fail
    go_meet
    refine ⟨w.heap.size+1,rfl,by omega,by simp,fun i hi=>?_,((Below.refl _ w).alloc (Nat.le_refl _) _).alloc (by simp) _⟩
    have hh:=World.alloc_heap_new (w.alloc (.cells #[.int .i64 2] 3)) (.cells #[.int .i64 12,.int .i64 6] 3)
    rw [World.size_alloc] at hh
    rw [Lib.cell_of_heap hh]
    have hi2:i=0∨i=1:=by simp at hi;omega
    rcases hi2 with rfl | rfl <;> rfl
   ·obtain rfl:L=[2]:=by rw [HSZ.out,if_neg hu]
    rw [decide_eq_false hu]
    go_wp2_with fail
    go_meet
    refine ⟨w.heap.size,rfl,by omega,by simp,fun i hi=>?_,(Below.refl _ w).alloc (Nat.le_refl _) _⟩
    rw [Lib.cell_of_heap (World.alloc_heap_new w (.cells #[.int .i64 2] 3))]
    have hi2:i=0:=by simp at hi;omega
    subst hi2;rfl
  case rest=>
   obtain ⟨b,rfl,hb0,hb1,hrow,hbw⟩:=hcut
   clear HSZ HB HB0
   go_wp2
   go_loopw [22] (fun v wr=>∃k:Nat,k≤L.length∧v=.int .i64 (k:Int)∧b<wr.heap.size∧SzRow wr b L∧Below w.heap.size w wr∧Hid (tryAll s.data.toList L=tryAll s.data.toList (L.drop k))) (fun v _=>L.length-(intOf v).toNat)
   case atStart=>exact ⟨0,Nat.zero_le _,rfl,hb1,hrow,hbw,rfl⟩
   case round=>
    obtain ⟨k,hk,rfl,hb2,hrw,hbw2,htr⟩:=hrel
    by_cases hlt:k<L.length
    ·have hcell:=hrw k hlt
     rw [List.getD_eq_getElem?_getD,List.getElem?_eq_getElem hlt] at hcell
     have hst:=tryAll_at s.data.toList L k hlt
     have hn:=hlen.2 L[k] (List.getElem_mem hlt)
     generalize L[k]=n at hcell hst hn
     simp only [Option.getD_some] at hcell
     have HST:=hid hst
     clear hst
     have hround:∀(W:World) (x:Int),tryR s.data.toList n=none→x=(k:Int)+1→b<W.heap.size→SzRow W b L→Below w.heap.size w W→(∃m:Nat,m≤L.length∧Value.int .i64 x=.int .i64 (m:Int)∧b<W.heap.size∧SzRow W b L∧Below w.heap.size w W∧Hid (tryAll s.data.toList L=tryAll s.data.toList (L.drop m))):=
      fun W x h hx h1 h2 h3=>⟨k+1,by omega,by rw [hx];rfl,h1,h2,h3,hid (by rw [htr.out,HST.out,h])⟩
     have HR:=hid hround
     clear hround
     by_cases hfar:s.size<n
     ·have htn:=try_far s.data.toList n (by rw [←Lib.size_eq];exact hfar)
      have HTN:=hid htn
      have hd:decide ((s.size:Int)<(n:Int))=true:=decide_eq_true (by omega)
      clear htn
      go_wp2
      go_roundw
      case rel=>exact HR.out _ _ HTN.out rfl hb2 hrw hbw2
      case measure=>simp [intOf];omega
     ·have hnle:n≤s.size:=by omega
      obtain ⟨X,hX⟩:∃X:ByteArray,(⟨#[34]⟩++s.extract 0 n++⟨#[34]⟩:ByteArray)=X:=⟨_,rfl⟩
      have hXl:X.data.toList=34::(s.data.toList.take n++[34]):=by
       rw [←hX]
       have e1:(⟨#[34]⟩++s.extract 0 n++⟨#[34]⟩:ByteArray).data.toList=34::((s.extract 0 n).data.toList++[34]):=by simp
       rw [e1,take_ext]
      have hl12:(s.data.toList.take n++[34]).length=n+1:=by rw [List.length_append,List.length_take,←Lib.size_eq,Nat.min_eq_left hnle];rfl
      have hXs:X.size=n+2:=by rw [Lib.size_eq,hXl,List.length_cons,hl12]
      have hrd:=read_conv wr (hT.below hbw2 (Nat.le_refl _)) X (by omega)
      have hrv:readV X.data.toList=.tuple #[.string ⟨(readP (34::(s.data.toList.take n++[34]))).1.toArray⟩,.int .i64 ((readP (34::(s.data.toList.take n++[34]))).2.1:Int),.int .i64 ((readP (34::(s.data.toList.take n++[34]))).2.2:Int)]:=by rw [hXl];rfl
      rw [hrv] at hrd
      have hr1:=readP_small (s.data.toList.take n++[34])
      have hr2:=readP_text (s.data.toList.take n++[34])
      have htry:tryR s.data.toList n=if n≤s.data.toList.length∧(readP (34::(s.data.toList.take n++[34]))).2.2=0∧(readP (34::(s.data.toList.take n++[34]))).2.1=n+2∧(explode (readP (34::(s.data.toList.take n++[34]))).1).length=1 then some (readP (34::(s.data.toList.take n++[34]))).1 else none:=rfl
      rw [hl12] at hr1 hr2
      clear hrv hXl hl12
      generalize readP (34::(s.data.toList.take n++[34]))=R at *
      have HTRY:=hid htry
      have hcv:=lconv_run wr X
      have HRD:=hid hrd
      have HX:=hid hX
      have hd:decide ((s.size:Int)<(n:Int))=false:=decide_eq_false (by omega)
      have HXS:=hid hXs
      clear hrd hX htry hXs
      go_wp2
      rw [HX.out,hcv]
      simp only [Result.andThen]
      rw [Oper.upon_value]
      go_wp2_with (go_at_call 146;refine HRD.out.mono ?_)
      rintro e w1 ⟨rfl,hbr⟩
      have hr2':(⟨R.1.toArray⟩:ByteArray).size≤17592186044416:=by
       have:(⟨R.1.toArray⟩:ByteArray).size=R.1.length:=rfl
       omega
      have hex:∀W:World,Calls Tryz.prog 147 #[.string ⟨R.1.toArray⟩] W fun e w'=>∃A c,e=.returned (.slice A (explode R.1).length c)∧Below W.heap.size W w':=fun W=>(utfExplode_any ⟨R.1.toArray⟩ W hr2').mono (by
       rintro e w' ⟨v,rfl,ho,hb⟩
       obtain ⟨A,c,rfl⟩:=lowns_slice ho
       exact ⟨A,c,rfl,hb⟩)
      generalize (explode R.1).length=E at hex HTRY
      have HEX:=hid hex
      clear hex hr2'
      have hbW:=hbw2.trans (hbr.mono hbw2.size)
      have hrW:=hrw.below hb2 hbr
      have hbs:=hbr.size
      go_upto_region 9 with fail
      go_cut [54] (fun t wx=>t=.bool (decide (R.2.2=0∧R.2.1=n+2∧E=1))∧Below w1.heap.size w1 wx)
      case first=>
       by_cases q1:R.2.2=0
       ·have z1:((R.2.2:Int)==0)=true:=by rw [q1];rfl
        have Q1:=hid q1
        clear q1
        by_cases q2:R.2.1=n+2
        ·have z2:((R.2.1:Int)==(n:Int)+2)=true:=by rw [q2];simp
         have Q2:=hid q2
         clear q2
         go_wp2_with (go_at_call 147;refine (HEX.out _).mono ?_)
         rintro e w2 ⟨A2,c2,rfl,hb2'⟩
         go_wp2_with fail
         go_meet
         exact ⟨by simp only [Q1.out,Q2.out,true_and];rw [show ((E:Int)==1)=decide (E=1) by rw [Bool.eq_iff_iff];simp;omega],hb2'⟩
        ·have z2:((R.2.1:Int)==(n:Int)+2)=false:=beq_false_of_ne (by omega)
         have Q2:=hid q2
         clear q2
         go_wp2_with fail
         go_meet
         exact ⟨by rw [decide_eq_false (fun h=>Q2.out h.2.1)],Below.refl _ _⟩
       ·have z1:((R.2.2:Int)==0)=false:=beq_false_of_ne (by omega)
        have Q1:=hid q1
        clear q1
        go_wp2_with fail
        go_meet
        exact ⟨by rw [decide_eq_false (fun h=>Q1.out h.1)],Below.refl _ _⟩
      case rest=>
       obtain ⟨rfl,hbx⟩:=hcut
       have hbY:=hbW.trans (hbx.mono hbW.size)
       have hrY:=hrW.below (by omega) hbx
       have hbs2:=hbx.size
       by_cases hq:R.2.2=0∧R.2.1=n+2∧E=1
       ·have hyes:tryR s.data.toList n=some R.1:=by rw [HTRY.out,if_pos ⟨by rw [←Lib.size_eq];exact hnle,hq⟩]
        rw [decide_eq_true hq]
        have HY:=hid hyes
        clear hyes hq
        go_wp2_with fail
        go_ret2
        refine ⟨?_,hbY⟩
        rw [HP.out,htr.out,HST.out,HY.out];rfl
       ·have hno:tryR s.data.toList n=none:=by rw [HTRY.out,if_neg (fun h=>hq h.2)]
        rw [decide_eq_false hq]
        have HY:=hid hno
        clear hno hq
        go_wp2_with fail
        go_roundw
        case rel=>exact HR.out _ _ HY.out rfl (by omega) hrY hbY
        case measure=>simp [intOf];omega
    ·obtain rfl:k=L.length:=by omega
     go_wp2
     go_ret2
     refine ⟨?_,hbw2⟩
     rw [HP.out,htr.out,List.drop_length];rfl
end Go.Proofs.YtmbeicndhigklaaGreatDoor
namespace Go.Proofs.YtmbeicndhigklaaGreatDoor
open Lib (hid)
open Go.RowKit
section
variable {w0 w w':World} {g:Nat} {S:ByteArray} {s:LS}
theorem LxV.kept (h:LxV w0 g S s w) (hb:Below w0.heap.size w w')
  (hk:∀(k:Nat) (c:Array Value) (T:TypeId) (z:Nat×Nat),(T=83∨T=86∨T=3)→w.heap[k]?=some (.cells c T z)→w'.heap[k]?=some (.cells c T z)):LxV w0 g S s w':=by
 obtain ⟨h1,h2,tv,xv,hh,ht,hx⟩:=h
 refine ⟨h1.trans hb,h2,tv,xv,hk _ _ _ _ (.inl rfl) hh,⟨ht.1,?_⟩,⟨hx.1,?_⟩⟩
 ·rcases ht.2 with h3 | ⟨q,cap,cur,hv,hg,hh2,r⟩
  ·exact .inl h3
  ·exact .inr ⟨q,cap,cur,hv,hg,hk _ _ _ _ (.inr (.inl rfl)) hh2,r⟩
 ·rcases hx.2 with h3 | ⟨q,cap,cur,hv,hg,hh2,r⟩
  ·exact .inl h3
  ·exact .inr ⟨q,cap,cur,hv,hg,hk _ _ _ _ (.inr (.inr rfl)) hh2,r⟩
def TxV (w0:World) (g br bf bb:Nat) (S:ByteArray) (s:LS) (fr:Nat) (o:List UInt8) (w:World):Prop:=
 LxV w0 g S s w∧w0.heap.size≤br∧w.heap[br]?=some (.cells #[.pointer (some ⟨g,0,none⟩)] 80 (0,0))∧w.heap[bf]?=some (.cells #[.int .i64 (fr:Int)] 3 (0,0)) ∧
  Lib.IsBuilderF 124 5 w0.heap.size bb (Lib.byteCells o) w
variable {br bf bb fr:Nat} {o:List UInt8}
theorem TxV.reader (h:TxV w0 g br bf bb S s fr o w):LxV w0 g S s w:=h.1
theorem TxV.bld (h:TxV w0 g br bf bb S s fr o w):Lib.IsBuilderF 124 5 w0.heap.size bb (Lib.byteCells o) w:=h.2.2.2.2
theorem lbld_block {T e:TypeId} {B b:Nat} {bs:List Value} (h:Lib.IsBuilderF T e B b bs w):∃c z,w.heap[b]?=some (.cells c T z):=by
 rcases h with ⟨_,v,hb,_⟩ | ⟨_,v,hb,_⟩ <;> exact ⟨_,_,hb⟩
theorem TxV.drewN (h:TxV w0 g br bf bb S s fr o w) (k:Nat):TxV w0 g br bf bb S s fr o (w.drewN k):=⟨h.1.drewN k,h.2.1,h.2.2.1,h.2.2.2.1,h.2.2.2.2⟩
theorem TxV.below (h:TxV w0 g br bf bb S s fr o w) (hb:Below w.heap.size w w'):TxV w0 g br bf bb S s fr o w':=
 ⟨h.1.below hb,h.2.1,(hb.block br (Array.getElem?_eq_some_iff.1 h.2.2.1).1).trans h.2.2.1,(hb.block bf (Array.getElem?_eq_some_iff.1 h.2.2.2.1).1).trans h.2.2.2.1,bld_below h.2.2.2.2 hb⟩
theorem TxV.written (h:TxV w0 g br bf bb S s fr o w) {o':List UInt8} (hb:Below w0.heap.size w w') (hk:Lib.OthersKept 5 (some bb) w w') (hB:Lib.IsBuilderF 124 5 w0.heap.size bb (Lib.byteCells o') w'):TxV w0 g br bf bb S s fr o' w':=by
 obtain ⟨c0,z0,hbb⟩:=lbld_block h.bld
 have hne:∀(k:Nat) (c:Array Value) (T:TypeId) (z:Nat×Nat),T≠124→T≠5→w.heap[k]?=some (.cells c T z)→w'.heap[k]?=some (.cells c T z):=fun k c T z h1 h2 h3=>
  others_keep hk h2 (fun e=>by subst e;rw [hbb] at h3;injection h3 with h3;injection h3 with _ h3 _;exact h1 h3.symm) h3
 exact ⟨h.1.kept hb (fun k c T z hT=>hne k c T z (by rcases hT with rfl | rfl | rfl <;> decide) (by rcases hT with rfl | rfl | rfl <;> decide)),h.2.1,hne _ _ _ _ (by decide) (by decide) h.2.2.1,hne _ _ _ _ (by decide) (by decide) h.2.2.2.1,hB⟩
theorem TxV.put_pos (h:TxV w0 g br bf bb S s fr o w) (p:Nat):TxV w0 g br bf bb S { s with pos:=p } fr o (w.setCell ⟨g,1,none⟩ (.int .i64 (p:Int))):=by
 have hne:∀(k:Nat) (c:Array Value) (T:TypeId) (z:Nat×Nat),T≠83→w.heap[k]?=some (.cells c T z)→(w.setCell ⟨g,1,none⟩ (.int .i64 (p:Int))).heap[k]?=some (.cells c T z):=fun k c T z hT hk=>by
  obtain ⟨_,_,tv,xv,hh,_⟩:=h.1
  rw [lheap_far (fun e=>?_)]
  ·exact hk
  ·have e:g=k:=e
   subst e;rw [hh] at hk;injection hk with hk;injection hk with _ hk _;exact hT hk.symm
 exact ⟨h.1.put_pos p,h.2.1,hne _ _ _ _ (by decide) h.2.2.1,hne _ _ _ _ (by decide) h.2.2.2.1,bld_kept h.2.2.2.2 (fun k c T z hT=>hne k c T z (by rcases hT with rfl | rfl <;> decide))⟩
theorem TxV.cr (h:TxV w0 g br bf bb S s fr o w):w.cell? ⟨br,0,none⟩=some (.pointer (some ⟨g,0,none⟩)):=by rw [Lib.cell_of_heap h.2.2.1];rfl
theorem TxV.cf (h:TxV w0 g br bf bb S s fr o w):w.cell? ⟨bf,0,none⟩=some (.int .i64 (fr:Int)):=by rw [Lib.cell_of_heap h.2.2.2.1];rfl
end
theorem LxV.grows0 {w0 w:World} {g:Nat} {S:ByteArray} {s:LS} (h:LxV w0 g S s w) {tv:Value} (htv:w.cell? ⟨g,2,none⟩=some tv) {o:Obj} {w5:World} (hg:(w.alloc o).grownBy w5 tv.ownBlock) :
  w5.cell? ⟨g,2,none⟩=some tv∧w5.frozen? ⟨g,2,none⟩=false∧∀(v5:Value) (k:Tk),w5.ownsRow w0.heap.size 86 3 v5 (s.toks.length+1) (tkCells s.toks++[Value.int .i64 (k.kind:Int),.string ⟨k.text.toArray⟩,.int .i64 (k.pos:Int)]) →
   LxV w0 g S { s with toks:=s.toks++[k] } (w5.setCell ⟨g,2,none⟩ v5):=by
 obtain ⟨hb,h2,tv',xv,hh,ho,hx⟩:=h
 have e:tv'=tv:=by rw [Lib.cell_of_heap hh] at htv;exact Option.some.inj htv
 subst e
 have hlt:g<w.heap.size:=(Array.getElem?_eq_some_iff.1 hh).1
 have hblk:∀k,tv'.ownBlock=some k→w0.heap.size≤k∧k<w.heap.size∧∃c z,w.heap[k]?=some (.cells c 86 z):=fun k hk=>by
  rcases ho.2 with ⟨hv,_⟩ | ⟨q,cap',cur,hv,hg2,hh2,_⟩
  ·rw [hv] at hk;cases hk
  ·rw [hv] at hk
   have e:q=k:=by simpa [Value.ownBlock] using hk
   subst e
   exact ⟨hg2,(Array.getElem?_eq_some_iff.1 hh2).1,_,_,hh2⟩
 have hal:(w.alloc o).heap[g]?=some (.cells #[.string S,.int .i64 (s.pos:Int),tv',xv,.int .i64 (s.err:Int)] 83 (0,0)):=(Below.heap_alloc w o g hlt).trans hh
 have h5:w5.heap[g]?=some (.cells #[.string S,.int .i64 (s.pos:Int),tv',xv,.int .i64 (s.err:Int)] 83 (0,0)):=by
  rw [hg.block g (Array.getElem?_eq_some_iff.1 hal).1 (fun e=>?_)]
  ·exact hal
  ·obtain ⟨_,_,c,z,h3⟩:=hblk g e.symm
   rw [hh] at h3;injection h3 with h3;injection h3 with _ h3 _;exact absurd h3 (by decide)
 have hb5:Below w0.heap.size w0 w5:=(hb.alloc hb.size o).grown hg (by rw [World.size_alloc];have:=hb.size;exact Nat.le_succ_of_le this) (fun k hk=>(hblk k hk).1)
 have hx5:w5.ownsRow w0.heap.size 3 1 xv s.texts.length (txCells s.texts):=by
  refine lowns_grown (lowns_below hx ((Below.refl _ w).alloc (Nat.le_refl _) o)) hg (fun k hk=>.inr ?_)
  obtain ⟨_,hlt2,c,z,h3⟩:=hblk k hk
  exact ⟨c,_,z,(Below.heap_alloc w o k hlt2).trans h3,by decide⟩
 refine ⟨by rw [Lib.cell_of_heap h5];rfl,Lib.frozen_of_heap h5 2,fun v5 k ho5=>?_⟩
 rw [tkCells_snoc] at ho5
 refine ⟨hb5.setCell (p:=⟨g,2,none⟩) h2 _,h2,v5,xv,lheap_set h5 v5,?_,lowns_far hx5 h5 (by decide) _⟩
 show World.ownsRow _ _ _ _ _ (s.toks++[k]).length _
 rw [List.length_append]
 exact lowns_far ho5 h5 (by decide) _
theorem LxV.row_of {w0 w:World} {g:Nat} {S:ByteArray} {s:LS} (h:LxV w0 g S s w) {tv:Value} (htv:w.cell? ⟨g,2,none⟩=some tv):w.ownsRow w0.heap.size 86 3 tv s.toks.length (tkCells s.toks):=by
 obtain ⟨hb,h2,tv',xv,hh,ho,hx⟩:=h
 have e:tv'=tv:=by rw [Lib.cell_of_heap hh] at htv;exact Option.some.inj htv
 subst e
 exact ho
theorem LxV.grown_far {w0 w:World} {g:Nat} {S:ByteArray} {s:LS} (h:LxV w0 g S s w) {tv:Value} (htv:w.cell? ⟨g,2,none⟩=some tv) {ob:Obj} {w5:World} (hg:(w.alloc ob).grownBy w5 tv.ownBlock) {k:Nat} {c:Array Value} {T:TypeId} {z:Nat×Nat} (hT:T≠86) (hk:w.heap[k]?=some (.cells c T z)):w5.heap[k]?=some (.cells c T z):=by
 have hlt:=(Array.getElem?_eq_some_iff.1 hk).1
 have hal:(w.alloc ob).heap[k]?=some (.cells c T z):=(Below.heap_alloc w ob k hlt).trans hk
 rw [hg.block k (Array.getElem?_eq_some_iff.1 hal).1 (fun e=>?_)]
 ·exact hal
 ·obtain ⟨c',z',h3⟩:=lrow_kind (h.row_of htv) k e.symm
  rw [h3] at hk;injection hk with hk;injection hk with _ hk _;exact hT hk.symm
theorem news3' (W:World) (a b c:Value) (T:TypeId):∀(j:Nat) (u:Value),[a,b,c][j]?=some u→(W.alloc (.cells #[a,b,c] T)).cell? ((⟨W.heap.size,0,none⟩:Addr).add j)=some u:=fun j u h=>by
 have hadd:(⟨W.heap.size,0,none⟩:Addr).add j=⟨W.heap.size,0+j,none⟩:=by unfold Addr.add;split <;> simp_all
 rw [hadd,Nat.zero_add]
 refine (World.cell?_alloc_at (w:=W) _ _ _ _ rfl).trans ?_
 simpa using h
end Go.Proofs.YtmbeicndhigklaaGreatDoor
