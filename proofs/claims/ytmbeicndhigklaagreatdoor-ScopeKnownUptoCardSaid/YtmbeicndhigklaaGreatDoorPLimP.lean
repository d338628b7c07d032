/-
The walks of strconv.FormatUint at base 10 and of strings.Repeat of noughts.
-/
import Derived.Test.YtmbeicndhigklaaGreatDoorShelf
import Derived.Test.YtmbeicndhigklaaGreatDoorPLimO
import Derived.Shelf.Strconv.Itoa3
import Derived.Shelf.SlSorted.Search
import Derived.Test.YtmbeicndhigklaaGreatDoorPBld
namespace Go.Proofs.YtmbeicndhigklaaGreatDoor
open Lib (hid)
open Go.RowKit Go.Sort Go.Lib
def Tab10 (w:World):Prop:=Lib.TabIs Tryz.prog w "internal/strconv.uint64pow10" .u64 Lib.pow10Tab
theorem Tab10.below {w w':World} (h:Tab10 w) (hb:Below w.heap.size w w'):Tab10 w':=by
 unfold Tab10 Lib.TabIs World.var? at *
 cases hg:Tryz.prog.globalNamed "internal/strconv.uint64pow10" with
 | none=>simp [hg] at h
 | some g=>
  simp only [hg,Option.bind_some] at h ⊢
  have hlt:g<w.heap.size:=by
   rcases Nat.lt_or_ge g w.heap.size with h' | h'
   ·exact h'
   ·rw [Array.getElem?_eq_none h'] at h;simp at h
  rw [hb.block g hlt]
  exact h
theorem holds_zero0 (w:World) (T:TypeId) (nd:Nat) (hs:nd≤24):Holds (fun (b:UInt8)=>Value.int .u8 (b.toNat:Int)) (w.alloc (.cells Lib.zeros24 T)) w.heap.size 0 (Array.replicate nd (0:UInt8)):=fun j hj=>by
 have hj':j<nd:=by simpa using hj
 refine ⟨?_,World.frozen?_alloc_new _ _ _ _⟩
 rw [World.cell?_alloc_new,Lib.zeros24_at _ (by omega),getElem!_pos _ j hj]
 simp
theorem fin_pos0 (w:World) (o:Obj) (dk:Array UInt8) (k:Nat):∃os,(putRow (fun (b:UInt8)=>Value.int .u8 (b.toNat:Int)) (w.alloc o) w.heap.size 0 dk).drewN k=grow (w.drewN k) os:=by
 rw [alloc_eq_grow]
 obtain ⟨os',_,e⟩:=putRow_grow_new (fun (b:UInt8)=>Value.int .u8 (b.toNat:Int)) w #[o] w.heap.size 0 dk (Nat.le_refl _)
 exact ⟨os',by rw [e];rfl⟩
set_option maxHeartbeats 6400000 in
set_option maxRecDepth 100000 in
theorem fmtUint_in (u:Nat) (hu64:u<18446744073709551616) (w:World) (htab:Tab10 w) :
  Calls Tryz.prog 195 #[.int .u64 u,.int .i64 10] w fun e w'=>e=.returned (.string ⟨(Lib.decDigits u).toArray⟩)∧Below w.heap.size w w':=by
 by_cases hs:u<100
 ·go_enter Tryz.func195,Tryz.ntmps195
  go_wp2_with (go_at_call 151;refine (Tryz.internal_strconv_small u hs _).mono ?_;rintro e w' ⟨rfl,rfl⟩)
  go_ret
  exact ⟨rfl,Below.refl _ _⟩
 ·have hu1:1≤u:=by omega
  have hnd20:Lib.nDigits u≤20:=by have:=Lib.numDigits_eq u hu1 hu64;split at this <;> omega
  have hal:Tryz.prog.arrayLen 165=24:=by kernel_rfl
  have hsl1:∀W,(Instr.sliceAt 165 (.pointer (some ⟨w.heap.size,0,none⟩)) none (some (.int .i64 (Lib.nDigits u:Int))) none).run Tryz.prog W=.ok (.slice (some ⟨w.heap.size,0,none⟩) (Lib.nDigits u) 24) W:=fun W=>by
   rw [run_sliceAt_array_h W 165 ⟨w.heap.size,0,none⟩ (by kernel_rfl) .i64 (Lib.nDigits u:Int) (by omega) (by rw [hal];omega)]
   go_simp
  have hH0:=holds_zero0 w 165 (Lib.nDigits u) (by omega)
  have hfmt:=Tryz.internal_strconv_formatBase10 w.heap.size 0 24 u (Array.replicate (Lib.nDigits u) 0) (w.alloc (.cells Lib.zeros24 165)) hH0 (by rw [Array.size_replicate];exact Lib.lt_pow_nDigits u) hu64 (by rw [Array.size_replicate];omega)
  rw [Array.size_replicate] at hfmt
  have HH0:=hid hH0
  clear hH0 hal
  go_enter Tryz.func195,Tryz.ntmps195
  go_wp2_with (first
   | (go_at_call 152;refine (Tryz.internal_strconv_numDigits u hu1 hu64 _ (Lib.tabIs_alloc htab _)).mono ?_;rintro e w' ⟨rfl,rfl⟩))
  go_at_call 153
  refine hfmt.mono ?_
  rintro e w' ⟨rfl,k,v',dk,rfl,hF⟩
  have hcv:(convert 122 9 (.slice (some ⟨w.heap.size,0,none⟩) (Lib.nDigits u) 24)).run Tryz.prog ((putRow (fun (b:UInt8)=>Value.int .u8 (b.toNat:Int)) (w.alloc (.cells Lib.zeros24 165)) w.heap.size 0 dk).drewN k)=.ok (.string ⟨(Lib.decDigits u).toArray⟩) ((putRow (fun (b:UInt8)=>Value.int .u8 (b.toNat:Int)) (w.alloc (.cells Lib.zeros24 165)) w.heap.size 0 dk).drewN k):=by
   have h:=run_convert_bytes_back (P:=Tryz.prog) ((putRow (fun (b:UInt8)=>Value.int .u8 (b.toNat:Int)) (w.alloc (.cells Lib.zeros24 165)) w.heap.size 0 dk).drewN k) 122 9 5 ⟨w.heap.size,0,none⟩ 24 (Lib.decDigits u) rfl rfl rfl (fun j hj=>by
    rw [Lib.row_is_numeral hF j hj,Lib.add_plain,World.cell?_drewN]
    exact cell?_putRow (fun (b:UInt8)=>Value.int .u8 (b.toNat:Int)) _ w.heap.size 0 _ dk HH0.out (by rw [hF.size,Array.size_replicate]) j (by rw [hF.size];rw [Lib.decDigits_length] at hj;exact hj))
   rw [Lib.decDigits_length] at h
   exact h
  go_wp2
  go_ret
  obtain ⟨os,eo⟩:=fin_pos0 w (.cells Lib.zeros24 165) dk k
  exact ⟨rfl,eo▸below_grown_sl w.heap.size w k os (Nat.le_refl _)⟩
set_option maxRecDepth 100000 in
theorem fmtUint_any (u:Nat) (hu64:u<18446744073709551616) (w:World) (htab:Tab10 w) :
  Calls Tryz.prog 166 #[.int .u64 u,.int .i64 10] w fun e w'=>e=.returned (.string ⟨(Lib.decDigits u).toArray⟩)∧Below w.heap.size w w':=by
 have K:=hid (fmtUint_in u hu64 w htab)
 go_enter Tryz.func166,Tryz.ntmps166
 go_wp2_with (go_at_call 195;refine K.out.mono ?_)
 rintro e w1 ⟨rfl,hb1⟩
 go_wp2
 go_ret
 exact ⟨rfl,hb1⟩
def noughts (c:Nat):ByteArray:=⟨(List.replicate c (48:UInt8)).toArray⟩
set_option maxHeartbeats 2000000 in
set_option maxRecDepth 100000 in
theorem repeat_any (c:Nat) (w:World) (hc:c≤8) :
  Calls Tryz.prog 167 #[.string ⟨#[48]⟩,.int .i64 c] w fun e w'=>e=.returned (.string (noughts c))∧w'=w:=by
 have hM:=hid (fun u:World=>Tryz.bits_Mul 1 c (by omega) (by omega) u)
 by_cases h0:c=0
 ·subst h0
  go_enter Tryz.func167,Tryz.ntmps167
  go_wp2
  go_ret
  exact ⟨rfl,rfl⟩
 ·by_cases h1:c=1
  ·subst h1
   go_enter Tryz.func167,Tryz.ntmps167
   go_wp2
   go_ret
   exact ⟨rfl,rfl⟩
  ·have e1:1 * c / 18446744073709551616=0:=by omega
   have e2:1 * c % 18446744073709551616=c:=by omega
   rw [e1,e2] at hM
   have hc2:2≤c:=by omega
   clear e1 e2 h0 h1
   go_enter Tryz.func167,Tryz.ntmps167
   go_wp2_with (first
    | (go_at_call 196;refine (hM.out _).mono ?_;rintro e w' ⟨rfl,rfl⟩)
    | (go_at_call 116;refine (Tryz.strings_HasPrefix _ _ _).mono ?_;rintro e w' ⟨rfl,rfl⟩))
   go_ret
   obtain rfl | rfl | rfl | rfl | rfl | rfl | rfl:c=2∨c=3∨c=4∨c=5∨c=6∨c=7∨c=8:=by omega
   all_goals exact ⟨rfl,rfl⟩
end Go.Proofs.YtmbeicndhigklaaGreatDoor
namespace Go.Proofs.YtmbeicndhigklaaGreatDoor
open Lib (hid)
open Go.RowKit
def strD (l:List Nat):List UInt8:=l.map fun d=>UInt8.ofNat (48+d)
theorem strD_append (l m:List Nat):strD (l++m)=strD l++strD m:=List.map_append ..
theorem strD_len (l:List Nat):(strD l).length=l.length:=List.length_map ..
theorem txt_small (u:Nat) (h:u<10):txt u=[u]:=by
 unfold txt
 by_cases h0:u=0
 ·rw [if_pos h0,h0]
 ·rw [if_neg h0,digs_pos 10 u (by omega) h0,Nat.mod_eq_of_lt h,Nat.div_eq_of_lt h,digs_zero];rfl
theorem txt_more (u:Nat) (h:¬u<10):txt u=txt (u / 10)++[u % 10]:=by
 unfold txt
 rw [if_neg (by omega),if_neg (by omega),digs_pos 10 u (by omega) (by omega),List.reverse_cons]
theorem decDigits_txt (u:Nat):Lib.decDigits u=strD (txt u):=by
 induction u using Nat.strongRecOn with
 | _ u ih=>
  rw [Lib.decDigits]
  by_cases h:u<10
  ·rw [dif_pos h,txt_small u h];rfl
  ·rw [dif_neg h,ih (u / 10) (by omega),txt_more u h,strD_append];rfl
theorem strD_noughts (c:Nat):strD (List.replicate c 0)=List.replicate c (48:UInt8):=by
 unfold strD;rw [List.map_replicate];rfl
theorem txt_val_len (X:List Nat) (hX:∀x∈X,x<1000000000):(txt (val 1000000000 X)).length≤9 * X.length+1:=by
 unfold txt
 split
 ·simp
 ·rw [List.length_reverse]
  have h1:=val_lt 1000000000 X hX
  have e:1000000000 ^ X.length=10 ^ (9 * X.length):=by rw [Nat.pow_mul]
  rw [e] at h1
  have:=(digs_len 10 (by omega) _ _).1 h1
  omega
theorem digs_top (B:Nat) (hB:2≤B) (x a:Nat) (h:(digs B x).length=a+1):(digs B x).getD a 0≠0∧val B ((digs B x).drop a)=(digs B x).getD a 0:=by
 have h2:val B ((digs B x).drop a)=(digs B x).getD a 0:=by
  rw [val_drop_step B _ a (by omega),List.drop_of_length_le (by omega),val,Nat.mul_zero,Nat.add_zero]
 refine ⟨fun h0=>?_,h2⟩
 have h1:=val_split B (digs B x) a
 rw [h2,h0,Nat.mul_zero,Nat.add_zero,val_digs B hB,digs_take_val B hB] at h1
 have h3:x<B ^ a:=by
  rw [h1]
  exact Nat.mod_lt _ (Nat.pow_pos (by omega))
 have:=(digs_len B hB x a).1 h3
 omega
theorem size_of_bytes (l:List UInt8):(⟨l.toArray⟩:ByteArray).size=l.length:=by simp [ByteArray.size]
theorem bld_belowL {T e:TypeId} {B b:Nat} {bs:List Value} {w w':World} (h:Lib.IsBuilderF T e B b bs w) (hb:Below w.heap.size w w'):Lib.IsBuilderF T e B b bs w':=by
 rcases h with h | h
 ·left
  obtain ⟨hB,v,hbk,hown,hne⟩:=h
  refine ⟨hB,v,by rw [hb.block b (Array.getElem?_eq_some_iff.1 hbk).1];exact hbk,?_,hne⟩
  refine ⟨hown.1,?_⟩
  rcases hown.2 with h2 | ⟨g,cap,cur,fz,hv,hg,hh,r⟩
  ·exact .inl h2
  ·exact .inr ⟨g,cap,cur,fz,hv,hg,by rw [hb.block g (Array.getElem?_eq_some_iff.1 hh).1];exact hh,r⟩
 ·right
  obtain ⟨hB,v,hbk,hown,hne⟩:=h
  refine ⟨hB,v,by rw [hb.block b (Array.getElem?_eq_some_iff.1 hbk).1];exact hbk,?_,hne⟩
  refine ⟨hown.1,?_⟩
  rcases hown.2 with h2 | ⟨g,cap,cur,fz,hv,hg,hh,r⟩
  ·exact .inl h2
  ·exact .inr ⟨g,cap,cur,fz,hv,hg,by rw [hb.block g (Array.getElem?_eq_some_iff.1 hh).1];exact hh,r⟩
set_option maxHeartbeats 2000000 in
set_option maxRecDepth 100000 in
theorem text_any (A:Option Addr) (n cap:Nat) (l:List Nat) (w:World) (hR:RdN .u32 w A n l) (hn:n≤549755813888) (hl:∀x∈l,x<4294967296) (htab:Tab10 w) :
  Calls Tryz.prog 139 #[.slice A n cap] w fun e w'=>e=.returned (.string ⟨(strD (txt (val 1000000000 l))).toArray⟩)∧Below w.heap.size w w':=by
 have K1:=hid (norm_any A n cap l w hR (by omega) hl)
 have hd:(digs 1000000000 (val 1000000000 l)).length≤549755813889:=by have:=digs_val_len l hl;have:=hR.1;omega
 clear hR hl
 generalize val 1000000000 l=x at *
 have HLT:=hid (digs_lt 1000000000 (by omega) x)
 have HV:=hid (val_digs 1000000000 (by omega) x)
 have HT:=hid htab
 clear htab
 by_cases hx:x=0
 ·subst hx
  go_enter Tryz.func139,Tryz.ntmps139
  go_wp2_with (go_at_call 137;refine K1.out.mono ?_)
  rintro e w1 ⟨v1,rfl,hown1,hb1⟩
  rw [digs_zero] at hown1
  obtain ⟨B1,c1,rfl,hcap1,hrd1,hge1⟩:=hown1.rd
  go_wp2
  go_ret
  exact ⟨rfl,hb1⟩
 ·have hne:(digs 1000000000 x).length≠0:=fun h=>hx ((digs_nil 1000000000 x (by omega)).1 (List.eq_nil_of_length_eq_zero h))
  go_enter Tryz.func139,Tryz.ntmps139
  go_wp2_with (go_at_call 137;refine K1.out.mono ?_)
  rintro e w1 ⟨v1,rfl,hown1,hb1⟩
  have hvx:=HV.out
  have htop:=digs_top 1000000000 (by omega) x
  generalize digs 1000000000 x=X at *
  obtain ⟨B1,c1,rfl,hcap1,hrd1,hge1⟩:=hown1.rd
  have HT1:=hid (HT.out.below hb1)
  have HB1:=hid hb1
  obtain ⟨a,ha⟩:∃a,X.length=a+1:=⟨X.length-1,by omega⟩
  rw [ha] at hrd1 hcap1
  have HA:=hid ha
  obtain ⟨hx0,hx1⟩:=htop a ha
  clear htop
  obtain ⟨g,o,rfl,hgl,hcl⟩:=hrd1.2 (by omega)
  have ca:=hcl a (by omega)
  have hva:=getD_lt (by omega) HLT.out a
  have hI0:=Lib.IsBuilderF.of (Lib.fresh_isBuilder 124 5 w1)
  have hbw:=(Below.refl w1.heap.size w1).alloc (Nat.le_refl _) (.cells #[.pointer none,.slice none 0 0] 124)
  have K2:=hid (fmtUint_any (X.getD a 0) (by omega) _ (HT1.out.below hbw))
  have HCL:=hid hcl
  have HV1:=hid (show strD (txt (X.getD a 0))=strD (txt (val 1000000000 (X.drop a)))∧val 1000000000 (X.drop a)≠0 from ⟨by rw [hx1],by rw [hx1];exact hx0⟩)
  have HS:=hid (size_of_bytes (Lib.decDigits (X.getD a 0)))
  have hl9:=(txt_len9 (X.getD a 0) hva).1
  have HDT:=hid (decDigits_txt (X.getD a 0))
  have hdl:(Lib.decDigits (X.getD a 0)).length≤9:=by rw [HDT.out,strD_len];exact hl9
  rw [ha]
  have haa:((a+1:Nat):Int)-1=a:=by omega
  have haa2:((a+1:Nat):Int)-2=(a:Int)-1:=by omega
  have haB:a≤549755813888:=by omega
  clear hcl hx0 hx1 hown1 hge1 hrd1 hne ha hl9 hvx
  generalize X.getD a 0=t at *
  generalize hs:(⟨(Lib.decDigits t).toArray⟩:ByteArray)=s at *
  have HSS:=hid hs
  clear hs
  have hs9:s.size≤9:=by rw [HS.out];exact hdl
  have hcell2:=hbw.cell (p:=⟨g,o+a,none⟩) hgl
  rw [ca] at hcell2
  go_wp2_with (go_at_call 166;refine K2.out.mono ?_)
  rintro e w2 ⟨rfl,hb2⟩
  have hz2:=hb2.size
  go_wp2_with (go_at_call 119;refine (bld_writeString w1.heap.size w1.heap.size _ s _ (bld_belowL hI0 hb2) (by simp;omega) (by simp at hz2;omega)).mono ?_)
  rintro e w3 ⟨rfl,h3,hb3,_⟩
  have hsc:∀u:Nat,Lib.strCells (⟨(Lib.decDigits u).toArray⟩:ByteArray)=Lib.byteCells (Lib.decDigits u):=fun u=>rfl
  have HI1:=hid (show Lib.IsBuilderF 124 5 w1.heap.size w1.heap.size (Lib.byteCells (strD (txt (val 1000000000 (X.drop a))))) w3 from by
   rw [←HV1.out.1,←HDT.out,←hsc,HSS.out]
   exact Or.inr h3)
  have HBA:=hid (show Below w1.heap.size w1 w3 from (hbw.trans (hb2.mono (by simp))).trans hb3)
  clear h3 hb3 hz2 hb2 hI0 hbw hcell2 ca hva hdl hs9
  go_wp2
  go_loopw [5] (fun iv wr=>∃k:Nat,k≤a∧iv=.int .i64 ((k:Int)-1)∧Lib.IsBuilderF 124 5 w1.heap.size w1.heap.size (Lib.byteCells (strD (txt (val 1000000000 (X.drop k))))) wr∧Hid (val 1000000000 (X.drop k)≠0)∧Below w1.heap.size w1 wr) (fun iv _=>(intOf iv+1).toNat)
  case atStart=>exact ⟨a,Nat.le_refl _,by congr 1 <;> omega,HI1.out,HV1.out.2,HBA.out⟩
  case round=>
   obtain ⟨k,hk,rfl,hI,hv0,hb⟩:=hrel
   have hz0:=hb.size
   have HI:=hid hI
   clear hI
   by_cases hk0:k=0
   ·subst hk0
    have hm1:((0:Nat):Int)-1=-1:=by omega
    go_wp2_with (go_at_call 115;refine (Tryz.Builder_String_any_k w1.heap.size w1.heap.size _ _ HI.out (by omega)).mono ?_)
    rintro e w4 ⟨rfl,_,hb4,_⟩
    go_wp2
    go_ret
    exact ⟨by rw [←HV.out];rfl,HB1.out.trans ((hb.trans hb4).mono HB1.out.size)⟩
   ·obtain ⟨k,rfl⟩:∃j,k=j+1:=⟨k-1,by omega⟩
    have ck:=(hb.cell (p:=⟨g,o+k,none⟩) hgl).trans (HCL.out k (by omega))
    have hvk:=getD_lt (by omega) HLT.out k
    have K4:=hid (fmtUint_any (X.getD k 0) (by omega) wr (HT1.out.below hb))
    have HSK:=hid (size_of_bytes (Lib.decDigits (X.getD k 0)))
    have hl9:=txt_len9 (X.getD k 0) hvk
    have HDK:=hid (decDigits_txt (X.getD k 0))
    have hst:=txt_step X k (by rw [HA.out];omega) hvk hv0.out
    have hv1:val 1000000000 (X.drop k)≠0:=by
     rw [val_drop_step _ X k (by rw [HA.out];omega)]
     have:=hv0.out
     omega
    have htl:=txt_val_len (X.drop (k+1)) (fun z hz=>HLT.out z (List.mem_of_mem_drop hz))
    rw [List.length_drop,HA.out] at htl
    have hdk:(Lib.decDigits (X.getD k 0)).length≤9∧0<(Lib.decDigits (X.getD k 0)).length:=by rw [HDK.out,strD_len];exact hl9
    have HST:=hid hst
    have HV2:=hid hv1
    clear hst hv1 hl9 hv0
    generalize X.getD k 0=u at *
    generalize hs:(⟨(Lib.decDigits u).toArray⟩:ByteArray)=s' at *
    have HSS2:=hid hs
    clear hs
    have hs9:s'.size≤9∧0<s'.size:=by rw [HSK.out];exact hdk
    have hkk:((k+1:Nat):Int)-1=k:=by omega
    have k5:=fun w'=>repeat_any (9-s'.size) w' (by omega)
    have hrep:((9-s'.size:Nat):Int)=9-(s'.size:Int):=by omega
    rw [hrep] at k5
    have K5:=hid k5
    clear k5
    go_wp2_with (go_at_call 166;refine K4.out.mono ?_)
    rintro e w4 ⟨rfl,hb4⟩
    have hz4:=hb4.size
    go_wp2_with (go_at_call 167;refine (K5.out _).mono ?_;rintro e w5 ⟨rfl,rfl⟩)
    have hnl:(noughts (9-s'.size)).size=9-s'.size:=by unfold noughts;rw [size_of_bytes,List.length_replicate]
    go_wp2_with (go_at_call 119;refine (bld_writeString w1.heap.size w1.heap.size _ (noughts (9-s'.size)) _ (bld_belowL HI.out hb4) (by rw [Lib.byteCells_length,strD_len,hnl];omega) (by omega)).mono ?_)
    rintro e w6 ⟨rfl,h6,hb6,_⟩
    have hz6:=hb6.size
    have hlen6:(Lib.byteCells (strD (txt (val 1000000000 (X.drop (k+1)))))++Lib.strCells (noughts (9-s'.size))).length+s'.size≤140737488355328:=by
     rw [List.length_append,Lib.byteCells_length,strD_len,show Lib.strCells (noughts (9-s'.size))=Lib.byteCells (List.replicate (9-s'.size) 48) from rfl,Lib.byteCells_length,List.length_replicate]
     omega
    go_wp2_with (go_at_call 119;refine (bld_writeString w1.heap.size w1.heap.size _ s' _ (Or.inr h6) hlen6 (by omega)).mono ?_)
    rintro e w7 ⟨rfl,h7,hb7,_⟩
    go_wp2
    go_roundw
    case rel=>
     refine ⟨k,by omega,by go_num,?_,HV2.out,(hb.trans (hb4.mono hz0)).trans (hb6.trans hb7)⟩
     have e1:Lib.strCells s'=Lib.byteCells (strD (txt u)):=by rw [←HSS2.out,hsc,HDK.out]
     have e2:s'.size=(txt u).length:=by rw [HSK.out,HDK.out,strD_len]
     rw [HST.out,strD_append,strD_append,strD_noughts,Lib.byteCells_append,Lib.byteCells_append,←e1,←List.append_assoc,←e2]
     exact Or.inr h7
    case measure=>simp [intOf] <;> omega
end Go.Proofs.YtmbeicndhigklaaGreatDoor
namespace Go.Proofs.YtmbeicndhigklaaGreatDoor
open Lib (hid)
open Go.RowKit
set_option maxHeartbeats 2000000 in
set_option maxRecDepth 100000 in
theorem digits_any (A:Option Addr) (n cap:Nat) (l:List Nat) (w:World) (hR:RdN .u32 w A n l) (hn:n≤549755813888) (hl:∀x∈l,x<4294967296) (htab:Tab10 w) :
  Calls Tryz.prog 142 #[.slice A n cap] w fun e w'=>e=.returned (.int .i64 ((digs 10 (val 1000000000 l)).length:Nat))∧Below w.heap.size w w':=by
 have K1:=hid (norm_any A n cap l w hR (by omega) hl)
 have hd:(digs 1000000000 (val 1000000000 l)).length≤549755813889:=by have:=digs_val_len l hl;have:=hR.1;omega
 clear hR hl
 generalize val 1000000000 l=x at *
 have HLT:=hid (digs_lt 1000000000 (by omega) x)
 have HV:=hid (val_digs 1000000000 (by omega) x)
 have HT:=hid htab
 clear htab
 by_cases hx:x=0
 ·subst hx
  go_enter Tryz.func142,Tryz.ntmps142
  go_wp2_with (go_at_call 137;refine K1.out.mono ?_)
  rintro e w1 ⟨v1,rfl,hown1,hb1⟩
  rw [digs_zero] at hown1
  obtain ⟨B1,c1,rfl,hcap1,hrd1,hge1⟩:=hown1.rd
  go_wp2
  go_ret
  exact ⟨by rw [digs_zero];rfl,hb1⟩
 ·have hne:(digs 1000000000 x).length≠0:=fun h=>hx ((digs_nil 1000000000 x (by omega)).1 (List.eq_nil_of_length_eq_zero h))
  go_enter Tryz.func142,Tryz.ntmps142
  go_wp2_with (go_at_call 137;refine K1.out.mono ?_)
  rintro e w1 ⟨v1,rfl,hown1,hb1⟩
  have hvx:=HV.out
  have htop:=digs_top 1000000000 (by omega) x
  generalize digs 1000000000 x=X at *
  obtain ⟨B1,c1,rfl,hcap1,hrd1,hge1⟩:=hown1.rd
  have HT1:=hid (HT.out.below hb1)
  have HB1:=hid hb1
  obtain ⟨a,ha⟩:∃a,X.length=a+1:=⟨X.length-1,by omega⟩
  rw [ha] at hrd1 hcap1
  obtain ⟨hx0,hx1⟩:=htop a ha
  clear htop
  obtain ⟨g,o,rfl,hgl,hcl⟩:=hrd1.2 (by omega)
  have ca:=hcl a (by omega)
  have hva:=getD_lt (by omega) HLT.out a
  have hD:=digs10_len X a HLT.out ha hx0
  rw [hvx] at hD
  have htx:(txt (X.getD a 0)).length=(digs 10 (X.getD a 0)).length:=by unfold txt;rw [if_neg hx0,List.length_reverse]
  rw [←htx] at hD
  have K2:=hid (fmtUint_any (X.getD a 0) (by omega) w1 HT1.out)
  have HS:=hid (size_of_bytes (Lib.decDigits (X.getD a 0)))
  have hl9:=(txt_len9 (X.getD a 0) hva).1
  have HDT:=hid (decDigits_txt (X.getD a 0))
  have hs9:(⟨(Lib.decDigits (X.getD a 0)).toArray⟩:ByteArray).size=(txt (X.getD a 0)).length:=by rw [HS.out,HDT.out,strD_len]
  rw [ha]
  have haa:((a+1:Nat):Int)-1=a:=by omega
  have haB:a≤549755813888:=by omega
  rw [←hs9] at hD hl9
  have HD:=hid hD
  clear hcl hx0 hx1 hown1 hge1 hrd1 hne ha hvx htx hD HDT HS hs9
  generalize X.getD a 0=t at *
  generalize (⟨(Lib.decDigits t).toArray⟩:ByteArray)=s at *
  go_wp2_with (go_at_call 166;refine K2.out.mono ?_)
  rintro e w2 ⟨rfl,hb2⟩
  go_wp2
  go_ret
  refine ⟨?_,HB1.out.trans (hb2.mono HB1.out.size)⟩
  have:=HD.out
  show Ending.returned (.int .i64 _) = _
  congr 2
  omega
end Go.Proofs.YtmbeicndhigklaaGreatDoor
