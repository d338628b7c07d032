/-
The walks of dec's reader of literals: digits, small, scan (chapter 2, as chapter 15 asks it).
-/
import Derived.Test.YtmbeicndhigklaaGreatDoorPLexT
import Derived.Test.YtmbeicndhigklaaGreatDoorPLimP
import Derived.Test.YtmbeicndhigklaaGreatDoorPLexA
import Derived.Test.YtmbeicndhigklaaGreatDoorPSynM
import Derived.Laws.RangeAny
import Derived.Lib.Atoi
namespace Go.Proofs.YtmbeicndhigklaaGreatDoor
open Lib (hid)
open Go.RowKit
theorem next_pos (s:ByteArray) (pos:Nat) (h:pos<s.size):(digB s[pos].toNat=true→Utf8.decode s pos=(s[pos].toNat,1))∧(digB s[pos].toNat=false→¬(48≤(Utf8.decode s pos).1∧(Utf8.decode s pos).1≤57)):=by
 by_cases ha:(s[pos]'h).toNat<128
 ·rw [decode_ascii s pos h ha]
  refine ⟨fun _=>rfl,fun hd=>?_⟩
  unfold digB at hd
  simp only
  intro hh
  rw [decide_eq_true hh.1,decide_eq_true hh.2] at hd
  cases hd
 ·have:=(decode_high s pos h (by omega)).1
  refine ⟨fun hd=>?_,fun _ hh=>by omega⟩
  have:=digB_pos hd
  omega
set_option maxHeartbeats 1000000 in
set_option maxRecDepth 100000 in
theorem decDigits_any (s:ByteArray) (w:World) (hs:s.size≤140737488355328) :
  Calls Tryz.prog 134 #[.string s] w fun e w'=>e=.returned (.tuple #[.string (s.extract 0 (digN s.data.toList)),.string (s.extract (digN s.data.toList) s.size)])∧Below w.heap.size w w':=by
 have HL:=hid (Lib.size_eq s)
 have HBM:=hid (fun m=>show Below w.heap.size w (w.iter s m) from (Below.refl _ w).alloc (Nat.le_refl _) _)
 obtain ⟨d,hd⟩:∃d,d=digN s.data.toList:=⟨_,rfl⟩
 have HD:=hid hd
 rw [←hd]
 clear hd
 go_enter Tryz.func134,Tryz.ntmps134
 go_wp2
 go_loopg [] (s.size+1) (fun kx wr=>∃k:Nat,k≤s.size∧s.size-k≤kx∧wr=w.iter s k∧Hid (d=k+digN (s.data.toList.drop k)))
 case atStart=>exact ⟨0,Nat.zero_le _,by omega,rfl,hid (by rw [HD.out];simp)⟩
 case round=>
  obtain ⟨k,hk,hkx,rfl,hd⟩:=hrel
  by_cases hlt:k<s.size
  ·have hst:=digN_drop s.data.toList k (by rw [←HL.out];exact hlt)
   rw [bt_get s k hlt] at hst
   have hnx:=fun ty=>run_next_any (P:=Tryz.prog) w s k ty hlt
   have hn:=next_pos s k hlt
   by_cases hg:digB s[k].toNat=true
   ·rw [hg,if_pos rfl] at hst
    rw [hn.1 hg] at hnx
    have h1:=digB_pos hg
    have z1:decide ((s[k].toNat:Int)<48)=false:=decide_eq_false (by omega)
    have z2:decide ((57:Int)<(s[k].toNat:Int))=false:=decide_eq_false (by omega)
    have HS:=hid (show d=k+1+digN (s.data.toList.drop (k+1)) by rw [hd.out,hst];omega)
    clear hst hn hg h1 hd
    go_wp2
    go_roundg (s.size-(k+1))
    case measure=>omega
    case rel=>exact ⟨k+1,by omega,by omega,rfl,HS⟩
   ·have hg':digB s[k].toNat=false:=by simpa using hg
    rw [hg'] at hst
    have h1:=hn.2 hg'
    obtain ⟨r,hr⟩:∃r,r=(Utf8.decode s k).1:=⟨_,rfl⟩
    rw [←hr] at h1 hnx
    have he:d=k:=by rw [hd.out,hst];simp
    clear hst hn hg hg' hr hd HD
    subst he
    by_cases h48:r<48
    ·have z1:decide ((r:Int)<48)=true:=decide_eq_true (by omega)
     have i0:(0:Int)≤(d:Int):=by omega
     have i1:(d:Int)≤(s.size:Int):=by omega
     go_upto_region 5 with fail
     go_region
     all_goals go_wp2
     go_ret2
     exact ⟨rfl,(HBM.out _).drew⟩
    ·have z1:decide ((r:Int)<48)=false:=decide_eq_false (by omega)
     have z2:decide ((57:Int)<(r:Int))=true:=decide_eq_true (by omega)
     have i0:(0:Int)≤(d:Int):=by omega
     have i1:(d:Int)≤(s.size:Int):=by omega
     go_upto_region 5 with fail
     go_region
     all_goals go_wp2
     go_ret2
     exact ⟨rfl,(HBM.out _).drew⟩
  ·have hnx:=fun ty=>run_next_end (P:=Tryz.prog) w s k ty hlt
   have he:d=s.size:=by rw [hd.out,List.drop_eq_nil_of_le (by rw [←HL.out];omega)];show k+0 = _;omega
   clear hd HD
   subst he
   go_wp2
   go_ret2
   refine ⟨?_,HBM.out _⟩
   have e1:s.extract 0 s.size=s:=by
    apply ByteArray.ext
    rw [ByteArray.data_extract]
    exact Array.extract_size
   have e2:s.extract s.size s.size=⟨#[]⟩:=ByteArray.ext (by simp)
   rw [e1,e2];rfl
theorem digN_all (l:List UInt8) (h:digN l=l.length):∀b∈l,digB b.toNat=true:=by
 induction l with
 | nil=>intro b hb;cases hb
 | cons c r ih=>
  unfold digN at h
  by_cases hc:digB c.toNat=true
  ·rw [if_pos hc] at h
   intro b hb
   rcases List.mem_cons.1 hb with rfl | hb
   ·exact hc
   ·exact ih (by simp at h;omega) b hb
  ·rw [if_neg hc] at h;simp at h
theorem digN_take_all:∀(l:List UInt8) (b:UInt8),b∈l.take (digN l)→digB b.toNat=true
 | [],b,h=>by simp at h
 | c::r,b,h=>by
  unfold digN at h
  by_cases hc:digB c.toNat=true
  ·rw [if_pos hc,Nat.add_comm,List.take_succ_cons] at h
   rcases List.mem_cons.1 h with rfl | h
   ·exact hc
   ·exact digN_take_all r b h
  ·rw [if_neg hc] at h;simp at h
theorem decFrom_digits:∀(l:List UInt8) (acc:Nat),(∀b∈l,digB b.toNat=true)→Lib.decFrom acc l=some (acc * 10 ^ l.length+decD (dgL l))
 | [],acc,_=>by simp [Lib.decFrom,dgL,decD,val]
 | b::r,acc,h=>by
  have hb:=digB_pos (h b (by simp))
  have ih:=decFrom_digits r (acc * 10+(b.toNat-48)) (fun x hx=>h x (by simp [hx]))
  have e:decD (dgL (b::r))=10 ^ r.length * (b.toNat-48)+decD (dgL r):=by
   have:dgL (b::r)=[b.toNat-48]++dgL r:=rfl
   rw [this,dec_append]
   have e1:decD [b.toNat-48]=b.toNat-48:=by simp [decD,val]
   have e2:(dgL r).length=r.length:=List.length_map ..
   rw [e1,e2];omega
  have e3:Lib.digitVal b=some (b.toNat-48):=by unfold Lib.digitVal;rw [if_pos hb]
  rw [e]
  unfold Lib.decFrom
  rw [e3]
  simp only
  rw [ih,List.length_cons,Nat.pow_succ]
  congr 1
  rw [Nat.add_mul,Nat.mul_comm (b.toNat-48),Nat.mul_assoc,Nat.mul_comm 10]
  omega
theorem atoi_digits (l:List UInt8) (h:∀b∈l,digB b.toNat=true):Lib.atoi (48::l)=some (decD (dgL l):Int):=by
 have h2:=decFrom_digits (48::l) 0 (fun b hb=>by
  rcases List.mem_cons.1 hb with rfl | hb
  ·decide
  ·exact h b hb)
 have e:decD (dgL (48::l))=decD (dgL l):=by
  have:dgL (48::l)=[0]++dgL l:=rfl
  rw [this,dec_append]
  simp [decD,val]
 rw [e] at h2
 unfold Lib.atoi Lib.decNat
 simp only
 rw [if_neg (by decide),if_neg (by decide),if_neg (by simp),h2]
 simp
theorem dropWhile_sub {p:UInt8→Bool}:∀(l:List UInt8) (b:UInt8),b∈l.dropWhile p→b∈l
 | [],_,h=>by simp at h
 | c::r,b,h=>by
  rw [List.dropWhile_cons] at h
  split at h
  ·exact List.mem_cons_of_mem _ (dropWhile_sub r b h)
  ·exact h
theorem digits_lt {l:List UInt8} (h:∀b∈l,digB b.toNat=true):∀x∈dgL l,x<10:=fun x hx=>by
 obtain ⟨b,hb,rfl⟩:=List.mem_map.1 hx
 have:=digB_pos (h b hb)
 omega
theorem ba_len (l:List UInt8):(⟨l.toArray⟩:ByteArray).size=l.length:=by simp [ByteArray.size]
set_option maxHeartbeats 1000000 in
set_option maxRecDepth 100000 in
theorem decSmall_any (l:List UInt8) (w:World) (hd:∀b∈l,digB b.toNat=true) :
  Calls Tryz.prog 135 #[.string ⟨l.toArray⟩] w (RetY (.int .i64 (smallN l:Int)) fun w'=>Below w.heap.size w w'):=by
 have K1:=hid (fun W=>RetY.of (Tryz.strings_TrimLeft_one ⟨l.toArray⟩ 48 (by decide) W))
 have hsm:smallN l=if 6<(l.dropWhile (·==48)).length then 999999 else decD (dgL (l.dropWhile (·==48))):=rfl
 have hdt:∀b∈l.dropWhile (·==48),digB b.toNat=true:=fun b hb=>hd b (dropWhile_sub l b hb)
 rw [hsm]
 have e0:Lib.trimLeftB (⟨l.toArray⟩:ByteArray).data.toList 48=l.dropWhile (·==48):=rfl
 rw [e0] at K1
 clear hsm hd e0
 generalize l.dropWhile (·==48)=t at *
 have HLN:=hid (ba_len t)
 by_cases h6:6<t.length
 ·have z1:decide ((6:Int)<(t.length:Int))=true:=decide_eq_true (by omega)
  rw [if_pos h6]
  clear h6 hdt
  go_enter Tryz.func135,Tryz.ntmps135
  go_wp2_with (go_at_call 161;refine (K1.out _).mono ?_)
  rintro e w1 ⟨rfl,rfl⟩
  go_wp2
  go_ret
  exact ⟨rfl,Below.refl _ _⟩
 ·have z1:decide ((6:Int)<(t.length:Int))=false:=decide_eq_false (by omega)
  rw [if_neg h6]
  have ht:=atoi_digits t hdt
  have K2:=hid (fun W=>Tryz.strconv_Atoi ⟨(48::t).toArray⟩ (decD (dgL t):Int) (by rw [ba_len];simp;omega) ht W)
  have hadd:(⟨#[48]⟩:ByteArray)++⟨t.toArray⟩=⟨(48::t).toArray⟩:=by apply ByteArray.ext;simp
  clear hdt ht
  generalize (decD (dgL t):Int)=v at *
  go_enter Tryz.func135,Tryz.ntmps135
  go_wp2_with (go_at_call 161;refine (K1.out _).mono ?_)
  rintro e w1 ⟨rfl,rfl⟩
  go_wp2_with (go_at_call 162;refine (K2.out _).mono ?_)
  rintro e w2 ⟨rfl,x,rfl⟩
  go_wp2
  go_ret
  exact ⟨rfl,bytesBelow _ _ _⟩
end Go.Proofs.YtmbeicndhigklaaGreatDoor
