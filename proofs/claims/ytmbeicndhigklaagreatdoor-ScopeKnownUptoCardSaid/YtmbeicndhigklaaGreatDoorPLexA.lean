/-
The walks of lex's looks at bytes: letter, digit, name, Name, digits (chapter 14).
-/
import Derived.Test.YtmbeicndhigklaaGreatDoorPLexP
import Derived.Test.YtmbeicndhigklaaGreatDoorPQuoK
import Derived.LoopTactic
import Derived.Deep.DeepCutAuto
namespace Go.Proofs.YtmbeicndhigklaaGreatDoor
open Lib (hid)
open Go.RowKit
theorem retb {a b:Bool} (h:a=b):Ending.returned (.bool a)=.returned (.bool b):=by rw [h]
theorem rets {a b:ByteArray} (h:a=b):Ending.returned (.string a)=.returned (.string b):=by rw [h]
def lowI (c:Nat):Int:=bits BinOp.or IntKind.u8 (c:Int) 32
def lowOk (c:Nat):Bool:=(letB c==((decide (97≤lowI c)&&decide (lowI c≤122))||((c:Int)==95)))&&((lowI c==101)==(c==101||c==69))
theorem lowOk_all:∀c:Fin 256,lowOk c.val=true:=by decide +kernel
theorem lowI_let (c:Nat) (hc:c<256):letB c=((decide (97≤lowI c)&&decide (lowI c≤122))||((c:Int)==95)):=by
 have:=lowOk_all ⟨c,hc⟩
 unfold lowOk at this
 rw [Bool.and_eq_true] at this
 exact eq_of_beq this.1
theorem lowI_e (c:Nat) (hc:c<256):(lowI c==101)=(c==101||c==69):=by
 have:=lowOk_all ⟨c,hc⟩
 unfold lowOk at this
 rw [Bool.and_eq_true] at this
 exact eq_of_beq this.2
set_option maxHeartbeats 1000000 in
set_option maxRecDepth 100000 in
theorem lexLetter_any (c:Nat) (hc:c<256) (w:World) :
  Calls Tryz.prog 84 #[.int .u8 (c:Int)] w fun e w'=>e=.returned (.bool (letB c))∧w=w':=by
 have HC:=hid (lowI_let c hc)
 go_enter Tryz.func84,Tryz.ntmps84
 go_wp2
 all_goals (go_ret;exact ⟨retb (by rw [HC.out];unfold lowI;generalize bits BinOp.or IntKind.u8 (c:Int) 32=z at *;simp_all <;> (intros;omega)),rfl⟩)
theorem digB_ge (c:Nat) (h:(48:Int)≤c):decide ((c:Int)≤57)=digB c:=by
 unfold digB
 rw [decide_eq_true (show 48≤c by omega),Bool.true_and]
 by_cases h2:c≤57
 ·rw [decide_eq_true h2,decide_eq_true (by omega)]
 ·rw [decide_eq_false h2,decide_eq_false (by omega)]
theorem digB_lt (c:Nat) (h:(c:Int)<48):false=digB c:=by
 unfold digB
 rw [decide_eq_false (show ¬48≤c by omega),Bool.false_and]
theorem ext_none (s:ByteArray):ByteArray.empty=s.extract 0 0:=ByteArray.ext (by simp)
set_option maxHeartbeats 1000000 in
set_option maxRecDepth 100000 in
theorem lexDigit_any (c:Nat) (w:World) :
  Calls Tryz.prog 82 #[.int .u8 (c:Int)] w fun e w'=>e=.returned (.bool (digB c))∧w=w':=by
 go_enter Tryz.func82,Tryz.ntmps82
 go_wp2
 all_goals (go_ret;exact ⟨retb (by first | exact digB_ge c (by assumption) | exact digB_lt c (by assumption)),rfl⟩)
theorem nameF_drop (k:Bool) (l:List UInt8) (i:Nat) (h:i<l.length):nameF k (l.drop i)=if letB (bt l i)||(k&&digB (bt l i)) then 1+nameF true (l.drop (i+1)) else 0:=by
 rw [List.drop_eq_getElem_cons h]
 have e:bt l i=l[i].toNat:=by unfold bt;rw [List.getElem?_eq_getElem h];rfl
 rw [e];rfl
theorem digN_drop (l:List UInt8) (i:Nat) (h:i<l.length):digN (l.drop i)=if digB (bt l i) then 1+digN (l.drop (i+1)) else 0:=by
 rw [List.drop_eq_getElem_cons h]
 have e:bt l i=l[i].toNat:=by unfold bt;rw [List.getElem?_eq_getElem h];rfl
 rw [e];rfl
set_option maxHeartbeats 1000000 in
set_option maxRecDepth 100000 in
theorem lexDigits_any (s:ByteArray) (w:World) (hs:s.size≤140737488355328) :
    Calls Tryz.prog 120 #[.string s] w fun e w'=>e=.returned (.int .i64 (digN s.data.toList:Int))∧w=w':=by
  have HL:=hid (Lib.size_eq s)
  have k1:=fun (c:Nat) (W:World)=>lexDigit_any c W
  have K1:=hid k1
  clear k1
  go_enter Tryz.func120,Tryz.ntmps120
  go_wp2
  go_loop [3] (fun a=>∃k:Nat,k≤s.size∧a=.int .i64 (k:Int)∧Hid (digN s.data.toList=k+digN (s.data.toList.drop k))) (fun a=>s.size-(intOf a).toNat)
  case atStart=>exact ⟨0,Nat.zero_le _,rfl,hid (by simp)⟩
  case round=>
    obtain ⟨k,hk,rfl,hd⟩:=hrel
    by_cases hlt:k<s.size
    · have hst:=digN_drop s.data.toList k (by rw [←HL.out];exact hlt)
      have hb:=bt_get s k hlt
      rw [hb] at hst
      have HST:=hid hst
      clear hst hb
      go_wp2_with (go_at_call 82;refine (K1.out _ _).mono ?_)
      all_goals first
        | (have hdb:digB s[k].toNat=true:=by assumption
           rw [hdb] at HST
           go_round
           case rel=>exact ⟨k+1,by omega,by go_num,hid (by rw [hd.out,HST.out,if_pos rfl];omega)⟩
           case measure=>simp [intOf];omega)
        | (have hdb:digB s[k].toNat=false:=by first | assumption | exact Bool.eq_false_iff.2 (by assumption)
           rw [hdb] at HST
           go_ret
           exact ⟨ret_int (by rw [hd.out,HST.out];simp),rfl⟩)
    · go_wp2
      go_ret
      exact ⟨ret_int (by rw [hd.out,List.drop_eq_nil_of_le (by rw [←HL.out];omega)];rfl),rfl⟩
set_option maxHeartbeats 1000000 in
set_option maxRecDepth 100000 in
theorem lexname_wide (s:ByteArray) (w:World) (hs:s.size≤9223372036854775807) :
  Calls Tryz.prog 72 #[.string s] w fun e w'=>e=.returned (.string (s.extract 0 (nameN s.data.toList)))∧w=w':=by
 have HL:=hid (Lib.size_eq s)
 have k1:=fun (c:Nat) (W:World)=>lexDigit_any c W
 have K1:=hid k1
 have k2:=fun (c:Nat) (hc:c<256) (W:World)=>lexLetter_any c hc W
 have K2:=hid k2
 clear k1 k2
 go_enter Tryz.func72,Tryz.ntmps72
 go_wp2
 go_loop [3] (fun a=>∃k:Nat,k≤s.size∧a=.int .i64 (k:Int)∧Hid (nameN s.data.toList=k+nameF (decide (0<k)) (s.data.toList.drop k))) (fun a=>s.size-(intOf a).toNat)
 case atStart=>exact ⟨0,Nat.zero_le _,rfl,hid (by simp [nameN])⟩
 case round=>
  obtain ⟨k,hk,rfl,hd⟩:=hrel
  by_cases hlt:k<s.size
  ·have hst:=nameF_drop (decide (0<k)) s.data.toList k (by rw [←HL.out];exact hlt)
   have hb:=bt_get s k hlt
   rw [hb] at hst
   have HST:=hid hst
   have hc:s[k].toNat<256:=UInt8.toNat_lt _
   clear hst hb
   have hnext:(letB s[k].toNat||(decide (0<k)&&digB s[k].toNat))=true→nameN s.data.toList=(k+1)+nameF (decide (0<k+1)) (s.data.toList.drop (k+1)):=fun h=>by
    rw [hd.out,HST.out,if_pos h,decide_eq_true (Nat.succ_pos k)];omega
   have hstop:(letB s[k].toNat||(decide (0<k)&&digB s[k].toNat))=false→nameN s.data.toList=k:=fun h=>by
    rw [hd.out,HST.out,h];simp
   have kl:=fun (W:World)=>lexLetter_any s[k].toNat hc W
   have kd:=fun (W:World)=>lexDigit_any s[k].toNat W
   clear HST
   generalize letB s[k].toNat=a at kl hnext hstop
   generalize digB s[k].toNat=b at kd hnext hstop
   have HN:=hid hnext
   have HS:=hid hstop
   have KL:=hid kl
   have KD:=hid kd
   clear kl kd hnext hstop
   have hround:∀x:Value,nameN s.data.toList=(k+1)+nameF (decide (0<k+1)) (s.data.toList.drop (k+1))→x=.int .i64 ((k:Int)+1)→(∃m:Nat,m≤s.size∧x=.int .i64 (m:Int)∧Hid (nameN s.data.toList=m+nameF (decide (0<m)) (s.data.toList.drop m))):=
    fun x h hx=>⟨k+1,by omega,by rw [hx];rfl,hid h⟩
   have HR:=hid hround
   clear hround
   cases a with
   | true=>
    go_wp2_with (go_at_call 84;refine (KL.out _).mono ?_)
    go_round
    case rel=>exact HR.out _ (HN.out rfl) rfl
    case measure=>simp [intOf];omega
   | false=>
    by_cases hk0:0<k
    ·have hki:decide ((0:Int)<(k:Int))=true:=decide_eq_true (by omega)
     rw [decide_eq_true hk0] at HN HS
     cases b with
     | true=>
      go_wp2_with (go_at_call 84;refine (KL.out _).mono ?_)
      go_wp2_with (go_at_call 82;refine (KD.out _).mono ?_)
      rintro e w1 ⟨rfl,rfl⟩
      go_wp2
      go_round
      case rel=>exact HR.out _ (HN.out rfl) rfl
      case measure=>simp [intOf];omega
     | false=>
      go_wp2_with (go_at_call 84;refine (KL.out _).mono ?_)
      go_wp2_with (go_at_call 82;refine (KD.out _).mono ?_)
      rintro e w1 ⟨rfl,rfl⟩
      go_wp2
      go_ret
      exact ⟨rets (by rw [HS.out rfl]),rfl⟩
    ·obtain rfl:k=0:=by omega
     go_wp2_with (go_at_call 84;refine (KL.out _).mono ?_)
     go_ret
     exact ⟨rets (by rw [HS.out rfl];first | rfl | exact ext_none s),rfl⟩
  ·go_wp2
   go_ret
   refine ⟨rets ?_,rfl⟩
   rw [hd.out,List.drop_eq_nil_of_le (by rw [←HL.out];omega)]
   cases (decide (0<k)) <;> rfl
theorem lexname_any (s:ByteArray) (w:World) (hs:s.size≤140737488355328) :
  Calls Tryz.prog 72 #[.string s] w fun e w'=>e=.returned (.string (s.extract 0 (nameN s.data.toList)))∧w=w':=lexname_wide s w (by omega)
end Go.Proofs.YtmbeicndhigklaaGreatDoor
namespace Go.Proofs.YtmbeicndhigklaaGreatDoor
open Lib (hid)
open Go.RowKit
theorem ext_size (s:ByteArray) (a b:Nat) (h:s.size≤140737488355328):(s.extract a b).size≤140737488355328:=by rw [ByteArray.size_extract];omega
theorem ext_drop (s:ByteArray) (k:Nat):(s.extract k s.size).data.toList=s.data.toList.drop k:=drop_extract s k
theorem bt_s (s:ByteArray) (k:Nat) (h:k<s.size):bt s.data.toList k=s[k].toNat:=bt_get s k h
theorem bt_e (s:ByteArray) (k:Nat) (h:s.size≤k):bt s.data.toList k=0:=bt_past _ _ (by rw [←Lib.size_eq];exact h)
set_option maxHeartbeats 2000000 in
set_option maxRecDepth 100000 in
theorem lexNumber_any (s:ByteArray) (w:World) (hs:s.size≤140737488355328) :
  Calls Tryz.prog 83 #[.string s] w fun e w'=>e=.returned (.string (s.extract 0 (numN s.data.toList)))∧w=w':=by
 have k1:=fun (a:Nat) (W:World)=>lexDigits_any (s.extract a s.size) W (ext_size s a s.size hs)
 simp only [ext_drop] at k1
 have K1:=hid k1
 have K0:=hid (fun (W:World)=>lexDigits_any s W hs)
 clear k1
 have hl:=Lib.size_eq s
 have hd0:=digN_le s.data.toList
 have hdle:=fun a=>digN_le (s.data.toList.drop a)
 simp only [List.length_drop,←hl] at hd0 hdle
 have HD:=hid hdle
 have hnum:numN s.data.toList=expoN s.data.toList (fracN s.data.toList (digN s.data.toList)):=rfl
 have HN:=hid hnum
 have hF:=fun n (h:n≤s.data.toList.length)=>fracN_le s.data.toList n h
 rw [←hl] at hF
 have HF:=hid hF
 clear hdle hnum hF
 have hb:=bt_s s
 have hb0:=bt_e s
 have HB:=hid hb
 have HB0:=hid hb0
 clear hb hb0 hl
 go_enter Tryz.func83,Tryz.ntmps83
 generalize s.data.toList=l at *
 obtain ⟨n0,hn0⟩:∃n0,digN l=n0:=⟨_,rfl⟩
 rw [hn0] at K0 HN hd0
 go_upto_region 2 with (go_at_call 120;refine (K0.out _).mono ?_;rintro e w1 ⟨rfl,rfl⟩)
 go_cut [18] (fun t wx=>t=.bool (decide (bt l n0=46))∧wx=w)
 case first=>
  by_cases hlt:n0<s.size
  ·have hb:=HB.out n0 hlt
   by_cases h46:bt l n0=46
   ·rw [hb] at h46
    have hz:((s[n0].toNat:Int)==46)=true:=by rw [h46];rfl
    go_wp2_with fail
    go_meet
    exact ⟨by rw [hb,decide_eq_true h46],rfl⟩
   ·rw [hb] at h46
    have hz:((s[n0].toNat:Int)==46)=false:=beq_false_of_ne (by omega)
    go_wp2_with fail
    go_meet
    exact ⟨by rw [hb,decide_eq_false h46],rfl⟩
  ·have hz:decide ((n0:Int)<(s.size:Int))=false:=decide_eq_false (by omega)
   go_wp2_with fail
   go_meet
   exact ⟨by rw [HB0.out n0 (by omega)];rfl,rfl⟩
 case rest=>
  obtain ⟨rfl,rfl⟩:=hcut
  go_upto_if 18 with fail
  go_cut [3] (fun v wy=>v=.int .i64 (fracN l n0:Int)∧wy=wc)
  case first=>
   by_cases h46:bt l n0=46
   ·have hlt:n0<s.size:=by
     rcases Nat.lt_or_ge n0 s.size with h | h
     ·exact h
     ·have:=HB0.out n0 h;omega
    rw [decide_eq_true h46]
    have hfr:fracN l n0=if 0<digN (l.drop (n0+1)) then n0+1+digN (l.drop (n0+1)) else n0:=by
     unfold fracN;by_cases h:0<digN (l.drop (n0+1)) <;> simp [h46,h]
    have K1':=hid (K1.out (n0+1))
    have hd1:=HD.out (n0+1)
    generalize digN (l.drop (n0+1))=d at K1' hd1 hfr
    by_cases h0:0<d
    ·rw [if_pos h0] at hfr
     go_wp2_with (go_at_call 120;refine (K1'.out _).mono ?_)
     rintro e w1 ⟨rfl,rfl⟩
     go_wp2
     go_meet
     exact ⟨by rw [hfr];go_num,rfl⟩
    ·rw [if_neg h0] at hfr
     obtain rfl:d=0:=by omega
     go_wp2_with (go_at_call 120;refine (K1'.out _).mono ?_)
     rintro e w1 ⟨rfl,rfl⟩
     go_wp2
     go_meet
     exact ⟨by rw [hfr],rfl⟩
   ·have hfr:fracN l n0=n0:=by unfold fracN;rw [if_neg (fun h=>h46 h.1)]
    rw [decide_eq_false h46]
    go_wp2_with fail
    go_meet
    exact ⟨by rw [hfr],rfl⟩
  case rest=>
   obtain ⟨rfl,rfl⟩:=hcut
   obtain ⟨hn1,hn2⟩:=HF.out n0 hd0
   generalize fracN l n0=n1 at *
   go_upto_region 6 with fail
   go_cut [40] (fun t wx=>t=.bool (decide (bt l n1=101∨bt l n1=69))∧wx=wc)
   case first=>
    by_cases hlt:n1<s.size
    ·have hb:=HB.out n1 hlt
     have hlo:=lowI_e s[n1].toNat (UInt8.toNat_lt _)
     unfold lowI at hlo
     by_cases he:bt l n1=101∨bt l n1=69
     ·have hz:(bits BinOp.or IntKind.u8 (s[n1].toNat:Int) 32==101)=true:=by rw [hlo];rw [hb] at he;rcases he with h | h <;> rw [h] <;> rfl
      clear hlo
      go_wp2_with fail
      go_meet
      exact ⟨by rw [decide_eq_true he],rfl⟩
     ·have hz:(bits BinOp.or IntKind.u8 (s[n1].toNat:Int) 32==101)=false:=by
       rw [hlo]
       rw [hb] at he
       have h1:(s[n1].toNat==101)=false:=beq_false_of_ne (by omega)
       have h2:(s[n1].toNat==69)=false:=beq_false_of_ne (by omega)
       rw [h1,h2];rfl
      clear hlo
      go_wp2_with fail
      go_meet
      exact ⟨by rw [decide_eq_false he],rfl⟩
    ·have hz:decide ((n1:Int)<(s.size:Int))=false:=decide_eq_false (by omega)
     go_wp2_with fail
     go_meet
     exact ⟨by rw [HB0.out n1 (by omega)];rfl,rfl⟩
   case rest=>
    obtain ⟨rfl,rfl⟩:=hcut
    by_cases he:bt l n1=101∨bt l n1=69
    ·have hlt:n1<s.size:=by
      rcases Nat.lt_or_ge n1 s.size with h | h
      ·exact h
      ·have:=HB0.out n1 h;omega
     rw [decide_eq_true he]
     have hexp:expoN l n1=if 0<digN (l.drop (expoAt l n1)) then expoAt l n1+digN (l.drop (expoAt l n1)) else n1:=by
      unfold expoN;by_cases h:0<digN (l.drop (expoAt l n1)) <;> simp [he,h]
     rw [hexp] at HN
     clear hexp he
     go_upto_region 8 with fail
     go_cut [58] (fun t wx=>t=.bool (decide (bt l (n1+1)=43∨bt l (n1+1)=45))∧wx=wc)
     case first=>
      by_cases hl2:n1+1<s.size
      ·have hb:=HB.out (n1+1) hl2
       by_cases h43:bt l (n1+1)=43
       ·have hz:((s[n1+1].toNat:Int)==43)=true:=by rw [hb] at h43;rw [h43];rfl
        go_wp2_with fail
        go_meet
        exact ⟨by rw [decide_eq_true (.inl h43)],rfl⟩
       ·have hz:((s[n1+1].toNat:Int)==43)=false:=by rw [hb] at h43;exact beq_false_of_ne (by omega)
        by_cases h45:bt l (n1+1)=45
        ·have hz2:((s[n1+1].toNat:Int)==45)=true:=by rw [hb] at h45;rw [h45];rfl
         go_wp2_with fail
         go_meet
         exact ⟨by rw [decide_eq_true (.inr h45)],rfl⟩
        ·have hz2:((s[n1+1].toNat:Int)==45)=false:=by rw [hb] at h45;exact beq_false_of_ne (by omega)
         go_wp2_with fail
         go_meet
         exact ⟨by rw [decide_eq_false (by omega)],rfl⟩
      ·have hz:decide ((n1:Int)+1<(s.size:Int))=false:=decide_eq_false (by omega)
       go_wp2_with fail
       go_meet
       exact ⟨by rw [HB0.out (n1+1) (by omega)];rfl,rfl⟩
     case rest=>
      obtain ⟨rfl,rfl⟩:=hcut
      have hat:expoAt l n1=if bt l (n1+1)=43∨bt l (n1+1)=45 then n1+2 else n1+1:=rfl
      by_cases hsg:bt l (n1+1)=43∨bt l (n1+1)=45
      ·have hlt2:n1+1<s.size:=by
        rcases Nat.lt_or_ge (n1+1) s.size with h | h
        ·exact h
        ·have:=HB0.out (n1+1) h;omega
       rw [decide_eq_true hsg]
       rw [if_pos hsg] at hat
       rw [hat] at HN
       have K1':=hid (K1.out (n1+2))
       have hd1:=HD.out (n1+2)
       generalize digN (l.drop (n1+2))=d at K1' hd1 HN
       clear hsg hat
       by_cases h0:0<d
       ·rw [if_pos h0] at HN
        go_wp2_with (go_at_call 120;refine (K1'.out _).mono ?_)
        rintro e w1 ⟨rfl,rfl⟩
        go_wp2
        go_ret
        exact ⟨rets (by rw [HN.out]),rfl⟩
       ·rw [if_neg h0] at HN
        obtain rfl:d=0:=by omega
        go_wp2_with (go_at_call 120;refine (K1'.out _).mono ?_)
        rintro e w1 ⟨rfl,rfl⟩
        go_wp2
        go_ret
        exact ⟨rets (by rw [HN.out]),rfl⟩
      ·rw [decide_eq_false hsg]
       rw [if_neg hsg] at hat
       rw [hat] at HN
       have K1':=hid (K1.out (n1+1))
       have hd1:=HD.out (n1+1)
       generalize digN (l.drop (n1+1))=d at K1' hd1 HN
       clear hsg hat
       by_cases h0:0<d
       ·rw [if_pos h0] at HN
        go_wp2_with (go_at_call 120;refine (K1'.out _).mono ?_)
        rintro e w1 ⟨rfl,rfl⟩
        go_wp2
        go_ret
        exact ⟨rets (by rw [HN.out]),rfl⟩
       ·rw [if_neg h0] at HN
        obtain rfl:d=0:=by omega
        go_wp2_with (go_at_call 120;refine (K1'.out _).mono ?_)
        rintro e w1 ⟨rfl,rfl⟩
        go_wp2
        go_ret
        exact ⟨rets (by rw [HN.out]),rfl⟩
    ·have hexp:expoN l n1=n1:=by unfold expoN;rw [if_neg (fun h=>he h.1)]
     rw [hexp] at HN
     rw [decide_eq_false he]
     go_wp2_with fail
     go_ret
     exact ⟨rets (by rw [HN.out]),rfl⟩
end Go.Proofs.YtmbeicndhigklaaGreatDoor
namespace Go.Proofs.YtmbeicndhigklaaGreatDoor
open Lib (hid)
open Go.RowKit
theorem find_at (f:List UInt8→Bool) (k:Nat) (h:k<signs2.length):(signs2.drop k).find? f=if f signs2[k]=true then some signs2[k] else (signs2.drop (k+1)).find? f:=by
 rw [List.drop_eq_getElem_cons h,List.find?_cons]
 cases f signs2[k] <;> rfl
theorem ba_ext {a b:ByteArray} (h:a.data.toList=b.data.toList):a=b:=ByteArray.ext (Array.ext' h)
theorem data_one (s:ByteArray) (h:0<s.size):s.data.toList=s[0]::s.data.toList.drop 1:=by
 have hl:0<s.data.toList.length:=by rw [←Lib.size_eq];exact h
 have:=List.drop_eq_getElem_cons hl
 rw [List.drop_zero] at this
 have e:=data_get s 0 h
 rw [List.getElem?_eq_getElem hl] at e
 rw [Option.some.inj e] at this
 exact this
theorem ext_one (s:ByteArray) (h:0<s.size):s.extract 0 1=⟨[s[0]].toArray⟩:=by
 refine ba_ext ?_
 rw [Lib.extract_data,data_one s h]
 rfl
theorem indexByte_low:∀(l:List UInt8) (c:UInt8),-1≤Lib.indexByte l c∧(0≤Lib.indexByte l c↔c∈l)
 | [],c=>⟨by unfold Lib.indexByte;omega,⟨fun h=>absurd h (by unfold Lib.indexByte;omega),fun h=>absurd h (by simp)⟩⟩
 | b::l,c=>by
  have ih:=indexByte_low l c
  unfold Lib.indexByte
  by_cases hb:b=c
  ·subst hb;simp
  ·rw [if_neg (by simpa using hb)]
   have hc:¬c=b:=fun e=>hb e.symm
   by_cases h1:Lib.indexByte l c=-1
   ·rw [h1] at ih ⊢
    refine ⟨by simp,?_⟩
    simp only [List.mem_cons,hc,false_or]
    rw [←ih.2];simp
   ·rw [if_neg (by simpa using h1)]
    refine ⟨by omega,?_⟩
    simp only [List.mem_cons,hc,false_or]
    rw [←ih.2];omega
theorem signL_some (l t:List UInt8) (h:signs2.find? (fun t=>t.isPrefixOf l)=some t):signL l=t:=by unfold signL;rw [h];rfl
theorem signL_none (l:List UInt8) (c:UInt8) (r:List UInt8) (hl:l=c::r) (h:signs2.find? (fun t=>t.isPrefixOf l)=none):signL l=if c∈signs1 then [c] else []:=by unfold signL;rw [h,hl];rfl
theorem signs_at (k:Nat) (hk:k<13) (W:World):(Instr.index 131 (Value.agg #[Value.string { data:=#[47,47,61] },Value.string { data:=#[124,61] },Value.string { data:=#[43,61] },Value.string { data:=#[45,61] },Value.string { data:=#[42,61] },Value.string { data:=#[47,61] },Value.string { data:=#[37,61] },Value.string { data:=#[47,47] },Value.string { data:=#[61,61] },Value.string { data:=#[33,61] },Value.string { data:=#[60,61] },Value.string { data:=#[62,61] },Value.string { data:=#[46,46] }]) (.int .i64 (k:Int))).run Tryz.prog W=.ok (.string ⟨(signs2[k]'hk).toArray⟩) W:=by
 have hcase:k=0∨k=1∨k=2∨k=3∨k=4∨k=5∨k=6∨k=7∨k=8∨k=9∨k=10∨k=11∨k=12:=by omega
 rcases hcase with rfl | rfl | rfl | rfl | rfl | rfl | rfl | rfl | rfl | rfl | rfl | rfl | rfl <;> (show _ = _;kernel_rfl)
set_option maxHeartbeats 4000000 in
set_option maxRecDepth 100000 in
theorem lexsign_any (s:ByteArray) (w:World) (h0:0<s.size) (hs:s.size≤140737488355328) :
    Calls Tryz.prog 87 #[.string s] w fun e w'=>e=.returned (.string ⟨(signL s.data.toList).toArray⟩)∧w=w':=by
  have k1:=fun (t:ByteArray) (W:World)=>Tryz.strings_HasPrefix s t W
  have K1:=hid k1
  have k2:=fun (c:Int) (W:World)=>Tryz.strings_IndexByte ⟨#[46,91,93,123,125,40,41,124,44,61,60,62,43,45,42,47,37,63,58,59]⟩ c W
  have K2:=hid k2
  clear k1 k2
  have hz9:Tryz.prog.types[9].size=1:=by kernel_rfl
  go_enter Tryz.func87,Tryz.ntmps87
  go_wp2
  go_loop [4,6] (fun _ b=>∃k:Nat,k≤13∧b=.int .i64 (k:Int)∧Hid (signs2.find? (fun t=>t.isPrefixOf s.data.toList)=(signs2.drop k).find? (fun t=>t.isPrefixOf s.data.toList))) (fun _ b=>13-(intOf b).toNat)
  case atStart=>exact ⟨0,Nat.zero_le _,rfl,rfl⟩
  case round=>
    obtain ⟨k,hk,rfl,hd⟩:=hrel
    by_cases h13:k=13
    · subst h13
      go_wp2_with (go_at_call 79;refine (K2.out _ _).mono ?_)
      all_goals
        have hi:=(indexByte_low signs1 s[0]).2
        have hn:=signL_none s.data.toList s[0] _ (data_one s h0) hd.out
      all_goals first
        | (have hlt:Lib.indexByte signs1 s[0]<0:=by assumption
           go_ret
           exact ⟨rets (by rw [hn,if_neg (fun h=>by have:=hi.2 h;omega)]),rfl⟩)
        | (go_ret
           exact ⟨rets (by rw [hn,if_pos (hi.1 (by assumption))];exact ext_one s h0),rfl⟩)
    · have hst:=find_at (fun t=>t.isPrefixOf s.data.toList) k (by show k<13;omega)
      have HST:=hid hst
      clear hst
      have hround:Lib.hasPrefix s.data.toList (signs2[k]'(by show k<13;omega))=false→∀x:Value,x=.int .i64 ((k:Int)+1)→∃m:Nat,m≤13∧x=.int .i64 (m:Int)∧Hid (signs2.find? (fun t=>t.isPrefixOf s.data.toList)=(signs2.drop m).find? (fun t=>t.isPrefixOf s.data.toList)):=
        fun h x hx=>⟨k+1,by omega,hx,hid (by rw [hd.out,HST.out,if_neg (fun h2=>by rw [show Lib.hasPrefix s.data.toList (signs2[k]'(by show k<13;omega))=true from h2] at h;cases h)])⟩
      have HR:=hid hround
      clear hround
      have hk13:k<13:=by omega
      have hki:(k:Int)<13:=by omega
      have hrun:=signs_at k hk13
      have HR2:=HR.out
      generalize hT:signs2[k]'hk13=T at HST HR2 hrun
      have HR3:=hid HR2
      clear HR HR2 hT
      go_wp2_with (go_at_call 116;refine (K1.out _ _).mono ?_)
      all_goals first
        | (go_round
           case rel=>exact HR3.out (by assumption) _ rfl
           case measure=>simp [intOf];omega)
        | (go_ret
           refine ⟨rets ?_,rfl⟩
           rw [signL_some _ _ (by rw [hd.out,HST.out,if_pos (by assumption)])])
end Go.Proofs.YtmbeicndhigklaaGreatDoor
