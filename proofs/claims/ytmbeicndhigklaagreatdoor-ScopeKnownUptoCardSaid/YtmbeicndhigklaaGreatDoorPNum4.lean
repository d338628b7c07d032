/-
Plain Lean: long division, shifts, cuts; digits that are read and written.
-/
import Derived.Test.YtmbeicndhigklaaGreatDoorPNum
import Derived.Maps.AppendAt
import Derived.Deep.RegionLaw
import Derived.Deep.RegionHeld3
import Derived.Deep.CutRange
import Derived.Deep.LoopGhost
import Derived.Deep.DeepCutAuto
namespace Go.Proofs.YtmbeicndhigklaaGreatDoor
open Lib (hid)
def DivIn (B:Nat) (x:List Nat) (y k R:Nat) (q:List Nat):Prop:=(∀z∈q,z<B)∧q.length=x.length∧val B (x.drop k)=y * val B (q.drop k)+R∧R<y
theorem DivIn.zero (B:Nat) (hB:0<B) (x:List Nat) (y:Nat) (hy:0<y):DivIn B x y x.length 0 (List.replicate x.length 0):=by
 refine ⟨fun z hz=>by rw [List.mem_replicate] at hz;omega,by simp,?_,hy⟩
 rw [List.drop_of_length_le (Nat.le_refl _),List.drop_of_length_le (by simp)]
 simp [val]
theorem val_drop_step (B:Nat) (x:List Nat) (k:Nat) (h:k<x.length):val B (x.drop k)=x.getD k 0+B * val B (x.drop (k+1)):=by
 rw [List.drop_eq_getElem_cons h,val,List.getD,List.getElem?_eq_getElem h];rfl
theorem DivIn.low {B:Nat} {x:List Nat} {y k R:Nat} {q:List Nat} (h:DivIn B x y k R q) {t:Nat} (ht:t<B):t+B * R<B * y:=by
 have h1:B * (R+1)≤B * y:=Nat.mul_le_mul_left _ h.2.2.2
 rw [Nat.mul_add] at h1;omega
theorem DivIn.digit {B:Nat} {x:List Nat} {y k R:Nat} {q:List Nat} (h:DivIn B x y k R q) {t:Nat} (ht:t<B):(t+B * R) / y<B:=by
 have hy:0<y:=by have:=h.2.2.2;omega
 rw [Nat.div_lt_iff_lt_mul hy]
 exact h.low ht
theorem DivIn.step {B:Nat} {x:List Nat} {y k R:Nat} {q:List Nat} (h:DivIn B x y (k+1) R q) (hk:k<x.length) (ht:x.getD k 0<B) :
  DivIn B x y k ((x.getD k 0+B * R) % y) (q.set k ((x.getD k 0+B * R) / y)):=by
 have hd:=h.digit ht
 obtain ⟨h1,h2,h3,h4⟩:=h
 refine ⟨?_,by simp [h2],?_,Nat.mod_lt _ (by omega)⟩
 ·intro z hz
  rcases List.mem_or_eq_of_mem_set hz with hz | hz
  ·exact h1 z hz
  ·subst hz;exact hd
 ·have e1:=val_drop_step B x k hk
  have e2:=val_drop_step B (q.set k ((x.getD k 0+B * R) / y)) k (by simp [h2];exact hk)
  have e3:(q.set k ((x.getD k 0+B * R) / y)).drop (k+1)=q.drop (k+1):=by rw [List.drop_set_of_lt (by omega)]
  have e4:(q.set k ((x.getD k 0+B * R) / y)).getD k 0=(x.getD k 0+B * R) / y:=by
   rw [List.getD,List.getElem?_set_self (by omega)];rfl
  rw [e1,e2,e3,e4,h3]
  generalize x.getD k 0=t at *
  generalize val B (q.drop (k+1))=Q
  have e5:=Nat.div_add_mod (t+B * R) y
  rw [Nat.mul_add y,Nat.mul_add B]
  rw [Nat.mul_left_comm B y Q]
  omega
theorem DivIn.done {B:Nat} (hB:2≤B) {x:List Nat} {y R:Nat} {q:List Nat} (h:DivIn B x y 0 R q):trimL q=digs B (val B x / y)∧R=val B x % y:=by
 obtain ⟨h1,_,h3,h4⟩:=h
 rw [List.drop_zero,List.drop_zero] at h3
 rw [trimL_digs B hB q h1,h3]
 refine ⟨?_,?_⟩
 ·rw [Nat.mul_add_div (by omega),Nat.div_eq_of_lt h4,Nat.add_zero]
 ·rw [Nat.mul_add_mod,Nat.mod_eq_of_lt h4]
theorem digs_up (B:Nat) (hB:2≤B) (k z:Nat) (hz:z≠0):digs B (B ^ k * z)=List.replicate k 0++digs B z:=by
 induction k with
 | zero=>simp
 | succ k ih=>
  have hp:0<B ^ k:=Nat.pow_pos (by omega)
  have hne:B ^ (k+1) * z≠0:=by
   rw [Nat.pow_succ]
   have:0<B ^ k * B * z:=Nat.mul_pos (Nat.mul_pos hp (by omega)) (by omega)
   omega
  rw [digs_pos B _ hB hne,List.replicate_succ,List.cons_append,←ih]
  have e:B ^ (k+1) * z=B * (B ^ k * z):=by rw [Nat.pow_succ,Nat.mul_comm (B ^ k) B,Nat.mul_assoc]
  rw [e,Nat.mul_mod_right,Nat.mul_div_cancel_left _ (by omega)]
theorem pow9 (n:Nat):10 ^ n=1000000000 ^ (n / 9) * 10 ^ (n % 9):=by
 rw [show (1000000000:Nat)=10 ^ 9 by rfl,←Nat.pow_mul,←Nat.pow_add,Nat.div_add_mod]
theorem shift_digs (X n:Nat) (hX:X≠0):digs 1000000000 (X * 10 ^ n)=List.replicate (n / 9) 0++digs 1000000000 (X * 10 ^ (n % 9)):=by
 have hp:0<10 ^ (n % 9):=Nat.pow_pos (by omega)
 have:0<X * 10 ^ (n % 9):=Nat.mul_pos (by omega) hp
 rw [←digs_up _ (by omega) _ _ (by omega),pow9 n,Nat.mul_left_comm]
theorem digs_take_val (B:Nat) (hB:2≤B) (X w:Nat):val B ((digs B X).take w)=X % B ^ w:=by
 by_cases h:w≤(digs B X).length
 ·have e:=val_split B (digs B X) w
  rw [val_digs B hB,List.length_take,Nat.min_eq_left h] at e
  have h2:=val_lt B ((digs B X).take w) (fun z hz=>digs_lt B hB X z (List.mem_of_mem_take hz))
  rw [List.length_take,Nat.min_eq_left h] at h2
  rw [e,Nat.add_mul_mod_self_left,Nat.mod_eq_of_lt h2]
  rw [←e]
 ·rw [List.take_of_length_le (by omega),val_digs B hB,Nat.mod_eq_of_lt ((digs_len B hB X w).2 (by omega))]
theorem digs_drop_val (B:Nat) (hB:2≤B) (X w:Nat):val B ((digs B X).drop w)=X / B ^ w:=by
 have hp:0<B ^ w:=Nat.pow_pos (by omega)
 by_cases h:w≤(digs B X).length
 ·have e:=val_split B (digs B X) w
  rw [val_digs B hB,List.length_take,Nat.min_eq_left h,digs_take_val B hB] at e
  have e2:=Nat.mod_add_div X (B ^ w)
  have e3:B ^ w * val B ((digs B X).drop w)=B ^ w * (X / B ^ w):=by omega
  exact Nat.eq_of_mul_eq_mul_left hp e3
 ·rw [List.drop_of_length_le (by omega),val,Nat.div_eq_of_lt ((digs_len B hB X w).2 (by omega))]
theorem digs_drop (B:Nat) (hB:2≤B) (X w:Nat):(digs B X).drop w=digs B (X / B ^ w):=by
 induction w generalizing X with
 | zero=>simp
 | succ w ih=>
  by_cases hX:X=0
  ·subst hX;rw [digs_zero,Nat.zero_div,digs_zero];rfl
  ·rw [digs_pos B X hB hX,List.drop_succ_cons,ih,Nat.div_div_eq_div_mul,Nat.pow_succ,Nat.mul_comm]
theorem cut_low (X n:Nat) (h:(digs 1000000000 X).length<n / 9):X / 10 ^ n=0∧X % 10 ^ n=X:=by
 have h1:=(digs_len 1000000000 (by omega) X (n / 9)).2 (by omega)
 have hp:0<10 ^ (n % 9):=Nat.pow_pos (by omega)
 have h2:1000000000 ^ (n / 9) * 1≤10 ^ n:=by rw [pow9 n];exact Nat.mul_le_mul_left _ hp
 exact ⟨Nat.div_eq_of_lt (by omega),Nat.mod_eq_of_lt (by omega)⟩
theorem cut_quo (X n:Nat):X / 10 ^ n=val 1000000000 ((digs 1000000000 X).drop (n / 9)) / 10 ^ (n % 9):=by
 rw [digs_drop_val _ (by omega),pow9 n,Nat.div_div_eq_div_mul]
theorem cut_rest (X n:Nat) (h:n / 9≤(digs 1000000000 X).length):trimL ((digs 1000000000 X).take (n / 9)++[val 1000000000 ((digs 1000000000 X).drop (n / 9)) % 10 ^ (n % 9)])=digs 1000000000 (X % 10 ^ n):=by
 have hp:0<10 ^ (n % 9):=Nat.pow_pos (by omega)
 have hr:val 1000000000 ((digs 1000000000 X).drop (n / 9)) % 10 ^ (n % 9)<1000000000:=by
  have h1:=Nat.mod_lt (val 1000000000 ((digs 1000000000 X).drop (n / 9))) hp
  have h2:10 ^ (n % 9)≤10 ^ 9:=Nat.pow_le_pow_right (by decide) (show n % 9≤9 by omega)
  omega
 rw [trimL_digs 1000000000 (by omega)]
 ·congr 1
  rw [val_snoc,digs_take_val _ (by omega),digs_drop_val _ (by omega),List.length_take,Nat.min_eq_left h,pow9 n,Nat.mod_mul]
 ·intro z hz
  rw [List.mem_append] at hz
  rcases hz with hz | hz
  ·exact digs_lt _ (by omega) X z (List.mem_of_mem_take hz)
  ·simp at hz;subst hz;exact hr
def decD (l:List Nat):Nat:=val 10 l.reverse
theorem dec_snoc (l:List Nat) (c:Nat):decD (l++[c])=10 * decD l+c:=by
 unfold decD;rw [List.reverse_append,List.reverse_singleton,List.singleton_append,val];omega
theorem dec_append (l m:List Nat):decD (l++m)=decD m+10 ^ m.length * decD l:=by
 unfold decD;rw [List.reverse_append,val_append,List.length_reverse]
theorem dec_lt (l:List Nat) (h:∀x∈l,x<10):decD l<10 ^ l.length:=by
 unfold decD
 have:=val_lt 10 l.reverse (fun x hx=>h x (by simpa using hx))
 rwa [List.length_reverse] at this
def ParIn (s:List Nat) (m:Nat) (out:List Nat):Prop:=(∀z∈out,z<1000000000)∧val 1000000000 out=decD (s.drop m)
theorem ParIn.zero (s:List Nat):ParIn s s.length []:=⟨by simp,by rw [List.drop_of_length_le (Nat.le_refl _)];rfl⟩
theorem ParIn.step {s:List Nat} {m k:Nat} {out:List Nat} (h:ParIn s m out) (hs:∀x∈s,x<10) (hk:out.length=k) (hm:m+9 * k=s.length) (hm0:0<m) (m':Nat) (hm':m'=m-9) :
  ParIn s m' (out++[decD ((s.drop m').take (m-m'))]):=by
 obtain ⟨h1,h2⟩:=h
 have hlt:decD ((s.drop m').take (m-m'))<1000000000:=by
  have h3:=dec_lt ((s.drop m').take (m-m')) (fun x hx=>hs x (List.mem_of_mem_drop (List.mem_of_mem_take hx)))
  have h4:((s.drop m').take (m-m')).length≤9:=by rw [List.length_take];omega
  have h5:10 ^ ((s.drop m').take (m-m')).length≤10 ^ 9:=Nat.pow_le_pow_right (by omega) h4
  omega
 refine ⟨?_,?_⟩
 ·intro z hz
  rw [List.mem_append] at hz
  rcases hz with hz | hz
  ·exact h1 z hz
  ·simp at hz;subst hz;exact hlt
 ·have e:s.drop m'=(s.drop m').take (m-m')++s.drop m:=by
   have:=List.take_append_drop (m-m') (s.drop m')
   rw [List.drop_drop,show m'+(m-m')=m by omega] at this
   exact this.symm
  have e2:decD (s.drop m')=decD (s.drop m)+10 ^ (s.drop m).length * decD ((s.drop m').take (m-m')):=by
   conv=>lhs;rw [e]
   exact dec_append _ _
  rw [e2,val_snoc,h2,hk,List.length_drop,show s.length-m=9 * k by omega,Nat.pow_mul]
theorem ParIn.done {s out:List Nat} (h:ParIn s 0 out):trimL out=digs 1000000000 (decD s):=by
 rw [trimL_digs _ (by omega) out h.1,h.2,List.drop_zero]
def txt (n:Nat):List Nat:=if n=0 then [0] else (digs 10 n).reverse
def lows (k n:Nat):List Nat:=match k with
 | 0=>[]
 | k+1=>n % 10::lows k (n / 10)
theorem digs_lows (k lo hi:Nat) (hlo:lo<10 ^ k) (hhi:hi≠0):digs 10 (lo+10 ^ k * hi)=lows k lo++digs 10 hi:=by
 induction k generalizing lo with
 | zero=>
  obtain rfl:lo=0:=by simpa using hlo
  simp [lows]
 | succ k ih=>
  have hp:0<10 ^ k:=Nat.pow_pos (by omega)
  have hne:lo+10 ^ (k+1) * hi≠0:=by
   have:0<10 ^ (k+1) * hi:=Nat.mul_pos (Nat.pow_pos (by omega)) (by omega)
   omega
  rw [digs_pos 10 _ (by omega) hne,lows,List.cons_append]
  have e:lo+10 ^ (k+1) * hi=lo+10 * (10 ^ k * hi):=by rw [Nat.pow_succ,Nat.mul_comm (10 ^ k) 10,Nat.mul_assoc]
  rw [e,Nat.add_mul_mod_self_left,Nat.add_mul_div_left _ _ (by omega),ih (lo / 10) (by rw [Nat.pow_succ] at hlo;omega)]
theorem lows_digs (k lo:Nat) (hlo:lo<10 ^ k):lows k lo=digs 10 lo++List.replicate (k-(digs 10 lo).length) 0:=by
 induction k generalizing lo with
 | zero=>
  obtain rfl:lo=0:=by simpa using hlo
  rw [digs_zero];rfl
 | succ k ih=>
  rw [lows,ih (lo / 10) (by rw [Nat.pow_succ] at hlo;omega)]
  by_cases h:lo=0
  ·subst h;simp [digs_zero,List.replicate_succ]
  ·rw [digs_pos 10 lo (by omega) h,List.cons_append,List.length_cons,Nat.add_sub_add_right]
theorem pad_txt (lo:Nat) (hlo:lo<1000000000):(lows 9 lo).reverse=List.replicate (9-(txt lo).length) 0++txt lo:=by
 rw [lows_digs 9 lo (by omega)]
 unfold txt
 by_cases h:lo=0
 ·subst h;rw [if_pos rfl,digs_zero];rfl
 ·rw [if_neg h,List.reverse_append,List.reverse_replicate,List.length_reverse]
theorem txt_len9 (lo:Nat) (hlo:lo<1000000000):(txt lo).length≤9∧0<(txt lo).length:=by
 unfold txt
 by_cases h:lo=0
 ·rw [if_pos h];decide
 ·rw [if_neg h,List.length_reverse]
  refine ⟨(digs_len 10 (by omega) lo 9).1 (by omega),?_⟩
  cases e:digs 10 lo with
  | nil=>exact absurd ((digs_nil 10 lo (by omega)).1 e) h
  | cons=>simp
theorem txt_step (l:List Nat) (k:Nat) (hk:k<l.length) (hlt:l.getD k 0<1000000000) (h0:val 1000000000 (l.drop (k+1))≠0) :
  txt (val 1000000000 (l.drop k))=txt (val 1000000000 (l.drop (k+1)))++(List.replicate (9-(txt (l.getD k 0)).length) 0++txt (l.getD k 0)):=by
 rw [val_drop_step _ l k hk]
 generalize l.getD k 0=lo at *
 generalize val 1000000000 (l.drop (k+1))=hi at *
 rw [←pad_txt lo hlt]
 have hne:lo+1000000000 * hi≠0:=by omega
 unfold txt
 rw [if_neg hne,if_neg h0,show (1000000000:Nat)=10 ^ 9 by rfl,digs_lows 9 lo hi (by omega) h0,List.reverse_append]
theorem digs10_len (l:List Nat) (k:Nat) (hl:∀x∈l,x<1000000000) (hk:l.length=k+1) (h0:l.getD k 0≠0):(digs 10 (val 1000000000 l)).length=9 * k+(digs 10 (l.getD k 0)).length:=by
 have e:l=l.take k++[l.getD k 0]:=by
  have h1:=List.take_succ_eq_append_getElem (l:=l) (i:=k) (by omega)
  rw [List.take_of_length_le (by omega)] at h1
  have h2:l.getD k 0=l[k]:=by rw [List.getD,List.getElem?_eq_getElem (by omega)];rfl
  rw [h2];exact h1
 have hv:val 1000000000 l=val 1000000000 (l.take k)+10 ^ (9 * k) * l.getD k 0:=by
  conv=>lhs;rw [e]
  rw [val_snoc,List.length_take,Nat.min_eq_left (by omega),Nat.pow_mul]
 have hb:=val_lt 1000000000 (l.take k) (fun z hz=>hl z (List.mem_of_mem_take hz))
 rw [List.length_take,Nat.min_eq_left (by omega),show (1000000000:Nat)=10 ^ 9 by rfl,←Nat.pow_mul] at hb
 rw [hv,digs_lows (9 * k) _ _ hb h0,List.length_append]
 congr 1
 generalize val 1000000000 (l.take k)=z
 generalize 9 * k=m
 induction m generalizing z with
 | zero=>rfl
 | succ m ih=>rw [lows,List.length_cons,ih]
end Go.Proofs.YtmbeicndhigklaaGreatDoor
namespace Go.Proofs.YtmbeicndhigklaaGreatDoor
open Lib (hid)
open Go.RowKit
theorem OwnN.rd' {k:IntKind} {E:TypeId} {base:Nat} {w:World} {v:Value} {l:List Nat} (h:OwnN k E base w v l):(v=.slice none 0 0∧l=[])∨∃g cap,v=.slice (some ⟨g,0,none⟩) l.length cap∧RdN k w (some ⟨g,0,none⟩) l.length l:=by
 obtain ⟨A,cap,e,_,hrd,_⟩:=h.rd
 unfold OwnN at h
 rcases h.2 with ⟨hv,h0⟩ | ⟨g,cap',cur,hv,hg,hh,hnc,_⟩
 ·exact .inl ⟨hv,List.eq_nil_of_length_eq_zero h0⟩
 ·rw [hv] at e
  injection e with e1 e2 e3
  subst e1
  exact .inr ⟨g,cap',hv,hrd⟩
section
variable {P:Program} (w:World)
theorem run_append_rd (t ty:TypeId) (base base2:Nat) (k:IntKind) (e:TypeId) (i:TypeInfo) (z:Value) (bytes:Nat) (ht:P.underlying t=some (.slice e)) (hi:P.info? e=some i) (hz:i.zero=some z)
  (hsize:i.size=1) (hby:i.bytes=bytes) (hzs:z.cells.size=1) (v v2:Value) (xs l:List Nat) (hown:OwnN k e base w v xs) (hown2:OwnN k e base2 w v2 l)
  (h63:xs.length+l.length≤maxLen) (hbytes:(xs.length+l.length) * bytes≤140737488355328) (hbase:base≤w.heap.size) :
  ∃v' w',(Builtin.append_ #[t,t] ty #[v,v2]).run P w=.ok v' w'∧OwnN k e base w' v' (xs++l)∧w.grownBy w' v.ownBlock:=by
 rcases hown2.rd' with ⟨rfl,rfl⟩ | ⟨g,cap,rfl,hrd⟩
 ·refine ⟨v,w,run_append_owned_none w base t ty e i 1 ht hi v xs.length (nums k xs) hown,?_,World.grownBy.refl w _⟩
  rw [List.append_nil];exact hown
 ·obtain ⟨v',w',hr,h2,h3,_,_⟩:=run_append_own_at (P:=P) w base t ty e i z 1 bytes ht hi hz hsize hby hzs (by omega) v xs.length (nums k xs) hown ⟨g,0,none⟩ l.length cap (nums k l) (by rw [nums_len];omega)
   (fun j u hu=>by
    have hj:j<l.length:=by have:=(List.getElem?_eq_some_iff.1 hu).1;rwa [nums_len] at this
    obtain ⟨b,off,e1,_,hc⟩:=hrd.2 (by omega)
    have h4:=hc j hj
    injection e1 with e1
    injection e1 with e1 e2
    subst e1 e2
    have hadd:(⟨g,0,none⟩:Addr).add j=⟨g,0+j,none⟩:=by unfold Addr.add;split <;> simp_all
    rw [hadd,h4]
    simp only [nums,List.getElem?_map,List.getElem?_eq_getElem hj,Option.map_some] at hu
    rw [List.getD,List.getElem?_eq_getElem hj]
    exact hu)
   (fun u hu=>by
    unfold nums at hu
    rw [List.mem_map] at hu
    obtain ⟨x,_,rfl⟩:=hu
    rfl) h63 hbytes hbase
  refine ⟨v',w',hr,?_,h3⟩
  unfold OwnN
  rw [List.length_append,←nums_append]
  exact h2
theorem wp_append_rd {o:Oper} {a:Act} {K:Act→World→Prop} {Q:Exit→Act→World→Prop} (s x:Operand) (t:TypeId)
  (ho:o.op=.call { callee:=.builtin .append,args:=#[s,x],argTypes:=#[t,t] })
  (base base2:Nat) (k:IntKind) (e:TypeId) (i:TypeInfo) (z:Value) (bytes:Nat) (ht:P.underlying t=some (.slice e)) (hi:P.info? e=some i) (hz:i.zero=some z)
  (hsize:i.size=1) (hby:i.bytes=bytes) (hzs:z.cells.size=1) (v v2:Value) (xs l:List Nat) (hs:a.eval s=v) (hx:a.eval x=v2) (hown:OwnN k e base w v xs) (hown2:OwnN k e base2 w v2 l)
  (h63:xs.length+l.length≤maxLen) (hbytes:(xs.length+l.length) * bytes≤140737488355328) (hbase:base≤w.heap.size)
  (h:∀v' w',OwnN k e base w' v' (xs++l)→w.grownBy w' v.ownBlock→K (a.put o.dst v') w'):o.wp P a w K Q:=by
 obtain ⟨v',w',hr,h2,h3⟩:=run_append_rd (P:=P) w t o.type base base2 k e i z bytes ht hi hz hsize hby hzs v v2 xs l hown hown2 h63 hbytes hbase
 unfold Oper.wp execOp
 simp only [ho,resolve,invoke,builtin,Sem.run_bind,Sem.run_pure,Result.andThen_ok,List.map_toArray,List.map_cons,List.map_nil,hs,hx,hr]
 exact h v' w' h2 h3
theorem wpList_append_rd {ops:Array Oper} {rest:List Oper} {o:Oper} {a:Act} {Q:Exit→Act→World→Prop} (hgd:o.guard=none) (s x:Operand) (t:TypeId)
  (ho:o.op=.call { callee:=.builtin .append,args:=#[s,x],argTypes:=#[t,t] })
  (base base2:Nat) (k:IntKind) (e:TypeId) (i:TypeInfo) (z:Value) (bytes:Nat) (ht:P.underlying t=some (.slice e)) (hi:P.info? e=some i) (hz:i.zero=some z)
  (hsize:i.size=1) (hby:i.bytes=bytes) (hzs:z.cells.size=1) (v v2:Value) (xs l:List Nat) (hs:a.eval s=v) (hx:a.eval x=v2) (hown:OwnN k e base w v xs) (hown2:OwnN k e base2 w v2 l)
  (h63:xs.length+l.length≤maxLen) (hbytes:(xs.length+l.length) * bytes≤140737488355328) (hbase:base≤w.heap.size)
  (h:∀v' w',OwnN k e base w' v' (xs++l)→w.grownBy w' v.ownBlock→wpList P ops Q rest (a.put o.dst v') w'):wpList P ops Q (o::rest) a w:=
 wpList_plain hgd fun _ hK=>wp_append_rd w s x t ho base base2 k e i z bytes ht hi hz hsize hby hzs v v2 xs l hs hx hown hown2 h63 hbytes hbase fun v' w' h2 h3=>hK _ _ (h v' w' h2 h3)
end
theorem OwnN.lit (k:IntKind) (E:TypeId) (base:Nat) (w:World) (x:Nat) (hb:base≤w.heap.size):OwnN k E base (w.alloc (.cells #[.int k (x:Int)] E)) (.slice (some ⟨w.heap.size,0,none⟩) 1 1) [x]:=
 World.ownsRow_lit w #[.int k (x:Int)] 1 hb (by unfold maxLen;omega) rfl
theorem OwnN.block_ge {k:IntKind} {E:TypeId} {base:Nat} {w:World} {v:Value} {l:List Nat} (h:OwnN k E base w v l) (b:Nat) (hb:v.ownBlock=some b):base≤b∧b<w.heap.size:=by
 unfold OwnN at h
 rcases h.2 with ⟨hv,_⟩ | ⟨g,cap,cur,hv,hg,hh,r⟩
 ·rw [hv] at hb;cases hb
 ·rw [hv] at hb
  have:g=b:=by simpa [Value.ownBlock] using hb
  subst this
  exact ⟨hg,(Array.getElem?_eq_some_iff.1 hh).1⟩
theorem OwnN.grown {k:IntKind} {E:TypeId} {base:Nat} {w w':World} {v:Value} {l:List Nat} (h:OwnN k E base w v l) {row:Option Nat} (hg:w.grownBy w' row) (hp:∀b,v.ownBlock=some b→some b≠row):OwnN k E base w' v l:=by
 unfold OwnN at h ⊢
 refine ⟨h.1,?_⟩
 rcases h.2 with h2 | ⟨g,cap,cur,hv,hg2,hh,r⟩
 ·exact .inl h2
 ·refine .inr ⟨g,cap,cur,hv,hg2,?_,r⟩
  rw [hg.block g (Array.getElem?_eq_some_iff.1 hh).1 (hp g (by rw [hv];rfl))]
  exact hh
theorem OwnN.asList {k:IntKind} {E:TypeId} {base:Nat} {w:World} {v:Value} {l m:List Nat} (h:OwnN k E base w v l) (e:l=m):OwnN k E base w v m:=e▸h
theorem cell_far {w:World} {p a:Addr} {v u:Value} (h:p.block≠a.block) (hc:w.cell? a=some u):(w.setCell p v).cell? a=some u:=
 by rw [World.cell?_setCell_other w p a v (fun e=>h (by rw [e]))];exact hc
end Go.Proofs.YtmbeicndhigklaaGreatDoor
namespace Go.Proofs.YtmbeicndhigklaaGreatDoor
open Lib (hid)
open Go.RowKit
theorem ten_le (n:Nat) (h:n≤8):10 ^ n≤100000000:=by
 have:10 ^ n≤10 ^ 8:=Nat.pow_le_pow_right (by decide) h
 omega
set_option maxHeartbeats 1000000 in
set_option maxRecDepth 100000 in
theorem ten_any (n:Nat) (w:World) (hn:n≤8) :
  Calls Tryz.prog 169 #[.int .i64 n] w fun e w'=>e=.returned (.int .u64 ((10 ^ n:Nat):Int))∧w=w':=by
 go_enter Tryz.func169,Tryz.ntmps169
 go_wp2
 go_loop [3,5] (fun pv iv=>∃k p:Nat,k≤n∧iv=.int .i64 k∧pv=.int .u64 p∧p≤100000000∧Hid (p=10 ^ k)) (fun _ iv=>n-(intOf iv).toNat)
 case atStart=>exact ⟨0,1,Nat.zero_le _,rfl,rfl,by omega,rfl⟩
 case round=>
  obtain ⟨k,p,hk,rfl,rfl,hp,hpk⟩:=hrel
  by_cases hlt:k<n
  ·have h1:p * 10≤100000000:=by rw [hpk.out,←Nat.pow_succ];exact ten_le _ (by omega)
   have HP:=hid (show p * 10=10 ^ (k+1) by rw [hpk.out,Nat.pow_succ])
   go_wp2
   go_round
   case rel=>exact ⟨k+1,p * 10,by omega,by go_num,by go_num,h1,HP.out⟩
   case measure=>simp [intOf];omega
  ·obtain rfl:k=n:=by omega
   go_wp2
   go_ret
   have e:=hpk.out
   subst e
   exact ⟨rfl,rfl⟩
end Go.Proofs.YtmbeicndhigklaaGreatDoor
namespace Go.Proofs.YtmbeicndhigklaaGreatDoor
open Lib (hid)
open Go.RowKit
theorem OwnN.lit0 (k:IntKind) (E:TypeId) (base:Nat) (w:World) (hb:base≤w.heap.size):OwnN k E base (w.alloc (.cells #[] E)) (.slice (some ⟨w.heap.size,0,none⟩) 0 0) []:=
 World.ownsRow_lit w #[] 0 hb (by unfold maxLen;omega) rfl
set_option maxHeartbeats 1000000 in
set_option maxRecDepth 100000 in
theorem clone_any (v:Value) (base:Nat) (l:List Nat) (w:World) (hown:OwnN .u32 152 base w v l) (hn:l.length≤1099511627776) :
  Calls Tryz.prog 168 #[v] w fun e w'=>∃v',e=.returned v'∧OwnN .u32 152 w.heap.size w' v' l∧Below w.heap.size w w':=by
 obtain ⟨i0,hi0,hz0,hz1,hz2⟩:=info_parts info_u32
 rcases hown.rd' with ⟨rfl,rfl⟩ | ⟨g,cap,rfl,hrd⟩
 ·have he:∀u:World,(binOp .eql 91 (.slice none 0 0) (.slice none 0 0)).run Tryz.prog u=.ok (.bool true) u:=fun _=>rfl
  go_enter Tryz.func168,Tryz.ntmps168
  go_wp2
  go_ret
  exact ⟨_,rfl,OwnN.nil _ _ _ _,Below.refl _ _⟩
 ·have he:∀u:World,(binOp .eql 91 (.slice (some ⟨g,0,none⟩) l.length cap) (.slice none 0 0)).run Tryz.prog u=.ok (.bool false) u:=fun _=>rfl
  go_enter Tryz.func168,Tryz.ntmps168
  go_wp2_with (at_builtin;refine wpList_append_rd _ rfl _ _ 91 rfl w.heap.size base .u32 152 i0 (.int .u32 0) 4 Tryz.underlying91 hi0 hz0 hz1 hz2 rfl _ _ [] l rfl rfl (OwnN.lit0 _ _ _ _ (Nat.le_refl _)) (hown.below (below_alloc0 w _)) ?c1 ?c2 ?c3 ?_)
  case c1=>simp;unfold maxLen;omega
  case c2=>simp;omega
  case c3=>simp
  intro v' w' hown' hgrow
  go_wp2
  go_ret
  refine ⟨_,rfl,hown',(below_alloc0 w _).grown hgrow (by simp) (fun k hk=>?_)⟩
  have:w.heap.size=k:=by simpa [Value.ownBlock] using hk
  omega
theorem RdN.drop {k:IntKind} {w:World} {g o n i:Nat} {l:List Nat} (h:RdN k w (some ⟨g,o,none⟩) n l):RdN k w (some ⟨g,o+i,none⟩) (n-i) (l.drop i):=by
 refine ⟨by rw [List.length_drop,h.1],fun h0=>?_⟩
 obtain ⟨b,off,e,hlt,hc⟩:=h.2 (by omega)
 injection e with e
 injection e with e1 e2
 subst e1 e2
 refine ⟨g,o+i,rfl,hlt,fun j hj=>?_⟩
 have h3:=hc (i+j) (by omega)
 rw [Nat.add_assoc,h3]
 simp only [List.getD,List.getElem?_drop]
theorem RdN.none0 {k:IntKind} {w:World} {A:Option Addr} {n:Nat} {l:List Nat} (hn:n=0) (hl:l=[]):RdN k w A n l:=⟨by rw [hl,hn];rfl,fun h=>by omega⟩
def IsCut (x n:Nat) (w w':World) (e:Ending):Prop:=∃q r,e=.returned (.tuple #[q,r,.int .i64 0])∧OwnN .u32 152 w.heap.size w' q (digs 1000000000 (x / 10 ^ n))∧OwnN .u32 152 w.heap.size w' r (digs 1000000000 (x % 10 ^ n))∧Below w.heap.size w w'
set_option maxHeartbeats 2000000 in
set_option maxRecDepth 100000 in
theorem cut_any (A:Option Addr) (n cap:Nat) (l:List Nat) (m:Nat) (w:World) (hR:RdN .u32 w A n l) (hn:n≤549755813888) (hl:∀x∈l,x<4294967296) (hm:m≤30000) :
  Calls Tryz.prog 140 #[.slice A n cap,.int .i64 m] w fun e w'=>IsCut (val 1000000000 l) m w w' e:=by
 obtain ⟨i0,hi0,hz0,hz1,hz2⟩:=info_parts info_u32
 have K1:=hid (norm_any A n cap l w hR (by omega) hl)
 have hd:(digs 1000000000 (val 1000000000 l)).length≤549755813889:=by have:=digs_val_len l hl;have:=hR.1;omega
 clear hR hl
 generalize val 1000000000 l=x at *
 have kt:=fun u:World=>ten_any (m % 9) u (by omega)
 rw [show ((m % 9:Nat):Int)=(m:Int) % 9 by omega] at kt
 have KT:=hid kt
 clear kt
 have h10:=ten_le (m % 9) (by omega)
 have h11:0<10 ^ (m % 9):=Nat.pow_pos (by omega)
 have h9:m / 9≤3333:=by omega
 have hmq:((m / 9:Nat):Int)=(m:Int) / 9:=by omega
 have HLT:=hid (digs_lt 1000000000 (by omega) x)
 have HLO:=hid (cut_low x m)
 have HQU:=hid (cut_quo x m)
 have HRE:=hid (cut_rest x m)
 have HTX:=hid (trimL_digs_self 1000000000 (by omega) x)
 generalize hp:10 ^ (m % 9)=p at *
 clear hp
 by_cases hlow:(digs 1000000000 x).length<m / 9
 ·have HC:=hid (HLO.out hlow)
  have hmin:¬((m:Int) / 9≤(digs 1000000000 x).length):=by omega
  have hmin2:(((digs 1000000000 x).length:Nat):Int)<(m:Int) / 9:=by omega
  go_enter Tryz.func140,Tryz.ntmps140
  go_wp2_with (go_at_call 137;refine K1.out.mono ?_)
  rintro e w1 ⟨v1,rfl,hown1,hb1⟩
  generalize hXX:digs 1000000000 x=X at *
  have HXX:=hid hXX
  clear hXX
  obtain ⟨B1,c1,rfl,hcap1,hrd1,hge1⟩:=hown1.rd
  have KC:=hid (fun u hu=>clone_any _ w.heap.size X u (hown1.below hu) (by omega))
  have HB1:=hid hb1
  go_upto_region 5 with fail
  go_cut [9] from 28 (fun lo wx=>OwnN .u32 152 w.heap.size wx lo X∧Below w.heap.size w wx)
  case first=>
   rcases hown1.rd' with ⟨e1,h0⟩ | ⟨g,c1',e1,_⟩
   ·injection e1 with e1 e2 e3
    subst e1 e3 h0
    go_region_law (first | (go_simp;go_at_call 168;refine (KC.out _ (Below.refl _ _).drew).mono ?_;rintro e w2 ⟨v2,rfl,hown2,hb2⟩))
    all_goals
     go_wp2_with fail
     go_meet
     case rel=>exact ⟨hown2.more HB1.out.size,HB1.out.trans ((Below.refl _ w1).drew.trans hb2 |>.mono HB1.out.size)⟩
   ·injection e1 with e1 e2 e3
    subst e1 e3
    by_cases hcc:c1=X.length
    ·subst hcc
     go_region_law (first | (go_simp;go_at_call 168;refine (KC.out _ (Below.refl _ _).drew).mono ?_;rintro e w2 ⟨v2,rfl,hown2,hb2⟩))
     all_goals
      go_wp2_with fail
      go_meet
      case rel=>exact ⟨hown2.more HB1.out.size,HB1.out.trans ((Below.refl _ w1).drew.trans hb2 |>.mono HB1.out.size)⟩
    ·skip
     go_region_law (first | (go_simp;go_at_call 168;refine (KC.out _ (Below.refl _ _).drew).mono ?_;rintro e w2 ⟨v2,rfl,hown2,hb2⟩))
     all_goals
      go_wp2_with fail
      go_meet
      case rel=>exact ⟨hown2.more HB1.out.size,HB1.out.trans ((Below.refl _ w1).drew.trans hb2 |>.mono HB1.out.size)⟩
  case rest=>
   obtain ⟨hlo,hbc⟩:=hcut
   obtain ⟨B3,c3,rfl,hcap3,hrd3,_⟩:=hlo.rd
   have K6:=hid (fun u (hu:Below wc.heap.size wc u)=>trim_any B3 X.length c3 X u (hrd3.below hu) hcap3 (by omega))
   go_wp2_with (first | (go_at_call 169;refine (KT.out _).mono ?_;rintro e w1' ⟨rfl,rfl⟩) | (go_at_call 136;refine (K6.out _ (Below.refl _ _)).mono ?_;rintro e w3 ⟨rfl,rfl⟩))
   go_ret3
   refine ⟨_,_,rfl,by rw [HC.out.1,digs_zero];exact OwnN.nil _ _ _ _,?_,hbc⟩
   rw [HC.out.2]
   exact hlo.trim.asList (HTX.out.trans HXX.out.symm)
 ·have HRE2:=hid (HRE.out (by omega))
  generalize m / 9=W at *
  have hmq2:(m:Int) / 9=W:=hmq.symm
  clear hmq HLO HRE
  have hWl:W≤(digs 1000000000 x).length:=by omega
  clear hlow
  go_enter Tryz.func140,Tryz.ntmps140
  go_wp2_with (go_at_call 137;refine K1.out.mono ?_)
  rintro e w1 ⟨v1,rfl,hown1,hb1⟩
  generalize hXX:digs 1000000000 x=X at *
  have HXX:=hid hXX
  clear hXX
  obtain ⟨B1,c1,rfl,hcap1,hrd1,hge1⟩:=hown1.rd
  have hW1:W≤c1:=by omega
  have htl:(X.take W).length=W:=by rw [List.length_take];omega
  have KC:=hid (fun u hu=>clone_any (.slice B1 W c1) w.heap.size (X.take W) u ((hown1.cut hWl).below hu) (by omega))
  have HB1:=hid hb1
  go_upto_region 5 with fail
  go_cut [9,10] from 28 (fun lo hi wx=>∃Ah ch,hi=.slice Ah (X.length-W) ch∧OwnN .u32 152 w.heap.size wx lo (X.take W)∧RdN .u32 wx Ah (X.length-W) (X.drop W)∧Below w.heap.size w wx)
  case first=>
   rcases hown1.rd' with ⟨e1,h0⟩ | ⟨g,c1',e1,_⟩
   ·injection e1 with e1 e2 e3
    subst e1 e3 h0
    obtain rfl:W=0:=by omega
    go_region_law (first | (go_simp;go_at_call 168;refine (KC.out _ (Below.refl _ _).drew).mono ?_;rintro e w2 ⟨v2,rfl,hown2,hb2⟩))
    all_goals
     go_wp2_with fail
     go_meet
     case rel=>exact ⟨_,_,rfl,hown2.more HB1.out.size,.none0 rfl rfl,HB1.out.trans ((Below.refl _ w1).drew.trans hb2 |>.mono HB1.out.size)⟩
   ·injection e1 with e1 e2 e3
    subst e1 e3
    by_cases hcc:c1=W
    ·subst hcc
     go_region_law (first | (go_simp;go_at_call 168;refine (KC.out _ (Below.refl _ _).drew).mono ?_;rintro e w2 ⟨v2,rfl,hown2,hb2⟩))
     all_goals
      go_wp2_with fail
      go_meet
      case rel=>exact ⟨some ⟨g,0,none⟩,0,by rw [show X.length-c1=0 by omega],hown2.more HB1.out.size,.none0 (by omega) (List.drop_of_length_le (by omega)),HB1.out.trans ((Below.refl _ w1).drew.trans hb2 |>.mono HB1.out.size)⟩
    ·go_region_law (first | (go_simp;go_at_call 168;refine (KC.out _ (Below.refl _ _).drew).mono ?_;rintro e w2 ⟨v2,rfl,hown2,hb2⟩))
     all_goals
      go_wp2_with fail
      go_meet
      case rel=>
       refine ⟨_,_,rfl,hown2.more HB1.out.size,?_,HB1.out.trans ((Below.refl _ w1).drew.trans hb2 |>.mono HB1.out.size)⟩
       have hdr:=(hrd1.below ((Below.refl _ w1).drew.trans hb2)).drop (i:=W)
       rw [Nat.zero_add] at hdr
       exact hdr
  case rest=>
   obtain ⟨Ah,ch,rfl,hlo,hhi,hbc⟩:=hcut
   have hhb:X.length-W≤549755813889:=by omega
   have HLH:=hid (show ∀z∈X.drop W,z<1000000000 from fun z hz=>HLT.out z (List.mem_of_mem_drop hz))
   have hws:=hbc.size
   generalize hh0:X.length-W=h at *
   have HHL:=hid (show (X.drop W).length=h by rw [List.length_drop];exact hh0)
   clear hh0 hown1 hcap1 hrd1 hge1 KC HB1 hb1 hWl hd
   generalize X.drop W=H at *
   generalize hLL:X.take W=L at *
   have hLn:L.length≤3333:=by omega
   obtain ⟨B3,c3,rfl,hcap3,hrd3,_⟩:=hlo.rd
   have hmk:=make_u32 h h (Nat.le_refl _) (by omega) wc
   have hown0:=OwnN.made h wc (by unfold maxLen;omega)
   have hbm:=below_alloc0 wc (.cells (madeCells #[.int .u32 0] h) 152)
   have HHI:=hid hhi
   have HLO:=hid hlo
   have HBC:=hid hbc
   clear hhi hlo hbc hrd3
   go_wp2_with (go_at_call 169;refine (KT.out _).mono ?_;rintro e w1' ⟨rfl,rfl⟩)
   generalize hG:wc.heap.size=G at *
   go_loopg [13,14] h (fun kx rv iv wr=>∃(k R:Nat) (q:List Nat),k≤kx∧k≤h∧iv=.int .i64 ((k:Int)-1)∧rv=.int .u64 R∧R<p∧OwnN .u32 152 G wr (.slice (some ⟨G,0,none⟩) h h) q∧Hid (DivIn 1000000000 H p k R q)∧Below G wc wr)
   case atStart=>
    refine ⟨h,0,List.replicate h 0,Nat.le_refl _,Nat.le_refl _,by go_num,rfl,h11,hown0,?_,hbm⟩
    have:=DivIn.zero 1000000000 (by omega) H p h11
    rw [HHL.out] at this
    exact this
   case round=>
    obtain ⟨k,R,q,hkx,hk,rfl,rfl,hRp,hq,hdiv,hb⟩:=hrel
    have hql:q.length=h:=by rw [hdiv.out.2.1,HHL.out]
    by_cases h0:k=0
    ·subst h0
     have hdn:=hdiv.out.done (by omega)
     obtain ⟨A',cap',hv',hcap',hrd',_⟩:=hq.rd
     injection hv' with e1 e2 e3
     subst e1 e3
     rw [hql] at hrd'
     clear e2 hcap'
     have K6:=hid (trim_any (some ⟨G,0,none⟩) h h q wr hrd' (Nat.le_refl _) (by omega))
     have HDN:=hid hdn
     have hm1:((0:Nat):Int)-1=-1:=by omega
     have hR9:R<1000000000:=by omega
     have HLR:=hid (HLO.out.below (hb.mono (by omega)))
     have hGr:=hb.size
     clear hrd' hdn hdiv
     have hlr:=HLR.out
     rw [htl] at hlr
     go_wp2_with (first
      | (go_at_call 136;refine K6.out.mono ?_;rintro e w3 ⟨rfl,rfl⟩)
      | (at_builtin;refine wpList_append_rd _ rfl _ _ 91 rfl w.heap.size wr.heap.size .u32 152 i0 (.int .u32 0) 4 Tryz.underlying91 hi0 hz0 hz1 hz2 rfl _ _ L [R] rfl rfl (hlr.below (below_alloc0 wr _)) (OwnN.lit .u32 152 wr.heap.size wr R (Nat.le_refl _)) ?c1 ?c2 ?c3 ?_))
     case c1=>simp;unfold maxLen;omega
     case c2=>simp;omega
     case c3=>simp;omega
     intro v' w' hown' hgrow
     have hLR:(L++[R]).length=W+1:=by rw [List.length_append,htl];rfl
     obtain ⟨B5,c5,hv5,hcap5,hrd5,_⟩:=hown'.rd
     rw [hLR] at hv5 hcap5 hrd5
     subst hv5
     have K7:=hid (trim_any B5 (W+1) c5 (L++[R]) w' hrd5 hcap5 (by omega))
     have HHG:=hid (hown'.trim.asList (by rw [HDN.out.2,HRE2.out]))
     have hbl:∀k,(Value.slice B3 W c3).ownBlock=some k→w.heap.size≤k:=fun k hk=>(hlr.block_ge k hk).1
     have HFB:=hid (show Below w.heap.size w w' from ((HBC.out.trans (hb.mono (by omega))).alloc (by omega) _).grown hgrow (by simp;omega) hbl)
     have hq2:=(hq.below (below_alloc0 wr (.cells #[.int .u32 (R:Int)] 152))).grown hgrow (fun b hb e=>by
      have h1:=(HLO.out.block_ge b (by rw [htl];exact e.symm)).2
      have h2:G=b:=by simpa [Value.ownBlock] using hb
      omega)
     have HQQ:=hid (hq2.trim.asList (by rw [HDN.out.1,←HQU.out]))
     clear hq2 hgrow hbl hlr hq hown' hrd5 hcap5
     go_wp2_with (go_at_call 136;refine K7.out.mono ?_;rintro e w4 ⟨rfl,rfl⟩)
     go_ret3
     exact ⟨_,_,rfl,HQQ.out.more hws,HHG.out,HFB.out⟩
    ·obtain ⟨k,rfl⟩:∃j,k=j+1:=⟨k-1,by omega⟩
     obtain ⟨p1,o1,rfl,hbl1,hc1⟩:=HHI.out.2 (by omega)
     have cx:=(hb.cell (p:=⟨p1,o1+k,none⟩) (by rw [←hG];exact hbl1)).trans (hc1 k (by omega))
     have hv:=getD_lt (by omega) HLH.out k
     have HST:=hid (hdiv.out.step (by rw [HHL.out];omega) hv)
     have hdg:=hdiv.out.digit hv
     clear hc1 hdiv
     generalize H.getD k 0=t at *
     have hkk:((k+1:Nat):Int)-1=k:=by omega
     rw [hkk]
     have hka:k<h:=by omega
     have hT:t+1000000000 * R<1000000000000000000:=by omega
     obtain ⟨cc,ff⟩:=hq.cellAt (i:=k) (by rw [hql];exact hka)
     go_wp2
     have e1:(R:Int) * 1000000000+t=((t+1000000000 * R:Nat):Int):=by omega
     have e2:(((t+1000000000 * R:Nat):Int) / (p:Int)) % 4294967296=(((t+1000000000 * R) / p:Nat):Int):=by
      rw [←Int.natCast_ediv]
      generalize (t+1000000000 * R) / p=Q at hdg
      omega
     have e3:((t+1000000000 * R:Nat):Int) % (p:Int)=(((t+1000000000 * R) % p:Nat):Int):=(Int.natCast_emod ..).symm
     rw [e1,e2,e3]
     go_roundg k
     case measure=>omega
     case rel=>exact ⟨k,(t+1000000000 * R) % p,q.set k ((t+1000000000 * R) / p),Nat.le_refl _,by omega,rfl,rfl,Nat.mod_lt _ h11,hq.set (by rw [hql];exact hka),HST.out,hb.setCell (Nat.le_refl _) _⟩
end Go.Proofs.YtmbeicndhigklaaGreatDoor
