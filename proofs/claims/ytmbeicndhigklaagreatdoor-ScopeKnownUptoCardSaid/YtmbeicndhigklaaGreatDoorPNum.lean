/-
Plain Lean: numbers as lists of digits in a base, the lowest first. No program in sight.
-/
import Derived.Below
import Derived.Laws.AppendOwn
import Derived.Laws.OwnMore
import Derived.Laws.MakeOwn
import Derived.Laws.NewBlocks
import Derived.Lib.Hide
import Derived.Deep.Draws
import Derived.Test.YtmbeicndhigklaaGreatDoorRows
import Derived.WalkKit
import Derived.WalkSpells
import Derived.WalkLawsBesides
import Derived.Handy
import Derived.Deep.QuietTactic
import Derived.BigQuiet
import Derived.Shelf.Abstract
namespace Go.Proofs.YtmbeicndhigklaaGreatDoor
open Lib (hid)
def val (b:Nat):List Nat→Nat
 | []=>0
 | x::l=>x+b * val b l
theorem val_append (b:Nat) (l m:List Nat):val b (l++m)=val b l+b ^ l.length * val b m:=by
 induction l with
 | nil=>simp [val]
 | cons x l ih=>simp only [List.cons_append,val,ih,List.length_cons,Nat.pow_succ,Nat.mul_add,←Nat.mul_assoc];rw [Nat.mul_comm b (b ^ l.length)];omega
theorem val_snoc (b:Nat) (l:List Nat) (x:Nat):val b (l++[x])=val b l+b ^ l.length * x:=by rw [val_append];simp [val]
theorem val_lt (b:Nat) (l:List Nat) (h:∀x∈l,x<b):val b l<b ^ l.length:=by
 induction l with
 | nil=>simp [val]
 | cons x l ih=>
  have h1:=h x (by simp)
  have h2:=ih (fun y hy=>h y (by simp [hy]))
  simp only [val,List.length_cons,Nat.pow_succ]
  have h3:b * (val b l+1)≤b * b ^ l.length:=Nat.mul_le_mul_left b h2
  rw [Nat.mul_add,Nat.mul_one] at h3
  rw [Nat.mul_comm (b ^ l.length) b]
  omega
def digsF:Nat→Nat→Nat→List Nat
 | 0,_,_=>[]
 | f+1,b,n=>if n=0 then [] else n % b::digsF f b (n / b)
def digs (b n:Nat):List Nat:=digsF (n.log2+1) b n
theorem digsF_eq (b:Nat) (hb:2≤b):∀(f g n:Nat),n<2 ^ f→n<2 ^ g→digsF f b n=digsF g b n:=by
 intro f
 induction f with
 | zero=>
  intro g n hf _
  have:n=0:=by simpa using hf
  subst this
  cases g <;> simp [digsF]
 | succ f ih=>
  intro g n hf hg
  cases g with
  | zero=>
   have:n=0:=by simpa using hg
   subst this
   simp [digsF]
  | succ g=>
   simp only [digsF]
   split
   ·rfl
   ·have h1:n / b<2 ^ f:=by
     rw [Nat.div_lt_iff_lt_mul (by omega)]
     rw [Nat.pow_succ] at hf
     exact Nat.lt_of_lt_of_le hf (Nat.mul_le_mul_left _ hb)
    have h2:n / b<2 ^ g:=by
     rw [Nat.div_lt_iff_lt_mul (by omega)]
     rw [Nat.pow_succ] at hg
     exact Nat.lt_of_lt_of_le hg (Nat.mul_le_mul_left _ hb)
    rw [ih g (n / b) h1 h2]
theorem digs_zero (b:Nat):digs b 0=[]:=by simp [digs,digsF]
theorem digs_pos (b n:Nat) (hb:2≤b) (hn:n≠0):digs b n=n % b::digs b (n / b):=by
 unfold digs
 rw [digsF,if_neg hn]
 have h1:n<2 ^ (n.log2+1):=Nat.lt_log2_self
 have h2:n / b<2 ^ n.log2:=by
  rw [Nat.div_lt_iff_lt_mul (by omega)]
  rw [Nat.pow_succ] at h1
  exact Nat.lt_of_lt_of_le h1 (Nat.mul_le_mul_left _ hb)
 rw [digsF_eq b hb n.log2 ((n / b).log2+1) (n / b) h2 Nat.lt_log2_self]
theorem val_digs (b:Nat) (hb:2≤b) (n:Nat):val b (digs b n)=n:=by
 induction n using Nat.strongRecOn with
 | _ n ih=>
  by_cases hn:n=0
  ·subst hn;rw [digs_zero];rfl
  ·rw [digs_pos b n hb hn,val,ih (n / b) (Nat.div_lt_self (by omega) (by omega))]
   exact Nat.mod_add_div n b
theorem digs_lt (b:Nat) (hb:2≤b) (n:Nat):∀x∈digs b n,x<b:=by
 induction n using Nat.strongRecOn with
 | _ n ih=>
  by_cases hn:n=0
  ·subst hn;rw [digs_zero];simp
  ·rw [digs_pos b n hb hn]
   intro x hx
   rw [List.mem_cons] at hx
   rcases hx with rfl | hx
   ·exact Nat.mod_lt _ (by omega)
   ·exact ih (n / b) (Nat.div_lt_self (by omega) (by omega)) x hx
theorem digs_nil (b n:Nat) (hb:2≤b):digs b n=[]↔n=0:=by
 constructor
 ·intro h;have:=val_digs b hb n;rw [h] at this;exact this.symm
 ·rintro rfl;exact digs_zero b
def trimL:List Nat→List Nat
 | []=>[]
 | x::l=>match trimL l with
  | []=>if x=0 then [] else [x]
  | y::m=>x::y::m
theorem trimL_digs (b:Nat) (hb:2≤b) (l:List Nat) (h:∀x∈l,x<b):trimL l=digs b (val b l):=by
 induction l with
 | nil=>rw [val,digs_zero];rfl
 | cons x l ih=>
  have hx:=h x (by simp)
  have ih':=ih (fun y hy=>h y (by simp [hy]))
  simp only [trimL,val]
  rw [ih']
  by_cases hv:val b l=0
  ·rw [hv,digs_zero,Nat.mul_zero,Nat.add_zero]
   simp only []
   by_cases h0:x=0
   ·rw [if_pos h0,h0,digs_zero]
   ·rw [if_neg h0,digs_pos b x hb h0,Nat.mod_eq_of_lt hx,Nat.div_eq_of_lt hx,digs_zero]
  ·have hne:digs b (val b l)≠[]:=fun e=>hv ((digs_nil b _ hb).1 e)
   have hn:x+b * val b l≠0:=by
    have:0<b * val b l:=Nat.mul_pos (by omega) (by omega)
    omega
   rw [digs_pos b (x+b * val b l) hb hn]
   have e1:(x+b * val b l) % b=x:=by rw [Nat.add_mul_mod_self_left,Nat.mod_eq_of_lt hx]
   have e2:(x+b * val b l) / b=val b l:=by rw [Nat.add_mul_div_left _ _ (by omega),Nat.div_eq_of_lt hx,Nat.zero_add]
   rw [e1,e2]
   cases hd:digs b (val b l) with
   | nil=>exact absurd hd hne
   | cons y m=>rfl
theorem trimL_snoc_zero (l:List Nat):trimL (l++[0])=trimL l:=by
 induction l with
 | nil=>rfl
 | cons x l ih=>simp only [List.cons_append,trimL,ih]
theorem trimL_snoc (l:List Nat) (x:Nat) (hx:x≠0):trimL (l++[x])=l++[x]:=by
 induction l with
 | nil=>simp [trimL,hx]
 | cons y l ih=>
  simp only [List.cons_append,trimL,ih]
  cases hl:l++[x] with
  | nil=>simp at hl
  | cons a m=>rfl
theorem trimL_take (l:List Nat):∃k,k≤l.length∧trimL l=l.take k:=by
 induction l with
 | nil=>exact ⟨0,by simp,rfl⟩
 | cons x l ih=>
  obtain ⟨k,hk,e⟩:=ih
  simp only [trimL]
  rw [e]
  cases h:l.take k with
  | nil=>
   by_cases hx:x=0
   ·exact ⟨0,by simp,by simp [hx]⟩
   ·exact ⟨1,by simp,by simp [hx]⟩
  | cons y m=>exact ⟨k+1,by simp;omega,by simp [h]⟩
theorem trimL_digs_self (b:Nat) (hb:2≤b) (n:Nat):trimL (digs b n)=digs b n:=by
 rw [trimL_digs b hb _ (digs_lt b hb n),val_digs b hb]
theorem digs_len (b:Nat) (hb:2≤b) (n:Nat) (k:Nat):n<b ^ k↔(digs b n).length≤k:=by
 induction k generalizing n with
 | zero=>
  simp only [Nat.pow_zero,Nat.le_zero,List.length_eq_zero_iff,digs_nil b n hb]
  omega
 | succ k ih=>
  by_cases hn:n=0
  ·subst hn;rw [digs_zero];simp;exact Nat.pos_of_ne_zero (by simp;omega)
  ·rw [digs_pos b n hb hn,List.length_cons,Nat.add_le_add_iff_right,←ih (n / b),Nat.pow_succ,Nat.div_lt_iff_lt_mul (by omega)]
end Go.Proofs.YtmbeicndhigklaaGreatDoor
namespace Go.Proofs.YtmbeicndhigklaaGreatDoor
open Lib (hid)
open Go.RowKit
def nums (k:IntKind) (l:List Nat):List Value:=l.map fun (x:Nat)=>Value.int k (x:Int)
theorem nums_len (k:IntKind) (l:List Nat):(nums k l).length=l.length:=List.length_map ..
theorem nums_append (k:IntKind) (l m:List Nat):nums k l++nums k m=nums k (l++m):=by simp [nums]
def OwnN (k:IntKind) (E:TypeId) (base:Nat) (w:World) (v:Value) (l:List Nat):Prop:=w.ownsRow base E 1 v l.length (nums k l)
def RdN (k:IntKind) (w:World) (A:Option Addr) (n:Nat) (l:List Nat):Prop:=
 l.length=n∧(0<n→∃b off,A=some ⟨b,off,none⟩∧b<w.heap.size∧∀i,i<n→w.cell? ⟨b,off+i,none⟩=some (.int k (l.getD i 0:Nat)))
theorem RdN.below {k:IntKind} {w w':World} {A:Option Addr} {n:Nat} {l:List Nat} (h:RdN k w A n l) (hb:Below w.heap.size w w'):RdN k w' A n l:=by
 refine ⟨h.1,fun hn=>?_⟩
 obtain ⟨b,off,e,hlt,hc⟩:=h.2 hn
 exact ⟨b,off,e,Nat.lt_of_lt_of_le hlt hb.size,fun i hi=>(hb.cell (p:=⟨b,off+i,none⟩) hlt).trans (hc i hi)⟩
theorem OwnN.nil (k:IntKind) (E:TypeId) (base:Nat) (w:World):OwnN k E base w (.slice none 0 0) []:=World.ownsRow_nil _ _ _ _
theorem OwnN.rd {k:IntKind} {E:TypeId} {base:Nat} {w:World} {v:Value} {l:List Nat} (h:OwnN k E base w v l):∃A cap,v=.slice A l.length cap∧l.length≤cap∧RdN k w A l.length l∧(∀a,A=some a→base≤a.block):=by
 unfold OwnN at h
 rcases h.2 with ⟨hv,h0⟩ | ⟨g,cap,cur,hv,hg,hh,hnc,_⟩
 ·exact ⟨none,0,by rw [hv,h0],by omega,⟨rfl,fun hn=>by omega⟩,fun a h=>by cases h⟩
 ·refine ⟨_,cap,hv,hnc,⟨rfl,fun _=>⟨g,0,rfl,(Array.getElem?_eq_some_iff.1 hh).1,fun i hi=>?_⟩⟩,fun a h=>by cases h;exact hg⟩
  have:=h.cells (g:=g) (by rw [hv];rfl) i (.int k (l.getD i 0:Nat)) (by simp [nums,List.getElem?_eq_getElem hi])
  have hadd:(⟨g,0,none⟩:Addr).add i=⟨g,0+i,none⟩:=by unfold Addr.add;split <;> simp_all
  rw [hadd] at this
  exact this
theorem OwnN.below {k:IntKind} {E:TypeId} {base:Nat} {w w':World} {v:Value} {l:List Nat} (h:OwnN k E base w v l) (hb:Below w.heap.size w w'):OwnN k E base w' v l:=by
 refine ⟨h.1,?_⟩
 rcases h.2 with h2 | ⟨g,cap,cur,hv,hg,hh,r⟩
 ·exact .inl h2
 ·exact .inr ⟨g,cap,cur,hv,hg,by rw [hb.block g (Array.getElem?_eq_some_iff.1 hh).1];exact hh,r⟩
theorem OwnN.more {k:IntKind} {E:TypeId} {base base':Nat} {w:World} {v:Value} {l:List Nat} (h:OwnN k E base w v l) (hb:base'≤base):OwnN k E base' w v l:=by
 refine ⟨h.1,?_⟩
 rcases h.2 with h2 | ⟨g,cap,cur,hv,hg,hh,r⟩
 ·exact .inl h2
 ·exact .inr ⟨g,cap,cur,hv,Nat.le_trans hb hg,hh,r⟩
theorem OwnN.block {k:IntKind} {E:TypeId} {base:Nat} {w:World} {v:Value} {l:List Nat} (h:OwnN k E base w v l) (h0:0<l.length):∃g cap cur,v=.slice (some ⟨g,0,none⟩) l.length cap∧base≤g∧w.heap[g]?=some (.cells cur E (0,0))∧l.length≤cap∧cur.size=cap∧cur.toList.take l.length=nums k l:=by
 unfold OwnN at h
 rcases h.2 with ⟨_,h1⟩ | ⟨g,cap,cur,hv,hg,hh,hnc,hcm,hcs,ht⟩
 ·omega
 ·exact ⟨g,cap,cur,hv,hg,hh,hnc,by simpa using hcs,by simpa using ht⟩
theorem OwnN.cut {k:IntKind} {E:TypeId} {base:Nat} {w:World} {A:Option Addr} {n cap m:Nat} {l:List Nat} (h:OwnN k E base w (.slice A n cap) l) (hm:m≤l.length):OwnN k E base w (.slice A m cap) (l.take m):=by
 have hlen:(l.take m).length=m:=by rw [List.length_take];omega
 unfold OwnN at h ⊢
 rw [hlen]
 refine ⟨by rw [nums_len,hlen];omega,?_⟩
 rcases h.2 with ⟨hv,h1⟩ | ⟨g,cap',cur,hv,hg,hh,hnc,hcm,hcs,ht⟩
 ·injection hv with e1 e2 e3
  subst e1;subst e3
  exact .inl ⟨by rw [show m=0 by omega],by omega⟩
 ·injection hv with e1 e2 e3
  subst e1;subst e3
  refine .inr ⟨g,cap,cur,rfl,hg,hh,by omega,hcm,hcs,?_⟩
  have:cur.toList.take (m * 1)=(cur.toList.take (l.length * 1)).take m:=by rw [List.take_take];congr 1;omega
  rw [this,ht]
  simp [nums,List.map_take]
theorem OwnN.set {k:IntKind} {E:TypeId} {base:Nat} {w:World} {g n cap i x:Nat} {l:List Nat} (h:OwnN k E base w (.slice (some ⟨g,0,none⟩) n cap) l) (hi:i<l.length) :
  OwnN k E base (w.setCell ⟨g,i,none⟩ (.int k (x:Int))) (.slice (some ⟨g,0,none⟩) n cap) (l.set i x):=by
 unfold OwnN at h ⊢
 rw [List.length_set]
 refine ⟨by rw [nums_len,List.length_set];omega,?_⟩
 rcases h.2 with ⟨hv,h1⟩ | ⟨g',cap',cur,hv,hg,hh,hnc,hcm,hcs,ht⟩
 ·omega
 ·injection hv with e1 e2 e3
  obtain rfl:g=g':=by simpa using e1
  subst e3
  refine .inr ⟨g,cap,cur.setIfInBounds i (.int k (x:Int)),by rw [e2],hg,?_,hnc,hcm,by simpa using hcs,?_⟩
  ·simp [World.setCell,Array.getElem?_modify,hh]
  ·rw [Array.toList_setIfInBounds,Nat.mul_one,List.take_set]
   rw [Nat.mul_one] at ht
   rw [ht]
   simp [nums,List.map_set]
end Go.Proofs.YtmbeicndhigklaaGreatDoor
namespace Go.Proofs.YtmbeicndhigklaaGreatDoor
open Lib (hid)
theorem val_take_succ (b:Nat) (l:List Nat) (k:Nat):val b (l.take (k+1))=val b (l.take k)+b ^ k * l.getD k 0:=by
 by_cases h:k<l.length
 ·rw [List.take_succ_eq_append_getElem h,val_append]
  simp only [List.length_take,Nat.min_eq_left (Nat.le_of_lt h),val,Nat.mul_zero,Nat.add_zero]
  rw [List.getD,List.getElem?_eq_getElem h];rfl
 ·rw [List.take_of_length_le (by omega),List.take_of_length_le (by omega),List.getD,List.getElem?_eq_none (by omega)]
  simp
def sumTo (s:Nat→Nat) (b:Nat):Nat→Nat
 | 0=>0
 | n+1=>sumTo s b n+b ^ n * s n
theorem sumTo_val (b:Nat) (l:List Nat) (n:Nat):sumTo (fun i=>l.getD i 0) b n=val b (l.take n):=by
 induction n with
 | zero=>simp [sumTo,val]
 | succ n ih=>rw [sumTo,ih,val_take_succ]
theorem val_split (b:Nat) (l:List Nat) (i:Nat):val b l=val b (l.take i)+b ^ (l.take i).length * val b (l.drop i):=by
 rw [←val_append,List.take_append_drop]
end Go.Proofs.YtmbeicndhigklaaGreatDoor
namespace Go.Proofs.YtmbeicndhigklaaGreatDoor
open Lib (hid)
open Go.RowKit
theorem info_u32:(Tryz.prog.info? 152).map (fun i=>(i.zero,i.size,i.bytes))=some (some (.int .u32 0),1,4):=by kernel_rfl
theorem trimL_step0 (l:List Nat) (m:Nat) (hm:m<l.length) (h:l.getD m 0=0):trimL (l.take (m+1))=trimL (l.take m):=by
 rw [List.take_succ_eq_append_getElem hm]
 rw [List.getD,List.getElem?_eq_getElem hm] at h
 simp at h
 rw [h,trimL_snoc_zero]
theorem trimL_step1 (l:List Nat) (m:Nat) (hm:m<l.length) (h:l.getD m 0≠0):trimL (l.take (m+1))=l.take (m+1):=by
 rw [List.take_succ_eq_append_getElem hm]
 rw [List.getD,List.getElem?_eq_getElem hm] at h
 exact trimL_snoc _ _ h
set_option maxHeartbeats 400000 in
set_option maxRecDepth 100000 in
theorem trim_any (A:Option Addr) (n cap:Nat) (l:List Nat) (w:World) (hR:RdN .u32 w A n l) (hc:n≤cap) (hn:n≤9223372036854775807) :
  Calls Tryz.prog 136 #[.slice A n cap] w fun e w'=>e=.returned (.slice A (trimL l).length cap)∧w=w':=by
 obtain ⟨hlen,hat⟩:=hR
 have HLEN:=hid hlen
 have HAT:=hid hat
 clear hlen hat
 go_enter Tryz.func136,Tryz.ntmps136
 go_wp2
 go_loop [0] (fun v=>∃m:Nat,m≤n∧v=.slice A m cap∧Hid (trimL (l.take m)=trimL l)) (fun v=>match v with | .slice _ m _=>m | _=>0)
 case atStart=>exact ⟨n,Nat.le_refl _,rfl,by show _ = _;rw [List.take_of_length_le (by rw [HLEN.out];omega)]⟩
 case round=>
  obtain ⟨m,hm,rfl,hv⟩:=hrel
  by_cases h0:m=0
  ·subst h0
   go_wp2
   go_ret
   exact ⟨by rw [←hv.out];rfl,rfl⟩
  ·obtain ⟨m,rfl⟩:∃k,m=k+1:=⟨m-1,by omega⟩
   obtain ⟨b,off,rfl,hbl,hcell⟩:=HAT.out (by omega)
   have c1:=hcell m (by omega)
   have H0:=hid (trimL_step0 l m (by rw [HLEN.out];omega))
   have H1:=hid (trimL_step1 l m (by rw [HLEN.out];omega))
   clear hcell
   generalize l.getD m 0=x at c1 H0 H1
   by_cases hx:x=0
   ·have hx':((x:Int)==0)=true:=by rw [hx];rfl
    have HX:=hid hx
    clear hx
    go_wp2
    go_round
    case rel=>exact ⟨m,by omega,rfl,by show _ = _;rw [←H0.out HX.out];exact hv.out⟩
    case measure=>simp
   ·have hx':((x:Int)==0)=false:=by simp;omega
    have HX:=hid hx
    clear hx
    go_wp2
    go_ret
    refine ⟨?_,rfl⟩
    have h2:=hv.out
    rw [H1.out HX.out] at h2
    have h3:(trimL l).length=m+1:=by rw [←h2,List.length_take,HLEN.out];omega
    rw [h3];rfl
theorem OwnN.trim {k:IntKind} {E:TypeId} {base:Nat} {w:World} {A:Option Addr} {n cap:Nat} {l:List Nat} (h:OwnN k E base w (.slice A n cap) l):OwnN k E base w (.slice A (trimL l).length cap) (trimL l):=by
 obtain ⟨m,hm,e⟩:=trimL_take l
 have:=h.cut hm
 rw [e,List.length_take,Nat.min_eq_left hm]
 exact this
def IsNum (x:Nat) (w w':World) (e:Ending):Prop:=∃v,e=.returned v∧OwnN .u32 152 w.heap.size w' v (digs 1000000000 x)∧Below w.heap.size w w'
end Go.Proofs.YtmbeicndhigklaaGreatDoor
namespace Go.Proofs.YtmbeicndhigklaaGreatDoor
open Lib (hid)
open Go.RowKit
theorem make_u32 (n c:Nat) (hnc:n≤c) (hc:c≤35184372088832) (u:World):(Instr.makeSlice 91 (.int .i64 (n:Int)) (.int .i64 (c:Int))).run Tryz.prog u=.ok (.slice (some ⟨u.heap.size,0,none⟩) n c) (u.alloc (.cells (madeCells #[.int .u32 0] c) 152)):=by
 obtain ⟨i0,hi,hz0,hz1,hz2⟩:=info_parts info_u32
 have h:=run_make (P:=Tryz.prog) u 91 152 i0 (.int .u32 0) Tryz.underlying91 hi hz0 .i64 .i64 (n:Int) (c:Int) (by omega) (by omega) (by rw [hz2];omega) (by omega)
 simpa [hz1,Value.cells] using h
theorem cell_new (w:World) (v:Value) (E:TypeId):(w.alloc (.cells #[v] E)).cell? ⟨w.heap.size,0,none⟩=some v:=cell_one_new w v E 0 v rfl
theorem below_alloc0 (w:World) (o:Obj):Below w.heap.size w (w.alloc o):=(Below.refl _ w).alloc (Nat.le_refl _) _
theorem IsNum.from_ {x:Nat} {w u w':World} {e:Ending} (h:IsNum x u w' e) (hb:Below w.heap.size w u):IsNum x w w' e:=by
 obtain ⟨v,he,hown,hb'⟩:=h
 exact ⟨v,he,hown.more hb.size,hb.trans (hb'.mono hb.size)⟩
theorem getD_lt {B:Nat} (hB:0<B) {l:List Nat} (h:∀x∈l,x<B) (i:Nat):l.getD i 0<B:=by
 rw [List.getD]
 cases e:l[i]? with
 | none=>exact hB
 | some x=>exact h x (List.mem_of_getElem? e)
end Go.Proofs.YtmbeicndhigklaaGreatDoor
namespace Go.Proofs.YtmbeicndhigklaaGreatDoor
open Lib (hid)
open Go.RowKit
theorem carry_step (X q S c s m:Nat) (h:X+q * c=S):X+q * ((c+s) % m)+q * m * ((c+s) / m)=S+q * s:=by
 have h1:q * ((c+s) % m)+q * m * ((c+s) / m)=q * (c+s):=by
  rw [Nat.mul_assoc,←Nat.mul_add,Nat.mod_add_div]
 have h2:q * (c+s)=q * c+q * s:=Nat.mul_add ..
 omega
def Car (s:Nat→Nat) (k c:Nat) (acc:List Nat):Prop:=acc.length=k∧(∀x∈acc,x<1000000000)∧val 1000000000 acc+1000000000 ^ k * c=sumTo s 1000000000 k
theorem Car.step {s:Nat→Nat} {k c:Nat} {acc:List Nat} (h:Car s k c acc):Car s (k+1) ((c+s k) / 1000000000) (acc++[(c+s k) % 1000000000]):=by
 obtain ⟨h1,h2,h3⟩:=h
 refine ⟨by simp [h1],?_,?_⟩
 ·intro x hx
  rw [List.mem_append] at hx
  rcases hx with hx | hx
  ·exact h2 x hx
  ·simp at hx;subst hx;exact Nat.mod_lt _ (by omega)
 ·rw [val_snoc,h1,sumTo,Nat.pow_succ]
  exact carry_step _ _ _ _ _ _ h3
def Car2 (S c:Nat) (acc:List Nat):Prop:=(∀x∈acc,x<1000000000)∧val 1000000000 acc+1000000000 ^ acc.length * c=S
theorem Car2.step {S c:Nat} {acc:List Nat} (h:Car2 S c acc):Car2 S (c / 1000000000) (acc++[c % 1000000000]):=by
 obtain ⟨h2,h3⟩:=h
 refine ⟨?_,?_⟩
 ·intro x hx
  rw [List.mem_append] at hx
  rcases hx with hx | hx
  ·exact h2 x hx
  ·simp at hx;subst hx;exact Nat.mod_lt _ (by omega)
 ·rw [val_snoc,List.length_append,List.length_singleton,Nat.pow_succ]
  have:=carry_step (val 1000000000 acc) (1000000000 ^ acc.length) S c 0 1000000000 h3
  simpa using this
theorem Car.two {s:Nat→Nat} {k c:Nat} {acc:List Nat} (h:Car s k c acc):Car2 (sumTo s 1000000000 k) c acc:=⟨h.2.1,by rw [h.1];exact h.2.2⟩
theorem Car2.done {S:Nat} {acc:List Nat} (h:Car2 S 0 acc):trimL acc=digs 1000000000 S:=by
 have:=h.2
 rw [Nat.mul_zero,Nat.add_zero] at this
 rw [←this]
 exact trimL_digs _ (by omega) _ h.1
theorem OwnN.snoc_of {k:IntKind} {E:TypeId} {base m:Nat} {w:World} {v:Value} {l:List Nat} {x:Nat} (h:w.ownsRow base E 1 v (m+1) (nums k l++[.int k (x:Int)])) (hm:m=l.length):OwnN k E base w v (l++[x]):=by
 unfold OwnN
 rw [←nums_append,List.length_append]
 subst hm
 exact h
set_option maxHeartbeats 1000000 in
set_option maxRecDepth 100000 in
theorem carried_any (n:Nat) (K:FuncId) (caps:Array Value) (s:Nat→Nat) (w:World) (hn:n≤1099511627776)
  (eK:∀args w,(callFunc K args).run Tryz.prog w=.ok (.enter K args) w)
  (hs:∀i,i<n→s i<18446744073709551616∧(0<i→s i≤9223372036854775808))
  (hK:∀(w':World) (i:Nat),i<n→Below w.heap.size w w'→Calls Tryz.prog K (#[.int .i64 i]++caps) w' fun e w2=>e=.returned (.int .u64 (s i:Nat))∧Below w'.heap.size w' w2) :
  Calls Tryz.prog 163 #[.int .i64 n,.func (.func K) #[] caps] w fun e w'=>IsNum (sumTo s 1000000000 n) w w' e:=by
 obtain ⟨i0,hi,hz0,hz1,hz2⟩:=info_parts info_u32
 have HS:=hid hs
 have HK:=hid hK
 have EK:=hid eK
 clear hs hK eK
 obtain ⟨wm,hmk,hownm,hgrm⟩:=run_make_own (P:=Tryz.prog) w w.heap.size 91 152 i0 (.int .u32 0) 1 Tryz.underlying91 hi hz0 hz1 .i64 .i64 (n+2) (by rw [hz2];omega) (by unfold maxLen;omega) (Nat.le_refl _)
 have hbm:Below w.heap.size w wm:=(Below.refl _ w).grown hgrm (Nat.le_refl _) (fun j hj=>by cases hj)
 simp only [Int.natCast_add,Int.cast_ofNat_Int] at hmk
 have hszm:=hbm.size
 go_enter Tryz.func163,Tryz.ntmps163
 go_wp2
 go_loopw [5,6,12] (fun v cv a wr=>∃(k c:Nat) (acc:List Nat),k≤n∧a=.int .i64 k∧cv=.int .u64 c∧c≤18446744073∧(k=0→c=0)∧OwnN .u32 152 w.heap.size wr v acc∧acc.length=k∧Hid (Car s k c acc)∧Below w.heap.size w wr) (fun _ _ a _=>n-(intOf a).toNat)
 case atStart=>exact ⟨0,0,[],Nat.zero_le _,rfl,rfl,by omega,fun _=>rfl,hownm,rfl,⟨rfl,by simp,by simp [val,sumTo]⟩,hbm⟩
 case round=>
  obtain ⟨k,c,acc,hk,rfl,rfl,hc,hc0,hown,hal,hcar,hb⟩:=hrel
  have hsz0:=hb.size
  by_cases hlt:k<n
  ·have hs2:=HS.out k hlt
   have hsum:c+s k<18446744073709551616:=by
    by_cases h0:k=0
    ·have:=hc0 h0;omega
    ·have:=hs2.2 (by omega);omega
   have HC:=hid hcar.out.step
   have HK1:=hid (HK.out wr k hlt hb)
   have e1:=EK.out
   generalize s k=x at hs2 hsum HC HK1
   go_wp2_with (go_at_fn K;refine HK1.out.mono ?_)
   rintro e w1 ⟨rfl,hb1⟩
   have hsz1:=hb1.size
   have hown1:=hown.below hb1
   go_wp2_with (at_builtin;refine wpList_append_own _ rfl _ _ 91 rfl w.heap.size 152 i0 (.int .u32 0) 1 4 Tryz.underlying91 hi hz0 hz1 hz2 rfl (by decide) _ _ _ rfl (hown1.alloc _) ⟨w1.heap.size,0,none⟩ 1 1 [.int .u32 (((c:Int)+x) % 1000000000)] rfl rfl ?c1 ?c2 ?c3 ?c4 ?c5 ?_)
   case c1=>exact cell_one_new _ _ _
   case c2=>intro u hu;simp at hu;subst hu;rfl
   case c3=>unfold maxLen;omega
   case c4=>omega
   case c5=>simp;omega
   intro v' w2 hown' hgrow _
   go_wp2
   go_roundw
   case rel=>
    refine ⟨k+1,(c+x) / 1000000000,acc++[(c+x) % 1000000000],by omega,by go_num,by go_num,by omega,by omega,?_,by simp [hal],HC.out,?_⟩
    ·have hy:((c:Int)+x) % 1000000000=(((c+x) % 1000000000:Nat):Int):=by omega
     rw [hy] at hown'
     exact OwnN.snoc_of hown' (by omega)
    ·exact ((hb.trans (hb1.mono hb.size)).alloc (by omega) _).grown hgrow (by simp;omega) (fun j hj=>(hown1.lt j hj).1)
   case measure=>simp [intOf];omega
  ·have hkn:k=n:=by omega
   subst hkn
   have hcar2:=hid hcar.out.two
   clear hcar
   go_wp2
   go_loopw [5,6] (fun v cv wr=>∃(c:Nat) (acc:List Nat),cv=.int .u64 c∧(c≤18446744073∧acc.length=k∨c≤18∧acc.length=k+1∨c=0∧acc.length=k+2)∧OwnN .u32 152 w.heap.size wr v acc∧Hid (Car2 (sumTo s 1000000000 k) c acc)∧Below w.heap.size w wr) (fun _ cv _=>(intOf cv).toNat)
   case atStart=>exact ⟨c,acc,rfl,.inl ⟨hc,hal⟩,hown,hcar2,hb⟩
   case round=>
    clear hown hal hcar2 hc hc0 hb
    obtain ⟨c,acc,rfl,hc,hown,hcar,hb⟩:=hrel
    have hsz2:=hb.size
    by_cases h0:0<c
    ·have HC:=hid hcar.out.step
     have hlen:acc.length≤k+2:=by omega
     go_wp2_with (at_builtin;refine wpList_append_own _ rfl _ _ 91 rfl w.heap.size 152 i0 (.int .u32 0) 1 4 Tryz.underlying91 hi hz0 hz1 hz2 rfl (by decide) _ _ _ rfl (hown.alloc _) ⟨_,0,none⟩ 1 1 [.int .u32 ((c:Int) % 1000000000)] rfl rfl ?c1 ?c2 ?c3 ?c4 ?c5 ?_)
     case c1=>exact cell_one_new _ _ _
     case c2=>intro u hu;simp at hu;subst hu;rfl
     case c3=>unfold maxLen;omega
     case c4=>omega
     case c5=>simp;omega
     intro v' w2 hown' hgrow _
     go_wp2
     go_roundw
     case rel=>
      refine ⟨c / 1000000000,acc++[c % 1000000000],by go_num,by simp;omega,?_,HC.out,?_⟩
      ·have hy:(c:Int) % 1000000000=((c % 1000000000:Nat):Int):=by omega
       rw [hy] at hown'
       exact OwnN.snoc_of hown' (by omega)
      ·exact (hb.alloc (by omega) _).grown hgrow (by simp;omega) (fun j hj=>(hown.lt j hj).1)
     case measure=>simp [intOf];omega
    ·obtain rfl:c=0:=by omega
     have HT:=hid hcar.out.done
     obtain ⟨A,cap,rfl,hcap,hrd,hge⟩:=hown.rd
     have K1:=hid (trim_any A acc.length cap acc _ hrd hcap (by omega))
     go_wp2_with (go_at_call 136;refine K1.out.mono ?_)
     go_ret
     refine ⟨_,rfl,?_,hb⟩
     have:=hown.trim
     rw [HT.out] at this
     rw [HT.out]
     exact this
end Go.Proofs.YtmbeicndhigklaaGreatDoor
namespace Go.Proofs.YtmbeicndhigklaaGreatDoor
open Lib (hid)
open Go.RowKit
theorem enters52:∀args w,(callFunc 164 args).run Tryz.prog w=.ok (.enter 164 args) w:=enters_of Tryz.func164 (by kernel_rfl) rfl
set_option maxHeartbeats 400000 in
set_option maxRecDepth 100000 in
theorem norm1_any (A:Option Addr) (n cap:Nat) (l:List Nat) (b i:Nat) (w:World) (hR:RdN .u32 w A n l) (hi:i<n) (hn:n≤9223372036854775807) (hx:l.getD i 0<4294967296) (hb:w.cell? ⟨b,0,none⟩=some (.slice A n cap)) :
  Calls Tryz.prog 164 #[.int .i64 i,.pointer (some ⟨b,0,none⟩)] w fun e w'=>e=.returned (.int .u64 (l.getD i 0:Nat))∧Below w.heap.size w w':=by
 obtain ⟨hlen,hat⟩:=hR
 obtain ⟨b0,off,rfl,hbl,hcell⟩:=hat (by omega)
 have c1:=hcell i hi
 clear hcell hat hlen
 generalize l.getD i 0=x at c1 hx
 have hx':(x:Int)<4294967296:=by omega
 go_enter Tryz.func164,Tryz.ntmps164
 go_wp2
 go_ret
 exact ⟨rfl,Below.refl _ _⟩
set_option maxHeartbeats 400000 in
set_option maxRecDepth 100000 in
theorem norm_any (A:Option Addr) (n cap:Nat) (l:List Nat) (w:World) (hR:RdN .u32 w A n l) (hn:n≤1099511627776) (hl:∀x∈l,x<4294967296) :
  Calls Tryz.prog 137 #[.slice A n cap] w fun e w'=>IsNum (val 1000000000 l) w w' e:=by
 have hlen:=hR.1
 have HV:=hid (show sumTo (fun i=>l.getD i 0) 1000000000 n=val 1000000000 l by rw [sumTo_val,←hlen,List.take_length])
 have k1:=carried_any n 164 #[.pointer (some ⟨w.heap.size,0,none⟩)] (fun i=>l.getD i 0) (w.alloc (.cells #[.slice A n cap] 91)) hn enters52 (fun i _=>by have:=getD_lt (by omega) hl i;omega)
  (fun w' i hi hb'=>norm1_any A n cap l w.heap.size i w' (hR.below ((below_alloc0 w _).trans (hb'.mono (by simp)))) hi (by omega) (getD_lt (by omega) hl i) ((hb'.cell (p:=⟨w.heap.size,0,none⟩) (by simp)).trans (cell_new _ _ _)))
 have K1:=hid k1
 clear k1 hl hR hlen
 go_enter Tryz.func137,Tryz.ntmps137
 go_wp2_with (go_at_call 163;refine K1.out.mono ?_)
 rintro e w1 ⟨v,rfl,hown,hb⟩
 go_wp2
 go_ret
 have h:IsNum (val 1000000000 l) _ w1 (.returned v):=⟨v,rfl,HV.out▸hown,hb⟩
 exact h.from_ (below_alloc0 _ _)
end Go.Proofs.YtmbeicndhigklaaGreatDoor
namespace Go.Proofs.YtmbeicndhigklaaGreatDoor
open Lib (hid)
open Go.RowKit
theorem digs_u32 (x:Nat):∀y∈digs 1000000000 x,y<4294967296:=fun y hy=>by have:=digs_lt 1000000000 (by omega) x y hy;omega
theorem val_u32 (l:List Nat) (hl:∀x∈l,x<4294967296):val 1000000000 l+5≤5 * 1000000000 ^ l.length:=by
 induction l with
 | nil=>simp [val]
 | cons x l ih=>
  have h1:=hl x (by simp)
  have h2:=ih (fun y hy=>hl y (by simp [hy]))
  simp only [val,List.length_cons,Nat.pow_succ]
  generalize 1000000000 ^ l.length=q at h2
  generalize val 1000000000 l=v at h2
  omega
theorem digs_val_len (l:List Nat) (hl:∀x∈l,x<4294967296):(digs 1000000000 (val 1000000000 l)).length≤l.length+1:=by
 rw [←digs_len 1000000000 (by omega)]
 have:=val_u32 l hl
 rw [Nat.pow_succ]
 generalize 1000000000 ^ l.length=q at this
 omega
theorem OwnN.made (n:Nat) (w:World) (hn:n≤maxLen):OwnN .u32 152 w.heap.size (w.alloc (.cells (madeCells #[.int .u32 0] n) 152)) (.slice (some ⟨w.heap.size,0,none⟩) n n) (List.replicate n 0):=by
 unfold OwnN
 rw [List.length_replicate]
 refine ⟨by simp [nums],.inr ⟨w.heap.size,n,madeCells #[.int .u32 0] n,rfl,Nat.le_refl _,by rw [World.alloc];exact Array.getElem?_push_size,Nat.le_refl _,hn,by simp [madeCells],?_⟩⟩
 apply List.ext_getElem
 ·simp [nums,madeCells]
 ·intro i h1 h2
  simp [nums,madeCells,Nat.mod_one]
end Go.Proofs.YtmbeicndhigklaaGreatDoor
namespace Go.Proofs.YtmbeicndhigklaaGreatDoor
open Lib (hid)
open Go.RowKit
theorem OwnN.cellAt {k:IntKind} {E:TypeId} {base g n cap i:Nat} {w:World} {l:List Nat} (h:OwnN k E base w (.slice (some ⟨g,0,none⟩) n cap) l) (hi:i<l.length):w.cell? ⟨g,i,none⟩=some (.int k (l.getD i 0:Nat))∧w.frozen? ⟨g,i,none⟩=false:=by
 obtain ⟨g',cap',cur,hv,hg,hh,h1,h2,h3⟩:=h.block (by omega)
 obtain ⟨A,cap2,hv2,_,hrd,_⟩:=h.rd
 injection hv with e1 _ _
 injection hv2 with e2 _ _
 subst e2
 obtain rfl:g=g':=by simpa using e1
 obtain ⟨b,off,e3,_,hc⟩:=hrd.2 (by omega)
 have:=hc i hi
 simp at e3
 obtain ⟨rfl,rfl⟩:=e3
 rw [Nat.zero_add] at this
 exact ⟨this,by simp [World.frozen?,hh]⟩
end Go.Proofs.YtmbeicndhigklaaGreatDoor
