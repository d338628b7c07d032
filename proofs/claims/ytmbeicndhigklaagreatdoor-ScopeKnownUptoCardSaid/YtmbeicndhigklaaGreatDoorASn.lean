/-
  The memory of package scope's finder of names (chapter 17).
  The walks of package scope's small parts: has, with, function (chapter 17).
  The walks of package scope's uses and variables (chapter 17).
  The walk of package scope's all, the node's being given (chapter 17).
  The walk of package scope's node, kind by kind (chapter 17): printed by gen_sco.py.
  The walk of package scope's def, the node's being given (chapter 17).
  The walks of package scope's node (the knot), Free and Check (chapter 17).
-/
import Derived.Test.YtmbeicndhigklaaGreatDoorASs
import Derived.Test.YtmbeicndhigklaaGreatDoorASh
import Derived.Test.YtmbeicndhigklaaGreatDoorShelf
import Derived.Maps.AppendAt
namespace Go.Proofs.YtmbeicndhigklaaGreatDoor
open Go.RowKit
abbrev TBn:TypeId:=89
abbrev TFi:TypeId:=46
abbrev TSt:TypeId:=9
inductive BL (w:World):Value→List (List UInt8)→Prop where
 | nil:BL w (.pointer none) []
 | cons {g:Nat} {s:List UInt8} {v:Value} {l:List (List UInt8)}:w.heap[g]?=some (.cells #[.string ⟨s.toArray⟩,v] TBn (0,0))→BL w v l→BL w (.pointer (some ⟨g,0,none⟩)) (s::l)
structure FK (B:Nat) (w w':World):Prop where
 below:Below B w w'
 keep:∀(k:Nat) c T z,w.heap[k]?=some (.cells c T z)→T≠TFi→T≠TSt→w'.heap[k]?=some (.cells c T z)
theorem FK.refl (B:Nat) (w:World):FK B w w:=⟨Below.refl _ _,fun _ _ _ _ h _ _=>h⟩
theorem FK.trans {B:Nat} {a b c:World} (h:FK B a b) (k:FK B b c):FK B a c:=
 ⟨h.below.trans k.below,fun i s T z hi h1 h2=>k.keep i s T z (h.keep i s T z hi h1 h2) h1 h2⟩
theorem FK.of {B:Nat} {w w':World} (hb:Below w.heap.size w w') (hB:B≤w.heap.size):FK B w w':=
 ⟨hb.mono hB,fun i _ _ _ hi _ _=>(hb.block i (Array.getElem?_eq_some_iff.1 hi).1).trans hi⟩
theorem BL.kept {B:Nat} {w w':World} (h:FK B w w') {v:Value} {l:List (List UInt8)} (hl:BL w v l):BL w' v l:=by
 induction hl with
 | nil=>exact .nil
 | cons h1 _ ih=>exact .cons (h.keep _ _ _ _ h1 (by decide) (by decide)) ih
theorem BL.under {w w':World} (h:Below w.heap.size w w') {v:Value} {l:List (List UInt8)} (hl:BL w v l):BL w' v l:=hl.kept (FK.of h (Nat.le_refl _))
structure FS (B:Nat) (w:World) (F:Nat) (l:List (List UInt8)) (v:Value):Prop where
 cell:w.heap[F]?=some (.cells #[v] TFi (0,0))
 own:w.ownsRow B TSt 1 v l.length (strB l)
 le:B≤F
theorem FS.below {B:Nat} {w w':World} (h:Below w.heap.size w w') {F:Nat} {l:List (List UInt8)} {v:Value} (hs:FS B w F l v):FS B w' F l v:=
 ⟨(h.block F (Array.getElem?_eq_some_iff.1 hs.cell).1).trans hs.cell,own_below hs.own h,hs.le⟩
theorem FS.row {B:Nat} {w:World} {F:Nat} {l:List (List UInt8)} {v:Value} (hs:FS B w F l v) (k:Nat) (hk:v.ownBlock=some k):B≤k∧∃c z,w.heap[k]?=some (.cells c TSt z):=by
 rcases hs.own.2 with ⟨rfl,_⟩ | ⟨g,cap,cur,rfl,h1,h2,_⟩
 ·cases hk
 ·have:g=k:=by simpa [Value.ownBlock] using hk
  subst this
  exact ⟨h1,_,_,h2⟩
theorem FS.gcell {B:Nat} {w w':World} {F:Nat} {l:List (List UInt8)} {v:Value} (hs:FS B w F l v) (hg:w.grownBy w' v.ownBlock):w'.heap[F]?=some (.cells #[v] TFi (0,0)):=
 (hg.block F (Array.getElem?_eq_some_iff.1 hs.cell).1 (fun e=>by
  obtain ⟨_,c,z,h⟩:=hs.row F e.symm
  rw [hs.cell] at h
  injection h with h
  injection h with _ h _
  exact absurd h (by decide))).trans hs.cell
theorem FS.cells {w:World} {F:Nat} {v:Value} (h:w.heap[F]?=some (.cells #[v] TFi (0,0))):w.cell? ⟨F,0,none⟩=some v∧w.frozen? ⟨F,0,none⟩=false:=
 ⟨by rw [Lib.cell_of_heap h];rfl,by unfold World.frozen?;rw [h];rfl⟩
theorem FS.put {B:Nat} {w w':World} {F:Nat} {l m:List (List UInt8)} {v v':Value} (hs:FS B w F l v) (hB:B≤w.heap.size) (hg:w.grownBy w' v.ownBlock) (ho:w'.ownsRow B TSt 1 v' m.length (strB m)) :
  FK B w (w'.setCell ⟨F,0,none⟩ v')∧FS B (w'.setCell ⟨F,0,none⟩ v') F m v':=by
 have hrow:=hs.row
 have hcell:w'.heap[F]?=some (.cells #[v] TFi (0,0)):=hs.gcell hg
 have hset:∀k,k≠F→(w'.setCell ⟨F,0,none⟩ v').heap[k]?=w'.heap[k]?:=fun k hk=>by
  simp only [World.setCell,Array.getElem?_modify]
  rw [if_neg (Ne.symm hk)]
 have hnew:(w'.setCell ⟨F,0,none⟩ v').heap[F]?=some (.cells #[v'] TFi (0,0)):=by
  simp only [World.setCell,Array.getElem?_modify,if_pos]
  rw [hcell]
  rfl
 have hb:Below B w w':=(Below.refl B w).grown hg hB (fun k hk=>(hrow k hk).1)
 refine ⟨⟨⟨hb.os,hb.tape,hb.output,by simp only [World.setCell,Array.size_modify];exact hb.size,fun k hk=>?_⟩,fun k c T z hk h1 h2=>?_⟩,hnew,?_,hs.le⟩
 ·rw [hset k (by have:=hs.le;omega)];exact hb.block k hk
 ·have hkF:k≠F:=fun e=>by
   rw [e,hs.cell] at hk
   injection hk with hk
   injection hk with _ hk _
   exact h1 hk.symm
  rw [hset k hkF,hg.block k (Array.getElem?_eq_some_iff.1 hk).1 (fun e=>?_)]
  ·exact hk
  ·obtain ⟨_,c',z',h⟩:=hrow k e.symm
   rw [hk] at h
   injection h with h
   injection h with _ h _
   exact h2 h
 ·refine ⟨ho.1,ho.2.imp id ?_⟩
  rintro ⟨g,cap,cur,h1,h2,h3,h4⟩
  refine ⟨g,cap,cur,h1,h2,?_,h4⟩
  rw [hset g (fun e=>?_)]
  ·exact h3
  ·rw [e,hcell] at h3
   injection h3 with h3
   injection h3 with _ h3 _
   exact absurd h3 (by decide)
theorem YT.row {w:World} {t:Ny} {A:Option Addr} {c:Nat} (h:YT w t A c) (hne:t.kids≠[]):∃q o,A=some ⟨q,o,none⟩∧q<w.heap.size∧∀i k,t.kids[i]?=some k→∃A' c',YT w k A' c'∧∀W,Below w.heap.size w W→W.cell? ⟨q,o+i * 3,none⟩=some (.int .i64 k.kind)∧W.cell? ⟨q,o+i * 3+1,none⟩=some (.string ⟨k.text.toArray⟩)∧W.cell? ⟨q,o+i * 3+2,none⟩=some (.slice A' k.kids.length c'):=by
 obtain ⟨q,o,cap,e,_,_,_,hq,hv⟩:=h.view hne
 injection e with e _ _
 refine ⟨q,o,e,hq,fun i k hi=>?_⟩
 obtain ⟨A',c',r,k1⟩:=hv i k hi
 obtain ⟨e0,e1,e2⟩:=y_at r
 exact ⟨A',c',k1,fun W hb=>⟨(World.cell?_of_block (hb.block q hq)).trans e0,(World.cell?_of_block (hb.block q hq)).trans e1,(World.cell?_of_block (hb.block q hq)).trans e2⟩⟩
theorem BL.ptr {w:World} {v:Value} {l:List (List UInt8)} (h:BL w v l):∃p,v=.pointer p:=by
 cases h with
 | nil=>exact ⟨_,rfl⟩
 | cons _ _=>exact ⟨_,rfl⟩
theorem BL.cells {w:World} {g:Nat} {s:List UInt8} {v:Value} (h:w.heap[g]?=some (.cells #[.string ⟨s.toArray⟩,v] TBn (0,0))):w.cell? ⟨g,0,none⟩=some (.string ⟨s.toArray⟩)∧w.cell? ⟨g,1,none⟩=some v:=by
 exact ⟨by rw [Lib.cell_of_heap h];rfl,by rw [Lib.cell_of_heap h];rfl⟩
set_option maxHeartbeats 1000000 in
theorem scHas_any (name:List UInt8) (bl:List (List UInt8)) (bv:Value) (w:World) (h:BL w bv bl) :
  Calls Tryz.prog 61 #[bv,.string ⟨name.toArray⟩] w (RetY (.bool (bl.contains name)) fun w'=>w=w'):=by
 obtain ⟨b,hb⟩:∃b,b=bl.contains name:=⟨_,rfl⟩
 rw [←hb]
 have HB:=Lib.hid hb
 have H1:=Lib.hid h
 clear hb h
 generalize hN:bl.length+1=N at *
 have HN:=Lib.hid hN
 clear hN
 go_enter Tryz.func61,Tryz.ntmps61
 go_wp2
 go_loopg [0] N (fun kx v0 wr=>∃l,Hid (BL w v0 l)∧l.length≤kx∧Hid (b=l.contains name)∧w=wr)
 case atStart=>exact ⟨bl,H1,by have:=HN.out;omega,HB,rfl⟩
 case round=>
  obtain ⟨l,h1,hk,hrel,rfl⟩:=hrel
  rcases h1.out with _ | ⟨hg,hl⟩
  ·have hme:b=false:=by rw [hrel.out];rfl
   clear hrel
   subst hme
   go_wp2
   go_ret
   exact ⟨rfl,rfl⟩
  ·rename_i g s v' l'
   have hst:b=(name==s||l'.contains name):=by rw [hrel.out,List.contains_cons]
   obtain ⟨c0,c1⟩:=BL.cells hg
   have HL:=Lib.hid hl
   have HST:=Lib.hid hst
   clear hrel hst hg hl h1
   by_cases hs:s=name
   ·have e1:(s==name)=true:=beq_iff_eq.2 hs
    have hb:b=true:=by rw [HST.out,hs];simp
    clear HST hs
    subst hb
    go_wp2
    go_ret
    exact ⟨rfl,rfl⟩
   ·have e1:(s==name)=false:=beq_eq_false_iff_ne.2 hs
    have hb:b=l'.contains name:=by rw [HST.out,beq_eq_false_iff_ne.2 (Ne.symm hs),Bool.false_or]
    have HB2:=Lib.hid hb
    clear HST hs hb
    go_wp2
    go_roundg l'.length
    case measure=>simp only [List.length_cons] at hk;omega
    case rel=>exact ⟨l',HL,Nat.le_refl _,HB2,rfl⟩
def WiR (l:List (List UInt8)) (w:World) (e:Ending) (w':World):Prop:=∃v,e=.returned v∧BL w' v l∧Below w.heap.size w w'
theorem StrV.below {w w':World} {A:Option Addr} {cap:Nat} {xs:List (List UInt8)} (h:StrV w A cap xs) (hb:Below w.heap.size w w'):StrV w' A cap xs:=
 ⟨h.1,fun hne=>by
  obtain ⟨g,h1,h2,h3⟩:=h.2 hne
  exact ⟨g,h1,Nat.lt_of_lt_of_le h2 hb.size,fun j x hj=>(World.cell?_of_block (hb.block g h2)).trans (h3 j x hj)⟩⟩
set_option maxHeartbeats 1000000 in
theorem scWith_any (names bl:List (List UInt8)) (bv:Value) (A:Option Addr) (cap:Nat) (w:World) (h:BL w bv bl) (hv:StrV w A cap names) (hn:names.length≤1099511627776) :
  Calls Tryz.prog 33 #[bv,.slice A names.length cap] w (WiR (names.reverse++bl) w):=by
 have H1:=Lib.hid h
 have HV:=Lib.hid hv
 clear h hv
 obtain ⟨R,hR⟩:∃R,R=names.reverse++bl:=⟨_,rfl⟩
 rw [←hR]
 have HR:=Lib.hid hR
 clear hR
 generalize hnl:names.length=n at *
 have HN:=Lib.hid hnl
 clear hnl
 go_enter Tryz.func33,Tryz.ntmps33
 go_wp2
 go_loopg [0,6,9] (n+1) (fun kx v0 _ v9 wr=>∃i:Nat,v9=.int .i64 (i:Int)∧i≤n∧n-i≤kx∧Hid (BL wr v0 ((names.take i).reverse++bl))∧Below w.heap.size w wr)
 case atStart=>exact ⟨0,rfl,Nat.zero_le _,by omega,H1,Below.refl _ _⟩
 case round=>
  obtain ⟨i,rfl,hi,hik,hrel,hb⟩:=hrel
  have HB:=Lib.hid hb
  clear hb
  by_cases hlt:i<n
  ·have hlt':i<names.length:=by rw [HN.out];exact hlt
   obtain ⟨x,hx⟩:∃x,names[i]?=some x:=⟨_,List.getElem?_eq_getElem hlt'⟩
   have hne:names≠[]:=fun e=>by rw [e] at hlt';simp at hlt'
   obtain ⟨g,rfl,_,hc⟩:=(HV.out.below HB.out).2 hne
   have c0:=hc i x hx
   have HX:=Lib.hid hx
   have HO:=Lib.hid hrel.out
   obtain ⟨p,rfl⟩:=hrel.out.ptr
   clear hc hx hne hlt' hrel
   go_wp2
   go_roundg (n-(i+1))
   case measure=>omega
   case rel=>
    refine ⟨i+1,by go_num,by omega,Nat.le_refl _,Lib.hid ?_,HB.out.alloc HB.out.size _⟩
    rw [List.take_add_one,HX.out]
    simp only [Option.toList_some,List.reverse_append,List.reverse_cons,List.reverse_nil,List.nil_append,List.cons_append]
    exact .cons (Go.heap_alloc_new _ _) (HO.out.under ((Below.refl _ _).alloc (Nat.le_refl _) _))
  ·have hme:i=n:=by omega
   have ho:=hrel.out
   rw [List.take_of_length_le (by rw [HN.out];omega),←HR.out] at ho
   have HO:=Lib.hid ho
   clear hrel ho
   go_wp2
   go_ret
   exact ⟨_,rfl,HO.out,HB.out⟩
set_option maxHeartbeats 1000000 in
theorem scFun_any (name:List UInt8) (n:Nat) (hx:TF name) (hn:n≤1099511627776) (w:World) (hT:Tb w) :
  Calls Tryz.prog 31 #[.string ⟨name.toArray⟩,.int .i64 (n:Int)] w (RetY (.string ⟨(fnN name n).toArray⟩) fun w'=>Below w.heap.size w w'):=by
 have K:=Lib.hid (Tryz.strconv_Itoa (n:Int) (by omega) (by omega) w hT.n)
 have hit:Lib.itoa (n:Int)=Lib.decDigits n:=by unfold Lib.itoa;rw [if_neg (by omega)];rfl
 rw [hit] at K
 have hd:(Lib.decDigits n).length≤20:=by
  rw [Lib.decDigits_length]
  rcases Nat.eq_zero_or_pos n with rfl | h1
  ·rw [Lib.nDigits_small (by omega)];omega
  ·have:=Lib.numDigits_eq n h1 (by omega)
   split at this <;> omega
 have hr:fnN name n=name++47::Lib.decDigits n:=rfl
 rw [hr]
 clear hr hit hT
 generalize Lib.decDigits n=d at *
 go_enter Tryz.func31,Tryz.ntmps31
 go_wp2_with (go_at_call 62;refine K.out.mono ?_)
 rintro e w1 ⟨rfl,k,os,rfl⟩
 go_wp2
 go_ret
 exact ⟨by first | rfl | (refine congrArg (fun z=>Ending.returned (Value.string z)) (ByteArray.ext ?_);simp),below_grown_sl w.heap.size w k os (Nat.le_refl _)⟩
theorem strB_append (a b:List (List UInt8)):strB (a++b)=strB a++strB b:=List.map_append ..
theorem strB_len (a:List (List UInt8)):(strB a).length=a.length:=List.length_map ..
theorem own_lit1 (w:World) (x:List UInt8) {base:Nat} (hb:base≤w.heap.size):(w.alloc (.cells #[.string ⟨x.toArray⟩] TSt)).ownsRow base TSt 1 (.slice (some ⟨w.heap.size,0,none⟩) 1 1) [x].length (strB [x]):=
 World.ownsRow_lit w #[.string ⟨x.toArray⟩] 1 hb (by unfold maxLen;omega) rfl
theorem strW_lit (w:World) (x:List UInt8):StrW (w.alloc (.cells #[.string ⟨x.toArray⟩] TSt)) (some ⟨w.heap.size,0,none⟩) 1 [x]:=by
 obtain ⟨A,cap,e,_,h⟩:=own_strW (own_lit1 w x (Nat.le_refl _))
 injection e with e1 _ e3
 subst e1;subst e3
 exact h
section
variable {P:Program} (w:World)
theorem run_append_st (t ty:TypeId) (base:Nat) (e:TypeId) (i:TypeInfo) (z:Value) (bytes:Nat) (ht:P.underlying t=some (.slice e)) (hi:P.info? e=some i) (hz:i.zero=some z)
  (hsize:i.size=1) (hby:i.bytes=bytes) (hzs:z.cells.size=1) (v:Value) (A2:Option Addr) (c2:Nat) (xs l:List (List UInt8)) (hown:w.ownsRow base e 1 v xs.length (strB xs)) (hv2:StrW w A2 c2 l)
  (h63:xs.length+l.length≤maxLen) (hbytes:(xs.length+l.length) * bytes≤140737488355328) (hbase:base≤w.heap.size) :
  ∃v' w',(Builtin.append_ #[t,t] ty #[v,.slice A2 l.length c2]).run P w=.ok v' w'∧w'.ownsRow base e 1 v' (xs++l).length (strB (xs++l))∧w.grownBy w' v.ownBlock:=by
 cases A2 with
 | none=>
  have hc:=hv2.2.1 rfl
  have hl:l=[]:=List.length_eq_zero_iff.1 (by have:=hv2.1;omega)
  subst hl
  subst hc
  refine ⟨v,w,run_append_owned_none w base t ty e i 1 ht hi v xs.length (strB xs) hown,?_,World.grownBy.refl w _⟩
  rw [List.append_nil];exact hown
 | some ad=>
  obtain ⟨v',w',hr,h2,h3,_,_⟩:=run_append_own_at (P:=P) w base t ty e i z 1 bytes ht hi hz hsize hby hzs (by omega) v xs.length (strB xs) hown ad l.length c2 (strB l) (by rw [strB_len];omega)
   (fun j u hj=>by
    unfold strB at hj
    rw [List.getElem?_map,Option.map_eq_some_iff] at hj
    obtain ⟨x,hx,rfl⟩:=hj
    obtain ⟨g,o,e1,_,h3⟩:=hv2.2.2 (fun e=>by rw [e] at hx;cases hx)
    obtain rfl:=Option.some.inj e1
    have hadd:(⟨g,o,none⟩:Addr).add j=⟨g,o+j,none⟩:=by unfold Addr.add;split <;> simp_all
    rw [hadd]
    exact h3 j x hx)
   (fun u hu=>by
    unfold strB at hu
    rw [List.mem_map] at hu
    obtain ⟨x,_,rfl⟩:=hu
    rfl) h63 hbytes hbase
  exact ⟨v',w',hr,by rw [List.length_append,strB_append];exact h2,h3⟩
theorem wp_append_st {o:Oper} {a:Act} {K:Act→World→Prop} {Q:Exit→Act→World→Prop} (s x:Operand) (t:TypeId)
  (ho:o.op=.call { callee:=.builtin .append,args:=#[s,x],argTypes:=#[t,t] })
  (base:Nat) (e:TypeId) (i:TypeInfo) (z:Value) (bytes:Nat) (ht:P.underlying t=some (.slice e)) (hi:P.info? e=some i) (hz:i.zero=some z)
  (hsize:i.size=1) (hby:i.bytes=bytes) (hzs:z.cells.size=1) (v:Value) (A2:Option Addr) (c2:Nat) (xs l:List (List UInt8)) (hs:a.eval s=v) (hx:a.eval x=.slice A2 l.length c2) (hown:w.ownsRow base e 1 v xs.length (strB xs)) (hv2:StrW w A2 c2 l)
  (h63:xs.length+l.length≤maxLen) (hbytes:(xs.length+l.length) * bytes≤140737488355328) (hbase:base≤w.heap.size)
  (h:∀v' w',w'.ownsRow base e 1 v' (xs++l).length (strB (xs++l))→w.grownBy w' v.ownBlock→K (a.put o.dst v') w'):o.wp P a w K Q:=by
 obtain ⟨v',w',hr,h2,h3⟩:=run_append_st (P:=P) w t o.type base e i z bytes ht hi hz hsize hby hzs v A2 c2 xs l hown hv2 h63 hbytes hbase
 unfold Oper.wp execOp
 simp only [ho,resolve,invoke,builtin,Sem.run_bind,Sem.run_pure,Result.andThen_ok,List.map_toArray,List.map_cons,List.map_nil,hs,hx,hr]
 exact h v' w' h2 h3
theorem wpList_append_st {ops:Array Oper} {rest:List Oper} {o:Oper} {a:Act} {Q:Exit→Act→World→Prop} (hgd:o.guard=none) (s x:Operand) (t:TypeId)
  (ho:o.op=.call { callee:=.builtin .append,args:=#[s,x],argTypes:=#[t,t] })
  (base:Nat) (e:TypeId) (i:TypeInfo) (z:Value) (bytes:Nat) (ht:P.underlying t=some (.slice e)) (hi:P.info? e=some i) (hz:i.zero=some z)
  (hsize:i.size=1) (hby:i.bytes=bytes) (hzs:z.cells.size=1) (v:Value) (A2:Option Addr) (c2:Nat) (xs l:List (List UInt8)) (hs:a.eval s=v) (hx:a.eval x=.slice A2 l.length c2) (hown:w.ownsRow base e 1 v xs.length (strB xs)) (hv2:StrW w A2 c2 l)
  (h63:xs.length+l.length≤maxLen) (hbytes:(xs.length+l.length) * bytes≤140737488355328) (hbase:base≤w.heap.size)
  (h:∀v' w',w'.ownsRow base e 1 v' (xs++l).length (strB (xs++l))→w.grownBy w' v.ownBlock→wpList P ops Q rest (a.put o.dst v') w'):wpList P ops Q (o::rest) a w:=
 wpList_plain hgd fun _ hK=>wp_append_st w s x t ho base e i z bytes ht hi hz hsize hby hzs v A2 c2 xs l hs hx hown hv2 h63 hbytes hbase fun v' w' h2 h3=>hK _ _ (h v' w' h2 h3)
end
theorem ba_mem (xs:List (List UInt8)) (x:List UInt8):Lib.containsS (xs.map fun x=>(⟨x.toArray⟩:ByteArray)) ⟨x.toArray⟩=xs.contains x:=by
 rw [Bool.eq_iff_iff,Lib.containsS_iff,List.mem_map,List.contains_iff_mem]
 constructor
 ·rintro ⟨y,hy,e⟩
  have:y=x:=by
   have e1:=congrArg (fun b:ByteArray=>b.data.toList) e
   simpa using e1
  exact this▸hy
 ·exact fun h=>⟨x,h,rfl⟩
theorem scContains_any (xs:List (List UInt8)) (x:List UInt8) (A:Option Addr) (cap:Nat) (w:World) (hv:StrW w A cap xs) (hn:xs.length≤1099511627776) :
  Calls Tryz.prog 25 #[.slice A xs.length cap,.string ⟨x.toArray⟩] w (RetY (.bool (xs.contains x)) fun w'=>w=w'):=by
 by_cases h0:xs=[]
 ·subst h0
  refine (Tryz.slices_Contains_string_empty A cap ⟨x.toArray⟩ w).mono ?_
  rintro e w' ⟨rfl,rfl⟩
  exact ⟨rfl,rfl⟩
 ·obtain ⟨g,o,rfl,_,hc⟩:=hv.2.2 h0
  have k:=Tryz.slices_Contains_string g o xs.length cap (xs.map fun x=>(⟨x.toArray⟩:ByteArray)) ⟨x.toArray⟩ w (by rw [List.length_map];exact Nat.le_refl _) (by omega) (fun j hj=>by
   rw [List.length_map] at hj
   rw [hc j _ (List.getElem?_eq_getElem hj),List.getD_eq_getElem?_getD,List.getElem?_map,List.getElem?_eq_getElem hj]
   rfl)
  rw [List.take_of_length_le (by rw [List.length_map];exact Nat.le_refl _),ba_mem] at k
  refine k.mono ?_
  rintro e w' ⟨rfl,rfl⟩
  exact ⟨rfl,rfl⟩
def FiR (B F:Nat) (l:List (List UInt8)) (w:World) (e:Ending) (w':World):Prop:=e=.returned (.tuple #[])∧FK B w w'∧∃v',FS B w' F l v'
set_option maxHeartbeats 4000000 in
set_option maxRecDepth 100000 in
theorem scUses_any (B F:Nat) (name:List UInt8) (bl free:List (List UInt8)) (v bv:Value) (w:World) (hB:B≤w.heap.size) (hl:BL w bv bl) (hF:FS B w F free v) (hn:free.length+1≤1099511627776) :
  Calls Tryz.prog 30 #[.pointer (some ⟨F,0,none⟩),.string ⟨name.toArray⟩,bv] w (FiR B F (addN free (notIn bl [name])) w):=by
 obtain ⟨ti,hi0,hz0,hz1,hz2⟩:=info_parts infoStr
 have K1:=Lib.hid (scHas_any name bl bv w hl)
 have c0:w.cell? ⟨F,0,none⟩=some v:=by rw [Lib.cell_of_heap hF.cell];rfl
 have f0:w.frozen? ⟨F,0,none⟩=false:=by unfold World.frozen?;rw [hF.cell];rfl
 obtain ⟨A,cap,rfl,_,hsv⟩:=own_strW hF.own
 have K2:=Lib.hid (scContains_any free name A cap w hsv (by omega))
 have HF:=Lib.hid hF
 have e0:notIn bl [name]=if bl.contains name then [] else [name]:=by
  unfold notIn
  rw [List.filter_cons]
  cases bl.contains name <;> rfl
 rw [e0]
 clear hl hsv hF e0
 generalize bl.contains name=q at *
 cases q
 ·have e1:addN free (if false=true then [] else [name])=if free.contains name then free else free++[name]:=by
   rw [if_neg (by decide),addN,addN]
  rw [e1]
  clear e1
  generalize free.contains name=q2 at *
  cases q2
  ·rw [if_neg (by decide)]
   go_enter Tryz.func30,Tryz.ntmps30
   go_wp2_with (go_at_call 61;refine K1.out.mono ?_)
   rintro e w1 ⟨rfl,rfl⟩
   go_wp2_with (go_at_call 25;refine K2.out.mono ?_)
   rintro e w1 ⟨rfl,rfl⟩
   go_wp2_with (at_builtin;refine wpList_append_st _ rfl _ _ 26 rfl B 9 ti _ 16 Tryz.underlying26 hi0 hz0 hz1 hz2 rfl _ _ _ free [name] rfl rfl (HF.out.own.alloc _) (strW_lit w name) ?c3 ?c4 ?c5 ?_)
   case c3=>simp only [List.length_cons,List.length_nil];unfold maxLen;omega
   case c4=>simp only [List.length_cons,List.length_nil];omega
   case c5=>rw [World.size_alloc];omega
   intro v5 w5 hown hgrow
   have hle:(free++[name]).length=free.length+1:=by rw [List.length_append];rfl
   obtain ⟨A5,cap5,hv5,_⟩:=own_str (xs:=free++[name]) (by rw [hle];exact hown)
   rw [hle] at hv5
   subst hv5
   have hF2:=HF.out.below ((Below.refl _ w).alloc (Nat.le_refl _) (.cells #[.string ⟨name.toArray⟩] 9))
   obtain ⟨c5,f5⟩:=FS.cells (hF2.gcell hgrow)
   obtain ⟨p1,p2⟩:=hF2.put (by rw [World.size_alloc];omega) hgrow (m:=free++[name]) (by rw [hle];exact hown)
   have P1:=Lib.hid ((FK.of ((Below.refl _ w).alloc (Nat.le_refl _) (.cells #[.string ⟨name.toArray⟩] 9)) hB).trans p1)
   have P2:=Lib.hid p2
   clear hF2 p1 p2 hown hgrow c0 f0
   go_wp2
   go_returns
   exact ⟨rfl,P1.out,_,P2.out⟩
  ·rw [if_pos rfl]
   go_enter Tryz.func30,Tryz.ntmps30
   go_wp2_with (go_at_call 61;refine K1.out.mono ?_)
   rintro e w1 ⟨rfl,rfl⟩
   go_wp2_with (go_at_call 25;refine K2.out.mono ?_)
   rintro e w1 ⟨rfl,rfl⟩
   go_wp2
   go_returns
   exact ⟨rfl,FK.refl _ _,_,HF.out⟩
 ·rw [if_pos rfl,addN]
  go_enter Tryz.func30,Tryz.ntmps30
  go_wp2_with (go_at_call 61;refine K1.out.mono ?_)
  rintro e w1 ⟨rfl,rfl⟩
  go_wp2
  go_returns
  exact ⟨rfl,FK.refl _ _,_,HF.out⟩
def VrR (l:List (List UInt8)) (w:World) (e:Ending) (w':World):Prop:=∃v,e=.returned v∧w'.ownsRow w.heap.size TSt 1 v l.length (strB l)∧Below w.heap.size w w'
def VrC (t:Ny):Prop:=∀(A:Option Addr) (c:Nat) (w:World),YT w t A c→Calls Tryz.prog 34 #[yAgg t (.slice A t.kids.length c)] w (VrR (vrY t) w)
theorem vrYs_eq (ks:List Ny):vrYs ks=ks.flatMap vrY:=by
 induction ks with
 | nil=>rw [vrYs];rfl
 | cons k ks ih=>rw [vrYs,ih,List.flatMap_cons]
theorem flat_le {α β:Type} (f:α→List β) (l:List α) (i:Nat):((l.take i).flatMap f).length≤(l.flatMap f).length:=by
 conv=>rhs;rw [←List.take_append_drop i l,List.flatMap_append]
 simp
theorem flat_step {α β:Type} (f:α→List β) {l:List α} {i:Nat} {x:α} (h:l[i]?=some x):(l.take (i+1)).flatMap f=(l.take i).flatMap f++f x:=by
 rw [List.take_add_one,h];simp
set_option maxHeartbeats 4000000 in
set_option maxRecDepth 100000 in
theorem scVr_step (t:Ny) (hs:t.kids.length≤1099511627776) (hx:TF t.text) (hv:(vrY t).length≤1099511627776) (ih:∀k∈t.kids,VrC k):VrC t:=by
 intro A c w h
 obtain ⟨V,hV,hb0,hx0,hl0,c0,c1,c2⟩:=node_in w t.kind ⟨t.text.toArray⟩ (.slice A t.kids.length c)
 have B0:=Lib.hid hb0
 rw [vrY_eq] at hv ⊢
 by_cases h28:t.kind=28
 ·rw [if_pos h28]
  have a1:¬9223372036854775807<1+t.text.length:=by omega
  simp only [yAgg]
  rw [h28] at hV c0 ⊢
  clear ih h hs hb0 hx0 hl0 hv h28
  go_enter Tryz.func34,Tryz.ntmps34
  go_upto_region 1 with fail
  rw [←hV]
  clear hV
  go_wp2
  go_ret
  refine ⟨_,rfl,?_,B0.out.alloc B0.out.size _⟩
  exact own_lit1 V (36::t.text) B0.out.size
 ·rw [if_neg h28,vrYs_eq] at hv ⊢
  obtain ⟨ti,hi0,hz0,hz1,hz2⟩:=info_parts infoStr
  have IH:=Lib.hid (fun (k:Ny) (hk:k∈t.kids) (A:Option Addr) (c:Nat) (W:World) (h:YT W k A c)=>ih k hk A c W h)
  have H1:=Lib.hid h
  have h28':(t.kind==28)=false:=beq_eq_false_iff_ne.2 h28
  have FL:=Lib.hid (fun i=>Nat.le_trans (flat_le vrY t.kids i) hv)
  obtain ⟨R,hR⟩:∃R,R=t.kids.flatMap vrY:=⟨_,rfl⟩
  rw [←hR]
  have HR:=Lib.hid hR
  simp only [yAgg]
  clear ih h hb0 hx0 hl0 hR hx hv h28
  generalize t.kind=kd at *
  generalize hn:t.kids.length=n at *
  have HN:=Lib.hid hn
  clear hn
  go_enter Tryz.func34,Tryz.ntmps34
  go_upto_region 1 with fail
  rw [←hV]
  clear hV
  go_wp2
  go_loopg [3,16] (n+1) (fun kx v3 v16 wr=>∃i:Nat,v16=.int .i64 (i:Int)∧i≤n∧n-i≤kx∧Hid (wr.ownsRow w.heap.size 9 1 v3 ((t.kids.take i).flatMap vrY).length (strB ((t.kids.take i).flatMap vrY)))∧Below w.heap.size w wr)
  case atStart=>exact ⟨0,rfl,Nat.zero_le _,by omega,Lib.hid ⟨rfl,.inl ⟨rfl,rfl⟩⟩,B0.out⟩
  case round=>
   obtain ⟨i,rfl,hi,hik,hrel,hb⟩:=hrel
   have HB:=Lib.hid hb
   clear hb
   by_cases hlt:i<n
   ·have hne:t.kids≠[]:=fun e=>by have:=HN.out;rw [e] at this;simp at this;omega
    obtain ⟨q1,o1,rfl,hv1⟩:=YT.kid (YX.below H1.out HB.out) hne
    have hlt':i<t.kids.length:=by rw [HN.out];exact hlt
    obtain ⟨k,hk⟩:∃k,k=t.kids[i]:=⟨_,rfl⟩
    have hki:t.kids[i]?=some k:=by rw [hk];exact List.getElem?_eq_getElem hlt'
    have hkm:k∈t.kids:=List.mem_of_getElem? hki
    have HTK:=Lib.hid (flat_step vrY hki)
    obtain ⟨A1,c1',r1,k1'⟩:=hv1 i k hki
    have KC:=Lib.hid (fun (W:World) (hb:Below wr.heap.size wr W)=>IH.out k hkm A1 c1' W (YX.below k1' hb))
    clear hv1 hk hki hkm k1' hne hlt'
    obtain ⟨e0,e1,e2⟩:=y_at r1
    clear r1
    have i0:(0:Int)≤(i:Int):=by omega
    have i1:(i:Int)<(n:Int):=by omega
    simp only [yAgg] at KC
    have FL2:=Lib.hid (FL.out (i+1))
    rw [HTK.out,List.length_append] at FL2
    generalize vrY k=fk at *
    generalize (t.kids.take i).flatMap vrY=acc at *
    have hva:=(Below.refl wr.heap.size wr).alloc (Nat.le_refl _) (.cells (yCells k (.slice A1 k.kids.length c1')).toArray TN)
    have HVA:=Lib.hid hva
    clear hva
    go_wp2_with (go_at_call 34;refine (KC.out _ ((Below.refl _ wr).alloc (Nat.le_refl _) _)).mono ?_)
    rintro e w3 ⟨v2,rfl,ho2,hb3⟩
    have hb4:=HB.out.trans ((HVA.out.trans (hb3.mono HVA.out.size)).mono HB.out.size)
    have HO:=Lib.hid (own_below hrel.out (HVA.out.trans (hb3.mono HVA.out.size)))
    obtain ⟨A2,c2',rfl,_,ho3⟩:=own_strW ho2
    have HO2:=Lib.hid ho3
    have HB4:=Lib.hid hb4
    clear hb3 hb4 ho2 ho3
    go_wp2_with (at_builtin;refine wpList_append_st _ rfl _ _ 26 rfl w.heap.size 9 ti _ 16 Tryz.underlying26 hi0 hz0 hz1 hz2 rfl _ _ _ acc fk rfl rfl HO.out HO2.out ?c3 ?c4 ?c5 ?_)
    case c3=>have:=FL2.out;unfold maxLen;omega
    case c4=>have:=FL2.out;omega
    case c5=>exact HB4.out.size
    intro v5 w5 hown hgrow
    rw [←List.length_append,←HTK.out] at hown
    have hb5:=HB4.out.grown hgrow HB4.out.size (fun k hk=>((HO.out.lt k hk)).1)
    have HO5:=Lib.hid hown
    have HB5:=Lib.hid hb5
    clear hown hb5 hgrow
    go_wp2_with fail
    go_roundg (n-(i+1))
    case measure=>omega
    case rel=>exact ⟨i+1,by go_num,by omega,Nat.le_refl _,HO5,HB5.out⟩
   ·have ho:=hrel.out
    rw [List.take_of_length_le (by rw [HN.out];omega),←HR.out] at ho
    have HO:=Lib.hid ho
    clear hrel ho
    go_wp2_with fail
    go_ret
    exact ⟨_,rfl,HO.out,HB.out⟩
def NodC (w0:World) (t:Ny):Prop:=∀(F:Nat) (free bl:List (List UInt8)) (v bv:Value) (A:Option Addr) (c:Nat) (w:World),YT w0 t A c→Below w0.heap.size w0 w→BL w bv bl→FS w0.heap.size w F free v→free.length+blkY t≤1099511627776 →
 Calls Tryz.prog 17 #[.pointer (some ⟨F,0,none⟩),yAgg t (.slice A t.kids.length c),bv] w (FiR w0.heap.size F (addN free (notIn bl (useY t))) w)
def AllC (w0:World) (t:Ny):Prop:=∀(F:Nat) (free bl:List (List UInt8)) (v bv:Value) (A:Option Addr) (c:Nat) (w:World),YT w0 t A c→Below w0.heap.size w0 w→BL w bv bl→FS w0.heap.size w F free v→free.length+blkYs t.kids≤1099511627776 →
 Calls Tryz.prog 32 #[.pointer (some ⟨F,0,none⟩),.slice A t.kids.length c,bv] w (FiR w0.heap.size F (addN free (notIn bl (t.kids.flatMap useY))) w)
def bndFree (k:Int):Bool:=!(k==23)&&!(k==19)&&!(k==20)&&!(k==21)&&!(k==26)
theorem useYs_free {k:Int} (h:bndFree k=true) (x:List UInt8) (all:List Ny) (i:Nat) (ys:List Ny):useYs k x all i ys=ys.flatMap useY:=by
 have hb:∀i,bndY k x all i=[]:=fun i=>by
  unfold bndFree at h
  simp only [Bool.and_eq_true,Bool.not_eq_true',beq_eq_false_iff_ne] at h
  unfold bndY
  rw [if_neg h.1.1.1.1,if_neg (fun h'=>h'.elim h.1.1.1.2 h.1.1.2),if_neg h.1.2,if_neg h.2]
 induction ys generalizing i with
 | nil=>rw [useYs];rfl
 | cons y ys ih=>rw [useYs,hb,notIn_nil,ih,List.flatMap_cons]
theorem useYs_loop (k:Int) (x:List UInt8) (all:List Ny) (hk:k=19∨k=20) (ys:List Ny):∀(i:Nat),2<i→useYs k x all i ys=notIn (vrY (all.getD 1 default)) (ys.flatMap useY):=by
 have hb:∀i,2<i→bndY k x all i=vrY (all.getD 1 default):=fun i hi=>by
  unfold bndY
  rw [if_neg (by omega),if_pos hk,if_pos hi]
 induction ys with
 | nil=>intro i _;rw [useYs];rfl
 | cons y ys ih=>intro i hi;rw [useYs,hb i hi,ih (i+1) (by omega),List.flatMap_cons,notIn_append]
theorem useYs_label (x:List UInt8) (all:List Ny) (ys:List Ny):∀(i:Nat),useYs 21 x all i ys=notIn [42::x] (ys.flatMap useY):=by
 induction ys with
 | nil=>intro i;rw [useYs];rfl
 | cons y ys ih=>intro i;rw [useYs,ih,List.flatMap_cons,notIn_append];rfl
theorem useYs_skip {k:Int} {x:List UInt8} {all:List Ny} (ys:List Ny):∀(ps:List Ny) (i:Nat),(∀p∈ps,useY p=[])→useYs k x all i (ps++ys)=useYs k x all (i+ps.length) ys
 | [],_,_=>rfl
 | p::ps,i,h=>by
  rw [List.cons_append,useYs,h p (List.mem_cons_self ..),useYs_skip ys ps (i+1) (fun z hz=>h z (List.mem_cons_of_mem _ hz)),List.length_cons,show i+1+ps.length=i+(ps.length+1) by omega]
  rfl
theorem strV_lit (w:World) (x:List UInt8):StrV (w.alloc (.cells #[.string ⟨x.toArray⟩] 9)) (some ⟨w.heap.size,0,none⟩) 1 [x]:=
 ⟨Nat.le_refl _,fun _=>⟨_,rfl,by rw [World.size_alloc];omega,fun j y hj=>by
  have hh:=Go.heap_alloc_new w (.cells #[.string ⟨x.toArray⟩] 9)
  match j,hj with
  | 0,hj=>
   obtain rfl:x=y:=by simpa using hj
   rw [Lib.cell_of_heap hh];rfl
  | j+1,hj=>simp at hj⟩⟩
def DefC (w0:World) (t:Ny):Prop:=∀(F:Nat) (free bl:List (List UInt8)) (v bv:Value) (A:Option Addr) (c:Nat) (w:World),YT w0 t A c→Below w0.heap.size w0 w→BL w bv bl→FS w0.heap.size w F free v→free.length+blkY t≤1099511627776 →
 Calls Tryz.prog 35 #[.pointer (some ⟨F,0,none⟩),yAgg t (.slice A t.kids.length c),bv] w (FiR w0.heap.size F (addN free (notIn bl (useY t))) w)
set_option maxHeartbeats 4000000 in
set_option maxRecDepth 100000 in
theorem scAll_any (w0:World) (t:Ny) (hs:t.kids.length≤1099511627776) (ih:∀k∈t.kids,NodC w0 k):AllC w0 t:=by
 intro F free bl v bv A c w h hb hl hF hn
 have IH:=Lib.hid (fun (k:Ny) (hk:k∈t.kids)=>ih k hk)
 have H1:=Lib.hid h
 have B0:=Lib.hid hb
 have L0:=Lib.hid hl
 have FL:=Lib.hid hn
 obtain ⟨R,hR⟩:∃R,R=addN free (notIn bl (t.kids.flatMap useY)):=⟨_,rfl⟩
 have F0:=Lib.hid hF
 rw [←hR]
 have HR:=Lib.hid hR
 clear ih h hb hl hF hn hR
 generalize hn:t.kids.length=n at *
 have HN:=Lib.hid hn
 clear hn
 go_enter Tryz.func32,Tryz.ntmps32
 go_wp2
 go_loopg [10] (n+1) (fun kx v10 wr=>∃i:Nat,v10=.int .i64 (i:Int)∧i≤n∧n-i≤kx∧FK w0.heap.size w wr∧∃v',Hid (FS w0.heap.size wr F (addN free (notIn bl ((t.kids.take i).flatMap useY))) v'))
 case atStart=>exact ⟨0,rfl,Nat.zero_le _,by omega,FK.refl _ _,v,F0⟩
 case round=>
  obtain ⟨i,rfl,hi,hik,hfk,v',hrel⟩:=hrel
  have KR:=Lib.hid hfk
  clear hfk
  by_cases hlt:i<n
  ·have hne:t.kids≠[]:=fun e=>by have:=HN.out;rw [e] at this;simp at this;omega
   obtain ⟨q1,o1,rfl,_,hv1⟩:=YT.row H1.out hne
   have hlt':i<t.kids.length:=by rw [HN.out];exact hlt
   obtain ⟨k,hk⟩:∃k,k=t.kids[i]:=⟨_,rfl⟩
   have hki:t.kids[i]?=some k:=by rw [hk];exact List.getElem?_eq_getElem hlt'
   have hkm:k∈t.kids:=List.mem_of_getElem? hki
   have HTK:=flat_step useY hki
   have FL2:=blkYs_at hki
   obtain ⟨A1,c1',k1',hce⟩:=hv1 i k hki
   have hbr:=B0.out.trans KR.out.below
   obtain ⟨e0,e1,e2⟩:=hce wr hbr
   obtain ⟨V,hV⟩:∃V,V=wr.alloc (.cells (yCells k (.slice A1 k.kids.length c1')).toArray TN):=⟨_,rfl⟩
   have hbV:Below wr.heap.size wr V:=by rw [hV];exact (Below.refl _ wr).alloc (Nat.le_refl _) _
   have hst:addN free (notIn bl ((t.kids.take (i+1)).flatMap useY))=addN (addN free (notIn bl ((t.kids.take i).flatMap useY))) (notIn bl (useY k)):=by rw [HTK,notIn_append,addN_append]
   have KC:=Lib.hid (IH.out k hkm F (addN free (notIn bl ((t.kids.take i).flatMap useY))) bl v' bv A1 c1' V k1' (hbr.trans (hbV.mono hbr.size)) ((L0.out.kept KR.out).under hbV) (hrel.out.below hbV) (by
    have h0:=FL.out
    have h1:=addN_len free (notIn bl ((t.kids.take i).flatMap useY))
    have h2:=notIn_len bl ((t.kids.take i).flatMap useY)
    have h3:=flat_use_len (t.kids.take i)
    omega))
   have KV:=Lib.hid (KR.out.trans (FK.of hbV hbr.size))
   have HST:=Lib.hid hst
   clear hv1 hk hki hkm k1' hne hlt' HTK FL2 hce hbr hbV hst hrel
   have i0:(0:Int)≤(i:Int):=by omega
   have i1:(i:Int)<(n:Int):=by omega
   simp only [yAgg] at KC
   have e3:V=wr.alloc (.cells #[.int .i64 k.kind,.string ⟨k.text.toArray⟩,.slice A1 k.kids.length c1'] TN):=hV
   subst e3
   clear hV
   go_wp2_with (go_at_call 17;refine KC.out.mono ?_)
   rintro e w3 ⟨rfl,hk3,v3,hf3⟩
   rw [←HST.out] at hf3
   have K3:=Lib.hid (KV.out.trans hk3)
   have F3:=Lib.hid hf3
   clear hk3 hf3
   go_wp2_with fail
   go_roundg (n-(i+1))
   case measure=>omega
   case rel=>exact ⟨i+1,by go_num,by omega,Nat.le_refl _,K3.out,_,F3⟩
  ·have ho:=hrel.out
   rw [List.take_of_length_le (by rw [HN.out];omega),←HR.out] at ho
   have HO:=Lib.hid ho
   clear hrel ho
   go_wp2_with fail
   go_returns
   exact ⟨rfl,KR.out,_,HO.out⟩
set_option maxHeartbeats 8000000 in
set_option maxRecDepth 100000 in
theorem scNVar_any (w0:World) (t:Ny) (hk:t.kind=24) (hx:TF t.text) (hks:t.kids=[]):NodC w0 t:=by
 intro F free bl v bv A c w h0 hb hl hF hn
 show Calls _ _ _ _ (FiR w0.heap.size F (addN free (notIn bl (useY t))) w)
 obtain ⟨V,hV,hbV,hxV,hlV,c0,c1,c2⟩:=node_in w t.kind ⟨t.text.toArray⟩ (.slice A t.kids.length c)
 have BV:=Lib.hid (hb.trans (hbV.mono hb.size))
 have KV:=Lib.hid (FK.of hbV hb.size)
 have LV:=Lib.hid (hl.under hbV)
 have FV:=Lib.hid (hF.below hbV)
 have XV:=Lib.hid hxV
 have hu:useY t=[36::t.text]:=by rw [useY_eq,hks,useYs,hk];rfl
 rw [hu]
 rw [blkY_eq] at hn
 have K:=Lib.hid (scUses_any w0.heap.size F (36::t.text) bl free v bv V BV.out.size LV.out FV.out (by omega))
 have a1:¬9223372036854775807<1+t.text.length:=by omega
 simp only [yAgg]
 rw [hk] at hV c0 ⊢
 clear h0 hb hl hF hn hbV hxV hlV BV LV FV XV hx hks hu hk
 generalize addN free (notIn bl [36::t.text])=R at *
 go_enter Tryz.func17,Tryz.ntmps17
 go_upto_region 1 with fail
 rw [←hV]
 clear hV
 go_wp2_with (go_at_call 30;refine K.out.mono ?_)
 rintro e w1 ⟨rfl,hk1,hf1⟩
 go_wp2
 go_returns
 exact ⟨rfl,KV.out.trans hk1,hf1⟩
set_option maxHeartbeats 8000000 in
set_option maxRecDepth 100000 in
theorem scNBreak_any (w0:World) (t:Ny) (hk:t.kind=22) (hx:TF t.text) (hks:t.kids=[]):NodC w0 t:=by
 intro F free bl v bv A c w h0 hb hl hF hn
 show Calls _ _ _ _ (FiR w0.heap.size F (addN free (notIn bl (useY t))) w)
 obtain ⟨V,hV,hbV,hxV,hlV,c0,c1,c2⟩:=node_in w t.kind ⟨t.text.toArray⟩ (.slice A t.kids.length c)
 have BV:=Lib.hid (hb.trans (hbV.mono hb.size))
 have KV:=Lib.hid (FK.of hbV hb.size)
 have LV:=Lib.hid (hl.under hbV)
 have FV:=Lib.hid (hF.below hbV)
 have XV:=Lib.hid hxV
 have hu:useY t=[42::t.text]:=by rw [useY_eq,hks,useYs,hk];rfl
 rw [hu]
 rw [blkY_eq] at hn
 have K:=Lib.hid (scUses_any w0.heap.size F (42::t.text) bl free v bv V BV.out.size LV.out FV.out (by omega))
 have a1:¬9223372036854775807<1+t.text.length:=by omega
 simp only [yAgg]
 rw [hk] at hV c0 ⊢
 clear h0 hb hl hF hn hbV hxV hlV BV LV FV XV hx hks hu hk
 generalize addN free (notIn bl [42::t.text])=R at *
 go_enter Tryz.func17,Tryz.ntmps17
 go_upto_region 1 with fail
 rw [←hV]
 clear hV
 go_wp2_with (go_at_call 30;refine K.out.mono ?_)
 rintro e w1 ⟨rfl,hk1,hf1⟩
 go_wp2
 go_returns
 exact ⟨rfl,KV.out.trans hk1,hf1⟩
set_option maxHeartbeats 8000000 in
set_option maxRecDepth 100000 in
theorem scNCall_any (w0:World) (hT:Tb w0) (t:Ny) (hk:t.kind=25) (hx:TF t.text) (hs:t.kids.length≤1099511627776) (hA:AllC w0 t):NodC w0 t:=by
 intro F free bl v bv A c w h0 hb hl hF hn
 show Calls _ _ _ _ (FiR w0.heap.size F (addN free (notIn bl (useY t))) w)
 obtain ⟨V,hV,hbV,hxV,hlV,c0,c1,c2⟩:=node_in w t.kind ⟨t.text.toArray⟩ (.slice A t.kids.length c)
 have BV:=Lib.hid (hb.trans (hbV.mono hb.size))
 have KV:=Lib.hid (FK.of hbV hb.size)
 have LV:=Lib.hid (hl.under hbV)
 have FV:=Lib.hid (hF.below hbV)
 have XV:=Lib.hid hxV
 have hu:useY t=fnN t.text t.kids.length::t.kids.flatMap useY:=by rw [useY_eq,useYs_free (k:=t.kind) (by rw [hk];rfl),hk];rfl
 rw [hu]
 rw [blkY_eq] at hn
 have KF:=Lib.hid (scFun_any t.text t.kids.length hx hs V (hT.below BV.out (Nat.le_refl _)))
 have KU:=Lib.hid (fun W (hk':FK w0.heap.size V W)=>scUses_any w0.heap.size F (fnN t.text t.kids.length) bl free v bv W (Nat.le_trans BV.out.size hk'.below.size) (LV.out.kept hk'))
 have KA:=Lib.hid (fun W (hk':FK w0.heap.size V W) v' hF'=>hA F (addN free (notIn bl [fnN t.text t.kids.length])) bl v' bv A c W h0 (BV.out.trans hk'.below) (LV.out.kept hk') hF' (by have h1:=addN_len free (notIn bl [fnN t.text t.kids.length]);have h2:=notIn_len bl [fnN t.text t.kids.length];simp only [List.length_cons,List.length_nil] at h2;omega))
 rw [show fnN t.text t.kids.length::t.kids.flatMap useY=[fnN t.text t.kids.length]++t.kids.flatMap useY from rfl,notIn_append,addN_append]
 have hn1:free.length+1≤1099511627776:=by omega
 generalize addN (addN free (notIn bl [fnN t.text t.kids.length])) (notIn bl (t.kids.flatMap useY))=R at *
 generalize addN free (notIn bl [fnN t.text t.kids.length])=R1 at *
 generalize fnN t.text t.kids.length=fn at *
 simp only [yAgg]
 rw [hk] at hV c0 hxV ⊢
 generalize t.kids.length=n at *
 have XV:=Lib.hid hxV
 clear h0 hb hl hF hbV hA hx hu hk hn hxV
 go_enter Tryz.func17,Tryz.ntmps17
 go_upto_region 1 with fail
 rw [←hV]
 clear hV
 go_wp2_with (go_at_call 31;refine KF.out.mono ?_)
 rintro e w1 ⟨rfl,hb1⟩
 have K1:=Lib.hid (FK.of (B:=w0.heap.size) hb1 BV.out.size)
 have F1:=Lib.hid (FV.out.below hb1)
 clear hb1 c0 c1 c2
 go_wp2_with (go_at_call 30;refine (KU.out _ K1.out F1.out hn1).mono ?_)
 rintro e w2 ⟨rfl,hk2,v2,hf2⟩
 have K2:=Lib.hid (K1.out.trans hk2)
 have hx2:=K2.out.keep _ _ _ _ XV.out (by decide) (by decide)
 have d0:w2.cell? ⟨w.heap.size,0,none⟩=some (.int .i64 25):=by rw [Lib.cell_of_heap hx2];rfl
 have d2:w2.cell? ⟨w.heap.size,2,none⟩=some (.slice A n c):=by rw [Lib.cell_of_heap hx2];rfl
 have F2:=Lib.hid hf2
 clear hk2 hf2 hx2
 go_wp2_with (go_at_call 32;refine (KA.out _ K2.out _ F2.out).mono ?_)
 rintro e w3 ⟨rfl,hk3,hf3⟩
 go_wp2
 go_returns
 exact ⟨rfl,KV.out.trans (K2.out.trans hk3),hf3⟩
set_option maxHeartbeats 8000000 in
set_option maxRecDepth 100000 in
theorem scNRest_any (w0:World) (t:Ny) (hk:∀m∈[24,22,25,23,19,20,21,26],¬t.kind=(m:Int)) (hA:AllC w0 t):NodC w0 t:=by
 intro F free bl v bv A c w h0 hb hl hF hn
 show Calls _ _ _ _ (FiR w0.heap.size F (addN free (notIn bl (useY t))) w)
 obtain ⟨V,hV,hbV,hxV,hlV,c0,c1,c2⟩:=node_in w t.kind ⟨t.text.toArray⟩ (.slice A t.kids.length c)
 have BV:=Lib.hid (hb.trans (hbV.mono hb.size))
 have KV:=Lib.hid (FK.of hbV hb.size)
 have LV:=Lib.hid (hl.under hbV)
 have FV:=Lib.hid (hF.below hbV)
 have XV:=Lib.hid hxV
 have hu:useY t=t.kids.flatMap useY:=by
  rw [useY_eq,useYs_free (k:=t.kind) (by unfold bndFree;rw [beq_eq_false_iff_ne.2 (hk 23 (by decide)),beq_eq_false_iff_ne.2 (hk 19 (by decide)),beq_eq_false_iff_ne.2 (hk 20 (by decide)),beq_eq_false_iff_ne.2 (hk 21 (by decide)),beq_eq_false_iff_ne.2 (hk 26 (by decide))];rfl),ownY,if_neg (hk 24 (by decide)),if_neg (hk 22 (by decide)),if_neg (hk 25 (by decide))]
  rfl
 rw [hu]
 rw [blkY_eq] at hn
 have KA:=Lib.hid (hA F free bl v bv A c V h0 BV.out LV.out FV.out (by omega))
 have h24:¬t.kind=24:=hk 24 (by decide)
 have h22:¬t.kind=22:=hk 22 (by decide)
 have h25:¬t.kind=25:=hk 25 (by decide)
 have h23:¬t.kind=23:=hk 23 (by decide)
 have h19:¬t.kind=19:=hk 19 (by decide)
 have h20:¬t.kind=20:=hk 20 (by decide)
 have h21:¬t.kind=21:=hk 21 (by decide)
 have h26:¬t.kind=26:=hk 26 (by decide)
 generalize addN free (notIn bl (t.kids.flatMap useY))=R at *
 simp only [yAgg]
 clear h0 hb hl hF hbV hA hu hk hn hxV hlV XV LV FV BV
 generalize t.kids.length=n at *
 generalize t.kind=kd at *
 go_enter Tryz.func17,Tryz.ntmps17
 go_upto_region 1 with fail
 rw [←hV]
 clear hV
 go_wp2_with (go_at_call 32;refine KA.out.mono ?_)
 rintro e w3 ⟨rfl,hk3,hf3⟩
 go_wp2
 go_returns
 exact ⟨rfl,KV.out.trans hk3,hf3⟩
set_option maxHeartbeats 8000000 in
set_option maxRecDepth 100000 in
theorem scNBind_any (w0:World) (t:Ny) (hk:t.kind=23) (x0 x1 x2:Ny) (hks:t.kids=[x0,x1,x2]) (hu1:useY x1=[]) (hv:VrC x1) (H0:NodC w0 x0) (H2:NodC w0 x2):NodC w0 t:=by
 intro F free bl v bv A c w h0 hb hl hF hn
 show Calls _ _ _ _ (FiR w0.heap.size F (addN free (notIn bl (useY t))) w)
 obtain ⟨q,o,rfl,hq,hat⟩:=YT.row h0 (by rw [hks];simp)
 obtain ⟨A0,m0,k0,ce0⟩:=hat 0 x0 (by rw [hks];rfl)
 obtain ⟨A1,m1,k1,ce1⟩:=hat 1 x1 (by rw [hks];rfl)
 obtain ⟨A2,m2,k2,ce2⟩:=hat 2 x2 (by rw [hks];rfl)
 obtain ⟨V,hV,hbV,hxV,hlV,c0,c1,c2⟩:=node_in w t.kind ⟨t.text.toArray⟩ (.slice (some ⟨q,o,none⟩) t.kids.length c)
 have BV:=Lib.hid (hb.trans (hbV.mono hb.size))
 have KV:=Lib.hid (FK.of hbV hb.size)
 have LV:=Lib.hid (hl.under hbV)
 have FV:=Lib.hid (hF.below hbV)
 have hu:useY t=useY x0++notIn (vrY x1) (useY x2):=by
  rw [useY_eq,hk,hks,useYs,useYs,useYs,useYs,hu1]
  show []++(notIn [] (useY x0)++(notIn [] []++(notIn (vrY x1) (useY x2)++[]))) = _
  rw [notIn_nil,notIn_nil,List.append_nil];rfl
 rw [hu]
 rw [blkY_eq,hks,blkYs,blkYs,blkYs,blkYs] at hn
 have hl0:=use_len x0
 have hl1:=addN_len free (notIn bl (useY x0))
 have hl2:=notIn_len bl (useY x0)
 have K0:=Lib.hid (H0 F free bl v bv A0 m0 V k0 BV.out LV.out FV.out (by omega))
 have HE:addN free (notIn bl (useY x0++notIn (vrY x1) (useY x2)))=addN (addN free (notIn bl (useY x0))) (notIn ((vrY x1).reverse++bl) (useY x2)):=by
  rw [notIn_append,addN_append,notIn_notIn]
  congr 1
  exact notIn_same (fun s=>by rw [List.contains_eq_any_beq,List.contains_eq_any_beq,List.any_append,List.any_append,List.any_reverse]) _
 rw [HE]
 skip
 have KN:=Lib.hid (fun (W1:World) (hk1:FK w0.heap.size V W1) v1 (hf1:FS w0.heap.size W1 F (addN free (notIn bl (useY x0))) v1) bv' W' (hb':Below W1.heap.size W1 W') (hbl:BL W' bv' ((vrY x1).reverse++bl))=>H2 F (addN free (notIn bl (useY x0))) ((vrY x1).reverse++bl) v1 bv' A2 m2 W' k2 ((BV.out.trans hk1.below).trans (hb'.mono (BV.out.trans hk1.below).size)) hbl (hf1.below hb') (by omega))
 have KR:=Lib.hid (fun (W':World) (hb':Below w0.heap.size w0 W')=>hv A1 m1 W' (YX.below k1 hb'))
 have KW:=Lib.hid (fun A' cap' bv (W':World) (hbl:BL W' bv bl) (hv:StrV W' A' cap' (vrY x1))=>scWith_any (vrY x1) bl bv A' cap' W' hbl hv (by have:=vr_len x1;omega))
 have hl3:t.kids.length=3:=by rw [hks];rfl
 simp only [Nat.zero_mul,Nat.add_zero,Nat.one_mul,Nat.reduceMul] at ce0 ce1 ce2
 have C1:=Lib.hid ce1
 have C2:=Lib.hid ce2
 obtain ⟨d0,d1,d2⟩:=ce0 V BV.out
 generalize addN (addN free (notIn bl (useY x0))) (notIn ((vrY x1).reverse++bl) (useY x2))=R at *
 generalize addN free (notIn bl (useY x0))=R1 at *
 generalize vrY x1=vs at *
 simp only [yAgg] at K0 KN KR ⊢
 rw [hk,hl3] at hV hxV ⊢
 rw [hl3] at c2
 rw [hk] at c0
 have XV:=Lib.hid hxV
 clear hat k0 k1 k2 hb hl hF hbV hv hl0 H0 H2 hu hn hu1 HE hl1 hl2 hks hxV hlV ce0 ce1 ce2 h0 hl3 hk hq
 go_enter Tryz.func17,Tryz.ntmps17
 go_upto_region 1 with fail
 rw [←hV]
 clear hV
 go_wp2_with (go_at_call 17;refine K0.out.mono ?_)
 rintro e W1 ⟨rfl,hk1,v1,hf1⟩
 have K1:=Lib.hid hk1
 have F1:=Lib.hid hf1
 have B1:=Lib.hid (BV.out.trans hk1.below)
 have L1:=Lib.hid (LV.out.kept hk1)
 have hx1:=hk1.keep _ _ _ _ XV.out (by decide) (by decide)
 have hlw:=(Array.getElem?_eq_some_iff.1 hx1).1
 have HC2:=Lib.hid (fun (W':World) (hb:Below W1.heap.size W1 W')=>show W'.cell? ⟨w.heap.size,2,none⟩=some (.slice (some ⟨q,o,none⟩) 3 c) by rw [hb.cell (p:=⟨w.heap.size,2,none⟩) hlw,Lib.cell_of_heap hx1];rfl)
 have HB:=Lib.hid (fun (W':World) (hb:Below W1.heap.size W1 W')=>B1.out.trans (hb.mono B1.out.size))
 clear hk1 hf1 hx1 d0 d1 d2 c0 c1 c2
 go_upto_region 12 with fail
 refine wp_region_s 12 (fun W'=>Below W1.heap.size W1 W') (by kernel_rfl) ((Below.refl W1.heap.size W1).drew) (fun hS0=>?_)
 refine tk 0 (.pointer (some ⟨F,0,none⟩)) [12] hS0 ?_
 refine tk 1 (.pointer (some ⟨w.heap.size,2,none⟩)) [2,3,4,12] hS0 ?_
 refine tk 2 (.slice (some ⟨q,o,none⟩) 3 c) [3,4,12] hS0 ?_ (y:=.inl ⟨by kernel_rfl,fun _ H=>by have cX:=HC2.out _ H;go_simp⟩)
 refine tk 3 (.pointer (some ⟨q,o+6,none⟩)) [4,12] hS0 ?_
 refine tk 4 (.agg #[.int .i64 x2.kind,.string ⟨x2.text.toArray⟩,.slice A2 x2.kids.length m2]) [12] hS0 ?_ (y:=.inl ⟨by kernel_rfl,fun _ H=>by obtain ⟨cX,cY,cZ⟩:=C2.out _ (HB.out _ H);go_simp⟩)
 refine tk 5 (bv) [11,12] hS0 ?_
 refine tk 6 (.pointer (some ⟨w.heap.size,2,none⟩)) [7,8,9,10,11,12] hS0 ?_
 refine tk 7 (.slice (some ⟨q,o,none⟩) 3 c) [8,9,10,11,12] hS0 ?_ (y:=.inl ⟨by kernel_rfl,fun _ H=>by have cX:=HC2.out _ H;go_simp⟩)
 refine tk 8 (.pointer (some ⟨q,o+3,none⟩)) [9,10,11,12] hS0 ?_
 refine tk 9 (.agg #[.int .i64 x1.kind,.string ⟨x1.text.toArray⟩,.slice A1 x1.kids.length m1]) [10,11,12] hS0 ?_ (y:=.inl ⟨by kernel_rfl,fun _ H=>by obtain ⟨cX,cY,cZ⟩:=C1.out _ (HB.out _ H);go_simp⟩)
 refine st 10 fun K hK=>?_
 go_simp
 go_at_call 34
 refine (KR.out _ (HB.out _ hS0)).mono ?_
 rintro e w3 ⟨vv,rfl,ho,hb⟩
 have HS3:=Lib.hid (Below.trans hS0 (hb.mono (Below.size hS0)))
 obtain ⟨A',cap',rfl,hsv⟩:=own_str ho
 clear hb
 try dsimp only
 refine hK.out _ _ (fun _=>HS3.out) (fun _=>?_)
 clear hK K
 refine st 11 fun K hK=>?_
 go_simp
 go_at_call 33
 refine (KW.out A' cap' bv _ (L1.out.under HS3.out) hsv).mono ?_
 rintro e w4 ⟨bv',rfl,hbl,hb⟩
 have HS4:=Lib.hid (Below.trans HS3.out (hb.mono (Below.size HS3.out)))
 clear hb
 try dsimp only
 refine hK.out _ _ (fun _=>HS4.out) (fun _=>?_)
 clear hK K
 refine st 12 fun K hK=>?_
 go_simp
 go_at_call 17
 refine (KN.out W1 K1.out v1 F1.out bv' _ HS4.out hbl).mono ?_
 rintro e w5 ⟨rfl,hk5,hf5⟩
 have K5:=Lib.hid ((FK.of (B:=w0.heap.size) HS4.out B1.out.size).trans hk5)
 try dsimp only
 refine hK.out _ _ (fun h=>absurd rfl h) (fun _=>?_)
 clear hK K
 refine wpAnyS_done (by kernel_rfl) ?_ _
 go_wp2
 go_returns
 exact ⟨rfl,KV.out.trans (K1.out.trans K5.out),hf5⟩
set_option maxHeartbeats 8000000 in
set_option maxRecDepth 100000 in
theorem scNReduce_any (w0:World) (t:Ny) (hk:t.kind=19) (x0 x1 x2:Ny) (ys:List Ny) (hks:t.kids=x0::x1::x2::ys) (hu1:useY x1=[]) (hv:VrC x1) (H0:NodC w0 x0) (H2:NodC w0 x2) (HA:AllC w0 (.mk 0 [] ys)) (hy:ys≠[]):NodC w0 t:=by
 intro F free bl v bv A c w h0 hb hl hF hn
 show Calls _ _ _ _ (FiR w0.heap.size F (addN free (notIn bl (useY t))) w)
 have hne:t.kids≠[]:=by rw [hks];simp
 have hcap:=YT.caps h0 hne
 obtain ⟨q,o,rfl,hq,hat⟩:=YT.row h0 hne
 obtain ⟨A0,m0,k0,ce0⟩:=hat 0 x0 (by rw [hks];rfl)
 obtain ⟨A1,m1,k1,ce1⟩:=hat 1 x1 (by rw [hks];rfl)
 obtain ⟨A2,m2,k2,ce2⟩:=hat 2 x2 (by rw [hks];rfl)
 obtain ⟨V,hV,hbV,hxV,hlV,c0,c1,c2⟩:=node_in w t.kind ⟨t.text.toArray⟩ (.slice (some ⟨q,o,none⟩) t.kids.length c)
 have BV:=Lib.hid (hb.trans (hbV.mono hb.size))
 have KV:=Lib.hid (FK.of hbV hb.size)
 have LV:=Lib.hid (hl.under hbV)
 have FV:=Lib.hid (hF.below hbV)
 have hu:useY t=useY x0++(useY x2++notIn (vrY x1) (ys.flatMap useY)):=by
  have hl:=useYs_loop 19 t.text (x0::x1::x2::ys) (by decide) ys 3 (by decide)
  rw [useY_eq,hk,hks,useYs,useYs,useYs,hu1,hl]
  show []++(notIn [] (useY x0)++(notIn [] []++(notIn [] (useY x2)++notIn (vrY x1) (ys.flatMap useY)))) = _
  rw [notIn_nil,notIn_nil,notIn_nil];rfl
 rw [hu]
 rw [blkY_eq,hks,blkYs,blkYs,blkYs] at hn
 have hl0:=use_len x0
 have hl4:=use_len x2
 have hl1:=addN_len free (notIn bl (useY x0))
 have hl2:=notIn_len bl (useY x0)
 have hl5:=addN_len (addN free (notIn bl (useY x0))) (notIn bl (useY x2))
 have hl6:=notIn_len bl (useY x2)
 have K0:=Lib.hid (H0 F free bl v bv A0 m0 V k0 BV.out LV.out FV.out (by omega))
 have K2:=Lib.hid (fun W (hk':FK w0.heap.size V W) v' hF'=>H2 F (addN free (notIn bl (useY x0))) bl v' bv A2 m2 W k2 (BV.out.trans hk'.below) (LV.out.kept hk') hF' (by omega))
 have HE:addN free (notIn bl (useY x0++(useY x2++notIn (vrY x1) (ys.flatMap useY))))=addN (addN (addN free (notIn bl (useY x0))) (notIn bl (useY x2))) (notIn ((vrY x1).reverse++bl) (ys.flatMap useY)):=by
  rw [notIn_append,notIn_append,addN_append,addN_append,notIn_notIn]
  congr 1
  exact notIn_same (fun s=>by rw [List.contains_eq_any_beq,List.contains_eq_any_beq,List.any_append,List.any_append,List.any_reverse]) _
 rw [HE]
 have hyd:YT w0 (.mk 0 [] ys) (some ⟨q,o+9,none⟩) (c-3):=by have h:=YT.drop h0 3 (by rw [hks];simp);rwa [hks] at h
 have KN:=Lib.hid (fun (W1:World) (hk1:FK w0.heap.size V W1) v1 (hf1:FS w0.heap.size W1 F (addN (addN free (notIn bl (useY x0))) (notIn bl (useY x2))) v1) bv' W' (hb':Below W1.heap.size W1 W') (hbl:BL W' bv' ((vrY x1).reverse++bl))=>show Calls Tryz.prog 32 #[.pointer (some ⟨F,0,none⟩),.slice (some ⟨q,o+9,none⟩) ys.length (c-3),bv'] W' _ from HA F (addN (addN free (notIn bl (useY x0))) (notIn bl (useY x2))) ((vrY x1).reverse++bl) v1 bv' _ _ W' hyd ((BV.out.trans hk1.below).trans (hb'.mono (BV.out.trans hk1.below).size)) hbl (hf1.below hb') (by show _+blkYs ys≤_;omega))
 have KR:=Lib.hid (fun (W':World) (hb':Below w0.heap.size w0 W')=>hv A1 m1 W' (YX.below k1 hb'))
 have KW:=Lib.hid (fun A' cap' bv (W':World) (hbl:BL W' bv bl) (hv:StrV W' A' cap' (vrY x1))=>scWith_any (vrY x1) bl bv A' cap' W' hbl hv (by have:=vr_len x1;omega))
 have hl3:t.kids.length=ys.length+3:=by rw [hks];rfl
 simp only [Nat.zero_mul,Nat.add_zero,Nat.one_mul,Nat.reduceMul] at ce0 ce1 ce2
 have C1:=Lib.hid ce1
 have C2:=Lib.hid ce2
 obtain ⟨d0,d1,d2⟩:=ce0 V BV.out
 simp only [show (Ny.mk 0 [] ys).kids.flatMap useY=ys.flatMap useY from rfl] at KN
 generalize addN (addN (addN free (notIn bl (useY x0))) (notIn bl (useY x2))) (notIn ((vrY x1).reverse++bl) (ys.flatMap useY))=R at *
 generalize addN (addN free (notIn bl (useY x0))) (notIn bl (useY x2))=R2 at *
 generalize addN free (notIn bl (useY x0))=R1 at *
 generalize vrY x1=vs at *
 have hys:=blkYs_len ys
 have hyp:=List.length_pos_iff.2 hy
 have hm1:ys.length≤1099511627776:=by omega
 have hmc:ys.length+3≤c:=by rw [←hl3];exact hcap.1
 have hmc2:c≤9223372036854775807:=by have:=hcap.2;unfold maxLen at this;exact this
 simp only [yAgg] at K0 K2 KR ⊢
 rw [hk,hl3] at hV hxV ⊢
 rw [hl3] at c2
 rw [hk] at c0
 have XV:=Lib.hid hxV
 clear hat k0 k1 k2 hb hl hF hbV hv hl0 H0 H2 hu hn hu1 HE hl1 hl2 hl4 hl5 hl6 hks hxV hlV ce0 ce1 ce2 h0 hl3 hk hq HA hyd hcap hne hys hy
 generalize ys.length=n at *
 have z1:¬(n:Int)+3≤1:=by omega
 have z2:¬(n:Int)+3≤2:=by omega
 have z3:(3:Int)≤(n:Int)+3:=by omega
 have z4:¬c=3:=by omega
 go_enter Tryz.func17,Tryz.ntmps17
 go_upto_region 1 with fail
 rw [←hV]
 clear hV
 go_wp2_with (go_at_call 17;refine K0.out.mono ?_)
 rintro e W1 ⟨rfl,hk1,v1,hf1⟩
 have K1:=Lib.hid hk1
 have F1:=Lib.hid hf1
 have hx1:=hk1.keep _ _ _ _ XV.out (by decide) (by decide)
 have XW:=Lib.hid hx1
 have e2:W1.cell? ⟨w.heap.size,2,none⟩=some (.slice (some ⟨q,o,none⟩) (n+3) c):=by rw [Lib.cell_of_heap hx1];rfl
 have e0:W1.cell? ⟨w.heap.size,0,none⟩=some (.int .i64 19):=by rw [Lib.cell_of_heap hx1];rfl
 obtain ⟨g0,g1,g2⟩:=C2.out W1 (BV.out.trans hk1.below)
 clear hk1 hf1 hx1 d0 d1 d2 c0 c1 c2
 go_wp2_with (go_at_call 17;refine (K2.out _ K1.out _ F1.out).mono ?_)
 rintro e W2 ⟨rfl,hk1,v2,hf1⟩
 have hk2:=K1.out.trans hk1
 have K3:=Lib.hid hk2
 have F2:=Lib.hid hf1
 have B1:=Lib.hid (BV.out.trans hk2.below)
 have L1:=Lib.hid (LV.out.kept hk2)
 have hx1:=hk2.keep _ _ _ _ XV.out (by decide) (by decide)
 have hlw:=(Array.getElem?_eq_some_iff.1 hx1).1
 have HC2:=Lib.hid (fun (W':World) (hb:Below W2.heap.size W2 W')=>show W'.cell? ⟨w.heap.size,2,none⟩=some (.slice (some ⟨q,o,none⟩) (n+3) c) by rw [hb.cell (p:=⟨w.heap.size,2,none⟩) hlw,Lib.cell_of_heap hx1];rfl)
 have HB:=Lib.hid (fun (W':World) (hb:Below W2.heap.size W2 W')=>B1.out.trans (hb.mono B1.out.size))
 clear hk1 hk2 hf1 hx1 e0 e2 g0 g1 g2
 go_upto_region 17 with fail
 refine wp_region_s 11 (fun W'=>Below W2.heap.size W2 W') (by kernel_rfl) ((Below.refl W2.heap.size W2).drew) (fun hS0=>?_)
 refine tk 0 (.pointer (some ⟨F,0,none⟩)) [11] hS0 ?_
 refine tk 1 (.pointer (some ⟨w.heap.size,2,none⟩)) [2,3,11] hS0 ?_
 refine tk 2 (.slice (some ⟨q,o,none⟩) (n+3) c) [3,11] hS0 ?_ (y:=.inl ⟨by kernel_rfl,fun _ H=>by have cX:=HC2.out _ H;go_simp⟩)
 refine tk 3 (.slice (some ⟨q,o+9,none⟩) n (c-3)) [11] hS0 ?_
 refine tk 4 (bv) [10,11] hS0 ?_
 refine tk 5 (.pointer (some ⟨w.heap.size,2,none⟩)) [6,7,8,9,10,11] hS0 ?_
 refine tk 6 (.slice (some ⟨q,o,none⟩) (n+3) c) [7,8,9,10,11] hS0 ?_ (y:=.inl ⟨by kernel_rfl,fun _ H=>by have cX:=HC2.out _ H;go_simp⟩)
 refine tk 7 (.pointer (some ⟨q,o+3,none⟩)) [8,9,10,11] hS0 ?_
 refine tk 8 (.agg #[.int .i64 x1.kind,.string ⟨x1.text.toArray⟩,.slice A1 x1.kids.length m1]) [9,10,11] hS0 ?_ (y:=.inl ⟨by kernel_rfl,fun _ H=>by obtain ⟨cX,cY,cZ⟩:=C1.out _ (HB.out _ H);go_simp⟩)
 refine st 9 fun K hK=>?_
 go_simp
 go_at_call 34
 refine (KR.out _ (HB.out _ hS0)).mono ?_
 rintro e w3 ⟨vv,rfl,ho,hb⟩
 have HS3:=Lib.hid (Below.trans hS0 (hb.mono (Below.size hS0)))
 obtain ⟨A',cap',rfl,hsv⟩:=own_str ho
 clear hb
 try dsimp only
 refine hK.out _ _ (fun _=>HS3.out) (fun _=>?_)
 clear hK K
 refine st 10 fun K hK=>?_
 go_simp
 go_at_call 33
 refine (KW.out A' cap' bv _ (L1.out.under HS3.out) hsv).mono ?_
 rintro e w4 ⟨bv',rfl,hbl,hb⟩
 have HS4:=Lib.hid (Below.trans HS3.out (hb.mono (Below.size HS3.out)))
 clear hb
 try dsimp only
 refine hK.out _ _ (fun _=>HS4.out) (fun _=>?_)
 clear hK K
 refine st 11 fun K hK=>?_
 go_simp
 go_at_call 32
 refine (KN.out W2 K3.out v2 F2.out bv' _ HS4.out hbl).mono ?_
 rintro e w5 ⟨rfl,hk5,hf5⟩
 have K5:=Lib.hid ((FK.of (B:=w0.heap.size) HS4.out B1.out.size).trans hk5)
 try dsimp only
 refine hK.out _ _ (fun h=>absurd rfl h) (fun _=>?_)
 clear hK K
 refine wpAnyS_done (by kernel_rfl) ?_ _
 go_wp2
 go_returns
 exact ⟨rfl,KV.out.trans (K3.out.trans K5.out),hf5⟩
set_option maxHeartbeats 8000000 in
set_option maxRecDepth 100000 in
theorem scNForeach_any (w0:World) (t:Ny) (hk:t.kind=20) (x0 x1 x2:Ny) (ys:List Ny) (hks:t.kids=x0::x1::x2::ys) (hu1:useY x1=[]) (hv:VrC x1) (H0:NodC w0 x0) (H2:NodC w0 x2) (HA:AllC w0 (.mk 0 [] ys)) (hy:ys≠[]):NodC w0 t:=by
 intro F free bl v bv A c w h0 hb hl hF hn
 show Calls _ _ _ _ (FiR w0.heap.size F (addN free (notIn bl (useY t))) w)
 have hne:t.kids≠[]:=by rw [hks];simp
 have hcap:=YT.caps h0 hne
 obtain ⟨q,o,rfl,hq,hat⟩:=YT.row h0 hne
 obtain ⟨A0,m0,k0,ce0⟩:=hat 0 x0 (by rw [hks];rfl)
 obtain ⟨A1,m1,k1,ce1⟩:=hat 1 x1 (by rw [hks];rfl)
 obtain ⟨A2,m2,k2,ce2⟩:=hat 2 x2 (by rw [hks];rfl)
 obtain ⟨V,hV,hbV,hxV,hlV,c0,c1,c2⟩:=node_in w t.kind ⟨t.text.toArray⟩ (.slice (some ⟨q,o,none⟩) t.kids.length c)
 have BV:=Lib.hid (hb.trans (hbV.mono hb.size))
 have KV:=Lib.hid (FK.of hbV hb.size)
 have LV:=Lib.hid (hl.under hbV)
 have FV:=Lib.hid (hF.below hbV)
 have hu:useY t=useY x0++(useY x2++notIn (vrY x1) (ys.flatMap useY)):=by
  have hl:=useYs_loop 20 t.text (x0::x1::x2::ys) (by decide) ys 3 (by decide)
  rw [useY_eq,hk,hks,useYs,useYs,useYs,hu1,hl]
  show []++(notIn [] (useY x0)++(notIn [] []++(notIn [] (useY x2)++notIn (vrY x1) (ys.flatMap useY)))) = _
  rw [notIn_nil,notIn_nil,notIn_nil];rfl
 rw [hu]
 rw [blkY_eq,hks,blkYs,blkYs,blkYs] at hn
 have hl0:=use_len x0
 have hl4:=use_len x2
 have hl1:=addN_len free (notIn bl (useY x0))
 have hl2:=notIn_len bl (useY x0)
 have hl5:=addN_len (addN free (notIn bl (useY x0))) (notIn bl (useY x2))
 have hl6:=notIn_len bl (useY x2)
 have K0:=Lib.hid (H0 F free bl v bv A0 m0 V k0 BV.out LV.out FV.out (by omega))
 have K2:=Lib.hid (fun W (hk':FK w0.heap.size V W) v' hF'=>H2 F (addN free (notIn bl (useY x0))) bl v' bv A2 m2 W k2 (BV.out.trans hk'.below) (LV.out.kept hk') hF' (by omega))
 have HE:addN free (notIn bl (useY x0++(useY x2++notIn (vrY x1) (ys.flatMap useY))))=addN (addN (addN free (notIn bl (useY x0))) (notIn bl (useY x2))) (notIn ((vrY x1).reverse++bl) (ys.flatMap useY)):=by
  rw [notIn_append,notIn_append,addN_append,addN_append,notIn_notIn]
  congr 1
  exact notIn_same (fun s=>by rw [List.contains_eq_any_beq,List.contains_eq_any_beq,List.any_append,List.any_append,List.any_reverse]) _
 rw [HE]
 have hyd:YT w0 (.mk 0 [] ys) (some ⟨q,o+9,none⟩) (c-3):=by have h:=YT.drop h0 3 (by rw [hks];simp);rwa [hks] at h
 have KN:=Lib.hid (fun (W1:World) (hk1:FK w0.heap.size V W1) v1 (hf1:FS w0.heap.size W1 F (addN (addN free (notIn bl (useY x0))) (notIn bl (useY x2))) v1) bv' W' (hb':Below W1.heap.size W1 W') (hbl:BL W' bv' ((vrY x1).reverse++bl))=>show Calls Tryz.prog 32 #[.pointer (some ⟨F,0,none⟩),.slice (some ⟨q,o+9,none⟩) ys.length (c-3),bv'] W' _ from HA F (addN (addN free (notIn bl (useY x0))) (notIn bl (useY x2))) ((vrY x1).reverse++bl) v1 bv' _ _ W' hyd ((BV.out.trans hk1.below).trans (hb'.mono (BV.out.trans hk1.below).size)) hbl (hf1.below hb') (by show _+blkYs ys≤_;omega))
 have KR:=Lib.hid (fun (W':World) (hb':Below w0.heap.size w0 W')=>hv A1 m1 W' (YX.below k1 hb'))
 have KW:=Lib.hid (fun A' cap' bv (W':World) (hbl:BL W' bv bl) (hv:StrV W' A' cap' (vrY x1))=>scWith_any (vrY x1) bl bv A' cap' W' hbl hv (by have:=vr_len x1;omega))
 have hl3:t.kids.length=ys.length+3:=by rw [hks];rfl
 simp only [Nat.zero_mul,Nat.add_zero,Nat.one_mul,Nat.reduceMul] at ce0 ce1 ce2
 have C1:=Lib.hid ce1
 have C2:=Lib.hid ce2
 obtain ⟨d0,d1,d2⟩:=ce0 V BV.out
 simp only [show (Ny.mk 0 [] ys).kids.flatMap useY=ys.flatMap useY from rfl] at KN
 generalize addN (addN (addN free (notIn bl (useY x0))) (notIn bl (useY x2))) (notIn ((vrY x1).reverse++bl) (ys.flatMap useY))=R at *
 generalize addN (addN free (notIn bl (useY x0))) (notIn bl (useY x2))=R2 at *
 generalize addN free (notIn bl (useY x0))=R1 at *
 generalize vrY x1=vs at *
 have hys:=blkYs_len ys
 have hyp:=List.length_pos_iff.2 hy
 have hm1:ys.length≤1099511627776:=by omega
 have hmc:ys.length+3≤c:=by rw [←hl3];exact hcap.1
 have hmc2:c≤9223372036854775807:=by have:=hcap.2;unfold maxLen at this;exact this
 simp only [yAgg] at K0 K2 KR ⊢
 rw [hk,hl3] at hV hxV ⊢
 rw [hl3] at c2
 rw [hk] at c0
 have XV:=Lib.hid hxV
 clear hat k0 k1 k2 hb hl hF hbV hv hl0 H0 H2 hu hn hu1 HE hl1 hl2 hl4 hl5 hl6 hks hxV hlV ce0 ce1 ce2 h0 hl3 hk hq HA hyd hcap hne hys hy
 generalize ys.length=n at *
 have z1:¬(n:Int)+3≤1:=by omega
 have z2:¬(n:Int)+3≤2:=by omega
 have z3:(3:Int)≤(n:Int)+3:=by omega
 have z4:¬c=3:=by omega
 go_enter Tryz.func17,Tryz.ntmps17
 go_upto_region 1 with fail
 rw [←hV]
 clear hV
 go_wp2_with (go_at_call 17;refine K0.out.mono ?_)
 rintro e W1 ⟨rfl,hk1,v1,hf1⟩
 have K1:=Lib.hid hk1
 have F1:=Lib.hid hf1
 have hx1:=hk1.keep _ _ _ _ XV.out (by decide) (by decide)
 have XW:=Lib.hid hx1
 have e2:W1.cell? ⟨w.heap.size,2,none⟩=some (.slice (some ⟨q,o,none⟩) (n+3) c):=by rw [Lib.cell_of_heap hx1];rfl
 have e0:W1.cell? ⟨w.heap.size,0,none⟩=some (.int .i64 20):=by rw [Lib.cell_of_heap hx1];rfl
 obtain ⟨g0,g1,g2⟩:=C2.out W1 (BV.out.trans hk1.below)
 clear hk1 hf1 hx1 d0 d1 d2 c0 c1 c2
 go_wp2_with (go_at_call 17;refine (K2.out _ K1.out _ F1.out).mono ?_)
 rintro e W2 ⟨rfl,hk1,v2,hf1⟩
 have hk2:=K1.out.trans hk1
 have K3:=Lib.hid hk2
 have F2:=Lib.hid hf1
 have B1:=Lib.hid (BV.out.trans hk2.below)
 have L1:=Lib.hid (LV.out.kept hk2)
 have hx1:=hk2.keep _ _ _ _ XV.out (by decide) (by decide)
 have hlw:=(Array.getElem?_eq_some_iff.1 hx1).1
 have HC2:=Lib.hid (fun (W':World) (hb:Below W2.heap.size W2 W')=>show W'.cell? ⟨w.heap.size,2,none⟩=some (.slice (some ⟨q,o,none⟩) (n+3) c) by rw [hb.cell (p:=⟨w.heap.size,2,none⟩) hlw,Lib.cell_of_heap hx1];rfl)
 have HB:=Lib.hid (fun (W':World) (hb:Below W2.heap.size W2 W')=>B1.out.trans (hb.mono B1.out.size))
 clear hk1 hk2 hf1 hx1 e0 e2 g0 g1 g2
 go_upto_region 17 with fail
 refine wp_region_s 11 (fun W'=>Below W2.heap.size W2 W') (by kernel_rfl) ((Below.refl W2.heap.size W2).drew) (fun hS0=>?_)
 refine tk 0 (.pointer (some ⟨F,0,none⟩)) [11] hS0 ?_
 refine tk 1 (.pointer (some ⟨w.heap.size,2,none⟩)) [2,3,11] hS0 ?_
 refine tk 2 (.slice (some ⟨q,o,none⟩) (n+3) c) [3,11] hS0 ?_ (y:=.inl ⟨by kernel_rfl,fun _ H=>by have cX:=HC2.out _ H;go_simp⟩)
 refine tk 3 (.slice (some ⟨q,o+9,none⟩) n (c-3)) [11] hS0 ?_
 refine tk 4 (bv) [10,11] hS0 ?_
 refine tk 5 (.pointer (some ⟨w.heap.size,2,none⟩)) [6,7,8,9,10,11] hS0 ?_
 refine tk 6 (.slice (some ⟨q,o,none⟩) (n+3) c) [7,8,9,10,11] hS0 ?_ (y:=.inl ⟨by kernel_rfl,fun _ H=>by have cX:=HC2.out _ H;go_simp⟩)
 refine tk 7 (.pointer (some ⟨q,o+3,none⟩)) [8,9,10,11] hS0 ?_
 refine tk 8 (.agg #[.int .i64 x1.kind,.string ⟨x1.text.toArray⟩,.slice A1 x1.kids.length m1]) [9,10,11] hS0 ?_ (y:=.inl ⟨by kernel_rfl,fun _ H=>by obtain ⟨cX,cY,cZ⟩:=C1.out _ (HB.out _ H);go_simp⟩)
 refine st 9 fun K hK=>?_
 go_simp
 go_at_call 34
 refine (KR.out _ (HB.out _ hS0)).mono ?_
 rintro e w3 ⟨vv,rfl,ho,hb⟩
 have HS3:=Lib.hid (Below.trans hS0 (hb.mono (Below.size hS0)))
 obtain ⟨A',cap',rfl,hsv⟩:=own_str ho
 clear hb
 try dsimp only
 refine hK.out _ _ (fun _=>HS3.out) (fun _=>?_)
 clear hK K
 refine st 10 fun K hK=>?_
 go_simp
 go_at_call 33
 refine (KW.out A' cap' bv _ (L1.out.under HS3.out) hsv).mono ?_
 rintro e w4 ⟨bv',rfl,hbl,hb⟩
 have HS4:=Lib.hid (Below.trans HS3.out (hb.mono (Below.size HS3.out)))
 clear hb
 try dsimp only
 refine hK.out _ _ (fun _=>HS4.out) (fun _=>?_)
 clear hK K
 refine st 11 fun K hK=>?_
 go_simp
 go_at_call 32
 refine (KN.out W2 K3.out v2 F2.out bv' _ HS4.out hbl).mono ?_
 rintro e w5 ⟨rfl,hk5,hf5⟩
 have K5:=Lib.hid ((FK.of (B:=w0.heap.size) HS4.out B1.out.size).trans hk5)
 try dsimp only
 refine hK.out _ _ (fun h=>absurd rfl h) (fun _=>?_)
 clear hK K
 refine wpAnyS_done (by kernel_rfl) ?_ _
 go_wp2
 go_returns
 exact ⟨rfl,KV.out.trans (K3.out.trans K5.out),hf5⟩
set_option maxHeartbeats 8000000 in
set_option maxRecDepth 100000 in
theorem scNLabel_any (w0:World) (t:Ny) (hk:t.kind=21) (hx:TF t.text) (HA:AllC w0 t):NodC w0 t:=by
 intro F free bl v bv A c w h0 hb hl hF hn
 show Calls _ _ _ _ (FiR w0.heap.size F (addN free (notIn bl (useY t))) w)
 obtain ⟨V,hV,hbV,hxV,hlV,c0,c1,c2⟩:=node_in w t.kind ⟨t.text.toArray⟩ (.slice A t.kids.length c)
 have BV:=Lib.hid (hb.trans (hbV.mono hb.size))
 have KV:=Lib.hid (FK.of hbV hb.size)
 have LV:=Lib.hid (hl.under hbV)
 have FV:=Lib.hid (hF.below hbV)
 have XV:=Lib.hid hxV
 have hu:useY t=notIn [42::t.text] (t.kids.flatMap useY):=by rw [useY_eq,hk,useYs_label];rfl
 rw [hu,notIn_notIn]
 rw [blkY_eq] at hn
 have KN:=Lib.hid (fun bv' W' (hb':Below V.heap.size V W') (hbl:BL W' bv' ([42::t.text]++bl))=>HA F free ([42::t.text]++bl) v bv' A c W' h0 (BV.out.trans (hb'.mono BV.out.size)) hbl (FV.out.below hb') (by omega))
 have KW:=Lib.hid (fun g bv (W':World) (hbl:BL W' bv bl) (hv:StrV W' (some ⟨g,0,none⟩) 1 [42::t.text])=>show Calls Tryz.prog 33 #[bv,.slice (some ⟨g,0,none⟩) 1 1] W' (WiR ([42::t.text]++bl) W') from scWith_any [42::t.text] bl bv _ 1 W' hbl hv (by simp))
 have a1:¬9223372036854775807<1+t.text.length:=by omega
 have hlw:=(Array.getElem?_eq_some_iff.1 hxV).1
 generalize hn2:t.kids.length=n at *
 have HC2:=Lib.hid (fun (W':World) (hb:Below V.heap.size V W')=>show W'.cell? ⟨w.heap.size,2,none⟩=some (.slice A n c) by rw [hb.cell (p:=⟨w.heap.size,2,none⟩) hlw,Lib.cell_of_heap hxV];rfl)
 have HC1:=Lib.hid (fun (W':World) (hb:Below V.heap.size V W')=>show W'.cell? ⟨w.heap.size,1,none⟩=some (.string ⟨t.text.toArray⟩) by rw [hb.cell (p:=⟨w.heap.size,1,none⟩) hlw,Lib.cell_of_heap hxV];rfl)
 generalize addN free (notIn ([42::t.text]++bl) (t.kids.flatMap useY))=R at *
 simp only [yAgg]
 rw [hk] at hV c0 ⊢
 clear h0 hb hl hF hn hbV HA hx hu hk hxV hlV hn2 XV hlw
 go_enter Tryz.func17,Tryz.ntmps17
 go_upto_region 1 with fail
 rw [←hV]
 clear hV
 go_upto_region 19 with fail
 refine wp_region_s 9 (fun W'=>Below V.heap.size V W') (by kernel_rfl) ((Below.refl V.heap.size V).drew) (fun hS0=>?_)
 refine tk 0 (.pointer (some ⟨F,0,none⟩)) [9] hS0 ?_
 refine tk 1 (.pointer (some ⟨w.heap.size,2,none⟩)) [2,9] hS0 ?_
 refine tk 2 (.slice A n c) [9] hS0 ?_ (y:=.inl ⟨by kernel_rfl,fun _ H=>by have cX:=HC2.out _ H;go_simp⟩)
 refine tk 3 (bv) [8,9] hS0 ?_
 refine tk 4 (.pointer (some ⟨w.heap.size,1,none⟩)) [5,6,7,8,9] hS0 ?_
 refine tk 5 (.string ⟨t.text.toArray⟩) [6,7,8,9] hS0 ?_ (y:=.inl ⟨by kernel_rfl,fun _ H=>by have cX:=HC1.out _ H;go_simp⟩)
 refine tk 6 (.string (⟨#[42]⟩++⟨t.text.toArray⟩:ByteArray)) [7,8,9] hS0 ?_
 refine st 7 fun K hK=>?_
 go_simp
 have HS3:=Lib.hid (Below.alloc hS0 (Below.size hS0) (.cells #[.string ⟨(42::t.text).toArray⟩] 9))
 refine hK.out _ _ (fun _=>HS3.out) (fun _=>?_)
 clear hK K
 refine st 8 fun K hK=>?_
 go_simp
 go_at_call 33
 refine (KW.out _ bv _ (LV.out.under HS3.out) (strV_lit _ (42::t.text))).mono ?_
 rintro e w4 ⟨bv',rfl,hbl,hb⟩
 have HS4:=Lib.hid (Below.trans HS3.out (hb.mono (Below.size HS3.out)))
 clear hb
 try dsimp only
 refine hK.out _ _ (fun _=>HS4.out) (fun _=>?_)
 clear hK K
 refine st 9 fun K hK=>?_
 go_simp
 go_at_call 32
 refine (KN.out bv' _ HS4.out hbl).mono ?_
 rintro e w5 ⟨rfl,hk5,hf5⟩
 have K5:=Lib.hid ((FK.of (B:=w0.heap.size) HS4.out BV.out.size).trans hk5)
 try dsimp only
 refine hK.out _ _ (fun h=>absurd rfl h) (fun _=>?_)
 clear hK K
 refine wpAnyS_done (by kernel_rfl) ?_ _
 go_wp2
 go_returns
 exact ⟨rfl,KV.out.trans K5.out,hf5⟩
set_option maxHeartbeats 8000000 in
set_option maxRecDepth 100000 in
theorem scNDef_any (w0:World) (t:Ny) (hk:t.kind=26) (HD:DefC w0 t):NodC w0 t:=by
 intro F free bl v bv A c w h0 hb hl hF hn
 show Calls _ _ _ _ (FiR w0.heap.size F (addN free (notIn bl (useY t))) w)
 obtain ⟨V,hV,hbV,hxV,hlV,c0,c1,c2⟩:=node_in w t.kind ⟨t.text.toArray⟩ (.slice A t.kids.length c)
 have BV:=Lib.hid (hb.trans (hbV.mono hb.size))
 have KV:=Lib.hid (FK.of hbV hb.size)
 have LV:=Lib.hid (hl.under hbV)
 have FV:=Lib.hid (hF.below hbV)
 have XV:=Lib.hid hxV
 have KD:=Lib.hid (HD F free bl v bv A c V h0 BV.out LV.out FV.out hn)
 generalize addN free (notIn bl (useY t))=R at *
 simp only [yAgg] at KD ⊢
 rw [hk] at hV c0 KD ⊢
 clear h0 hb hl hF hn hbV HD hk hxV hlV XV
 generalize t.kids.length=n at *
 go_enter Tryz.func17,Tryz.ntmps17
 go_upto_region 1 with fail
 rw [←hV]
 clear hV
 go_wp2_with (go_at_call 35;refine KD.out.mono ?_)
 rintro e w3 ⟨rfl,hk3,hf3⟩
 go_wp2
 go_returns
 exact ⟨rfl,KV.out.trans hk3,hf3⟩
def parL:List Ny→List (List UInt8)→List (List UInt8)
 | [],b=>b
 | p::ps,b=>parL ps (parN p.text++b)
theorem parL_mem (s:List UInt8):∀(ps:List Ny) (b:List (List UInt8)),s∈parL ps b↔s∈parNs ps∨s∈b
 | [],b=>by simp [parL,parNs]
 | p::ps,b=>by
  rw [parL,parL_mem s ps]
  unfold parNs
  rw [List.flatMap_cons,List.mem_append,List.mem_append]
  constructor
  ·rintro (h | h | h)
   ·exact .inl (.inr h)
   ·exact .inl (.inl h)
   ·exact .inr h
  ·rintro ((h | h) | h)
   ·exact .inr (.inl h)
   ·exact .inl h
   ·exact .inr (.inr h)
theorem parL_snoc (p:Ny):∀(ps:List Ny) (b:List (List UInt8)),parL (ps++[p]) b=parN p.text++parL ps b
 | [],_=>rfl
 | q::ps,b=>by rw [List.cons_append,parL,parL_snoc p ps,parL]
theorem parL_step {ps:List Ny} {i:Nat} {p:Ny} (h:ps[i]?=some p) (b:List (List UInt8)):parL (ps.take (i+1)) b=parN p.text++parL (ps.take i) b:=by
 rw [List.take_add_one,h];exact parL_snoc p _ b
theorem use_def (t:Ny) (ps:List Ny) (y0 y1:Ny) (hk:t.kind=26) (hks:t.kids=ps++[y0,y1]) (hps:∀p∈ps,useY p=[]) :
  useY t=notIn (parNs ps++[fnN t.text ps.length]) (useY y0)++notIn [fnN t.text ps.length] (useY y1):=by
 have hl:(ps++[y0,y1]).length=ps.length+2:=by simp
 have e0:bndY 26 t.text (ps++[y0,y1]) (0+ps.length)=parNs ps++[fnN t.text ps.length]:=by
  unfold bndY
  rw [if_neg (by decide),if_neg (by decide),if_neg (by decide),if_pos rfl,hl,Nat.zero_add,if_pos rfl,Nat.add_sub_cancel,List.take_left' rfl]
 have e1:bndY 26 t.text (ps++[y0,y1]) (0+ps.length+1)=[fnN t.text ps.length]:=by
  unfold bndY
  rw [if_neg (by decide),if_neg (by decide),if_neg (by decide),if_pos rfl,hl,if_neg (by omega),Nat.add_sub_cancel]
  rfl
 rw [useY_eq,hk,hks,useYs_skip [y0,y1] ps 0 hps,useYs,useYs,useYs,e0,e1,List.append_nil]
 rfl
theorem scWith1_any (x:List UInt8) (L:List (List UInt8)) (bv:Value) (g:Nat) (w:World) (h:BL w bv L) (hv:StrV w (some ⟨g,0,none⟩) 1 [x]) :
  Calls Tryz.prog 33 #[bv,.slice (some ⟨g,0,none⟩) 1 1] w (WiR (x::L) w):=
 scWith_any [x] L bv _ 1 w h hv (by simp)
set_option maxHeartbeats 8000000 in
set_option maxRecDepth 100000 in
theorem scDef_any (w0:World) (hT:Tb w0) (t:Ny) (hk:t.kind=26) (hx:TF t.text) (ps:List Ny) (y0 y1:Ny) (hks:t.kids=ps++[y0,y1]) (hps:∀p∈ps,p.text≠[]∧TF p.text∧useY p=[]) (H0:NodC w0 y0) (H1:NodC w0 y1):DefC w0 t:=by
 intro F free bl v bv A c w h0 hb hl hF hn
 show Calls _ _ _ _ (FiR w0.heap.size F (addN free (notIn bl (useY t))) w)
 have hne:t.kids≠[]:=by rw [hks];simp
 have hcap:=YT.caps h0 hne
 obtain ⟨q,o,rfl,hq,hat⟩:=YT.row h0 hne
 have hkl:t.kids.length=ps.length+2:=by rw [hks];simp
 obtain ⟨A0,m0,k0,ce0⟩:=hat ps.length y0 (by rw [hks];simp)
 obtain ⟨A1,m1,k1,ce1⟩:=hat (ps.length+1) y1 (by rw [hks,List.getElem?_append_right (by omega)];simp)
 have HAT:=Lib.hid (fun i p (hp:ps[i]?=some p)=>hat i p (by rw [hks,List.getElem?_append_left (List.getElem?_eq_some_iff.1 hp).1];exact hp))
 obtain ⟨V,hV,hbV,hxV,hlV,c0,c1,c2⟩:=node_in w t.kind ⟨t.text.toArray⟩ (.slice (some ⟨q,o,none⟩) t.kids.length c)
 have BV:=Lib.hid (hb.trans (hbV.mono hb.size))
 have KV:=Lib.hid (FK.of hbV hb.size)
 have LV:=Lib.hid (hl.under hbV)
 have FV:=Lib.hid (hF.below hbV)
 have XV:=Lib.hid hxV
 obtain ⟨fn,hfn⟩:∃fn,fn=fnN t.text ps.length:=⟨_,rfl⟩
 have hu:=use_def t ps y0 y1 hk hks (fun p hp=>(hps p hp).2.2)
 rw [←hfn] at hu
 have hsame:∀s,((parNs ps++[fn])++bl).contains s=(parL ps (fn::bl)).contains s:=fun s=>by
  rw [Bool.eq_iff_iff,List.contains_iff_mem,List.contains_iff_mem,parL_mem]
  simp only [List.mem_append,List.mem_cons,List.not_mem_nil,or_false,or_assoc]
 have HE:addN free (notIn bl (useY t))=addN (addN free (notIn (parL ps (fn::bl)) (useY y0))) (notIn (fn::bl) (useY y1)):=by
  rw [hu,notIn_append,addN_append,notIn_notIn,notIn_notIn,notIn_same hsame]
  rfl
 rw [HE]
 rw [blkY_eq,hks,blkYs_append] at hn
 rw [show blkYs [y0,y1]=blkY y0+(blkY y1+0) by rw [blkYs,blkYs,blkYs]] at hn
 have hm:ps.length≤1099511627776:=by have:=blkYs_len ps;omega
 have hl1:=addN_len free (notIn (parL ps (fn::bl)) (useY y0))
 have hl2:=notIn_len (parL ps (fn::bl)) (useY y0)
 have hl3:=use_len y0
 have KF0:=Lib.hid (hfn▸scFun_any t.text ps.length hx hm V (hT.below BV.out (Nat.le_refl _)))
 have KF:=Lib.hid (fun (x:List UInt8) (W:World) (hW:Below w0.heap.size w0 W) (hx:TF x)=>scFun_any x 0 hx (by omega) W (hT.below hW (Nat.le_refl _)))
 have K0:=Lib.hid (fun W v7 (hbW:Below V.heap.size V W) (hL:BL W v7 (parL ps (fn::bl)))=>H0 F free (parL ps (fn::bl)) v v7 A0 m0 W k0 (BV.out.trans (hbW.mono BV.out.size)) hL (FV.out.below hbW) (by omega))
 have K1:=Lib.hid (fun W b2 v' (hbW:Below w0.heap.size w0 W) (hL:BL W b2 (fn::bl)) hF'=>H1 F (addN free (notIn (parL ps (fn::bl)) (useY y0))) (fn::bl) v' b2 A1 m1 W k1 hbW hL hF' (by omega))
 have C0:=Lib.hid ce0
 have C1:=Lib.hid ce1
 have HPS:=Lib.hid hps
 have hmc:ps.length+2≤c:=by rw [←hkl];exact hcap.1
 have hmc2:c≤9223372036854775807:=by have:=hcap.2;unfold maxLen at this;exact this
 generalize addN (addN free (notIn (parL ps (fn::bl)) (useY y0))) (notIn (fn::bl) (useY y1))=R at *
 generalize addN free (notIn (parL ps (fn::bl)) (useY y0))=R1 at *
 simp only [yAgg] at K0 K1 ⊢
 rw [hkl] at hV c2 XV ⊢
 clear hT h0 hb hl hF hn hbV hxV hlV hx hks hps H0 H1 hu hsame HE hl1 hl2 hl3 hk hcap hne hq hat k0 k1 ce0 ce1 hkl hfn
 obtain ⟨m,hm'⟩:∃m,m=ps.length:=⟨_,rfl⟩
 rw [←hm'] at hV c2 hm KF0 C0 C1 XV hmc ⊢
 have HM:=Lib.hid hm'
 clear hm'
 generalize t.kind=kd at *
 go_enter Tryz.func35,Tryz.ntmps35
 go_upto_region 1 with fail
 rw [←hV]
 clear hV
 go_wp2_with (go_at_call 31;refine KF0.out.mono ?_)
 rintro e w1 ⟨rfl,hb1⟩
 have L1:=LV.out.under hb1
 have HB1:=Lib.hid hb1
 have L1':=Lib.hid (L1.under ((Below.refl _ w1).alloc (Nat.le_refl _) (.cells #[.string ⟨fn.toArray⟩] 9)))
 clear hb1 L1 c0 c1 c2
 go_wp2_with (go_at_call 33;refine (scWith1_any fn bl bv _ _ L1'.out (strV_lit w1 fn)).mono ?_)
 rintro e w2 ⟨b2,rfl,hl2,hb2⟩
 have hb2':=HB1.out.trans ((((Below.refl _ w1).alloc (Nat.le_refl _) (.cells #[.string ⟨fn.toArray⟩] 9)).trans (hb2.mono (by rw [World.size_alloc];omega))).mono HB1.out.size)
 have HB2:=Lib.hid hb2'
 have L2:=Lib.hid hl2
 have hx2:=(hb2'.block w.heap.size (Array.getElem?_eq_some_iff.1 XV.out).1).trans XV.out
 have d2:w2.cell? ⟨w.heap.size,2,none⟩=some (.slice (some ⟨q,o,none⟩) (m+2) c):=by rw [Lib.cell_of_heap hx2];rfl
 clear hb2 hb2' hl2 hx2 L1' HB1
 go_wp2_with fail
 go_loopg [7,10,28] (m+1) (fun kx v7 _ v28 wr=>∃i:Nat,v28=.int .i64 (i:Int)∧i≤m∧m-i≤kx∧Hid (BL wr v7 (parL (ps.take i) (fn::bl)))∧Below w2.heap.size w2 wr)
 case atStart=>exact ⟨0,rfl,Nat.zero_le _,by omega,L2,Below.refl _ _⟩
 case round=>
  obtain ⟨i,rfl,hi,hik,hrel,hb⟩:=hrel
  have HB:=Lib.hid hb
  have HBV:=Lib.hid (HB2.out.trans (hb.mono HB2.out.size))
  have HB0:=Lib.hid (BV.out.trans (HBV.out.mono BV.out.size))
  clear hb d2
  by_cases hlt:i<m
  ·have hlt':i<ps.length:=by rw [←HM.out];exact hlt
   obtain ⟨p,hp⟩:∃p,ps[i]?=some p:=⟨_,List.getElem?_eq_getElem hlt'⟩
   obtain ⟨pn,ptf,_⟩:=HPS.out p (List.mem_of_getElem? hp)
   have HST:=Lib.hid (parL_step hp (fn::bl))
   obtain ⟨Ap,mp,_,hce⟩:=HAT.out i p hp
   obtain ⟨e0,e1,e2⟩:=hce wr HB0.out
   clear hce hp hlt'
   have i0:(0:Int)≤(i:Int):=by omega
   have i1:(i:Int)<(m:Int):=by omega
   obtain ⟨V2,hV2⟩:∃V2,V2=wr.alloc (.cells (yCells p (.slice Ap p.kids.length mp)).toArray TN):=⟨_,rfl⟩
   have hbv:=show Below wr.heap.size wr V2 by rw [hV2];exact (Below.refl _ wr).alloc (Nat.le_refl _) _
   have HR:=Lib.hid (hrel.out.under hbv)
   have HV2:=Lib.hid hbv
   have HW0:=Lib.hid (HB0.out.trans (hbv.mono HB0.out.size))
   have e3:V2=wr.alloc (.cells #[.int .i64 p.kind,.string ⟨p.text.toArray⟩,.slice Ap p.kids.length mp] TN):=hV2
   have x1:V2.cell? ⟨wr.heap.size,1,none⟩=some (.string ⟨p.text.toArray⟩):=by rw [hV2,Lib.cell_of_heap (Go.heap_alloc_new wr _)];rfl
   clear hrel hV2 hbv
   generalize parL (ps.take i) (fn::bl)=L at *
   generalize p.kind=pk at *
   generalize p.kids.length=pl at *
   generalize p.text=px at *
   cases px with
   | nil=>exact absurd rfl pn
   | cons ch r=>
    have f0:=fun W=>tx_ix ch r W
    have f1:=fun W=>tx_sl ch r W
    have hrt:TF r:=by unfold TF at ptf ⊢;rw [List.length_cons] at ptf;omega
    by_cases hc:ch=36
    ·have HP:=Lib.hid (show parN (ch::r)=[fnN r 0,ch::r] from by unfold parN;exact if_pos hc)
     have z1:((ch.toNat:Int)==36)=true:=by rw [hc];rfl
     have KWP:=Lib.hid (fun W bv (h:BL (W.alloc (.cells #[.string ⟨(ch::r).toArray⟩] 9)) bv L)=>scWith1_any (ch::r) L bv _ _ h (strV_lit W (ch::r)))
     clear pn hc
     generalize (ch::r).toArray=ar at *
     go_upto_region 7 with fail
     rw [←e3]
     clear e3
     have L0:=Lib.hid (HR.out.under ((Below.refl _ _).alloc (Nat.le_refl _) (.cells #[.string ⟨ar⟩] 9)))
     go_wp2_with (go_at_call 33;with_reducible refine (KWP.out _ _ L0.out).mono ?_)
     rintro e w3 ⟨b3,rfl,hl3,hb3⟩
     have hb3':=(HV2.out.alloc HV2.out.size (.cells #[.string ⟨ar⟩] 9)).trans (hb3.mono (by rw [World.size_alloc];have:=HV2.out.size;omega))
     have HB3:=Lib.hid hb3'
     have L3:=Lib.hid hl3
     clear hb3 hb3' hl3 e0 e1 e2
     go_wp2_with (go_at_call 31;refine (KF.out r _ (HB0.out.trans (HB3.out.mono HB0.out.size)) hrt).mono ?_)
     rintro e w4 ⟨rfl,hb4⟩
     have HB4:=Lib.hid (HB3.out.trans (hb4.mono HB3.out.size))
     have L4:=Lib.hid ((L3.out.under hb4).under ((Below.refl _ w4).alloc (Nat.le_refl _) (.cells #[.string ⟨(fnN r 0).toArray⟩] 9)))
     clear hb4
     generalize fnN r 0=fr at *
     go_wp2_with (go_at_call 33;with_reducible refine (scWith1_any fr ((ch::r)::L) _ _ _ L4.out (strV_lit w4 fr)).mono ?_)
     rintro e w5 ⟨b5,rfl,hl5,hb5⟩
     have hb5':=(HB4.out.alloc HB4.out.size (.cells #[.string ⟨fr.toArray⟩] 9)).trans (hb5.mono (by rw [World.size_alloc];have:=HB4.out.size;omega))
     have HB5:=Lib.hid (HB.out.trans (hb5'.mono HB.out.size))
     have L5:=Lib.hid hl5
     clear hb5 hb5' hl5
     go_wp2_with fail
     go_roundg (m-(i+1))
     case measure=>omega
     case rel=>exact ⟨i+1,by go_num,by omega,Nat.le_refl _,Lib.hid (by rw [HST.out,HP.out];exact L5.out),HB5.out⟩
    ·have z1:(ch==36)=false:=by simpa using hc
     have z2:((ch.toNat:Int)==36)=false:=beq_eq_false_iff_ne.2 (fun h=>hc (UInt8.toNat_inj.1 (by show ch.toNat=36;omega)))
     have HP:=Lib.hid (show parN (ch::r)=[fnN (ch::r) 0] from by unfold parN;exact if_neg hc)
     have KF1:=Lib.hid (fun W hW=>KF.out (ch::r) W hW ptf)
     clear pn hrt hc
     generalize fnN (ch::r) 0=fr at *
     generalize (ch::r).toArray=ar at *
     go_upto_region 7 with fail
     rw [←e3]
     clear e3
     go_wp2_with (go_at_call 31;refine (KF1.out _ HW0.out).mono ?_)
     rintro e w4 ⟨rfl,hb4⟩
     have HB4:=Lib.hid (HV2.out.trans (hb4.mono HV2.out.size))
     have L4:=Lib.hid ((HR.out.under hb4).under ((Below.refl _ w4).alloc (Nat.le_refl _) (.cells #[.string ⟨fr.toArray⟩] 9)))
     clear hb4 e0 e1 e2
     go_wp2_with (go_at_call 33;with_reducible refine (scWith1_any fr L _ _ _ L4.out (strV_lit w4 fr)).mono ?_)
     rintro e w5 ⟨b5,rfl,hl5,hb5⟩
     have hb5':=(HB4.out.alloc HB4.out.size (.cells #[.string ⟨fr.toArray⟩] 9)).trans (hb5.mono (by rw [World.size_alloc];have:=HB4.out.size;omega))
     have HB5:=Lib.hid (HB.out.trans (hb5'.mono HB.out.size))
     have L5:=Lib.hid hl5
     clear hb5 hb5' hl5
     go_wp2_with fail
     go_roundg (m-(i+1))
     case measure=>omega
     case rel=>exact ⟨i+1,by go_num,by omega,Nat.le_refl _,Lib.hid (by rw [HST.out,HP.out];exact L5.out),HB5.out⟩
  ·have ho:=hrel.out
   rw [List.take_of_length_le (by rw [←HM.out];omega)] at ho
   have HO:=Lib.hid ho
   have hx2:=(HBV.out.block w.heap.size (Array.getElem?_eq_some_iff.1 XV.out).1).trans XV.out
   have d2:wr.cell? ⟨w.heap.size,2,none⟩=some (.slice (some ⟨q,o,none⟩) (m+2) c):=by rw [Lib.cell_of_heap hx2];rfl
   obtain ⟨e0,e1,e2⟩:=C0.out wr HB0.out
   have j0:(0:Int)≤(m:Int):=by omega
   have j1:(m:Int)<(m:Int)+2:=by omega
   have j2:(m:Int)+1<(m:Int)+2:=by omega
   clear hrel ho hx2
   go_wp2_with (go_at_call 17;refine (K0.out _ _ HBV.out HO.out).mono ?_)
   rintro e w3 ⟨rfl,hk3,v3,hf3⟩
   have K3:=Lib.hid ((FK.of (B:=w0.heap.size) HBV.out BV.out.size).trans hk3)
   have L3:=Lib.hid ((L2.out.under HB.out).kept hk3)
   have F3:=Lib.hid hf3
   have B3:=Lib.hid (HB0.out.trans hk3.below)
   have hx3:=K3.out.keep _ _ _ _ XV.out (by decide) (by decide)
   have d3:w3.cell? ⟨w.heap.size,2,none⟩=some (.slice (some ⟨q,o,none⟩) (m+2) c):=by rw [Lib.cell_of_heap hx3];rfl
   obtain ⟨g0,g1,g2⟩:=C1.out w3 B3.out
   clear hk3 hf3 hx3 e0 e1 e2 d2
   go_wp2_with (go_at_call 17;refine (K1.out _ _ _ B3.out L3.out F3.out).mono ?_)
   rintro e w4 ⟨rfl,hk4,hf4⟩
   go_wp2_with fail
   go_returns
   exact ⟨rfl,KV.out.trans (K3.out.trans hk4),hf4⟩
theorem blk_ys:∀(n:Nat) (t:Ny),blkY t≤n→YS n t∧YB n t
 | 0,t,h=>by rw [blkY_eq] at h;omega
 | n+1,t,h=>by
  rw [blkY_eq] at h
  have hl:=blkYs_len t.kids
  have up:∀{m:Nat} {k:Ny},YS m k→YS (m+1) k:=fun {m k} h=>by
   induction h with
   | mk h1 _ ih=>exact .mk (Nat.le_succ_of_le h1) ih
  have upb:∀{m:Nat} {k:Ny},YB m k→YB (m+1) k:=fun {m k} h=>by
   induction h with
   | mk h1 _ ih=>exact .mk (Nat.le_succ_of_le h1) ih
  have hk:∀k∈t.kids,YS n k∧YB n k:=fun k hk=>blk_ys n k (by have:=blkYs_mem hk;omega)
  exact ⟨.mk (by omega) (fun k hm=>up (hk k hm).1),.mk (by omega) (fun k hm=>upb (hk k hm).2)⟩
theorem ys_mono {m n:Nat} (hmn:m≤n) {k:Ny} (h:YS m k):YS n k:=by
 induction h with
 | mk h1 _ ih=>exact .mk (Nat.le_trans h1 hmn) ih
theorem vr_knot:∀(n:Nat) (t:Ny),blkY t≤n→n≤100000000→VrC t
 | 0,t,h,_=>by rw [blkY_eq] at h;omega
 | n+1,t,h,hn=>by
  have hv:=vr_len t
  have hl:=blkYs_len t.kids
  have hb:=blkY_eq t
  exact scVr_step t (by omega) (by unfold TF;omega) (by omega) (fun k hk=>vr_knot n k (by have:=blkYs_mem hk;omega) (by omega))
theorem sc_knot (w0:World) (hT:Tb w0):∀(n:Nat) (t:Ny),blkY t≤n→n≤100000000→ScK t→NodC w0 t
 | 0,t,h,_,_=>by rw [blkY_eq] at h;omega
 | n+1,t,h,hn,hs=>by
  have hb:=blkY_eq t
  have hl:=blkYs_len t.kids
  have hx:TF t.text:=by unfold TF;omega
  have ih:∀k∈t.kids,NodC w0 k:=fun k hk=>sc_knot w0 hT n k (by have:=blkYs_mem hk;omega) (by omega) (hs.kid k hk)
  have iv:∀k∈t.kids,VrC k:=fun k hk=>vr_knot n k (by have:=blkYs_mem hk;omega) (by omega)
  have hA:AllC w0 t:=scAll_any w0 t (by omega) ih
  by_cases h24:t.kind=24
  ·exact scNVar_any w0 t h24 hx (hs.leaf (.inr h24))
  by_cases h22:t.kind=22
  ·exact scNBreak_any w0 t h22 hx (hs.leaf (.inl h22))
  by_cases h25:t.kind=25
  ·exact scNCall_any w0 hT t h25 hx (by omega) hA
  by_cases h23:t.kind=23
  ·obtain ⟨h3,hu⟩:=hs.bind h23
   obtain ⟨x0,x1,x2,hks⟩:∃x0 x1 x2,t.kids=[x0,x1,x2]:=by
    match t.kids,h3 with
    | [x0,x1,x2],_=>exact ⟨x0,x1,x2,rfl⟩
   have hm:∀x∈[x0,x1,x2],x∈t.kids:=fun x hx=>by rw [hks];exact hx
   rw [hks] at hu
   exact scNBind_any w0 t h23 x0 x1 x2 hks hu (iv x1 (hm x1 (by simp))) (ih x0 (hm x0 (by simp))) (ih x2 (hm x2 (by simp)))
  by_cases h1920:t.kind=19∨t.kind=20
  ·obtain ⟨h4,hu⟩:=hs.loop h1920
   obtain ⟨x0,x1,x2,y,ys,hks⟩:∃x0 x1 x2 y ys,t.kids=x0::x1::x2::y::ys:=by
    match t.kids,h4 with
    | x0::x1::x2::y::ys,_=>exact ⟨x0,x1,x2,y,ys,rfl⟩
    | [x0,x1,x2],h=>simp at h
    | [x0,x1],h=>simp at h
    | [x0],h=>simp at h
    | [],h=>simp at h
   have hm:∀x∈x0::x1::x2::y::ys,x∈t.kids:=fun x hx=>by rw [hks];exact hx
   have hlen:(y::ys).length≤1099511627776:=by
    have:t.kids.length=(y::ys).length+3:=by rw [hks];rfl
    omega
   have hA2:AllC w0 (.mk 0 [] (y::ys)):=scAll_any w0 (.mk 0 [] (y::ys)) hlen (fun k hk=>ih k (hm k (by simp only [List.mem_cons];right;right;right;exact List.mem_cons.1 hk)))
   rw [hks] at hu
   rcases h1920 with h19 | h20
   ·exact scNReduce_any w0 t h19 x0 x1 x2 (y::ys) hks hu (iv x1 (hm x1 (by simp))) (ih x0 (hm x0 (by simp))) (ih x2 (hm x2 (by simp))) hA2 (by simp)
   ·exact scNForeach_any w0 t h20 x0 x1 x2 (y::ys) hks hu (iv x1 (hm x1 (by simp))) (ih x0 (hm x0 (by simp))) (ih x2 (hm x2 (by simp))) hA2 (by simp)
  by_cases h21:t.kind=21
  ·exact scNLabel_any w0 t h21 hx hA
  by_cases h26:t.kind=26
  ·obtain ⟨h2,hp⟩:=hs.defn h26
   obtain ⟨y0,y1,hd⟩:∃y0 y1,t.kids.drop (t.kids.length-2)=[y0,y1]:=by
    have hdl:(t.kids.drop (t.kids.length-2)).length=2:=by rw [List.length_drop];omega
    match t.kids.drop (t.kids.length-2),hdl with
    | [y0,y1],_=>exact ⟨y0,y1,rfl⟩
   have hks:t.kids=t.kids.take (t.kids.length-2)++[y0,y1]:=by rw [←hd,List.take_append_drop]
   refine scNDef_any w0 t h26 (scDef_any w0 hT t h26 hx (t.kids.take (t.kids.length-2)) y0 y1 hks (fun p hpm=>⟨(hp p hpm).1,?_,(hp p hpm).2⟩) (ih y0 (by rw [hks];simp)) (ih y1 (by rw [hks];simp)))
   have h1:=blkYs_mem (List.mem_of_mem_take hpm)
   have h2:=blkY_eq p
   unfold TF
   omega
  exact scNRest_any w0 t (by
   intro m hm
   simp only [List.mem_cons,List.not_mem_nil,or_false] at hm
   rcases hm with rfl | rfl | rfl | rfl | rfl | rfl | rfl | rfl
   ·exact h24
   ·exact h22
   ·exact h25
   ·exact h23
   ·exact fun h=>h1920 (.inl h)
   ·exact fun h=>h1920 (.inr h)
   ·exact h21
   ·exact h26) hA
theorem may_sck {t:Ny} (h:mayY numE t=true):ScK t:=by
 unfold mayY at h
 rw [Bool.and_eq_true,Bool.and_eq_true] at h
 exact (fil_sck 200 t).1 h.1.2
theorem own_mono {w:World} {B B':Nat} {E:TypeId} {size:Nat} {v:Value} {m:Nat} {xs:List Value} (h:w.ownsRow B E size v m xs) (hb:B'≤B):w.ownsRow B' E size v m xs:=
 ⟨h.1,h.2.imp id fun ⟨g,cap,cur,h1,h2,h3⟩=>⟨g,cap,cur,h1,Nat.le_trans hb h2,h3⟩⟩
def freeY (t:Ny):List (List UInt8):=if mayY numE t then addN [] (useY t) else []
def FrR (b:Bool) (l:List (List UInt8)) (w:World) (e:Ending) (w':World):Prop:=∃v,e=.returned (.tuple #[v,.int .i64 (if b then 0 else 1)])∧w'.ownsRow w.heap.size TSt 1 v l.length (strB l)∧Below w.heap.size w w'
set_option maxHeartbeats 4000000 in
set_option maxRecDepth 100000 in
theorem scFree_any (t:Ny) (hb:blkY t≤100000000) (A:Option Addr) (c:Nat) (w:World) (hT:Tb w) (h:YT w t A c) :
  Calls Tryz.prog 9 #[yAgg t (.slice A t.kids.length c)] w (FrR (mayY numE t) (freeY t) w):=by
 obtain ⟨hys,hyb⟩:=blk_ys _ t hb
 obtain ⟨V,hV,hb0,hx0,hl0,c0,c1,c2⟩:=node_in w t.kind ⟨t.text.toArray⟩ (.slice A t.kids.length c)
 have KM:=Lib.hid (shMay_any t (ys_mono (by unfold maxLen;omega) hys) hyb A c V (hT.below hb0 (Nat.le_refl _)) (YX.below h hb0))
 have B0:=Lib.hid hb0
 have X0:=Lib.hid hx0
 have hsk:=@may_sck t
 unfold freeY
 cases hmy:mayY numE t
 ·rw [hmy] at KM
  simp only [yAgg] at KM ⊢
  rw [if_neg (by decide)]
  clear hsk hT h hys hyb hb0 hx0 hl0 hb hmy
  generalize t.kids.length=n at *
  generalize t.kind=kd at *
  go_enter Tryz.func9,Tryz.ntmps9
  go_upto_region 1 with fail
  rw [←hV]
  clear hV
  go_wp2_with (go_at_call 13;refine KM.out.mono ?_)
  rintro e w1 ⟨rfl,hb1⟩
  go_wp2_with fail
  go_returns
  exact ⟨_,rfl,⟨rfl,.inl ⟨rfl,rfl⟩⟩,B0.out.trans (hb1.mono B0.out.size)⟩
 ·rw [hmy] at KM
  rw [if_pos rfl]
  have hs:=hsk hmy
  have KN:=Lib.hid (fun W (hbW:Below w.heap.size w W)=>sc_knot W (hT.below hbW (Nat.le_refl _)) _ t hb (Nat.le_refl _) hs W.heap.size [] [] (.slice none 0 0) (.pointer none) A c (W.alloc (.cells #[.slice none 0 0] 46)) (YX.below h hbW) ((Below.refl _ W).alloc (Nat.le_refl _) _) .nil
   ⟨Go.heap_alloc_new W _,⟨rfl,.inl ⟨rfl,rfl⟩⟩,Nat.le_refl _⟩ (by rw [List.length_nil];omega))
  simp only [notIn_nil] at KN
  generalize addN [] (useY t)=R at *
  simp only [yAgg] at KM KN ⊢
  clear hsk hT h hys hyb hb0 hx0 hl0 hb hmy hs
  generalize t.kids.length=n at *
  generalize t.kind=kd at *
  go_enter Tryz.func9,Tryz.ntmps9
  go_upto_region 1 with fail
  rw [←hV]
  clear hV
  go_wp2_with (go_at_call 13;refine KM.out.mono ?_)
  rintro e w1 ⟨rfl,hb1⟩
  have B1:=Lib.hid (B0.out.trans (hb1.mono B0.out.size))
  have hx1:=(hb1.block w.heap.size (Array.getElem?_eq_some_iff.1 X0.out).1).trans X0.out
  have d0:w1.cell? ⟨w.heap.size,0,none⟩=some (.int .i64 kd):=by rw [Lib.cell_of_heap hx1];rfl
  have d1:w1.cell? ⟨w.heap.size,1,none⟩=some (.string ⟨t.text.toArray⟩):=by rw [Lib.cell_of_heap hx1];rfl
  have d2:w1.cell? ⟨w.heap.size,2,none⟩=some (.slice A n c):=by rw [Lib.cell_of_heap hx1];rfl
  have hx1':=(((Below.refl _ w1).alloc (Nat.le_refl _) (.cells #[.slice none 0 0] 46)).block w.heap.size (Array.getElem?_eq_some_iff.1 hx1).1).trans hx1
  have g0:(w1.alloc (.cells #[.slice none 0 0] 46)).cell? ⟨w.heap.size,0,none⟩=some (.int .i64 kd):=by rw [Lib.cell_of_heap hx1'];rfl
  have g1:(w1.alloc (.cells #[.slice none 0 0] 46)).cell? ⟨w.heap.size,1,none⟩=some (.string ⟨t.text.toArray⟩):=by rw [Lib.cell_of_heap hx1'];rfl
  have g2:(w1.alloc (.cells #[.slice none 0 0] 46)).cell? ⟨w.heap.size,2,none⟩=some (.slice A n c):=by rw [Lib.cell_of_heap hx1'];rfl
  clear hb1 hx1 hx1' c0 c1 c2
  go_wp2_with (go_at_call 17;refine (KN.out w1 B1.out).mono ?_)
  rintro e w2 ⟨rfl,hk2,v2,hf2⟩
  have e0:w2.cell? ⟨w1.heap.size,0,none⟩=some v2:=by rw [Lib.cell_of_heap hf2.cell];rfl
  have O2:=Lib.hid hf2.own
  have B2:=Lib.hid (((Below.refl _ w1).alloc (Nat.le_refl _) (.cells #[.slice none 0 0] 46)).trans hk2.below)
  clear hk2 hf2 d0 d1 d2 g0 g1 g2
  go_wp2_with fail
  go_returns
  exact ⟨_,rfl,own_mono O2.out B1.out.size,B1.out.trans (B2.out.mono B1.out.size)⟩
def ckY (known l:List (List UInt8)):List UInt8×Nat:=
 match l with
 | []=>([],0)
 | x::r=>if known.contains x then ckY known r else (x,11)
def CkR (p:List UInt8×Nat) (w:World) (e:Ending) (w':World):Prop:=e=.returned (.tuple #[.string ⟨p.1.toArray⟩,.int .i64 (p.2:Int)])∧Below w.heap.size w w'
def checkY (t:Ny) (known:List (List UInt8)):List UInt8×Nat:=if mayY numE t then ckY known (freeY t) else ([],1)
set_option maxHeartbeats 4000000 in
set_option maxRecDepth 100000 in
theorem scCheck_any (t:Ny) (hb:blkY t≤100000000) (known:List (List UInt8)) (hn:known.length≤1099511627776) (A A2:Option Addr) (c c2:Nat) (w:World) (hT:Tb w) (h:YT w t A c) (hv:StrW w A2 c2 known) :
  Calls Tryz.prog 14 #[yAgg t (.slice A t.kids.length c),.slice A2 known.length c2] w (CkR (checkY t known) w):=by
 obtain ⟨V,hV,hb0,hx0,hl0,c0,c1,c3⟩:=node_in w t.kind ⟨t.text.toArray⟩ (.slice A t.kids.length c)
 have KF:=Lib.hid (scFree_any t hb A c V (hT.below hb0 (Nat.le_refl _)) (YX.below h hb0))
 have B0:=Lib.hid hb0
 have HV:=Lib.hid (StrW.below hv hb0)
 have hul:mayY numE t=true→(freeY t).length≤1099511627776:=fun hm=>by
  unfold freeY
  have h1:=addN_len [] (useY t)
  have h2:=use_len t
  rw [if_pos hm]
  rw [List.length_nil] at h1
  omega
 unfold checkY
 generalize freeY t=R at *
 cases hmy:mayY numE t
 ·rw [hmy] at KF
  rw [if_neg (by decide)]
  simp only [yAgg] at KF ⊢
  clear hT h hb0 hx0 hl0 hb hv hmy hul
  generalize t.kids.length=n at *
  generalize t.kind=kd at *
  go_enter Tryz.func14,Tryz.ntmps14
  go_upto_region 1 with fail
  rw [←hV]
  clear hV
  go_wp2_with (go_at_call 9;refine KF.out.mono ?_)
  rintro e w1 ⟨v1,rfl,ho,hb1⟩
  go_wp2_with fail
  go_returns
  exact ⟨rfl,B0.out.trans (hb1.mono B0.out.size)⟩
 ·rw [hmy] at KF
  rw [if_pos rfl]
  have hul2:=hul hmy
  have HUL:=Lib.hid hul2
  obtain ⟨P,hP⟩:∃P,P=ckY known R:=⟨_,rfl⟩
  rw [←hP]
  have HP:=Lib.hid hP
  simp only [yAgg] at KF ⊢
  clear hT h hb0 hx0 hl0 hb hv hmy hul hP hul2
  generalize t.kids.length=n at *
  generalize t.kind=kd at *
  generalize hkn:known.length=kn at *
  have HKN:=Lib.hid hkn
  clear hkn
  go_enter Tryz.func14,Tryz.ntmps14
  go_upto_region 1 with fail
  rw [←hV]
  clear hV
  go_wp2_with (go_at_call 9;refine KF.out.mono ?_)
  rintro e w1 ⟨v1,rfl,ho,hb1⟩
  have B1:=Lib.hid (B0.out.trans (hb1.mono B0.out.size))
  obtain ⟨A1,cap1,rfl,hs1⟩:=own_str ho
  have HS:=Lib.hid hs1
  have HV1:=Lib.hid (StrW.below HV.out hb1)
  clear ho hb1 hs1 HV c0 c1 c3
  generalize hrl:R.length=rl at *
  have HRL:=Lib.hid hrl
  clear hrl
  have hrl2:=HUL.out
  go_wp2_with fail
  go_loopg [9,20] (rl+1) (fun kx _ v20 wr=>∃i:Nat,v20=.int .i64 (i:Int)∧i≤rl∧rl-i≤kx∧Hid (P=ckY known (R.drop i))∧w1=wr)
  case atStart=>exact ⟨0,rfl,Nat.zero_le _,by omega,HP,rfl⟩
  case round=>
   obtain ⟨i,rfl,hi,hik,hrel,rfl⟩:=hrel
   by_cases hlt:i<rl
   ·have hlt':i<R.length:=by rw [HRL.out];exact hlt
    have hne:R≠[]:=fun e=>by rw [e] at hlt';simp at hlt'
    obtain ⟨g,rfl,_,hc⟩:=HS.out.2 hne
    obtain ⟨x,hx⟩:∃x,x=R[i]:=⟨_,rfl⟩
    have hxi:R[i]?=some x:=by rw [hx];exact List.getElem?_eq_getElem hlt'
    have e0:=hc i x hxi
    have hst:P=if known.contains x then ckY known (R.drop (i+1)) else (x,11):=by
     rw [hrel.out,show R.drop i=x::R.drop (i+1) by rw [hx];exact List.drop_eq_getElem_cons hlt',ckY]
    have KC:=Lib.hid (scContains_any known x A2 c2 w1 HV1.out (by rw [HKN.out];exact hn))
    rw [HKN.out] at KC
    have HST:=Lib.hid hst
    clear hst hrel hc hx hxi hne hlt'
    have i0:(0:Int)≤(i:Int):=by omega
    have i1:(i:Int)<(rl:Int):=by omega
    generalize known.contains x=q at *
    cases q
    ·go_wp2_with (go_at_call 25;refine KC.out.mono ?_)
     rintro e w3 ⟨rfl,rfl⟩
     go_wp2_with fail
     go_returns
     exact ⟨by rw [HST.out,if_neg (by decide)];rfl,B1.out⟩
    ·go_wp2_with (go_at_call 25;refine KC.out.mono ?_)
     rintro e w3 ⟨rfl,rfl⟩
     go_wp2_with fail
     go_roundg (rl-(i+1))
     case measure=>omega
     case rel=>exact ⟨i+1,by go_num,by omega,Nat.le_refl _,Lib.hid (by rw [HST.out];simp),rfl⟩
   ·have hme:P=([],0):=by rw [hrel.out,List.drop_eq_nil_of_le (by rw [HRL.out];omega),ckY]
    have HME:=Lib.hid hme
    clear hrel hme
    go_wp2_with fail
    go_returns
    exact ⟨by rw [HME.out];rfl,B1.out⟩
end Go.Proofs.YtmbeicndhigklaaGreatDoor
