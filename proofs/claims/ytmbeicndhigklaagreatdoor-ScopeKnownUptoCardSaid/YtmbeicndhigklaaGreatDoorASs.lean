/-
  Plain Lean: what trees of filters may be, as package show asks it (chapter 16). No program in sight.
  Rows of texts in memory (chapters 16 and 17).
  Plain Lean: the names of a tree that nobody binds (chapter 17). No program in sight.
  Plain Lean: what may be is such that the finder of names can go through it (chapter 17). No program in sight.
-/
import Derived.Test.YtmbeicndhigklaaGreatDoorPSynW
import Derived.Test.YtmbeicndhigklaaGreatDoorPSynS
import Derived.Test.YtmbeicndhigklaaGreatDoorPSynM
import Derived.Lib.ItoaNum
namespace Go.Proofs.YtmbeicndhigklaaGreatDoor
section
variable (numE:List UInt8→Nat)
def isName (l:List UInt8):Bool:=decide (0<l.length)&&decide (nameN l=l.length)
def isFmt:List UInt8→Bool
 | []=>false
 | c::r=>c==64&&isName r
def isNum:List UInt8→Bool
 | []=>false
 | c::r=>!(c==45)&&numE (c::r)==0
def isSound (l:List UInt8):Bool:=valid l==l.length
def cutDol:List UInt8→List UInt8
 | []=>[]
 | c::r=>if c=36 then r else c::r
def opsT:List (List UInt8):=[[47,47],[61],[124,61],[43,61],[45,61],[42,61],[47,61],[37,61],[47,47,61],[111,114],[97,110,100],[61,61],[33,61],[60],[60,61],[62],[62,61],[43],[45],[42],[47],[37]]
def isOp (l:List UInt8):Bool:=opsT.contains l
def bareY (t:Ny):Bool:=t.text.isEmpty&&t.kids.isEmpty
section
variable (fil pat:Ny→Bool)
def stdM (k:Nat) (x:Ny):Bool:=
 if k=1 then pat x else if k=0 then fil x else (x.kind==32&&bareY x)||fil x
def areM:List Ny→List Nat→Bool
 | [],[]=>true
 | x::xs,k::ks=>stdM fil pat k x&&areM xs ks
 | _,_=>false
def texM:Bool→List Ny→Bool
 | _,[]=>true
 | last,k::r=>if k.kind=5 then (!last&&!k.text.isEmpty&&k.kids.isEmpty&&isSound k.text)&&texM true r else fil k&&texM false r
def parM (p:Ny):Bool:=p.kind==27&&p.kids.isEmpty&&isName (cutDol p.text)
def defM (t:Ny):Bool:=
 decide (2≤t.kids.length)&&isName t.text&&(t.kids.take (t.kids.length-2)).all parM&&(t.kids.drop (t.kids.length-2)).all fil
def entM (k:Ny):Bool:=k.kind==9&&k.text.isEmpty&&areM fil pat k.kids [0,0]
def kindAt (t:Ny) (i:Nat):Int:=(t.kids.getD i default).kind
def untM (t:Ny):Bool:=
 if t.kind=7 then t.kids.isEmpty||areM fil pat t.kids [0]
 else if t.kind=8 then t.kids.all (entM fil pat)
 else if t.kind=10∨t.kind=15∨t.kind=16 then areM fil pat t.kids [0,0]
 else if t.kind=11 then areM fil pat t.kids [0,2,2]&&(!(kindAt t 1==32)||!(kindAt t 2==32))
 else if t.kind=12∨t.kind=14 then areM fil pat t.kids [0]
 else if t.kind=13 then areM fil pat t.kids [0]||areM fil pat t.kids [0,0]
 else if t.kind=18 then areM fil pat t.kids [0,0,2]
 else if t.kind=19 then areM fil pat t.kids [0,1,0,0]
 else if t.kind=20 then areM fil pat t.kids [0,1,0,0,2]
 else if t.kind=23 then areM fil pat t.kids [0,1,0]
 else false
def filS (t:Ny):Bool:=
 if t.kind=1∨t.kind=2 then bareY t
 else if t.kind=3 then t.kids.isEmpty&&isNum numE t.text
 else if t.kind=4 then (t.text.isEmpty||isFmt t.text)&&texM fil false t.kids
 else if t.kind=6 then t.kids.isEmpty&&isFmt t.text
 else if t.kind=22∨t.kind=24 then t.kids.isEmpty&&isName t.text
 else if t.kind=21 then isName t.text&&areM fil pat t.kids [0]
 else if t.kind=25 then isName t.text&&!wordT t.text&&t.kids.all fil
 else if t.kind=26 then defM fil t
 else if t.kind=17 then isOp t.text&&areM fil pat t.kids [0,0]
 else t.text.isEmpty&&untM fil pat t
def keyM (k:Ny):Bool:=k.kind==31&&isSound k.text&&areM fil pat k.kids [1]
def patS (t:Ny):Bool:=
 if t.kind=28 then t.kids.isEmpty&&isName t.text
 else if t.kind=29 then t.text.isEmpty&&!t.kids.isEmpty&&t.kids.all pat
 else if t.kind=30 then t.text.isEmpty&&!t.kids.isEmpty&&t.kids.all (keyM fil pat)
 else false
end
mutual
def filN:Nat→Ny→Bool
 | 0,_=>false
 | n+1,t=>filS numE (filN n) (patN n) t
def patN:Nat→Ny→Bool
 | 0,_=>false
 | n+1,t=>patS (filN n) (patN n) t
end
def plainY (t:Ny):Option (List UInt8):=
 match t.kids with
 | [k]=>if t.kind=4∧t.text=[]∧k.kind=5∧isName k.text=true then some k.text else none
 | _=>none
mutual
def nstY (name:Bool):Ny→Nat
 | .mk k x ks=>if name=true∧(plainY (.mk k x ks)).isSome=true then 0 else
  if k=4 then nstYs k 0 ks+1 else if k=31∧isName x=false then max (nstYs k 0 ks) 1 else nstYs k 0 ks
def nstYs (k:Int) (i:Nat):List Ny→Nat
 | []=>0
 | y::ys=>max (nstY ((k==10&&i==1)||(k==9&&i==0)) y) (nstYs k (i+1) ys)
end
def mayY (t:Ny):Bool:=decide (depY 200 t≤200)&&filN numE 200 t&&decide (nstY false t≤50)
end
theorem depY_kids {n:Nat} {t:Ny} (h:depY (n+1) t≤n+1):∀k∈t.kids,depY n k≤n:=by
 have hm:∀(ks:List Ny) (m:Nat),m≤maxDY n ks m∧∀k∈ks,depY n k≤maxDY n ks m:=by
  intro ks
  induction ks with
  | nil=>intro m;exact ⟨Nat.le_refl _,fun k hk=>by cases hk⟩
  | cons k ks ih=>
   intro m
   rw [maxDY_cons]
   obtain ⟨h1,h2⟩:=ih (max m (depY n k))
   refine ⟨by omega,fun x hx=>?_⟩
   rcases List.mem_cons.1 hx with rfl | hx
   ·omega
   ·exact h2 x hx
 intro k hk
 have:=(hm t.kids 0).2 k hk
 have h':maxDY n t.kids 0+1≤n+1:=h
 omega
theorem depY_pos (t:Ny):¬depY 0 t≤0:=fun h=>by
 have:depY 0 t=1:=rfl
 omega
inductive YB (m:Nat):Ny→Prop where
 | mk {t:Ny}:t.text.length≤m→(∀k∈t.kids,YB m k)→YB m t
theorem YB.len {m:Nat} {t:Ny} (h:YB m t):t.text.length≤m:=by cases h;assumption
theorem YB.kid {m:Nat} {t:Ny} (h:YB m t):∀k∈t.kids,YB m k:=by cases h;assumption
open Go.RowKit
def StrV (w:World) (A:Option Addr) (cap:Nat) (xs:List (List UInt8)):Prop:=
 xs.length≤cap∧(xs≠[]→∃g,A=some ⟨g,0,none⟩∧g<w.heap.size∧∀j x,xs[j]?=some x→w.cell? ⟨g,j,none⟩=some (.string ⟨x.toArray⟩))
def StrW (w:World) (A:Option Addr) (cap:Nat) (xs:List (List UInt8)):Prop:=
 xs.length≤cap∧(A=none→cap=0)∧(xs≠[]→∃g o,A=some ⟨g,o,none⟩∧g<w.heap.size∧∀j x,xs[j]?=some x→w.cell? ⟨g,o+j,none⟩=some (.string ⟨x.toArray⟩))
theorem StrW.below {w w':World} {A:Option Addr} {cap:Nat} {xs:List (List UInt8)} (h:StrW w A cap xs) (hb:Below w.heap.size w w'):StrW w' A cap xs:=
 ⟨h.1,h.2.1,fun hne=>by
  obtain ⟨g,o,h1,h2,h3⟩:=h.2.2 hne
  exact ⟨g,o,h1,Nat.lt_of_lt_of_le h2 hb.size,fun j x hj=>(World.cell?_of_block (hb.block g h2)).trans (h3 j x hj)⟩⟩
def strB (l:List (List UInt8)):List Value:=l.map fun x=>.string ⟨x.toArray⟩
theorem own_below {w w':World} {B:Nat} {E:TypeId} {size:Nat} {v:Value} {m:Nat} {xs:List Value} (h:w.ownsRow B E size v m xs) (hb:Below w.heap.size w w'):w'.ownsRow B E size v m xs:=
 ⟨h.1,h.2.imp id fun ⟨g,cap,cur,h1,h2,h3,h4⟩=>⟨g,cap,cur,h1,h2,(hb.block g (Array.getElem?_eq_some_iff.1 h3).1).trans h3,h4⟩⟩
theorem own_str {w:World} {B:Nat} {E:TypeId} {v:Value} {xs:List (List UInt8)} (h:w.ownsRow B E 1 v xs.length (strB xs)):∃A cap,v=.slice A xs.length cap∧StrV w A cap xs:=by
 rcases h.2 with ⟨rfl,h0⟩ | ⟨g,cap,cur,rfl,hB,hh,h1,h2,h3,h4⟩
 ·have:xs=[]:=List.length_eq_zero_iff.1 h0
  subst this
  exact ⟨none,0,rfl,Nat.zero_le _,fun h=>absurd rfl h⟩
 ·refine ⟨_,cap,rfl,h1,fun _=>⟨g,rfl,(Array.getElem?_eq_some_iff.1 hh).1,fun j x hj=>?_⟩⟩
  rw [Lib.cell_of_heap hh]
  have h5:(strB xs)[j]?=some (.string ⟨x.toArray⟩):=by unfold strB;rw [List.getElem?_map,hj];rfl
  rw [←h4,List.getElem?_take] at h5
  split at h5
  ·rw [←Array.getElem?_toList];exact h5
  ·cases h5
theorem own_strW {w:World} {B:Nat} {E:TypeId} {v:Value} {xs:List (List UInt8)} (h:w.ownsRow B E 1 v xs.length (strB xs)):∃A cap,v=.slice A xs.length cap∧StrV w A cap xs∧StrW w A cap xs:=by
 obtain ⟨A,cap,rfl,hv⟩:=own_str h
 refine ⟨A,cap,rfl,hv,hv.1,fun hA=>?_,fun hne=>?_⟩
 ·rcases h.2 with ⟨e,_⟩ | ⟨g,cap',cur,e,_⟩
  ·injection e
  ·injection e with e _ _
   rw [hA] at e
   cases e
 ·obtain ⟨g,h1,h2,h3⟩:=hv.2 hne
  exact ⟨g,0,h1,h2,fun j x hj=>by rw [Nat.zero_add];exact h3 j x hj⟩
theorem infoStr:(Tryz.prog.info? 9).map (fun i=>(i.zero,i.size,i.bytes))=some (some (.string ⟨#[]⟩),1,16):=by kernel_rfl
def fnN (x:List UInt8) (n:Nat):List UInt8:=x++47::Lib.decDigits n
mutual
def vrY:Ny→List (List UInt8)
 | .mk k x ks=>if k=28 then [36::x] else vrYs ks
def vrYs:List Ny→List (List UInt8)
 | []=>[]
 | y::ys=>vrY y++vrYs ys
end
def parN (x:List UInt8):List (List UInt8):=
 match x with
 | []=>[fnN [] 0]
 | c::r=>if c=36 then [fnN r 0,c::r] else [fnN (c::r) 0]
def parNs (ps:List Ny):List (List UInt8):=ps.flatMap fun p=>parN p.text
def bndY (k:Int) (x:List UInt8) (ks:List Ny) (i:Nat):List (List UInt8):=
 if k=23 then (if i=2 then vrY (ks.getD 1 default) else [])
 else if k=19∨k=20 then (if 2<i then vrY (ks.getD 1 default) else [])
 else if k=21 then [42::x]
 else if k=26 then (if i+2=ks.length then parNs (ks.take (ks.length-2)) else [])++[fnN x (ks.length-2)]
 else []
def ownY (k:Int) (x:List UInt8) (n:Nat):List (List UInt8):=
 if k=24 then [36::x] else if k=22 then [42::x] else if k=25 then [fnN x n] else []
def notIn (b l:List (List UInt8)):List (List UInt8):=l.filter fun s=>!b.contains s
mutual
def useY:Ny→List (List UInt8)
 | .mk k x ks=>ownY k x ks.length++useYs k x ks 0 ks
def useYs (k:Int) (x:List UInt8) (ks:List Ny) (i:Nat):List Ny→List (List UInt8)
 | []=>[]
 | y::ys=>notIn (bndY k x ks i) (useY y)++useYs k x ks (i+1) ys
end
def addN (l:List (List UInt8)):List (List UInt8)→List (List UInt8)
 | []=>l
 | s::r=>addN (if l.contains s then l else l++[s]) r
theorem useY_eq (t:Ny):useY t=ownY t.kind t.text t.kids.length++useYs t.kind t.text t.kids 0 t.kids:=by
 cases t with
 | mk k x ks=>rw [useY];rfl
theorem vrY_eq (t:Ny):vrY t=if t.kind=28 then [36::t.text] else vrYs t.kids:=by
 cases t with
 | mk k x ks=>rw [vrY];rfl
theorem notIn_nil (l:List (List UInt8)):notIn [] l=l:=by
 unfold notIn
 exact List.filter_eq_self.2 fun _ _=>rfl
theorem notIn_append (b l m:List (List UInt8)):notIn b (l++m)=notIn b l++notIn b m:=List.filter_append ..
theorem notIn_notIn (b c l:List (List UInt8)):notIn b (notIn c l)=notIn (c++b) l:=by
 unfold notIn
 rw [List.filter_filter]
 congr 1
 funext s
 rw [List.contains_eq_any_beq,List.contains_eq_any_beq,List.contains_eq_any_beq,List.any_append,Bool.not_or,Bool.and_comm]
theorem notIn_same {b c:List (List UInt8)} (h:∀s,b.contains s=c.contains s) (l:List (List UInt8)):notIn b l=notIn c l:=by
 unfold notIn
 congr 1
 funext s
 rw [h]
theorem notIn_len (b l:List (List UInt8)):(notIn b l).length≤l.length:=List.length_filter_le ..
theorem addN_append (l a b:List (List UInt8)):addN l (a++b)=addN (addN l a) b:=by
 induction a generalizing l with
 | nil=>rfl
 | cons s a ih=>rw [List.cons_append,addN,addN,ih]
theorem addN_len (l a:List (List UInt8)):(addN l a).length≤l.length+a.length:=by
 induction a generalizing l with
 | nil=>rw [addN];simp
 | cons s a ih=>
  rw [addN]
  split
  ·have:=ih l
   rw [List.length_cons];omega
  ·have:=ih (l++[s])
   rw [List.length_append,List.length_singleton] at this
   rw [List.length_cons];omega
theorem addN_mem (l a:List (List UInt8)) (s:List UInt8):s∈addN l a↔s∈l∨s∈a:=by
 induction a generalizing l with
 | nil=>rw [addN];simp
 | cons x a ih=>
  rw [addN,ih]
  split
  ·rename_i h
   have hx:x∈l:=by simpa using h
   simp only [List.mem_cons]
   constructor
   ·rintro (h | h)
    ·exact .inl h
    ·exact .inr (.inr h)
   ·rintro (h | rfl | h)
    ·exact .inl h
    ·exact .inl hx
    ·exact .inr h
  ·simp only [List.mem_append,List.mem_cons,List.not_mem_nil,or_false]
   constructor
   ·rintro ((h | h) | h)
    ·exact .inl h
    ·exact .inr (.inl h)
    ·exact .inr (.inr h)
   ·rintro (h | h | h)
    ·exact .inl (.inl h)
    ·exact .inl (.inr h)
    ·exact .inr h
theorem addN_dedup (l a:List (List UInt8)):addN l a=l++notIn l (addN [] a):=by
 have key:∀(a l m:List (List UInt8)),(∀s,s∈l∨s∈m↔s∈l∨s∈addN [] m)→addN (l++notIn l m) a=l++notIn l (addN m a):=by
  intro a
  induction a with
  | nil=>intro l m _;rfl
  | cons x a ih=>
   intro l m _
   rw [addN,addN]
   by_cases hm:x∈m
   ·have h1:m.contains x=true:=by simpa using hm
    rw [if_pos h1]
    have h2:(l++notIn l m).contains x=true:=by
     rw [List.contains_iff_mem,List.mem_append]
     by_cases hl:x∈l
     ·exact .inl hl
     ·exact .inr (List.mem_filter.2 ⟨hm,by simpa using hl⟩)
    rw [if_pos h2]
    exact ih l m (by intro s;rw [addN_mem];simp)
   ·have h1:¬m.contains x=true:=by simpa using hm
    rw [if_neg h1]
    by_cases hl:x∈l
    ·have h2:(l++notIn l m).contains x=true:=by
      rw [List.contains_iff_mem,List.mem_append];exact .inl hl
     rw [if_pos h2,←ih l (m++[x]) (by intro s;rw [addN_mem];simp),notIn_append]
     have:notIn l [x]=[]:=by
      unfold notIn
      rw [List.filter_cons,if_neg (by simpa using hl)];rfl
     rw [this,List.append_nil]
    ·have h2:¬(l++notIn l m).contains x=true:=by
      rw [List.contains_iff_mem,List.mem_append]
      rintro (h | h)
      ·exact hl h
      ·exact hm (List.mem_filter.1 h).1
     rw [if_neg h2,←ih l (m++[x]) (by intro s;rw [addN_mem];simp),notIn_append,List.append_assoc]
     have:notIn l [x]=[x]:=by
      unfold notIn
      rw [List.filter_cons,if_pos (by simpa using hl)];rfl
     rw [this]
 have:=key a l [] (by intro s;simp [addN])
 rw [show notIn l []=[] from rfl,List.append_nil] at this
 exact this
theorem addN_nodup (a:List (List UInt8)):∀l:List (List UInt8),l.Nodup→(addN l a).Nodup:=by
 induction a with
 | nil=>intro l h;exact h
 | cons x a ih=>
  intro l h
  rw [addN]
  apply ih
  split
  ·exact h
  ·rename_i hx
   rw [List.nodup_append]
   refine ⟨h,by simp,fun s hs t ht=>?_⟩
   obtain rfl:t=x:=by simpa using ht
   rintro rfl
   exact hx (by simpa using hs)
theorem addN_notIn (b a:List (List UInt8)):∀l:List (List UInt8),addN (notIn b l) (notIn b a)=notIn b (addN l a):=by
 induction a with
 | nil=>intro l;rfl
 | cons x a ih=>
  intro l
  by_cases hb:x∈b
  ·have e1:notIn b (x::a)=notIn b a:=by
    unfold notIn
    rw [List.filter_cons,if_neg (by simpa using hb)]
   rw [e1,addN,ih]
   split
   ·rfl
   ·rw [←ih,←ih,notIn_append]
    have:notIn b [x]=[]:=by
     unfold notIn
     rw [List.filter_cons,if_neg (by simpa using hb)];rfl
    rw [this,List.append_nil]
  ·have e1:notIn b (x::a)=x::notIn b a:=by
    unfold notIn
    rw [List.filter_cons,if_pos (by simpa using hb)]
   rw [e1,addN,addN,←ih]
   have e2:(notIn b l).contains x=l.contains x:=by
    rw [Bool.eq_iff_iff,List.contains_iff_mem,List.contains_iff_mem]
    unfold notIn
    rw [List.mem_filter]
    simp [hb]
   rw [e2]
   split
   ·rfl
   ·rw [notIn_append]
    have:notIn b [x]=[x]:=by
     unfold notIn
     rw [List.filter_cons,if_pos (by simpa using hb)];rfl
    rw [this]
mutual
def blkY:Ny→Nat
 | .mk _ x ks=>x.length+1+blkYs ks
def blkYs:List Ny→Nat
 | []=>0
 | y::ys=>blkY y+blkYs ys
end
theorem blkY_eq (t:Ny):blkY t=t.text.length+1+blkYs t.kids:=by
 cases t with
 | mk k x ks=>rw [blkY];rfl
theorem blkYs_append (a b:List Ny):blkYs (a++b)=blkYs a+blkYs b:=by
 induction a with
 | nil=>rw [List.nil_append,blkYs,Nat.zero_add]
 | cons y a ih=>rw [List.cons_append,blkYs,blkYs,ih];omega
theorem blkYs_mem {y:Ny} {ks:List Ny} (h:y∈ks):blkY y≤blkYs ks:=by
 induction ks with
 | nil=>cases h
 | cons k ks ih=>
  rw [blkYs]
  rcases List.mem_cons.1 h with rfl | h
  ·omega
  ·have:=ih h;omega
theorem blkYs_at {ks:List Ny} {i:Nat} {y:Ny} (h:ks[i]?=some y):blkYs (ks.take i)+blkY y≤blkYs ks:=by
 have e:blkYs ks=blkYs (ks.take (i+1))+blkYs (ks.drop (i+1)):=by rw [←blkYs_append,List.take_append_drop]
 rw [e,List.take_add_one,h,blkYs_append]
 show _ ≤ _+blkYs [y]+_
 rw [blkYs,blkYs]
 omega
theorem blkYs_len (ks:List Ny):ks.length≤blkYs ks:=by
 induction ks with
 | nil=>exact Nat.zero_le _
 | cons y ks ih=>
  rw [blkYs,List.length_cons,blkY_eq];omega
theorem ownY_len (k:Int) (x:List UInt8) (n:Nat):(ownY k x n).length≤1:=by
 unfold ownY
 split
 ·exact Nat.le_refl _
 ·split
  ·exact Nat.le_refl _
  ·split
   ·exact Nat.le_refl _
   ·exact Nat.zero_le _
mutual
theorem use_len:∀t:Ny,(useY t).length≤blkY t
 | .mk k x ks=>by
  rw [useY,blkY,List.length_append]
  have h1:=ownY_len k x ks.length
  have h2:=uses_len k x ks 0 ks
  omega
theorem uses_len (k:Int) (x:List UInt8) (all:List Ny) (i:Nat):∀ys:List Ny,(useYs k x all i ys).length≤blkYs ys
 | []=>by rw [useYs];exact Nat.zero_le _
 | y::ys=>by
  rw [useYs,blkYs,List.length_append]
  have h1:=notIn_len (bndY k x all i) (useY y)
  have h2:=use_len y
  have h3:=uses_len k x all (i+1) ys
  omega
end
theorem flat_use_len (ks:List Ny):(ks.flatMap useY).length≤blkYs ks:=by
 induction ks with
 | nil=>exact Nat.zero_le _
 | cons y ks ih=>
  rw [List.flatMap_cons,List.length_append,blkYs]
  have:=use_len y
  omega
mutual
theorem vr_len:∀t:Ny,(vrY t).length≤blkY t
 | .mk k x ks=>by
  rw [vrY,blkY]
  split
  ·simp only [List.length_cons,List.length_nil];omega
  ·have:=vrs_len ks;omega
theorem vrs_len:∀ys:List Ny,(vrYs ys).length≤blkYs ys
 | []=>by rw [vrYs];exact Nat.zero_le _
 | y::ys=>by
  rw [vrYs,blkYs,List.length_append]
  have h1:=vr_len y
  have h2:=vrs_len ys
  omega
end
inductive ScK:Ny→Prop where
 | mk {t:Ny}:(t.kind=23→t.kids.length=3∧useY (t.kids.getD 1 default)=[])→(t.kind=19∨t.kind=20→4≤t.kids.length∧useY (t.kids.getD 1 default)=[]) →
   (t.kind=26→2≤t.kids.length∧∀p∈t.kids.take (t.kids.length-2),p.text≠[]∧useY p=[])→(t.kind=22∨t.kind=24→t.kids=[])→(∀k∈t.kids,ScK k)→ScK t
theorem ScK.bind {t:Ny} (h:ScK t):t.kind=23→t.kids.length=3∧useY (t.kids.getD 1 default)=[]:=by cases h;assumption
theorem ScK.loop {t:Ny} (h:ScK t):t.kind=19∨t.kind=20→4≤t.kids.length∧useY (t.kids.getD 1 default)=[]:=by cases h;assumption
theorem ScK.defn {t:Ny} (h:ScK t):t.kind=26→2≤t.kids.length∧∀p∈t.kids.take (t.kids.length-2),p.text≠[]∧useY p=[]:=by cases h;assumption
theorem ScK.leaf {t:Ny} (h:ScK t):t.kind=22∨t.kind=24→t.kids=[]:=by cases h;assumption
theorem ScK.kid {t:Ny} (h:ScK t):∀k∈t.kids,ScK k:=by cases h;assumption
theorem useYs_nil {k:Int} {x:List UInt8} {all:List Ny}:∀(ys:List Ny) (i:Nat),(∀y∈ys,useY y=[])→useYs k x all i ys=[]
 | [],_,_=>by rw [useYs]
 | y::ys,i,h=>by
  rw [useYs,h y (List.mem_cons_self ..),useYs_nil ys (i+1) (fun z hz=>h z (List.mem_cons_of_mem _ hz))]
  rfl
theorem use_leaf {t:Ny} (h:t.kids=[]) (h1:t.kind≠24) (h2:t.kind≠22) (h3:t.kind≠25):useY t=[]:=by
 rw [useY_eq,h,useYs,ownY,if_neg h1,if_neg h2,if_neg h3];rfl
theorem use_kids {t:Ny} (h:∀y∈t.kids,useY y=[]) (h1:t.kind≠24) (h2:t.kind≠22) (h3:t.kind≠25):useY t=[]:=by
 rw [useY_eq,useYs_nil _ _ h,ownY,if_neg h1,if_neg h2,if_neg h3];rfl
def NoK (k:Int):Prop:=k≠19∧k≠20∧k≠23∧k≠26∧k≠22∧k≠24
theorem sck_kids {t:Ny} (hk:NoK t.kind) (h:∀k∈t.kids,ScK k):ScK t:=
 .mk (fun h=>absurd h hk.2.2.1) (fun h=>h.elim (fun h=>absurd h hk.1) (fun h=>absurd h hk.2.1)) (fun h=>absurd h hk.2.2.2.1) (fun h=>h.elim (fun h=>absurd h hk.2.2.2.2.1) (fun h=>absurd h hk.2.2.2.2.2)) h
theorem sck_leaf {t:Ny} (h:t.kids=[]) (hk:NoK t.kind):ScK t:=sck_kids hk (fun k hm=>by rw [h] at hm;cases hm)
theorem noK {k m:Int} (h:k=m) (h1:m≠19) (h2:m≠20) (h3:m≠23) (h4:m≠26∧m≠22∧m≠24):NoK k:=by subst h;exact ⟨h1,h2,h3,h4⟩
theorem maybe_leaf {x:Ny} (h:(x.kind==32&&bareY x)=true):x.kind=32∧x.text=[]∧x.kids=[]:=by
 rw [Bool.and_eq_true] at h
 have hb:=h.2
 unfold bareY at hb
 rw [Bool.and_eq_true] at hb
 exact ⟨by simpa using h.1,List.isEmpty_iff.1 hb.1,List.isEmpty_iff.1 hb.2⟩
section
variable {numE:List UInt8→Nat} {fil pat:Ny→Bool} (hf:∀x,fil x=true→ScK x) (hp:∀x,pat x=true→ScK x∧useY x=[])
include hf hp
theorem are_sck:∀(xs:List Ny) (ks:List Nat),areM fil pat xs ks=true→∀x∈xs,ScK x
 | [],_,_,x,hx=>by cases hx
 | _ :: _,[],h,_,_=>by cases h
 | y::ys,k::ks,h,x,hx=>by
  have h':(stdM fil pat k y&&areM fil pat ys ks)=true:=h
  rw [Bool.and_eq_true] at h'
  rcases List.mem_cons.1 hx with rfl | hx
  ·have hs:=h'.1
   unfold stdM at hs
   split at hs
   ·exact (hp _ hs).1
   ·split at hs
    ·exact hf _ hs
    ·rw [Bool.or_eq_true] at hs
     rcases hs with hs | hs
     ·obtain ⟨h1,_,h3⟩:=maybe_leaf hs
      exact sck_leaf h3 (noK h1 (by decide) (by decide) (by decide) (by decide))
     ·exact hf _ hs
  ·exact are_sck ys ks h'.2 x hx
omit hp in
theorem tex_sck:∀(last:Bool) (ks:List Ny),texM fil last ks=true→∀x∈ks,ScK x
 | _,[],_,x,hx=>by cases hx
 | last,y::ys,h,x,hx=>by
  rw [texM] at h
  split at h
  ·rename_i h5
   simp only [Bool.and_eq_true] at h
   rcases List.mem_cons.1 hx with rfl | hx
   ·exact sck_leaf (by simpa using h.1.1.2) (noK h5 (by decide) (by decide) (by decide) (by decide))
   ·exact tex_sck true ys h.2 x hx
  ·rw [Bool.and_eq_true] at h
   rcases List.mem_cons.1 hx with rfl | hx
   ·exact hf _ h.1
   ·exact tex_sck false ys h.2 x hx
theorem unt_sck {t:Ny} (h:untM fil pat t=true):∀x∈t.kids,ScK x:=by
 have ar:=fun ks (h:areM fil pat t.kids ks=true)=>are_sck hf hp t.kids ks h
 have emp:t.kids.isEmpty=true→∀x∈t.kids,ScK x:=fun h x hx=>by rw [List.isEmpty_iff.1 h] at hx;cases hx
 unfold untM at h
 split at h
 ·rw [Bool.or_eq_true] at h;exact h.elim emp (ar _)
 split at h
 ·intro x hx
  have he:=List.all_eq_true.1 h x hx
  unfold entM at he
  simp only [Bool.and_eq_true] at he
  exact sck_kids (noK (m:=9) (by simpa using he.1.1) (by decide) (by decide) (by decide) (by decide)) (are_sck hf hp x.kids _ he.2)
 split at h
 ·exact ar _ h
 split at h
 ·rw [Bool.and_eq_true] at h;exact ar _ h.1
 split at h
 ·exact ar _ h
 split at h
 ·rw [Bool.or_eq_true] at h;exact h.elim (ar _) (ar _)
 split at h
 ·exact ar _ h
 split at h
 ·exact ar _ h
 split at h
 ·exact ar _ h
 split at h
 ·exact ar _ h
 ·cases h
omit hf in
theorem are_pat {xs:List Ny} {ks:List Nat} (h:areM fil pat xs (0::1::ks)=true):xs.length=ks.length+2∧useY (xs.getD 1 default)=[]:=by
 have len:∀(xs:List Ny) (ks:List Nat),areM fil pat xs ks=true→xs.length=ks.length:=by
  intro xs
  induction xs with
  | nil=>intro ks h;cases ks with
   | nil=>rfl
   | cons _ _=>cases h
  | cons x xs ih=>intro ks h;cases ks with
   | nil=>cases h
   | cons k ks=>
    have h':(stdM fil pat k x&&areM fil pat xs ks)=true:=h
    rw [Bool.and_eq_true] at h'
    simp [ih ks h'.2]
 refine ⟨len _ _ h,?_⟩
 match xs,h with
 | x::y::r,h=>
  have h':(stdM fil pat 0 x&&(stdM fil pat 1 y&&areM fil pat r ks))=true:=h
  rw [Bool.and_eq_true,Bool.and_eq_true] at h'
  have hy:=h'.2.1
  unfold stdM at hy
  rw [if_pos rfl] at hy
  exact (hp _ hy).2
 | [],h=>cases h
 | [x],h=>
  have h':(stdM fil pat 0 x&&areM fil pat [] (1::ks))=true:=h
  rw [Bool.and_eq_true] at h'
  cases h'.2
theorem filS_sck {t:Ny} (h:filS numE fil pat t=true):ScK t:=by
 have emp:t.kids.isEmpty=true→∀x∈t.kids,ScK x:=fun h x hx=>by rw [List.isEmpty_iff.1 h] at hx;cases hx
 by_cases h26:t.kind=26
 ·have hd:defM fil t=true:=by unfold filS at h;simpa [h26] using h
  unfold defM at hd
  simp only [Bool.and_eq_true,decide_eq_true_eq] at hd
  have hpar:∀x∈t.kids.take (t.kids.length-2),x.kind=27∧x.kids=[]∧x.text≠[]:=fun x hx=>by
   have:=List.all_eq_true.1 hd.1.2 x hx
   unfold parM at this
   simp only [Bool.and_eq_true] at this
   refine ⟨by simpa using this.1.1,by simpa using this.1.2,fun he=>?_⟩
   have h3:=this.2
   rw [he] at h3
   exact absurd h3 (by decide)
  refine .mk (fun h=>by omega) (fun h=>by omega) (fun _=>⟨hd.1.1.1,fun p hp=>⟨(hpar p hp).2.2,use_leaf (hpar p hp).2.1 (by rw [(hpar p hp).1];decide) (by rw [(hpar p hp).1];decide) (by rw [(hpar p hp).1];decide)⟩⟩) (fun h=>by omega) (fun x hx=>?_)
  rw [←List.take_append_drop (t.kids.length-2) t.kids] at hx
  rcases List.mem_append.1 hx with hx | hx
  ·exact sck_leaf (hpar x hx).2.1 (noK (hpar x hx).1 (by decide) (by decide) (by decide) (by decide))
  ·exact hf _ (List.all_eq_true.1 hd.2 x hx)
 have hb:t.kind=23→t.kids.length=3∧useY (t.kids.getD 1 default)=[]:=fun hk=>by
  have h1:untM fil pat t=true:=by
   have:(t.text.isEmpty&&untM fil pat t)=true:=by unfold filS at h;simpa [hk] using h
   exact (Bool.and_eq_true _ _ ▸ this).2
  have h2:areM fil pat t.kids [0,1,0]=true:=by unfold untM at h1;simpa [hk] using h1
  exact are_pat hp h2
 have hl:t.kind=19∨t.kind=20→4≤t.kids.length∧useY (t.kids.getD 1 default)=[]:=fun hk=>by
  rcases hk with hk | hk
  ·have h1:untM fil pat t=true:=by
    have:(t.text.isEmpty&&untM fil pat t)=true:=by unfold filS at h;simpa [hk] using h
    exact (Bool.and_eq_true _ _ ▸ this).2
   have h2:areM fil pat t.kids [0,1,0,0]=true:=by unfold untM at h1;simpa [hk] using h1
   have h3:=are_pat hp h2
   exact ⟨by rw [h3.1];decide,h3.2⟩
  ·have h1:untM fil pat t=true:=by
    have:(t.text.isEmpty&&untM fil pat t)=true:=by unfold filS at h;simpa [hk] using h
    exact (Bool.and_eq_true _ _ ▸ this).2
   have h2:areM fil pat t.kids [0,1,0,0,2]=true:=by unfold untM at h1;simpa [hk] using h1
   have h3:=are_pat hp h2
   exact ⟨by rw [h3.1];decide,h3.2⟩
 have hlf:t.kind=22∨t.kind=24→t.kids=[]:=fun hk=>by
  have:(t.kids.isEmpty&&isName t.text)=true:=by
   rcases hk with hk | hk <;> (unfold filS at h;simpa [hk] using h)
  exact List.isEmpty_iff.1 (Bool.and_eq_true _ _ ▸ this).1
 refine .mk hb hl (fun h=>absurd h h26) hlf ?_
 clear hb hl hlf
 unfold filS at h
 split at h
 ·unfold bareY at h;rw [Bool.and_eq_true] at h;exact emp h.2
 split at h
 ·rw [Bool.and_eq_true] at h;exact emp h.1
 split at h
 ·rw [Bool.and_eq_true] at h;exact tex_sck hf _ _ h.2
 split at h
 ·rw [Bool.and_eq_true] at h;exact emp h.1
 split at h
 ·rw [Bool.and_eq_true] at h;exact emp h.1
 split at h
 ·rw [Bool.and_eq_true] at h;exact are_sck hf hp _ _ h.2
 split at h
 ·rw [Bool.and_eq_true] at h;exact fun x hx=>hf _ (List.all_eq_true.1 h.2 x hx)
 split at h
 ·rw [Bool.and_eq_true] at h;exact are_sck hf hp _ _ h.2
 ·rw [Bool.and_eq_true] at h;exact unt_sck hf hp h.2
theorem patS_sck {t:Ny} (h:patS fil pat t=true):ScK t∧useY t=[]:=by
 unfold patS at h
 split at h
 ·rename_i hk
  rw [Bool.and_eq_true] at h
  have h0:=List.isEmpty_iff.1 h.1
  exact ⟨sck_leaf h0 (noK hk (by decide) (by decide) (by decide) (by decide)),use_leaf h0 (by rw [hk];decide) (by rw [hk];decide) (by rw [hk];decide)⟩
 split at h
 ·rename_i hk
  rw [Bool.and_eq_true] at h
  have h0:=fun x hx=>hp x (List.all_eq_true.1 h.2 x hx)
  exact ⟨sck_kids (noK hk (by decide) (by decide) (by decide) (by decide)) (fun x hx=>(h0 x hx).1),use_kids (fun x hx=>(h0 x hx).2) (by rw [hk];decide) (by rw [hk];decide) (by rw [hk];decide)⟩
 split at h
 ·rename_i hk
  rw [Bool.and_eq_true] at h
  have h0:∀x∈t.kids,ScK x∧useY x=[]:=fun x hx=>by
   have he:=List.all_eq_true.1 h.2 x hx
   unfold keyM at he
   simp only [Bool.and_eq_true] at he
   have h31:x.kind=31:=by simpa using he.1.1
   have hx1:∀y∈x.kids,useY y=[]:=by
    match hxk:x.kids,he.2 with
    | [],h=>cases h
    | [y],h=>
     have h':(stdM fil pat 1 y&&true)=true:=h
     rw [Bool.and_true] at h'
     unfold stdM at h'
     rw [if_pos rfl] at h'
     intro z hz
     obtain rfl:z=y:=by simpa using hz
     exact (hp _ h').2
    | y::z::r,h=>
     have h':(stdM fil pat 1 y&&areM fil pat (z::r) [])=true:=h
     rw [Bool.and_eq_true] at h'
     cases h'.2
   exact ⟨sck_kids (noK h31 (by decide) (by decide) (by decide) (by decide)) (are_sck hf hp x.kids _ he.2),use_kids hx1 (by rw [h31];decide) (by rw [h31];decide) (by rw [h31];decide)⟩
  exact ⟨sck_kids (noK hk (by decide) (by decide) (by decide) (by decide)) (fun x hx=>(h0 x hx).1),use_kids (fun x hx=>(h0 x hx).2) (by rw [hk];decide) (by rw [hk];decide) (by rw [hk];decide)⟩
 ·cases h
end
theorem fil_sck {numE:List UInt8→Nat}:∀(n:Nat) (t:Ny),(filN numE n t=true→ScK t)∧(patN numE n t=true→ScK t∧useY t=[])
 | 0,t=>⟨fun h=>absurd h (by simp [filN]),fun h=>absurd h (by simp [patN])⟩
 | n+1,t=>⟨fun h=>filS_sck (fun x=>(fil_sck n x).1) (fun x=>(fil_sck n x).2) h,fun h=>patS_sck (fun x=>(fil_sck n x).1) (fun x=>(fil_sck n x).2) h⟩
end Go.Proofs.YtmbeicndhigklaaGreatDoor
