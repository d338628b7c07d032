/-
A filter's tree where it lies, and the parser that makes it (chapter 15).
-/
import Derived.Test.YtmbeicndhigklaaGreatDoorPSynP
import Derived.Test.YtmbeicndhigklaaGreatDoorPLimP
import Derived.Maps.Own
import Derived.Maps.OwnOps
import Derived.Maps.Views
import Derived.Laws.AppendOwn
import Derived.Laws.OwnMore
import Derived.Laws.NewBlocks
import Derived.Lib.Hide
import Derived.Lib.OthersKept
import Derived.WalkKit
import Derived.WalkSpells
import Derived.WalkLawsBesides
import Derived.Handy
import Derived.StillTailTactics
import Derived.Deep.QuietTactic
import Derived.BigQuiet
import Derived.Deep.RegionHeld3
import Derived.Deep.RegionLaw
import Derived.Deep.Draws
import Derived.Deep.MidRow
import Derived.Maps.AppendAt
import Derived.LoopTactic
import Derived.Deep.DeepCutAuto
import Derived.OrdersHeld
import Derived.Deep.RegionHeld
namespace Go.Proofs.YtmbeicndhigklaaGreatDoor
open Go.RowKit
def RetY (v:Value) (X:World→Prop) (e:Ending) (w':World):Prop:=e=.returned v∧X w'
theorem RetY.of {P:Program} {f:FuncId} {args:Array Value} {w:World} {v:Value} {X:World→Prop} (h:Calls P f args w fun e w'=>e=.returned v∧X w'):Calls P f args w (RetY v X):=h
theorem rheap_set {w:World} {r k:Nat} {c:Array Value} {T:TypeId} {z:Nat×Nat} (h:w.heap[r]?=some (.cells c T z)) (v:Value):(w.setCell ⟨r,k,none⟩ v).heap[r]?=some (.cells (c.setIfInBounds k v) T z):=by
 simp [World.setCell,Array.getElem?_modify,h]
theorem rheap_far {w:World} {p:Addr} {r:Nat} {v:Value} (h:p.block≠r):(w.setCell p v).heap[r]?=w.heap[r]?:=by
 simp only [World.setCell,Array.getElem?_modify]
 rw [if_neg h]
theorem rowns_block {w w':World} {B:Nat} {E:TypeId} {size:Nat} {v:Value} {m:Nat} {xs:List Value} (h:w.ownsRow B E size v m xs) (hk:∀(k:Nat) (c:Array Value) (z:Nat×Nat),v.ownBlock=some k→w.heap[k]?=some (.cells c E z)→w'.heap[k]?=some (.cells c E z)):w'.ownsRow B E size v m xs:=by
 refine ⟨h.1,?_⟩
 rcases h.2 with h2 | ⟨g,cap,cur,hv,hg,hh,r2⟩
 ·exact .inl h2
 ·exact .inr ⟨g,cap,cur,hv,hg,hk g _ _ (by rw [hv];rfl) hh,r2⟩
theorem rowns_below {w w':World} {B:Nat} {E:TypeId} {size:Nat} {v:Value} {m:Nat} {xs:List Value} (h:w.ownsRow B E size v m xs) (hb:Below w.heap.size w w'):w'.ownsRow B E size v m xs:=
 rowns_block h fun q c z _ hh=>by rw [hb.block q (Array.getElem?_eq_some_iff.1 hh).1];exact hh
theorem rrow_kind {w:World} {B:Nat} {E:TypeId} {size:Nat} {v:Value} {m:Nat} {xs:List Value} (h:w.ownsRow B E size v m xs):∀g,v.ownBlock=some g→B≤g∧g<w.heap.size∧∃c fz,w.heap[g]?=some (.cells c E fz):=fun k hk=>by
 rcases h.2 with ⟨hv,_⟩ | ⟨g,cap,cur,hv,hB,hh,_⟩
 ·rw [hv] at hk;cases hk
 ·rw [hv] at hk
  have e:g=k:=by simpa [Value.ownBlock] using hk
  subst e
  exact ⟨hB,(Array.getElem?_eq_some_iff.1 hh).1,_,_,hh⟩
theorem rowns_slice {w:World} {B:Nat} {E:TypeId} {size:Nat} {v:Value} {m:Nat} {xs:List Value} (h:w.ownsRow B E size v m xs):∃A cap,v=.slice A m cap:=by
 rcases h.2 with ⟨hv,h0⟩ | ⟨g,cap,cur,hv,_⟩
 ·exact ⟨none,0,by rw [hv,h0]⟩
 ·exact ⟨_,cap,hv⟩
theorem setCells_far (b:Nat):∀(vs:List Value) (o:Nat) (w:World) (k:Nat),k≠b→(w.setCells b o vs).heap[k]?=w.heap[k]?
 | [],_,_,_,_=>rfl
 | v::r,o,w,k,h=>by
  rw [World.setCells,setCells_far b r (o+1) _ k h]
  exact rheap_far (fun e=>h e.symm)
theorem setCells_obj (b:Nat):∀(vs:List Value) (o:Nat) (w:World) (c:Array Value) (T:TypeId) (z:Nat×Nat),w.heap[b]?=some (.cells c T z)→∃c',(w.setCells b o vs).heap[b]?=some (.cells c' T z)∧c'.size=c.size
 | [],_,_,c,_,_,h=>⟨c,h,rfl⟩
 | v::r,o,w,c,T,z,h=>by
  rw [World.setCells]
  obtain ⟨c',h1,h2⟩:=setCells_obj b r (o+1) _ _ T z (rheap_set (k:=o) h v)
  exact ⟨c',h1,by rw [h2];simp⟩
theorem setCells_below {B:Nat} {a:World} (b:Nat) (hb:B≤b):∀(vs:List Value) (o:Nat) (w:World),Below B a w→Below B a (w.setCells b o vs)
 | [],_,_,h=>h
 | v::r,o,w,h=>by
  rw [World.setCells]
  exact setCells_below b hb r (o+1) _ (h.setCell (p:=⟨b,o,none⟩) hb v)
theorem setCells_size (b:Nat):∀(vs:List Value) (o:Nat) (w:World),(w.setCells b o vs).heap.size=w.heap.size
 | [],_,_=>rfl
 | v::r,o,w=>by rw [World.setCells,setCells_size b r];simp [World.setCell]
theorem there_of {w:World} {b n:Nat} {c:Array Value} {T:TypeId} (h:w.heap[b]?=some (.cells c T (0,0))) (hn:n=c.size):w.there b 0 n:=fun j hj=>by
 refine ⟨?_,Lib.frozen_of_heap h _⟩
 rw [Lib.cell_of_heap h,Nat.zero_add]
 simp only [Array.getElem?_eq_getElem (show j<c.size by omega),Option.isSome_some]
theorem setCells_whole {w:World} {b:Nat} {c:Array Value} {T:TypeId} {vs:List Value} (h:w.heap[b]?=some (.cells c T (0,0))) (hn:vs.length=c.size):(w.setCells b 0 vs).heap[b]?=some (.cells vs.toArray T (0,0)):=by
 obtain ⟨c',h1,h2⟩:=setCells_obj b vs 0 w c T (0,0) h
 have hr:=World.rangeAt_setCells_same w b 0 vs (there_of h hn)
 rw [h1]
 congr 2
 apply Array.ext
 ·simp [h2,hn]
 ·intro i hi1 hi2
  have hv:vs[i]?=some vs[i]:=List.getElem?_eq_getElem (by simpa using hi2)
  have:=hr i _ hv
  rw [Nat.zero_add,Lib.cell_of_heap h1,Array.getElem?_eq_getElem hi1] at this
  simpa using Option.some.inj this
theorem range_of {w:World} {b:Nat} {vs:List Value} {T:TypeId} {z:Nat×Nat} (h:w.heap[b]?=some (.cells vs.toArray T z)):w.rangeAt b 0 vs:=fun j v hj=>by
 rw [Nat.zero_add,Lib.cell_of_heap h];simpa using hj
theorem heap_call {w w':World} {q:Nat} {o:Obj} (h:w.heap[q]?=some o) (hb:Below w.heap.size w w'):w'.heap[q]?=some o:=(hb.block q (Array.getElem?_eq_some_iff.1 h).1).trans h
abbrev TN:TypeId:=24
abbrev TTk:TypeId:=86
def nCells (t:Nd) (kv:Value):List Value:=[.int .i64 (t.kind:Int),.string ⟨t.text.toArray⟩,kv]
def nAgg (t:Nd) (kv:Value):Value:=.agg #[.int .i64 (t.kind:Int),.string ⟨t.text.toArray⟩,kv]
def NV (F:Nat→Prop) (w:World):Nat→List Nd→Value→Prop
 | 0,ks,kv=>ks=[]∧∃A cap,kv=.slice A 0 cap
 | n+1,ks,kv=>∃A cap,kv=.slice A ks.length cap∧(ks≠[]→ks.length≤cap∧cap≤maxLen)∧(ks≠[]→∃q o c z,A=some ⟨q,o,none⟩∧F q∧w.heap[q]?=some (.cells c TN z)∧∀i t,ks[i]?=some t→∃kw,(∀j v,(nCells t kw)[j]?=some v→c[o+(i * 3+j)]?=some v)∧NV F w n t.kids kw)
section
variable {F G:Nat→Prop} {w w':World}
theorem NV.mono:∀(n m:Nat) (ks:List Nd) (kv:Value),n≤m→NV F w n ks kv→NV F w m ks kv
 | 0,0,_,_,_,h=>h
 | 0,m+1,ks,kv,_,⟨h,A,cap,e⟩=>⟨A,cap,by rw [h];exact e,fun hn=>absurd h hn,fun hn=>absurd h hn⟩
 | n+1,0,_,_,h,_=>absurd h (by omega)
 | n+1,m+1,ks,kv,h,⟨A,cap,e,hcp,h2⟩=>⟨A,cap,e,hcp,fun hn=>by
  obtain ⟨q,o,c,z,h3,h4,hh,h5⟩:=h2 hn
  refine ⟨q,o,c,z,h3,h4,hh,fun i t hi=>?_⟩
  obtain ⟨kw,h6,h7⟩:=h5 i t hi
  exact ⟨kw,h6,NV.mono n m t.kids kw (by omega) h7⟩⟩
theorem NV.kept (hF:∀q c z,F q→w.heap[q]?=some (.cells c TN z)→w'.heap[q]?=some (.cells c TN z)∧G q):∀(n:Nat) (ks:List Nd) (kv:Value),NV F w n ks kv→NV G w' n ks kv
 | 0,_,_,h=>h
 | n+1,ks,kv,⟨A,cap,e,hcp,h2⟩=>⟨A,cap,e,hcp,fun hn=>by
  obtain ⟨q,o,c,z,h3,h4,hh,h5⟩:=h2 hn
  have hq:=hF q c z h4 hh
  refine ⟨q,o,c,z,h3,hq.2,hq.1,fun i t hi=>?_⟩
  obtain ⟨kw,h6,h7⟩:=h5 i t hi
  exact ⟨kw,h6,NV.kept hF n t.kids kw h7⟩⟩
def NX (F:Nat→Prop) (w:World) (t:Nd) (kv:Value):Prop:=∃n,NV F w n t.kids kv
theorem NX.kept {t:Nd} {kv:Value} (hF:∀q c z,F q→w.heap[q]?=some (.cells c TN z)→w'.heap[q]?=some (.cells c TN z)∧G q) (h:NX F w t kv):NX G w' t kv:=by
 obtain ⟨n,h⟩:=h;exact ⟨n,NV.kept hF n _ _ h⟩
theorem NX.leaf {t:Nd} (h:t.kids=[]):NX F w t (.slice none 0 0):=⟨0,h,none,0,rfl⟩
theorem NX.slice {t:Nd} {kv:Value} (h:NX F w t kv):∃A cap,kv=.slice A t.kids.length cap:=by
 obtain ⟨n,h⟩:=h
 cases n with
 | zero=>obtain ⟨h0,A,cap,e⟩:=h;exact ⟨A,cap,by rw [h0];exact e⟩
 | succ n=>obtain ⟨A,cap,e,_⟩:=h;exact ⟨A,cap,e⟩
def NZ (F:Nat→Prop) (w:World) (zs:List (Nd×Value)):Prop:=∀z∈zs,NX F w z.1 z.2
def nzCells (zs:List (Nd×Value)):List Value:=zs.flatMap fun z=>nCells z.1 z.2
theorem nzCells_length (zs:List (Nd×Value)):(nzCells zs).length=zs.length * 3:=by
 unfold nzCells
 induction zs with
 | nil=>rfl
 | cons a r ih=>rw [List.flatMap_cons,List.length_append,ih,List.length_cons];simp [nCells];omega
theorem nzCells_at:∀(zs:List (Nd×Value)) (i:Nat) (z:Nd×Value),zs[i]?=some z→∀j v,(nCells z.1 z.2)[j]?=some v→(nzCells zs)[i * 3+j]?=some v
 | [],i,z,h,_,_,_=>by simp at h
 | a::r,0,z,h,j,v,hv=>by
  obtain rfl:a=z:=by simpa using h
  have hj:=(List.getElem?_eq_some_iff.1 hv).1
  show (nCells a.1 a.2++nzCells r)[0 * 3+j]?=some v
  rw [Nat.zero_mul,Nat.zero_add,List.getElem?_append_left hj];exact hv
 | a::r,i+1,z,h,j,v,hv=>by
  have ih:=nzCells_at r i z (by simpa using h) j v hv
  show (nCells a.1 a.2++nzCells r)[(i+1) * 3+j]?=some v
  have hl:(nCells a.1 a.2).length=3:=rfl
  rw [List.getElem?_append_right (by omega),←ih]
  congr 1;omega
theorem nzCells_snoc (zs:List (Nd×Value)) (t:Nd) (v:Value):nzCells zs++nCells t v=nzCells (zs++[(t,v)]):=by unfold nzCells;simp [List.flatMap_append]
theorem NZ.depth:∀{zs:List (Nd×Value)},NZ F w zs→∃n,∀z∈zs,NV F w n z.1.kids z.2
 | [],_=>⟨0,fun z hz=>by cases hz⟩
 | a::r,h=>by
  obtain ⟨n,hn⟩:=h a (List.mem_cons_self ..)
  obtain ⟨m,hm⟩:=NZ.depth (zs:=r) (fun z hz=>h z (List.mem_cons_of_mem _ hz))
  refine ⟨n+m,fun z hz=>?_⟩
  rcases List.mem_cons.1 hz with rfl | hz
  ·exact NV.mono n _ _ _ (by omega) hn
  ·exact NV.mono m _ _ _ (by omega) (hm z hz)
theorem NZ.kidsAt {zs:List (Nd×Value)} {g cap:Nat} {c:Array Value} {z:Nat×Nat} (hh:w.heap[g]?=some (.cells c TN z)) (hc:∀(j:Nat) (v:Value),(nzCells zs)[j]?=some v→c[j]?=some v) (hz:NZ F w zs) (hG:∀q,F q→G q) (hg:G g) (hcp:zs.length≤cap∧cap≤maxLen) :
  ∃n,NV G w n (zs.map Prod.fst) (.slice (some ⟨g,0,none⟩) zs.length cap):=by
 obtain ⟨n,hn⟩:=hz.depth
 refine ⟨n+1,some ⟨g,0,none⟩,cap,by rw [List.length_map],fun _=>by rw [List.length_map];exact hcp,fun _=>⟨g,0,c,z,rfl,hg,hh,fun i t hi=>?_⟩⟩
 rw [List.getElem?_map] at hi
 cases hz2:zs[i]? with
 | none=>rw [hz2] at hi;cases hi
 | some y=>
  rw [hz2] at hi
  obtain rfl:y.1=t:=by simpa using hi
  exact ⟨y.2,fun j u hj=>by rw [Nat.zero_add];exact hc _ _ (nzCells_at zs i y hz2 j u hj),NV.kept (w:=w) (F:=F) (fun q _ _ hq h=>⟨h,hG q hq⟩) n _ _ (hn y (List.mem_of_getElem? hz2))⟩
theorem NZ.kids {B:Nat} {v:Value} {zs:List (Nd×Value)} (h:w.ownsRow B TN 3 v zs.length (nzCells zs)) (hz:NZ F w zs) (hG:∀q,F q→G q) (hown:∀q,v.ownBlock=some q→G q):∃n,NV G w n (zs.map Prod.fst) v:=by
 rcases h.2 with ⟨hv,h0⟩ | ⟨g,cap,cur,hv,hg,hh,hrest⟩
 ·have:zs=[]:=List.length_eq_zero_iff.1 h0
  subst this
  exact ⟨0,rfl,none,0,hv⟩
 ·have:=NZ.kidsAt (cap:=cap) hh (fun j u hj=>?_) hz hG (hown g (by rw [hv];rfl)) ⟨hrest.1,hrest.2.1⟩
  ·rw [←hv] at this;exact this
  ·have:=h.cells (g:=g) (by rw [hv];rfl) j u hj
   have hadd:(⟨g,0,none⟩:Addr).add j=⟨g,j,none⟩:=by unfold Addr.add;split <;> simp_all
   rw [hadd,Lib.cell_of_heap hh] at this
   exact this
end
structure PG (g:Nat) (w w':World):Prop where
 os:w'.os=w.os
 tape:w'.tape=w.tape
 output:w'.output=w.output
 size:w.heap.size≤w'.heap.size
 block:∀k,k<w.heap.size→k≠g→w'.heap[k]?=w.heap[k]?
section
variable {g:Nat} {a w w':World}
theorem PG.refl (g:Nat) (w:World):PG g w w:=⟨rfl,rfl,rfl,Nat.le_refl _,fun _ _ _=>rfl⟩
theorem PG.trans (h:PG g a w) (k:PG g w w'):PG g a w':=⟨k.os.trans h.os,k.tape.trans h.tape,k.output.trans h.output,Nat.le_trans h.size k.size,fun i hi hn=>(k.block i (Nat.lt_of_lt_of_le hi h.size) hn).trans (h.block i hi hn)⟩
theorem PG.of (k:Below w.heap.size w w'):PG g w w':=⟨k.os,k.tape,k.output,k.size,fun i hi _=>k.block i hi⟩
theorem PG.below (h:PG g a w) (k:Below w.heap.size w w'):PG g a w':=h.trans (.of k)
theorem PG.alloc (h:PG g a w) (o:Obj):PG g a (w.alloc o):=h.below ((Below.refl _ w).alloc (Nat.le_refl _) o)
theorem PG.drewN (h:PG g a w) (n:Nat):PG g a (w.drewN n):=⟨h.os,h.tape,h.output,h.size,h.block⟩
theorem PG.drew (h:PG g a w):PG g a w.drew:=⟨h.os,h.tape,h.output,h.size,h.block⟩
theorem PG.setOwn (h:PG g a w) (k:Nat) (v:Value):PG g a (w.setCell ⟨g,k,none⟩ v):=⟨h.os,h.tape,h.output,by simp [World.setCell];exact h.size,fun i hi hn=>(rheap_far (p:=⟨g,k,none⟩) (fun e=>hn e.symm)).trans (h.block i hi hn)⟩
theorem PG.setNew (h:PG g a w) {q:Nat} (hq:a.heap.size≤q) (k:Nat) (v:Value):PG g a (w.setCell ⟨q,k,none⟩ v):=
 ⟨h.os,h.tape,h.output,by simp [World.setCell];exact h.size,fun i hi hn=>(rheap_far (p:=⟨q,k,none⟩) (fun e=>by have e:q=i:=e;omega)).trans (h.block i hi hn)⟩
theorem setCells_rest (b:Nat):∀(vs:List Value) (o:Nat) (w:World),(w.setCells b o vs).os=w.os∧(w.setCells b o vs).tape=w.tape∧(w.setCells b o vs).output=w.output
 | [],_,_=>⟨rfl,rfl,rfl⟩
 | v::r,o,w=>by
  rw [World.setCells]
  exact setCells_rest b r (o+1) (w.setCell ⟨b,o,none⟩ v)
theorem PG.setCells (h:PG g a w) {q:Nat} (hq:a.heap.size≤q) (o:Nat) (vs:List Value):PG g a (w.setCells q o vs):=by
 obtain ⟨h1,h2,h3⟩:=setCells_rest q vs o w
 exact ⟨h1.trans h.os,h2.trans h.tape,h3.trans h.output,by rw [setCells_size];exact h.size,fun i hi hn=>(setCells_far q vs o w i (by omega)).trans (h.block i hi hn)⟩
theorem PG.grown (h:PG g a w) {row:Option Nat} (hg:w.grownBy w' row) (hr:∀k,row=some k→a.heap.size≤k):PG g a w':=
 ⟨hg.os.trans h.os,hg.tape.trans h.tape,hg.output.trans h.output,Nat.le_trans h.size hg.size,fun i hi hn=>(hg.block i (Nat.lt_of_lt_of_le hi h.size) (fun e=>by have:=hr i e.symm;omega)).trans (h.block i hi hn)⟩
theorem PG.toBelow (h:PG g w w') {B:Nat} (hB:B≤g) (hw:B≤w.heap.size):Below B w w':=⟨h.os,h.tape,h.output,h.size,fun k hk=>h.block k (by omega) (by omega)⟩
theorem PG.at (h:PG g w w') {q:Nat} {o:Obj} (hq:w.heap[q]?=some o) (hn:q≠g):w'.heap[q]?=some o:=(h.block q (Array.getElem?_eq_some_iff.1 hq).1 hn).trans hq
end
section
variable {F:Nat→Prop} {w w':World} {g:Nat} {t:Nd} {kv:Value}
theorem NX.weak {B B':Nat} (h:NX (fun q=>B≤q) w t kv) (hB:B'≤B):NX (fun q=>B'≤q) w t kv:=h.kept fun _ _ _ hq hh=>⟨hh,Nat.le_trans hB hq⟩
theorem NX.imp {G:Nat→Prop} (h:NX F w t kv) (hG:∀q,F q→G q):NX G w t kv:=h.kept fun q _ _ hq hh=>⟨hh,hG q hq⟩
end
abbrev TPr:TypeId:=59
def TokR (g:Nat) (w:World) (A:Option Addr) (l:List Tk):Prop:=
 l≠[]→∃q c z,A=some ⟨q,0,none⟩∧q<g∧w.heap[q]?=some (.cells c TTk z)∧∀i k,l[i]?=some k→c[i * 3]?=some (.int .i64 (k.kind:Int))∧c[i * 3+1]?=some (.string ⟨k.text.toArray⟩)∧c[i * 3+2]?=some (.int .i64 (k.pos:Int))
def TabG (g:Nat) (w:World):Prop:=Tab10 w∧∀q,Tryz.prog.globalNamed "internal/strconv.uint64pow10"=some q→q<g
theorem TabG.keep {g:Nat} {w w':World} (h:TabG g w) (hk:∀q,q<g→w'.heap[q]?=w.heap[q]?):TabG g w':=by
 refine ⟨?_,h.2⟩
 have h1:=h.1
 unfold Tab10 Lib.TabIs World.var? at *
 cases hg:Tryz.prog.globalNamed "internal/strconv.uint64pow10" with
 | none=>simp [hg] at h1
 | some q=>
  simp only [hg,Option.bind_some] at h1 ⊢
  rw [hk q (h.2 q hg)]
  exact h1
structure PrS (g:Nat) (l:List Tk) (en:Nat) (s:PT) (w:World):Prop where
 row:∃A cap,w.heap[g]?=some (.cells #[.slice A l.length cap,.int .i64 (s.at':Int),.int .i64 (en:Int),.int .i64 (s.pipes:Int)] TPr (0,0))∧TokR g w A l∧l.length≤cap∧cap≤maxLen
 tab:TabG g w
section
variable {g:Nat} {l:List Tk} {en:Nat} {s:PT} {w w':World}
theorem TokR.kept {A:Option Addr} (h:TokR g w A l) (hk:∀(q:Nat) (c:Array Value) (z:Nat×Nat),q<g→w.heap[q]?=some (.cells c TTk z)→w'.heap[q]?=some (.cells c TTk z)):TokR g w' A l:=fun hn=>by
 obtain ⟨q,c,z,e,hq,hh,hc⟩:=h hn
 exact ⟨q,c,z,e,hq,hk q c z hq hh,hc⟩
theorem PrS.lt (h:PrS g l en s w):g<w.heap.size:=by obtain ⟨A,cap,hh,_⟩:=h.row;exact (Array.getElem?_eq_some_iff.1 hh).1
theorem PrS.keep (h:PrS g l en s w) (hk:∀q,q≤g→w'.heap[q]?=w.heap[q]?):PrS g l en s w':=by
 obtain ⟨A,cap,hh,ht,hc⟩:=h.row
 exact ⟨⟨A,cap,(hk g (Nat.le_refl _)).trans hh,ht.kept fun q c z hq hi=>(hk q (Nat.le_of_lt hq)).trans hi,hc⟩,h.tab.keep fun q hq=>hk q (Nat.le_of_lt hq)⟩
theorem PrS.below (h:PrS g l en s w) (hb:Below w.heap.size w w'):PrS g l en s w':=h.keep fun q hq=>hb.block q (Nat.lt_of_le_of_lt hq h.lt)
theorem PrS.alloc (h:PrS g l en s w) (o:Obj):PrS g l en s (w.alloc o):=h.below ((Below.refl _ w).alloc (Nat.le_refl _) o)
theorem PrS.drewN (h:PrS g l en s w) (n:Nat):PrS g l en s (w.drewN n):=⟨h.row,h.tab⟩
theorem PrS.drew (h:PrS g l en s w):PrS g l en s w.drew:=⟨h.row,h.tab⟩
theorem PrS.put_at (h:PrS g l en s w) (p:Nat):PrS g l en { s with at':=p } (w.setCell ⟨g,1,none⟩ (.int .i64 (p:Int))):=by
 obtain ⟨A,cap,hh,ht,hc⟩:=h.row
 exact ⟨⟨A,cap,rheap_set (k:=1) hh _,ht.kept fun i c z hn hi=>(rheap_far (p:=⟨g,1,none⟩) (fun e=>by have e:g=i:=e;omega)).trans hi,hc⟩,h.tab.keep fun q hq=>rheap_far (p:=⟨g,1,none⟩) (fun e=>by have e:g=q:=e;omega)⟩
theorem PrS.put_pipes (h:PrS g l en s w) (p:Nat):PrS g l en { s with pipes:=p } (w.setCell ⟨g,3,none⟩ (.int .i64 (p:Int))):=by
 obtain ⟨A,cap,hh,ht,hc⟩:=h.row
 exact ⟨⟨A,cap,rheap_set (k:=3) hh _,ht.kept fun i c z hn hi=>(rheap_far (p:=⟨g,3,none⟩) (fun e=>by have e:g=i:=e;omega)).trans hi,hc⟩,h.tab.keep fun q hq=>rheap_far (p:=⟨g,3,none⟩) (fun e=>by have e:g=q:=e;omega)⟩
theorem PrS.frozen (h:PrS g l en s w) (k:Nat):w.frozen? ⟨g,k,none⟩=false:=by obtain ⟨A,cap,hh,_⟩:=h.row;exact Lib.frozen_of_heap hh k
theorem PrS.c0 (h:PrS g l en s w):∃A cap,w.cell? ⟨g,0,none⟩=some (.slice A l.length cap)∧TokR g w A l∧l.length≤cap∧cap≤maxLen:=by
 obtain ⟨A,cap,hh,ht,hc⟩:=h.row
 exact ⟨A,cap,by rw [Lib.cell_of_heap hh];rfl,ht,hc⟩
theorem PrS.c1 (h:PrS g l en s w):w.cell? ⟨g,1,none⟩=some (.int .i64 (s.at':Int)):=by obtain ⟨A,cap,hh,_⟩:=h.row;rw [Lib.cell_of_heap hh];rfl
theorem PrS.c2 (h:PrS g l en s w):w.cell? ⟨g,2,none⟩=some (.int .i64 (en:Int)):=by obtain ⟨A,cap,hh,_⟩:=h.row;rw [Lib.cell_of_heap hh];rfl
theorem PrS.c3 (h:PrS g l en s w):w.cell? ⟨g,3,none⟩=some (.int .i64 (s.pipes:Int)):=by obtain ⟨A,cap,hh,_⟩:=h.row;rw [Lib.cell_of_heap hh];rfl
theorem TokR.at {A:Option Addr} (h:TokR g w A l) {i:Nat} {k:Tk} (hi:l[i]?=some k):∃q,A=some ⟨q,0,none⟩∧w.cell? ⟨q,i * 3,none⟩=some (.int .i64 (k.kind:Int))∧w.cell? ⟨q,i * 3+1,none⟩=some (.string ⟨k.text.toArray⟩)∧w.cell? ⟨q,i * 3+2,none⟩=some (.int .i64 (k.pos:Int)):=by
 obtain ⟨q,c,z,e,_,hh,hc⟩:=h (fun e=>by rw [e] at hi;simp at hi)
 obtain ⟨h1,h2,h3⟩:=hc i k hi
 exact ⟨q,e,by rw [Lib.cell_of_heap hh];exact h1,by rw [Lib.cell_of_heap hh];exact h2,by rw [Lib.cell_of_heap hh];exact h3⟩
end
def stopE (a e:Nat):Ending:=.panicked [{ v:=.iface 55 (.agg #[.int .i64 (a:Int),.int .i64 (e:Int)]),recovered:=false }]
def BdY (g a n:Nat) (w:World) (e:Ending) (w':World):Prop:=e=stopE a n∧PG g w w'
def OkN (g:Nat) (l:List Tk) (en:Nat) (s':PT) (w:World) (t:Nd) (e:Ending) (w':World):Prop:=∃kv,e=.returned (nAgg t kv)∧NX (fun q=>w.heap.size≤q) w' t kv∧PrS g l en s' w'∧PG g w w'
def OkW (g:Nat) (l:List Tk) (en:Nat) (s':PT) (w:World) (v:Value) (e:Ending) (w':World):Prop:=e=.returned v∧PrS g l en s' w'∧PG g w w'
def ResN (g:Nat) (l:List Tk) (en:Nat) (w:World) (r:PY Nd) (e:Ending) (w':World):Prop:=match r with
 | .ok t s'=>OkN g l en s' w t e w'
 | .bad a n=>BdY g a n w e w'
def ResW (g:Nat) (l:List Tk) (en:Nat) (w:World) {α:Type} (V:α→Value) (r:PY α) (e:Ending) (w':World):Prop:=match r with
 | .ok v s'=>OkW g l en s' w (V v) e w'
 | .bad a n=>BdY g a n w e w'
def tkAgg (t:Tk):Value:=.agg #[.int .i64 (t.kind:Int),.string ⟨t.text.toArray⟩,.int .i64 (t.pos:Int)]
end Go.Proofs.YtmbeicndhigklaaGreatDoor
namespace Go.Proofs.YtmbeicndhigklaaGreatDoor
open Go
section
variable {P:Program} {ops:Array Oper} {Q:Exit→Act→World→Prop} {md:Region.Mode} {S:World→Prop} {la:Nat}
def wpAnyS (P:Program) (md:Region.Mode) (ops:Array Oper) (Q:Exit→Act→World→Prop) (S:World→Prop) (la:Nat):Nat→Array Bool→Act→World→Prop
 | 0,listed,a,w=>Region.ready md ops listed=[]∧Q .normal a w
 | fuel+1,listed,a,w=>
  (Region.ready md ops listed=[]→Q .normal a w) ∧
  ∀i∈Region.ready md ops listed,wpOp P ops Q i (fun a' w'=>(i≠la→S w')∧wpAnyS P md ops Q S la fuel (listed.setIfInBounds i true) a' w') a w
theorem wpAny_of_s:∀(fuel:Nat) (listed:Array Bool) (a:Act) (w:World),wpAnyS P md ops Q S la fuel listed a w→wpAny P md ops Q fuel listed a w
 | 0,_,_,_,h=>h
 | fuel+1,_,_,_,h=>⟨h.1,fun i hi=>wpOp_mono (fun a' w' h'=>wpAny_of_s fuel _ a' w' h'.2) (h.2 i hi)⟩
def chainB (md:Region.Mode) (ops:Array Oper):List Nat→Bool
 | a::b::r=>((ops[b]?).map fun o=>o.after.any fun e=>Region.binds md e&&e.on==a).getD false&&chainB md ops (b::r)
 | _=>true
def offB (listed:Array Bool) (c:List Nat):Bool:=c.all fun j=>!listed.getD j false
theorem off_of {listed:Array Bool} {c:List Nat} (h:offB listed c=true) {j:Nat} (hj:j∈c):listed.getD j false=false:=by
 unfold offB at h
 rw [List.all_eq_true] at h
 simpa using h j hj
theorem chain_wait:∀(c:List Nat) (i j:Nat) (listed:Array Bool),chainB md ops (i::c)=true→offB listed (i::c)=true→j∈Region.ready md ops listed→j ∉ c
 | [],_,_,_,_,_,_=>by simp
 | b::r,i,j,listed,hc,ho,hj=>by
  rw [chainB,Bool.and_eq_true] at hc
  have hob:offB listed (b::r)=true:=by
   unfold offB at ho ⊢
   rw [List.all_cons,Bool.and_eq_true] at ho
   exact ho.2
  have ih:=chain_wait r b j listed hc.2 hob hj
  intro hm
  rcases List.mem_cons.1 hm with rfl | hm
  ·obtain ⟨_,o,hoj,hall⟩:=mem_ready.1 hj
   have h1:=hc.1
   rw [hoj] at h1
   simp only [Option.map_some,Option.getD_some] at h1
   obtain ⟨e,he,h2⟩:=Array.any_eq_true'.1 h1
   rw [Bool.and_eq_true] at h2
   have h3:=hall e he h2.1
   rw [show e.on=i from by simpa using h2.2,off_of ho List.mem_cons_self] at h3
   cases h3
  ·exact ih hm
theorem off_set {listed:Array Bool} {c:List Nat} {j:Nat} (h:offB listed c=true) (hj:j ∉ c):offB (listed.setIfInBounds j true) c=true:=by
 unfold offB at h ⊢
 rw [List.all_eq_true] at h ⊢
 intro x hx
 rw [getD_set_ne false (fun e=>hj (by rw [e];exact hx))]
 exact h x hx
theorem wpAnyS_first {i:Nat} {oi:Oper} {v:Value} {c:List Nat} (hi:ops[i]?=some oi) (hsel:∀(j:Nat) (o:Oper) cs b,ops[j]?=some o→o.op≠.select cs b)
  (hQ:∀c a w,Q (.panic c) (a.put oi.dst v) w→Q (.panic c) a w) (hc:chainB md ops (i::c)=true) (hl:la∈c) :
  ∀(fuel:Nat) (listed:Array Bool) (a:Act) (w:World),
   (∀j oj,ops[j]?=some oj→j≠i→listed.getD j true=false→(∀e∈oj.after,Region.binds md e=true→e.on≠i)→oi.apart ops oj=true) →
   i∈Region.ready md ops listed→offB listed (i::c)=true→YieldsIf P ops S oi v a→S w →
   wpAnyS P md ops Q S la fuel (listed.setIfInBounds i true) (a.put oi.dst v) w→wpAnyS P md ops Q S la (fuel+1) listed a w:=by
 intro fuel
 induction fuel with
 | zero=>
  intro listed a w _ hr ho hy hS H
  refine ⟨fun h=>(by rw [h] at hr;cases hr),fun j hj=>?_⟩
  by_cases hji:j=i
  ·subst hji;exact hy.wpOp hi hS ⟨fun _=>hS,H⟩
  ·have:=ready_mono hj hji
   rw [H.1] at this
   cases this
 | succ fuel ih=>
  intro listed a w hfree hr ho hy hS H
  refine ⟨fun h=>(by rw [h] at hr;cases hr),fun j hj=>?_⟩
  by_cases hji:j=i
  ·subst hji;exact hy.wpOp hi hS ⟨fun _=>hS,H⟩
  ·have h1:=H.2 j (ready_mono hj hji)
   have hjc:=chain_wait c i j listed hc ho hj
   have hjla:j≠la:=fun e=>hjc (by rw [e];exact hl)
   obtain ⟨hjun,oj,hoj,hall⟩:=mem_ready.1 hj
   have hnot:∀e∈oj.after,Region.binds md e=true→e.on≠i:=fun e he hb heq=>by
    have h1:=hall e he hb
    rw [heq,off_of ho List.mem_cons_self] at h1
    cases h1
   have h2:=wpOp_putIf hoj (hfree j oj hoj hji hjun hnot) (fun cs b=>hsel i oi cs b hi) (fun cs b=>hsel j oj cs b hoj) hQ hy h1
   have hfree':∀k ok,ops[k]?=some ok→k≠i→(listed.setIfInBounds j true).getD k true=false →
     (∀e∈ok.after,Region.binds md e=true→e.on≠i)→oi.apart ops ok=true:=fun k ok hk hki hun hno=>by
    refine hfree k ok hk hki ?_ hno
    by_cases hjk:j=k
    ·subst hjk;exact hjun
    ·rw [getD_set_ne true hjk] at hun;exact hun
   have ho':offB (listed.setIfInBounds j true) (i::c)=true:=off_set ho (fun hm=>(List.mem_cons.1 hm).elim hji hjc)
   refine wpOp_mono (fun a' w' h3=>⟨h3.2.1,ih (listed.setIfInBounds j true) a' w' hfree' (ready_mono hr (Ne.symm hji)) ho' h3.1 (h3.2.1 hjla) ?_⟩) h2
   rw [Array.setIfInBounds_comm _ _ hji]
   exact h3.2.2
theorem wpAnyS_take {i:Nat} (c:List Nat) {oi:Oper} {v:Value} {fuel:Nat} {listed:Array Bool} {a:Act} {w:World} (hi:ops[i]?=some oi)
  (hs:Region.noSelect ops=true) (hf:Region.free md ops listed i=true) (hr:(Region.ready md ops listed).contains i=true) (hc:chainB md ops (i::c)=true) (hl:c.contains la=true) (ho:offB listed (i::c)=true)
  (hQ:∀c a w,Q (.panic c) (a.put oi.dst v) w→Q (.panic c) a w) (hy:YieldsIf P ops S oi v a) (hS:S w)
  (h:wpAnyS P md ops Q S la fuel (listed.setIfInBounds i true) (a.put oi.dst v) w):wpAnyS P md ops Q S la (fuel+1) listed a w:=
 wpAnyS_first hi (Region.noSelect_spec hs) hQ hc (by simpa using hl) fuel listed a w (Region.free_spec hi hf) (by simpa using hr) ho hy hS h
theorem wpAnyS_step {i:Nat} {o:Oper} {fuel:Nat} {listed:Array Bool} {a:Act} {w:World} (hr:Region.ready md ops listed=[i]) (hi:ops[i]?=some o)
  (h:∀K':Act→World→Prop,Shut (∀a w,(i≠la→S w)→((i≠la→S w)→wpAnyS P md ops Q S la fuel (listed.setIfInBounds i true) a w)→K' a w)→if Region.wanted o (yielded ops a.tmps)=true then Oper.wp P o a w K' Q else K' (a.put o.dst undef) w) :
  wpAnyS P md ops Q S la (fuel+1) listed a w:=
 ⟨fun h0=>(by rw [hr] at h0;cases h0),fun j hj=>by
  rw [hr] at hj
  obtain rfl:=List.mem_singleton.1 hj
  exact wpOp_step hi (fun K' hK=>h K' (fun a w hS hW=>hK a w ⟨hS,hW hS⟩))⟩
theorem tk (i:Nat) (v:Value) (c:List Nat) {oi:Oper} {fuel:Nat} {listed:Array Bool} {a:Act} {w:World} (s:S w) (h:wpAnyS P md ops Q S la fuel (listed.setIfInBounds i true) (a.put oi.dst v) w) (hi:ops[i]?=some oi:=by rfl)
 (hs:Region.noSelect ops=true:=by kernel_rfl) (hf:Region.free md ops listed i=true:=by kernel_rfl) (hr:(Region.ready md ops listed).contains i=true:=by kernel_rfl) (hc:chainB md ops (i::c)=true:=by kernel_rfl) (hl:c.contains la=true:=by kernel_rfl) (ho:offB listed (i::c)=true:=by kernel_rfl)
 (hQ:∀c a w,Q (.panic c) (a.put oi.dst v) w→Q (.panic c) a w:=by exact fun _ _ _ h=>h) (y:YieldsIf P ops S oi v a:=by exact .inl ⟨by kernel_rfl,fun _ _=>by go_simp⟩):wpAnyS P md ops Q S la (fuel+1) listed a w:=wpAnyS_take c hi hs hf hr hc hl ho hQ y s h
theorem st (i:Nat) {o:Oper} {fuel:Nat} {listed:Array Bool} {a:Act} {w:World}
 (h:∀K':Act→World→Prop,Shut (∀a w,(i≠la→S w)→((i≠la→S w)→wpAnyS P md ops Q S la fuel (listed.setIfInBounds i true) a w)→K' a w)→if Region.wanted o (yielded ops a.tmps)=true then Oper.wp P o a w K' Q else K' (a.put o.dst undef) w)
 (hr:Region.ready md ops listed=[i]:=by kernel_rfl) (hi:ops[i]?=some o:=by rfl):wpAnyS P md ops Q S la (fuel+1) listed a w:=wpAnyS_step hr hi h
theorem wpAnyS_done {listed:Array Bool} {a:Act} {w:World} (hr:Region.ready md ops listed=[]) (h:Q .normal a w) :
  ∀fuel,wpAnyS P md ops Q S la fuel listed a w
 | 0=>⟨hr,h⟩
 | _+1=>⟨fun _=>h,by rw [hr];simp⟩
theorem wp_region_s (la:Nat) (S:World→Prop) {id:Nat} {a:Act} {w:World} (hm:P.follows .mixedOrders=true) (hS:S w.drew)
  (h:S w.drew→wpAnyS P .any ops Q S la ops.size (Array.replicate ops.size false) a w.drew):(Code.region id ops true).wp P Q a w:=
 wp_region_any hm (wpAny_of_s _ _ _ _ (h hS))
end
end Go.Proofs.YtmbeicndhigklaaGreatDoor
