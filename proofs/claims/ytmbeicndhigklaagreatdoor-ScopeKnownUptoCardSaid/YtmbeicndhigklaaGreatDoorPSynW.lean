/-
The parser's methods that call one another, tied (chapter 15).
-/
import Derived.Test.YtmbeicndhigklaaGreatDoorPSynD
import Derived.Test.YtmbeicndhigklaaGreatDoorPSynK
import Derived.Test.YtmbeicndhigklaaGreatDoorPSynT
import Derived.Test.YtmbeicndhigklaaGreatDoorPSynU
import Derived.Test.YtmbeicndhigklaaGreatDoorPSynV
import Derived.Test.YtmbeicndhigklaaGreatDoorPSynM
namespace Go.Proofs.YtmbeicndhigklaaGreatDoor
open Lib (hid)
open Go.RowKit
def ShortT (l:List Tk):Prop:=∀t∈l,t.kind≠8→t.text.length≤10000000
theorem ShortT.due {l:List Tk} (h:ShortT l) (p:Nat) (hk:(dueT l p).kind≠8):(dueT l p).text.length≤10000000:=by
 by_cases hp:p<l.length
 ·refine h _ ?_ hk
  unfold dueT
  rw [List.getD_eq_getElem?_getD,List.getElem?_eq_getElem hp]
  exact List.getElem_mem _
 ·rw [due_past hp];exact Nat.zero_le _
theorem knot_walk {g:Nat} {l:List Tk} {en:Nat} (hF:FitY numE l en) (hlen:l.length≤1000000) (hT:ShortT l):∀n,KnotW g l en (knotF numE l en n) n
 | 0=>⟨fun _ _ _ h k _=>absurd h (by omega),fun _ _ _ h k _=>absurd h (by omega),fun _ _ _ h k _=>absurd h (by omega),fun _ _ _ h k _=>absurd h (by omega),fun _ _ _ h k _=>absurd h (by omega)⟩
 | n+1=>by
  have E:Env numE g l en (knotF numE l en n) n:=⟨hF,knot_ok hF n,knot_walk hF hlen hT n,hlen⟩
  have hTerm:=syTerm_any E (fun p=>by
   by_cases h:(dueT l p).kind=8
   ·exact .inr h
   ·exact .inl (Nat.le_trans (hT.due p h) (by decide))) (fun x W hx ht=>decParse_any x W hx ht)
  have hPost:=syPost_any E hTerm
  have hNeg:=syNeg_any E hPost
  have hOp:∀(k:Nat),k≤6→∀(le:Int),le=((7-k:Nat):Int)→∀(s:PT) (W:World),PrS g l en s W→s.at'≤l.length→l.length<n+1+s.at'→s.pipes≤600→Calls Tryz.prog 123 #[.pointer (some ⟨g,0,none⟩),.int .i64 le] W (ResN g l en W (opB numE l en (knotF numE l en n) k s)):=by
   intro k
   induction k with
   | zero=>
    intro _ le hle
    obtain rfl:le=7:=hle
    exact syOp_zero E hNeg
   | succ k ih=>
    intro hk le hle s W h hs hm hp
    exact syOp_succ E s W k hk le (by rw [hle];congr 1;omega) (ih (by omega) (le+1) (by rw [hle];omega)) h hs hm hp
  have hAlt:=syAlt_any E (hOp 6 (Nat.le_refl _) 1 rfl)
  have hDef:=fun s W h hs hm hp=>syDef_any E (fun p hk=>hT.due p (by omega)) s W h hs hm hp
  have hWhole:=syWhole_any E hAlt hDef
  exact ⟨syPipe_any E hWhole,hAlt,hNeg,hPost,syPat_any E⟩
end Go.Proofs.YtmbeicndhigklaaGreatDoor
namespace Go.Proofs.YtmbeicndhigklaaGreatDoor
open Lib (hid)
open Go.RowKit
inductive Ny where
 | mk (kind:Int) (text:List UInt8) (kids:List Ny)
namespace Ny
def kind:Ny→Int | mk k _ _=>k
def text:Ny→List UInt8 | mk _ t _=>t
def kids:Ny→List Ny | mk _ _ k=>k
end Ny
instance:Inhabited Ny:=⟨.mk 0 [] []⟩
def yCells (t:Ny) (kv:Value):List Value:=[.int .i64 t.kind,.string ⟨t.text.toArray⟩,kv]
def yAgg (t:Ny) (kv:Value):Value:=.agg #[.int .i64 t.kind,.string ⟨t.text.toArray⟩,kv]
def YV (F:Nat→Prop) (w:World):Nat→List Ny→Value→Prop
 | 0,ks,kv=>ks=[]∧∃A cap,kv=.slice A 0 cap
 | n+1,ks,kv=>∃A cap,kv=.slice A ks.length cap∧(ks≠[]→ks.length≤cap∧cap≤maxLen)∧(ks≠[]→∃q o c T z,A=some ⟨q,o,none⟩∧F q∧w.heap[q]?=some (.cells c T z)∧∀i t,ks[i]?=some t→∃kw,(∀j v,(yCells t kw)[j]?=some v→c[o+(i * 3+j)]?=some v)∧YV F w n t.kids kw)
section
variable {F G:Nat→Prop} {w w':World}
theorem YV.kept (hF:∀q c T z,F q→w.heap[q]?=some (.cells c T z)→w'.heap[q]?=some (.cells c T z)∧G q):∀(n:Nat) (ks:List Ny) (kv:Value),YV F w n ks kv→YV G w' n ks kv
 | 0,_,_,h=>h
 | n+1,ks,kv,⟨A,cap,e,hc,h2⟩=>⟨A,cap,e,hc,fun hn=>by
  obtain ⟨q,o,c,T,z,h3,h4,hh,h5⟩:=h2 hn
  have hq:=hF q c T z h4 hh
  refine ⟨q,o,c,T,z,h3,hq.2,hq.1,fun i t hi=>?_⟩
  obtain ⟨kw,h6,h7⟩:=h5 i t hi
  exact ⟨kw,h6,YV.kept hF n t.kids kw h7⟩⟩
theorem YV.up:∀(n:Nat) (ks:List Ny) (kv:Value),YV F w n ks kv→YV F w (n+1) ks kv
 | 0,ks,kv,⟨h,A,cap,e⟩=>⟨A,cap,by rw [h];exact e,fun hn=>absurd h hn,fun hn=>absurd h hn⟩
 | n+1,ks,kv,⟨A,cap,e,hc,h2⟩=>⟨A,cap,e,hc,fun hn=>by
  obtain ⟨q,o,c,T,z,h3,h4,hh,h5⟩:=h2 hn
  refine ⟨q,o,c,T,z,h3,h4,hh,fun i t hi=>?_⟩
  obtain ⟨kw,h6,h7⟩:=h5 i t hi
  exact ⟨kw,h6,YV.up n _ _ h7⟩⟩
theorem YV.le {ks:List Ny} {kv:Value} {n m:Nat} (hnm:n≤m) (h:YV F w n ks kv):YV F w m ks kv:=by
 induction hnm with
 | refl=>exact h
 | step _ ih=>exact YV.up _ _ _ ih
def YX (F:Nat→Prop) (w:World) (t:Ny) (kv:Value):Prop:=∃n,YV F w n t.kids kv
theorem YX.kept {t:Ny} {kv:Value} (hF:∀q c T z,F q→w.heap[q]?=some (.cells c T z)→w'.heap[q]?=some (.cells c T z)∧G q) (h:YX F w t kv):YX G w' t kv:=by
 obtain ⟨n,h⟩:=h;exact ⟨n,YV.kept hF n _ _ h⟩
theorem YX.slice {t:Ny} {kv:Value} (h:YX F w t kv):∃A cap,kv=.slice A t.kids.length cap:=by
 obtain ⟨n,h⟩:=h
 cases n with
 | zero=>obtain ⟨h0,A,cap,e⟩:=h;exact ⟨A,cap,by rw [h0];exact e⟩
 | succ n=>obtain ⟨A,cap,e,_⟩:=h;exact ⟨A,cap,e⟩
end
theorem YX.below {F:Nat→Prop} {w w':World} {t:Ny} {kv:Value} (h:YX F w t kv) (hb:Below w.heap.size w w'):YX F w' t kv:=
 h.kept fun q _ _ _ hq hh=>⟨by rw [hb.block q (Array.getElem?_eq_some_iff.1 hh).1];exact hh,hq⟩
theorem YX.view {F:Nat→Prop} {w:World} {t:Ny} {kv:Value} (h:YX F w t kv) (hne:t.kids≠[]) :
  ∃q o cap,kv=.slice (some ⟨q,o,none⟩) t.kids.length cap∧t.kids.length≤cap∧cap≤maxLen∧F q∧q<w.heap.size∧∀i k,t.kids[i]?=some k→∃A c,w.rangeAt q (o+i * 3) (yCells k (.slice A k.kids.length c))∧YX F w k (.slice A k.kids.length c):=by
 obtain ⟨n,h⟩:=h
 cases n with
 | zero=>exact absurd h.1 hne
 | succ n=>
  obtain ⟨A,cap,e,hc,h2⟩:=h
  obtain ⟨q,o,c,T,z,rfl,hF,hh,hk⟩:=h2 hne
  refine ⟨q,o,cap,e,(hc hne).1,(hc hne).2,hF,(Array.getElem?_eq_some_iff.1 hh).1,fun i k hi=>?_⟩
  obtain ⟨kw,hc,hkv⟩:=hk i k hi
  have hkx:YX F w k kw:=⟨n,hkv⟩
  obtain ⟨A',c',rfl⟩:=hkx.slice
  exact ⟨A',c',fun j v hj=>by rw [Lib.cell_of_heap hh,Nat.add_assoc];exact hc j v hj,hkx⟩
abbrev YT (w:World) (t:Ny) (A:Option Addr) (c:Nat):Prop:=YX (fun _=>True) w t (.slice A t.kids.length c)
theorem YT.caps {w:World} {t:Ny} {A:Option Addr} {c:Nat} (h:YT w t A c) (hne:t.kids≠[]):t.kids.length≤c∧c≤maxLen:=by
 obtain ⟨q,o,cap,e,h1,h2,_⟩:=h.view hne
 injection e with _ _ e
 subst e
 exact ⟨h1,h2⟩
theorem y_agg (t:Ny) (kv:Value):yAgg t kv=.agg (yCells t kv).toArray:=rfl
theorem YT.kid {w:World} {t:Ny} {A:Option Addr} {c:Nat} (h:YT w t A c) (hne:t.kids≠[]):∃q o,A=some ⟨q,o,none⟩∧∀i k,t.kids[i]?=some k→∃A' c',w.rangeAt q (o+i * 3) (yCells k (.slice A' k.kids.length c'))∧YT w k A' c':=by
 obtain ⟨q,o,cap,e,_,_,_,_,hv⟩:=h.view hne
 injection e with e _ _
 exact ⟨q,o,e,hv⟩
theorem y_at {w:World} {q o:Nat} {k:Ny} {A:Option Addr} {c:Nat} (h:w.rangeAt q o (yCells k (.slice A k.kids.length c))):w.cell? ⟨q,o,none⟩=some (.int .i64 k.kind)∧w.cell? ⟨q,o+1,none⟩=some (.string ⟨k.text.toArray⟩)∧w.cell? ⟨q,o+2,none⟩=some (.slice A k.kids.length c):=
 ⟨h 0 _ rfl,h 1 _ rfl,h 2 _ rfl⟩
structure YP (w:World) (b:Nat) (X:Ny) (A:Option Addr) (c:Nat):Prop where
 heap:w.heap[b]?=some (.cells (yCells X (.slice A X.kids.length c)).toArray TN (0,0))
 kids:YT w X A c
theorem YP.made {F:Nat→Prop} {w:World} {X:Ny} {A:Option Addr} {c:Nat} (h:YX F w X (.slice A X.kids.length c)):YP (w.alloc (.cells (yCells X (.slice A X.kids.length c)).toArray TN)) w.heap.size X A c:=
 ⟨Go.heap_alloc_new w _,h.kept fun q _ _ _ _ hh=>⟨(Below.heap_alloc w _ q (Array.getElem?_eq_some_iff.1 hh).1).trans hh,trivial⟩⟩
theorem YP.below {w w':World} {b:Nat} {X:Ny} {A:Option Addr} {c:Nat} (h:YP w b X A c) (hb:Below w.heap.size w w'):YP w' b X A c:=
 ⟨(hb.block b (Array.getElem?_eq_some_iff.1 h.heap).1).trans h.heap,h.kids.below hb⟩
theorem YP.cell {w:World} {b:Nat} {X:Ny} {A:Option Addr} {c:Nat} (h:YP w b X A c) {j:Nat} {v:Value} (hj:(yCells X (.slice A X.kids.length c))[j]?=some v):w.cell? ⟨b,j,none⟩=some v:=by
 rw [Lib.cell_of_heap h.heap];simpa using hj
theorem YP.all {w:World} {b:Nat} {X:Ny} {A:Option Addr} {c:Nat} (h:YP w b X A c):w.cell? ⟨b,0,none⟩=some (.int .i64 X.kind)∧w.cell? ⟨b,1,none⟩=some (.string ⟨X.text.toArray⟩)∧w.cell? ⟨b,2,none⟩=some (.slice A X.kids.length c):=
 ⟨h.cell (j:=0) rfl,h.cell (j:=1) rfl,h.cell (j:=2) rfl⟩
inductive YS (m:Nat):Ny→Prop where
 | mk {t:Ny}:t.kids.length≤m→(∀k∈t.kids,YS m k)→YS m t
theorem YS.len {m:Nat} {t:Ny} (h:YS m t):t.kids.length≤m:=by cases h;assumption
theorem YS.kid {m:Nat} {t:Ny} (h:YS m t):∀k∈t.kids,YS m k:=by cases h;assumption
def depY:Nat→Ny→Nat
 | 0,_=>1
 | n+1,t=>t.kids.foldl (fun m k=>max m (depY n k)) 0+1
def maxDY (n:Nat) (ks:List Ny) (m:Nat):Nat:=ks.foldl (fun m k=>max m (depY n k)) m
theorem maxDY_cons (n:Nat) (k:Ny) (ks:List Ny) (m:Nat):maxDY n (k::ks) m=maxDY n ks (max m (depY n k)):=rfl
theorem depY_le:∀(n:Nat) (t:Ny),depY n t≤n+1
 | 0,_=>Nat.le_refl _
 | n+1,t=>by
  have h:∀(ks:List Ny) (m:Nat),m≤n+1→maxDY n ks m≤n+1:=by
   intro ks
   induction ks with
   | nil=>intro m hm;exact hm
   | cons k ks ih=>intro m hm;rw [maxDY_cons];exact ih _ (by have:=depY_le n k;omega)
  have:=h t.kids 0 (by omega)
  show maxDY n t.kids 0+1≤_
  omega
mutual
def toY:Nd→Ny
 | .mk k t ks=>.mk (k:Int) t (toYs ks)
def toYs:List Nd→List Ny
 | []=>[]
 | k::ks=>toY k::toYs ks
end
theorem toYs_map:∀ks:List Nd,toYs ks=ks.map toY
 | []=>by rw [toYs];rfl
 | k::ks=>by rw [toYs,toYs_map ks];rfl
theorem toY_kind (t:Nd):(toY t).kind=(t.kind:Int):=by cases t;rw [toY];rfl
theorem toY_text (t:Nd):(toY t).text=t.text:=by cases t;rw [toY];rfl
theorem toY_kids (t:Nd):(toY t).kids=t.kids.map toY:=by cases t;rw [toY];exact toYs_map _
theorem toY_len (t:Nd):(toY t).kids.length=t.kids.length:=by rw [toY_kids,List.length_map]
theorem toY_cells (t:Nd) (kv:Value):yCells (toY t) kv=nCells t kv:=by unfold yCells nCells;rw [toY_kind,toY_text]
theorem toY_agg (t:Nd) (kv:Value):yAgg (toY t) kv=nAgg t kv:=by unfold yAgg nAgg;rw [toY_kind,toY_text]
theorem NV.y {F:Nat→Prop} {w:World}:∀(n:Nat) (ks:List Nd) (kv:Value),NV F w n ks kv→YV F w n (ks.map toY) kv
 | 0,ks,kv,⟨h,A,cap,e⟩=>⟨by rw [h];rfl,A,cap,e⟩
 | n+1,ks,kv,⟨A,cap,e,hc,h2⟩=>by
  have hne:ks.map toY≠[]→ks≠[]:=fun h e=>h (by rw [e];rfl)
  refine ⟨A,cap,by rw [List.length_map];exact e,fun h=>by rw [List.length_map];exact hc (hne h),fun h=>?_⟩
  obtain ⟨q,o,c,z,h3,h4,hh,h5⟩:=h2 (hne h)
  refine ⟨q,o,c,TN,z,h3,h4,hh,fun i t hi=>?_⟩
  rw [List.getElem?_map,Option.map_eq_some_iff] at hi
  obtain ⟨k,hk,rfl⟩:=hi
  obtain ⟨kw,h6,h7⟩:=h5 i k hk
  exact ⟨kw,fun j v hj=>h6 j v (by rw [←toY_cells];exact hj),by rw [toY_kids];exact NV.y n _ _ h7⟩
theorem NX.y {F:Nat→Prop} {w:World} {t:Nd} {kv:Value} (h:NX F w t kv):YX F w (toY t) kv:=by
 obtain ⟨n,h⟩:=h
 exact ⟨n,by rw [toY_kids];exact NV.y n _ _ h⟩
theorem depY_to:∀(n:Nat) (t:Nd),depY n (toY t)=depN n t
 | 0,_=>rfl
 | n+1,t=>by
  have h:∀(ks:List Nd) (m:Nat),(ks.map toY).foldl (fun m k=>max m (depY n k)) m=max m ((ks.map (depN n)).foldr max 0):=by
   intro ks
   induction ks with
   | nil=>intro m;simp
   | cons k ks ih=>
    intro m
    rw [List.map_cons,List.foldl_cons,ih,depY_to n k,List.map_cons,List.foldr_cons]
    omega
  show (toY t).kids.foldl _ 0+1=(t.kids.map (depN n)).foldr max 0+1
  rw [toY_kids,h]
  omega
end Go.Proofs.YtmbeicndhigklaaGreatDoor
namespace Go.Proofs.YtmbeicndhigklaaGreatDoor
open Lib (hid)
open Go.RowKit
set_option maxHeartbeats 4000000 in
set_option maxRecDepth 100000 in
theorem yDepth_any:∀(left:Nat) (t:Ny) (A:Option Addr) (c:Nat) (w:World),left≤2000→YS maxLen t→YT w t A c→Calls Tryz.prog 43 #[yAgg t (.slice A t.kids.length c),.int .i64 (left:Int)] w (RetY (.int .i64 (depY left t:Int)) fun w'=>Below w.heap.size w w')
 | 0,t,A,c,w,hl,hs,h=>by
  simp only [yAgg]
  go_enter Tryz.func43,Tryz.ntmps43
  go_wp2
  go_ret
  exact ⟨rfl,(Below.refl _ w).alloc (Nat.le_refl _) _⟩
 | left+1,t,A,c,w,hl,hs,h=>by
  have IH:=hid (fun (k:Ny) (hk:k∈t.kids) (A:Option Addr) (c:Nat) (w:World) (h:YT w k A c)=>yDepth_any left k A c w (by omega) (hs.kid k hk) h)
  have H1:=hid h
  have hn0:=hs.len
  have hd:depY (left+1) t=maxDY left t.kids 0+1:=rfl
  rw [hd]
  clear h hs hd
  obtain ⟨M,hM⟩:∃M,M=maxDY left t.kids 0:=⟨_,rfl⟩
  rw [←hM]
  have HMX:=hid hM
  clear hM
  generalize hn:t.kids.length=n at *
  have HN:=hid hn
  have hmax:n≤9223372036854775807:=by unfold maxLen at hn0;exact hn0
  clear hn hn0
  have zl:((left+1:Nat):Int)≠0:=by omega
  have zl2:(((left+1:Nat):Int)==0)=false:=beq_false_of_ne zl
  obtain ⟨lf,hlf⟩:∃lf:Int,lf=((left+1:Nat):Int):=⟨_,rfl⟩
  have hl1:lf-1=(left:Int):=by omega
  have hlr:1≤lf∧lf≤2000:=by omega
  rw [←hlf] at zl zl2 ⊢
  clear hlf
  have hx0:(w.alloc (.cells (yCells t (.slice A n c)).toArray TN)).heap[w.heap.size]?=some (.cells (yCells t (.slice A n c)).toArray TN (0,0)):=Go.heap_alloc_new w _
  have hb0:Below w.heap.size w (w.alloc (.cells (yCells t (.slice A n c)).toArray TN)):=(Below.refl _ w).alloc (Nat.le_refl _) _
  have B0:=hid hb0
  clear hx0 hb0
  simp only [yAgg]
  go_enter Tryz.func43,Tryz.ntmps43
  go_wp2
  go_loopg [5,13] (n+1) (fun kx v5 v13 wr=>∃i m:Nat,v13=.int .i64 (i:Int)∧v5=.int .i64 (m:Int)∧m≤2001∧i≤n∧n-i≤kx∧Hid (M=maxDY left (t.kids.drop i) m)∧Below w.heap.size w wr)
  case atStart=>exact ⟨0,0,rfl,rfl,by omega,Nat.zero_le _,by omega,HMX,B0.out⟩
  case round=>
   obtain ⟨i,m,rfl,rfl,hm,hi,hik,hrel,hb⟩:=hrel
   have HB:=hid hb
   clear hb
   by_cases hlt:i<n
   ·have z1:decide ((i:Int)<(n:Int))=true:=decide_eq_true (by omega)
    have hne:t.kids≠[]:=fun e=>by have:=HN.out;rw [e] at this;simp at this;omega
    obtain ⟨q1,o1,rfl,hv1⟩:=YT.kid (YX.below H1.out HB.out) hne
    have hlt':i<t.kids.length:=by rw [HN.out];exact hlt
    obtain ⟨k,hk⟩:∃k,k=t.kids[i]:=⟨_,rfl⟩
    have hki:t.kids[i]?=some k:=by rw [hk];exact List.getElem?_eq_getElem hlt'
    have hkm:k∈t.kids:=List.mem_of_getElem? hki
    have hdr:t.kids.drop i=k::t.kids.drop (i+1):=by rw [hk];exact List.drop_eq_getElem_cons hlt'
    have HST:=hid (show M=maxDY left (t.kids.drop (i+1)) (max m (depY left k)) by rw [hrel.out,hdr,maxDY_cons])
    have hdl:=depY_le left k
    obtain ⟨A1,c1',r1,k1'⟩:=hv1 i k hki
    have KC:=hid (fun (W:World) (h:YT W k A1 c1')=>IH.out k hkm A1 c1' W h)
    have K1:=hid k1'
    clear hv1 hk hki hkm k1' hne hdr hrel
    generalize depY left k=dk at *
    obtain ⟨e0,e1,e2⟩:=y_at r1
    clear r1
    have i0:(0:Int)≤(i:Int):=by omega
    have i1:(i:Int)<(n:Int):=by omega
    simp only [yAgg] at KC
    have hws:=HB.out.size
    go_wp2_with (go_at_call 43;refine (KC.out _ (YX.below K1.out ((Below.refl _ wr).alloc (Nat.le_refl _) _))).mono ?_)
    rintro e w3 ⟨rfl,hb3⟩
    have hb4:=hid ((HB.out.alloc hws _).trans (hb3.mono (by rw [World.size_alloc];omega)))
    clear hb3
    go_wp2_with fail
    go_roundg (n-(i+1))
    case measure=>omega
    case rel=>exact ⟨i+1,max m dk,by go_num,by go_num,by omega,by omega,Nat.le_refl _,HST,hb4.out⟩
   ·have z1:decide ((i:Int)<(n:Int))=false:=decide_eq_false (by omega)
    have hme:M=m:=by rw [hrel.out,List.drop_eq_nil_of_le (by rw [HN.out];omega)];rfl
    have HME:=hid hme
    clear hrel hme
    go_wp2
    go_ret
    exact ⟨by rw [HME.out];go_num,HB.out⟩
set_option maxHeartbeats 4000000 in
set_option maxRecDepth 100000 in
theorem yDepthTop (t:Ny) (A:Option Addr) (c:Nat) (w:World) (hs:YS maxLen t) (h:YT w t A c):Calls Tryz.prog 22 #[yAgg t (.slice A t.kids.length c)] w (RetY (.int .i64 (depY 200 t:Int)) fun w'=>Below w.heap.size w w'):=by
 have KC:=hid (fun (W:World) (h:YT W t A c)=>yDepth_any 200 t A c W (by omega) hs h)
 have H1:=hid h
 clear h hs
 generalize depY 200 t=dk at *
 simp only [yAgg] at KC ⊢
 go_enter Tryz.func22,Tryz.ntmps22
 go_wp2_with (go_at_call 43;refine (KC.out _ (YX.below H1.out ((Below.refl _ w).alloc (Nat.le_refl _) _))).mono ?_)
 rintro e w3 ⟨rfl,hb3⟩
 have hb4:=hid (((Below.refl _ w).alloc (Nat.le_refl _) _).trans (hb3.mono (by rw [World.size_alloc];omega)))
 clear hb3
 go_wp2
 go_ret
 exact ⟨rfl,hb4.out⟩
end Go.Proofs.YtmbeicndhigklaaGreatDoor
