/-
What a walk of the parser's methods knows: the parser, variables of nodes and tokens, trees, a row that grows (chapter 15).
-/
import Derived.Test.YtmbeicndhigklaaGreatDoorPSynM
namespace Go.Proofs.YtmbeicndhigklaaGreatDoor
open Go.RowKit
theorem infoN:(Tryz.prog.info? TN).map (fun i=>(i.zero,i.size,i.bytes))=some (some (.agg #[.int .i64 0,.string ⟨#[]⟩,.slice none 0 0]),3,48):=by kernel_rfl
theorem sizeN:(Tryz.prog.info? TN).map (·.size)=some 3:=by kernel_rfl
theorem sizeK:(Tryz.prog.info? TTk).map (·.size)=some 3:=by kernel_rfl
theorem underN:∃d,Tryz.prog.underlying TN=some d∧d.isRow=true:=⟨_,Tryz.underlying24,rfl⟩
theorem underK:∃d,Tryz.prog.underlying TTk=some d∧d.isRow=true:=⟨_,Tryz.underlying86,rfl⟩
def zN:List Value:=[.int .i64 0,.string ⟨#[]⟩,.slice none 0 0]
def zK:List Value:=[.int .i64 0,.string ⟨#[]⟩,.int .i64 0]
def tkCs (t:Tk):List Value:=[.int .i64 (t.kind:Int),.string ⟨t.text.toArray⟩,.int .i64 (t.pos:Int)]
theorem zeroN:(Tryz.prog.info? TN).map (·.zero)=some (some (.agg zN.toArray)):=by kernel_rfl
theorem zeroK:(Tryz.prog.info? TTk).map (·.zero)=some (some (.agg zK.toArray)):=by kernel_rfl
structure NRow (B:Nat) (w:World) (v:Value) (zs:List (Nd×Value)):Prop where
 own:w.ownsRow B TN 3 v zs.length (nzCells zs)
 trees:NZ (fun q=>B≤q∧v.ownBlock≠some q) w zs
theorem NRow.lt {B:Nat} {w:World} {v:Value} {zs:List (Nd×Value)} (h:NRow B w v zs):∀q,v.ownBlock=some q→B≤q∧q<w.heap.size:=fun q e=>⟨(rrow_kind h.own q e).1,(rrow_kind h.own q e).2.1⟩
abbrev Bx:=Nat×List Value×TypeId
def boxAt (W:World) (b:Bx):Prop:=W.heap[b.1]?=some (.cells b.2.1.toArray b.2.2 (0,0))
def farF (B:Nat) (bs:List Bx) (rv:Value) (q:Nat):Prop:=B≤q∧(∀b∈bs,q≠b.1)∧rv.ownBlock≠some q
structure Fr (g:Nat) (l:List Tk) (en:Nat) (w:World) (s:PT) (bs:List Bx) (ts:List (Nd×Value)) (rv:Value) (zs:List (Nd×Value)) (W:World):Prop where
 prs:PrS g l en s W
 pg:PG g w W
 glt:g<w.heap.size
 bx:∀b∈bs,boxAt W b∧w.heap.size≤b.1∧b.2.1.length=3
 nd:(bs.map (·.1)).Nodup
 tr:∀t∈ts,NX (farF w.heap.size bs rv) W t.1 t.2
 own:W.ownsRow w.heap.size TN 3 rv zs.length (nzCells zs)
 ownB:∀q,rv.ownBlock=some q→∀b∈bs,q≠b.1
 zr:∀t∈zs,NX (farF w.heap.size bs rv) W t.1 t.2
abbrev rNil:Value:=.slice none 0 0
section
variable {g:Nat} {l:List Tk} {en:Nat} {w W V:World} {s s':PT} {bs:List Bx} {ts:List (Nd×Value)} {rv:Value} {zs:List (Nd×Value)}
theorem Fr.start (h:PrS g l en s w):Fr g l en w s [] [] rNil [] w:=
 ⟨h,.refl g w,h.lt,(fun b hb=>by cases hb),List.Pairwise.nil,(fun t ht=>by cases ht),⟨rfl,.inl ⟨rfl,rfl⟩⟩,(fun q e=>by cases e),(fun t ht=>by cases ht)⟩
theorem Fr.size (h:Fr g l en w s bs ts rv zs W):w.heap.size≤W.heap.size:=h.pg.size
theorem Fr.boxlt (h:Fr g l en w s bs ts rv zs W) {b:Bx} (hb:b∈bs):b.1<W.heap.size:=(Array.getElem?_eq_some_iff.1 (h.bx b hb).1).1
theorem Fr.kept (h:Fr g l en w s bs ts rv zs W) (hp:PrS g l en s' V) (hg:PG g W V):Fr g l en w s' bs ts rv zs V:=by
 have hs:=h.size
 have hk:∀q,w.heap.size≤q→∀o,W.heap[q]?=some o→V.heap[q]?=some o:=fun q hq o ho=>hg.at ho (by have:=h.glt;omega)
 refine ⟨hp,h.pg.trans hg,h.glt,fun b hb=>?_,h.nd,fun t ht=>?_,?_,h.ownB,fun t ht=>?_⟩
 ·obtain ⟨h1,h2,h3⟩:=h.bx b hb
  exact ⟨hk _ h2 _ h1,h2,h3⟩
 ·exact (h.tr t ht).kept fun q c z hq hh=>⟨hk q hq.1 _ hh,hq⟩
 ·exact rowns_block h.own fun k c z e hh=>hk k (rrow_kind h.own k e).1 _ hh
 ·exact (h.zr t ht).kept fun q c z hq hh=>⟨hk q hq.1 _ hh,hq⟩
theorem Fr.below (h:Fr g l en w s bs ts rv zs W) (hb:Below W.heap.size W V):Fr g l en w s bs ts rv zs V:=h.kept (h.prs.below hb) (.of hb)
theorem Fr.drew (h:Fr g l en w s bs ts rv zs W):Fr g l en w s bs ts rv zs W.drew:=h.kept h.prs.drew (PG.refl g W).drew
theorem Fr.drewN (h:Fr g l en w s bs ts rv zs W) (n:Nat):Fr g l en w s bs ts rv zs (W.drewN n):=h.kept (h.prs.drewN n) ((PG.refl g W).drewN n)
theorem Fr.next (h:Fr g l en w s bs ts rv zs W):Fr g l en w (nextT s) bs ts rv zs (W.setCell ⟨g,1,none⟩ (.int .i64 ((s.at':Int)+1))):=
 h.kept (h.prs.put_at (s.at'+1)) ((PG.refl g W).setOwn 1 _)
theorem Fr.pipes (h:Fr g l en w s bs ts rv zs W) (p:Nat):Fr g l en w { s with pipes:=p } bs ts rv zs (W.setCell ⟨g,3,none⟩ (.int .i64 (p:Int))):=
 h.kept (h.prs.put_pipes p) ((PG.refl g W).setOwn 3 _)
theorem Fr.tree (h:Fr g l en w s bs ts rv zs W) (hp:PrS g l en s' V) (hg:PG g W V) {t:Nd} {kv:Value} (hx:NX (fun q=>W.heap.size≤q) V t kv):Fr g l en w s' bs ((t,kv)::ts) rv zs V:=by
 have h2:=h.kept hp hg
 refine ⟨h2.prs,h2.pg,h2.glt,h2.bx,h2.nd,fun x hm=>?_,h2.own,h2.ownB,h2.zr⟩
 rcases List.mem_cons.1 hm with rfl | hm
 rotate_left
 ·exact h2.tr x hm
 ·refine hx.imp fun q hq=>⟨Nat.le_trans h.size hq,fun b hb e=>?_,fun e=>?_⟩
  ·have:=h.boxlt hb;omega
  ·have:=(rrow_kind h.own q e).2.1;omega
theorem Fr.leaf (h:Fr g l en w s bs ts rv zs W) (t:Nd) (ht:t.kids=[]):Fr g l en w s bs ((t,rNil)::ts) rv zs W:=
 ⟨h.prs,h.pg,h.glt,h.bx,h.nd,fun x hm=>(List.mem_cons.1 hm).elim (fun hm=>by subst hm;exact .leaf ht) (h.tr x),h.own,h.ownB,h.zr⟩
theorem Fr.alloc (h:Fr g l en w s bs ts rv zs W) (cs:List Value) (T:TypeId) (h3:cs.length=3):Fr g l en w s (bs++[(W.heap.size,cs,T)]) ts rv zs (W.alloc (.cells cs.toArray T)):=by
 have hb:Below W.heap.size W (W.alloc (.cells cs.toArray T)):=(Below.refl _ W).alloc (Nat.le_refl _) _
 have h2:=h.below hb
 have hx:∀t kv,NX (farF w.heap.size bs rv) W t kv→NX (farF w.heap.size (bs++[(W.heap.size,cs,T)]) rv) (W.alloc (.cells cs.toArray T)) t kv:=fun t kv hk=>
  hk.kept fun q c z hq hh=>⟨heap_call hh hb,hq.1,fun b hm=>by
   rcases List.mem_append.1 hm with hm | hm
   ·exact hq.2.1 b hm
   ·obtain rfl:=List.mem_singleton.1 hm
    have:=(Array.getElem?_eq_some_iff.1 hh).1
    exact fun e=>by have e:q=W.heap.size:=e;omega,hq.2.2⟩
 refine ⟨h2.prs,h2.pg,h2.glt,fun b hm=>?_,?_,fun t ht=>hx _ _ (h.tr t ht),h2.own,fun q e b hm=>?_,fun t ht=>hx _ _ (h.zr t ht)⟩
 ·rcases List.mem_append.1 hm with hm | hm
  ·exact h2.bx b hm
  ·obtain rfl:=List.mem_singleton.1 hm
   exact ⟨Go.heap_alloc_new W _,h.size,h3⟩
 ·rw [List.map_append]
  refine List.nodup_append.2 ⟨h.nd,by simp,fun a ha b hb2 e=>?_⟩
  obtain ⟨y,hy,rfl⟩:=List.mem_map.1 ha
  simp only [List.map_cons,List.map_nil,List.mem_singleton] at hb2
  have:=h.boxlt hy
  omega
 ·rcases List.mem_append.1 hm with hm | hm
  ·exact h.ownB q e b hm
  ·obtain rfl:=List.mem_singleton.1 hm
   have:=(rrow_kind h.own q e).2.1
   exact fun e=>by have e:q=W.heap.size:=e;omega
theorem Fr.apart (h:Fr g l en w s bs ts rv zs W) {k j:Nat} {b c:Bx} (hk:bs[k]?=some b) (hj:bs[j]?=some c) (hn:k≠j):b.1≠c.1:=fun e=>by
 have h1:=(List.getElem?_eq_some_iff.1 hk)
 have h2:=(List.getElem?_eq_some_iff.1 hj)
 obtain ⟨l1,e1⟩:=h1
 obtain ⟨l2,e2⟩:=h2
 have:=(List.pairwise_iff_getElem.1 h.nd)
 rcases Nat.lt_or_ge k j with hlt | hge
 ·exact this k j (by simpa using l1) (by simpa using l2) hlt (by simp [e1,e2,e])
 ·exact this j k (by simpa using l2) (by simpa using l1) (by omega) (by simp [e1,e2,e])
theorem Fr.set (h:Fr g l en w s bs ts rv zs W) (k:Nat) {b:Bx} (hk:bs[k]?=some b) (vs:List Value) (hv:vs.length=3):Fr g l en w s (bs.set k (b.1,vs,b.2.2)) ts rv zs (W.setCells b.1 0 vs):=by
 have hbm:=List.mem_of_getElem? hk
 obtain ⟨hb1,hb2,hb3⟩:=h.bx b hbm
 have hkl:=(List.getElem?_eq_some_iff.1 hk).1
 have hmap:(bs.set k (b.1,vs,b.2.2)).map (·.1)=bs.map (·.1):=by
  rw [List.map_set]
  refine List.ext_getElem? fun i=>?_
  rw [List.getElem?_set]
  split
  ·rename_i e
   subst e
   rw [List.getElem?_map,hk]
   simp [hkl]
  ·rfl
 have hfst:∀q,(∀c∈bs,q≠c.1)↔(∀c∈bs.set k (b.1,vs,b.2.2),q≠c.1):=fun q=>by
  have e:∀(L:List Bx),(∀c∈L,q≠c.1)↔∀x∈L.map (·.1),q≠x:=fun L=>by simp
  rw [e,e,hmap]
 have hfar:∀q,q≠b.1→(W.setCells b.1 0 vs).heap[q]?=W.heap[q]?:=fun q hq=>setCells_far b.1 vs 0 W q hq
 have hx:∀t kv,NX (farF w.heap.size bs rv) W t kv→NX (farF w.heap.size (bs.set k (b.1,vs,b.2.2)) rv) (W.setCells b.1 0 vs) t kv:=fun t kv hkx=>
  hkx.kept fun q c z hq hh=>⟨(hfar q (hq.2.1 b hbm)).trans hh,hq.1,(hfst q).1 hq.2.1,hq.2.2⟩
 refine ⟨h.prs.keep fun q hq=>hfar q (by have:=h.glt;omega),h.pg.setCells hb2 0 vs,h.glt,fun c hc=>?_,by rw [hmap];exact h.nd,fun t ht=>hx _ _ (h.tr t ht),?_,fun q e c hc=>(hfst q).1 (h.ownB q e) c hc,fun t ht=>hx _ _ (h.zr t ht)⟩
 ·obtain ⟨i,hi⟩:=List.getElem?_of_mem hc
  rw [List.getElem?_set] at hi
  split at hi
  ·rename_i e
   subst e
   first
    | rw [if_pos hkl] at hi
    | skip
   injection hi with hi
   subst hi
   refine ⟨?_,hb2,hv⟩
   exact setCells_whole hb1 (by rw [hv];simpa using hb3.symm)
  ·rename_i hne
   obtain ⟨h1,h2,h3⟩:=h.bx c (List.mem_of_getElem? hi)
   exact ⟨(hfar _ (fun e=>h.apart hk hi hne e.symm)).trans h1,h2,h3⟩
 ·exact rowns_block h.own fun q c z e hh=>(hfar q (h.ownB q e b hbm)).trans hh
theorem Fr.cell (h:Fr g l en w s bs ts rv zs W) (k:Nat) {b:Bx} (hk:bs[k]?=some b) (j:Nat) {v:Value} (hj:b.2.1[j]?=some v):W.cell? ⟨b.1,j,none⟩=some v:=by
 rw [Lib.cell_of_heap (h.bx b (List.mem_of_getElem? hk)).1];simpa using hj
theorem Fr.frozen (h:Fr g l en w s bs ts rv zs W) (k:Nat) {b:Bx} (hk:bs[k]?=some b) (j:Nat):W.frozen? ⟨b.1,j,none⟩=false:=Lib.frozen_of_heap (h.bx b (List.mem_of_getElem? hk)).1 j
theorem Fr.row (h:Fr g l en w s bs ts rv zs W) (ys:List (Nd×Value)) (n:Nat) (hn:ys.length=n) (hys:∀y∈ys,y∈ts) (hl:n≤1000) (x:Nd) (hx:x.kids=ys.map Prod.fst):Fr g l en w s bs ((x,.slice (some ⟨W.heap.size,0,none⟩) n n)::ts) rv zs (W.alloc (.cells (nzCells ys).toArray TN)):=by
 subst hn
 have hb:Below W.heap.size W (W.alloc (.cells (nzCells ys).toArray TN)):=(Below.refl _ W).alloc (Nat.le_refl _) _
 have h2:=h.below hb
 refine ⟨h2.prs,h2.pg,h2.glt,h2.bx,h2.nd,fun y hm=>?_,h2.own,h2.ownB,h2.zr⟩
 rcases List.mem_cons.1 hm with rfl | hm
 rotate_left
 ·exact h2.tr y hm
 ·unfold NX
  simp only
  rw [hx]
  refine NZ.kidsAt (G:=farF w.heap.size bs rv) (Go.heap_alloc_new W _) (fun j v hj=>by simpa using hj) (fun z hz=>h2.tr z (hys z hz)) (fun q hq=>hq) ⟨h.size,fun b hb e=>?_,fun e=>?_⟩ ⟨Nat.le_refl _,by unfold maxLen;omega⟩
  ·have e:W.heap.size=b.1:=e
   have:=h.boxlt hb;omega
  ·have:=(rrow_kind h.own _ e).2.1;omega
theorem Fr.begin (h:Fr g l en w s bs ts rNil [] W) (ys:List (Nd×Value)) (n:Nat) (hn:ys.length=n) (hys:∀y∈ys,y∈ts) (hl:n≤1000):Fr g l en w s bs ts (.slice (some ⟨W.heap.size,0,none⟩) n n) ys (W.alloc (.cells (nzCells ys).toArray TN)):=by
 subst hn
 have hb:Below W.heap.size W (W.alloc (.cells (nzCells ys).toArray TN)):=(Below.refl _ W).alloc (Nat.le_refl _) _
 have h2:=h.below hb
 have hx:∀t kv,NX (farF w.heap.size bs rNil) W t kv→NX (farF w.heap.size bs (.slice (some ⟨W.heap.size,0,none⟩) ys.length ys.length)) (W.alloc (.cells (nzCells ys).toArray TN)) t kv:=fun t kv hk=>
  hk.kept fun q c z hq hh=>⟨heap_call hh hb,hq.1,hq.2.1,fun e=>by
   have:=(Array.getElem?_eq_some_iff.1 hh).1
   have e:some W.heap.size=some q:=e
   injection e with e
   omega⟩
 refine ⟨h2.prs,h2.pg,h2.glt,h2.bx,h2.nd,fun y hm=>hx _ _ (h.tr y hm),?_,fun q e b hbm=>?_,fun y hm=>hx _ _ (h.tr y (hys y hm))⟩
 ·have:=World.ownsRow_lit (base:=w.heap.size) (e:=TN) (size:=3) W (nzCells ys).toArray ys.length h.size (by unfold maxLen;omega) (by simp [nzCells_length])
  simpa using this
 ·have e:some W.heap.size=some q:=e
  injection e with e
  have:=h.boxlt hbm
  omega
theorem Fr.setC (h:Fr g l en w s bs ts rv zs W) (k:Nat) {b:Bx} (hk:bs[k]?=some b) (j:Nat) (v:Value):Fr g l en w s (bs.set k (b.1,b.2.1.set j v,b.2.2)) ts rv zs (W.setCell ⟨b.1,j,none⟩ v):=by
 have hbm:=List.mem_of_getElem? hk
 obtain ⟨hb1,hb2,hb3⟩:=h.bx b hbm
 have hkl:=(List.getElem?_eq_some_iff.1 hk).1
 have hmap:(bs.set k (b.1,b.2.1.set j v,b.2.2)).map (·.1)=bs.map (·.1):=by
  rw [List.map_set]
  refine List.ext_getElem? fun i=>?_
  rw [List.getElem?_set]
  split
  ·rename_i e
   subst e
   rw [List.getElem?_map,hk]
   simp [hkl]
  ·rfl
 have hfst:∀q,(∀c∈bs,q≠c.1)↔(∀c∈bs.set k (b.1,b.2.1.set j v,b.2.2),q≠c.1):=fun q=>by
  have e:∀(L:List Bx),(∀c∈L,q≠c.1)↔∀x∈L.map (·.1),q≠x:=fun L=>by simp
  rw [e,e,hmap]
 have hfar:∀q,q≠b.1→(W.setCell ⟨b.1,j,none⟩ v).heap[q]?=W.heap[q]?:=fun q hq=>rheap_far (p:=⟨b.1,j,none⟩) (fun e=>hq (show b.1=q from e).symm)
 have hx:∀t kv,NX (farF w.heap.size bs rv) W t kv→NX (farF w.heap.size (bs.set k (b.1,b.2.1.set j v,b.2.2)) rv) (W.setCell ⟨b.1,j,none⟩ v) t kv:=fun t kv hkx=>
  hkx.kept fun q c z hq hh=>⟨(hfar q (hq.2.1 b hbm)).trans hh,hq.1,(hfst q).1 hq.2.1,hq.2.2⟩
 refine ⟨h.prs.keep fun q hq=>hfar q (by have:=h.glt;omega),h.pg.setNew hb2 j v,h.glt,fun c hc=>?_,by rw [hmap];exact h.nd,fun t ht=>hx _ _ (h.tr t ht),?_,fun q e c hc=>(hfst q).1 (h.ownB q e) c hc,fun t ht=>hx _ _ (h.zr t ht)⟩
 ·obtain ⟨i,hi⟩:=List.getElem?_of_mem hc
  rw [List.getElem?_set] at hi
  split at hi
  ·rename_i e
   subst e
   first
    | rw [if_pos hkl] at hi
    | skip
   injection hi with hi
   subst hi
   refine ⟨?_,hb2,by rw [List.length_set];exact hb3⟩
   have h5:=rheap_set (k:=j) hb1 v
   rw [List.setIfInBounds_toArray] at h5
   exact h5
  ·rename_i hne
   obtain ⟨h1,h2,h3⟩:=h.bx c (List.mem_of_getElem? hi)
   exact ⟨(hfar _ (fun e=>h.apart hk hi hne e.symm)).trans h1,h2,h3⟩
 ·exact rowns_block h.own fun q c z e hh=>(hfar q (h.ownB q e b hbm)).trans hh
theorem Fr.grow (h:Fr g l en w s bs ts rv zs W) {t:Nd} {kv:Value} (hm:(t,kv)∈ts) {v':Value} (hgr:(W.alloc (.cells (nCells t kv).toArray TN)).grownBy V rv.ownBlock) (ho:V.ownsRow w.heap.size TN 3 v' (zs.length+1) (nzCells zs++nCells t kv))
  (hat:v'.ownBlock=rv.ownBlock∨v'.ownBlock=some (W.alloc (.cells (nCells t kv).toArray TN)).heap.size):Fr g l en w s bs ts v' (zs++[(t,kv)]) V:=by
 have hk:∀q o,W.heap[q]?=some o→some q≠rv.ownBlock→V.heap[q]?=some o:=fun q o hq hn=>by
  have hl:=(Array.getElem?_eq_some_iff.1 hq).1
  rw [hgr.block q (by rw [World.size_alloc];omega) hn,Below.heap_alloc W _ q hl];exact hq
 have hx:∀t kv,NX (farF w.heap.size bs rv) W t kv→NX (farF w.heap.size bs v') V t kv:=fun t kv hkx=>hkx.kept fun q c z hq hh=>by
  refine ⟨hk q _ hh (fun e=>hq.2.2 e.symm),hq.1,hq.2.1,fun e=>?_⟩
  rcases hat with h1 | h1
  ·rw [h1] at e;exact hq.2.2 e
  ·rw [h1] at e
   injection e with e
   have:=(Array.getElem?_eq_some_iff.1 hh).1
   rw [World.size_alloc] at e;omega
 have hbig:∀q,rv.ownBlock=some q→w.heap.size≤q:=fun q e=>(rrow_kind h.own q e).1
 refine ⟨h.prs.keep fun q hq=>?_,(h.pg.alloc _).grown hgr (fun k e=>hbig k e),h.glt,fun b hb=>?_,h.nd,fun t ht=>hx _ _ (h.tr t ht),?_,fun q e b hb=>?_,fun y hy=>?_⟩
 ·have h1:=h.prs.lt
  have h2:=h.glt
  rw [hgr.block q (by rw [World.size_alloc];omega) (fun e=>by have:=hbig q e.symm;omega),Below.heap_alloc W _ q (by omega)]
 ·obtain ⟨h1,h2,h3⟩:=h.bx b hb
  exact ⟨hk _ _ h1 (fun e=>h.ownB _ e.symm b hb rfl),h2,h3⟩
 ·rw [List.length_append,←nzCells_snoc];exact ho
 ·rcases hat with h1 | h1
  ·rw [h1] at e;exact h.ownB q e b hb
  ·rw [h1] at e
   injection e with e
   have:=h.boxlt hb
   rw [World.size_alloc] at e
   omega
 ·rcases List.mem_append.1 hy with hy | hy
  ·exact hx _ _ (h.zr y hy)
  ·obtain rfl:=List.mem_singleton.1 hy
   exact hx _ _ (h.tr _ hm)
theorem Fr.nrow (h:Fr g l en w s bs ts rv zs W):NRow w.heap.size W rv zs:=⟨h.own,fun z hz=>(h.zr z hz).imp fun _ hq=>⟨hq.1,hq.2.2⟩⟩
theorem Fr.adopt (h:Fr g l en w s bs ts rNil [] W) (hp:PrS g l en s' V) (hg:PG g W V) {v:Value} {ys:List (Nd×Value)} (hr:NRow W.heap.size V v ys):Fr g l en w s' bs ts v ys V:=by
 have h2:=h.kept hp hg
 have hlo:∀q,v.ownBlock=some q→W.heap.size≤q:=fun q e=>(hr.lt q e).1
 refine ⟨h2.prs,h2.pg,h2.glt,h2.bx,h2.nd,fun t ht=>?_,?_,fun q e b hb=>?_,fun y hy=>?_⟩
 ·have:=h.tr t ht
  exact this.kept fun q c z hq hh=>⟨hg.at hh (by have:=h.glt;have:=hq.1;omega),hq.1,hq.2.1,fun e=>by have:=hlo q e;have:=(Array.getElem?_eq_some_iff.1 hh).1;omega⟩
 ·rcases hr.own.2 with ⟨h3,h4⟩ | ⟨g',cap,cur,h3,h4,h5⟩
  ·exact ⟨hr.own.1,.inl ⟨h3,h4⟩⟩
  ·exact ⟨hr.own.1,.inr ⟨g',cap,cur,h3,Nat.le_trans h.size h4,h5⟩⟩
 ·have:=hlo q e
  have:=h.boxlt hb
  omega
 ·refine (hr.trees y hy).imp fun q hq=>⟨Nat.le_trans h.size hq.1,fun b hb e=>?_,hq.2⟩
  have:=h.boxlt hb
  have:=hq.1
  omega
theorem farF.less {B:Nat} {bs cs:List Bx} {rv:Value} {q:Nat} (h:farF B bs rv q) (hc:∀c∈cs,c∈bs):farF B cs rv q:=⟨h.1,fun b hb=>h.2.1 b (hc b hb),h.2.2⟩
theorem Fr.drop (h:Fr g l en w s bs ts rv zs W) (n:Nat) {us:List (Nd×Value)} (hu:∀u∈us,u∈ts):Fr g l en w s (bs.take n) us rv zs W:=by
 have hc:∀c∈bs.take n,c∈bs:=fun c hc=>List.mem_of_mem_take hc
 exact ⟨h.prs,h.pg,h.glt,fun b hb=>h.bx b (hc b hb),(List.Sublist.map _ (List.take_sublist n bs)).nodup h.nd,fun t ht=>(h.tr t (hu t ht)).imp fun q hq=>hq.less hc,h.own,fun q e b hb=>h.ownB q e b (hc b hb),fun t ht=>(h.zr t ht).imp fun q hq=>hq.less hc⟩
theorem Fr.give (h:Fr g l en w s bs ts rv zs W) {t:Nd} {kv:Value} (hm:(t,kv)∈ts):NX (fun q=>w.heap.size≤q) W t kv:=(h.tr _ hm).imp fun _ hq=>hq.1
theorem Fr.end (h:Fr g l en w s bs ts rv zs W) (x:Nd) (hx:x.kids=zs.map Prod.fst):NX (fun q=>w.heap.size≤q) W x rv:=by
 unfold NX
 rw [hx]
 exact NZ.kids h.own h.zr (fun q hq=>hq.1) (fun q e=>(rrow_kind h.own q e).1)
def BoxS (bs:List Bx) (W:World):Prop:=∀b∈bs,boxAt W b
theorem Fr.boxS (h:Fr g l en w s bs ts rv zs W):BoxS bs W:=fun b hb=>(h.bx b hb).1
theorem BoxS.cell (h:BoxS bs W) (k:Nat) {b:Bx} (hk:bs[k]?=some b) (j:Nat) {v:Value} (hj:b.2.1[j]?=some v):W.cell? ⟨b.1,j,none⟩=some v:=by
 rw [Lib.cell_of_heap (h b (List.mem_of_getElem? hk))];simpa using hj
variable {ops:Array Oper} {rest:List Oper} {op:Oper} {a:Act} {Q:Exit→Act→World→Prop}
def Three (T:TypeId):Prop:=(Tryz.prog.info? T).map (·.size)=some 3∧∃d,Tryz.prog.underlying T=some d∧d.isRow=true
theorem threeN:Three TN:=⟨sizeN,underN⟩
theorem threeK:Three TTk:=⟨sizeK,underK⟩
theorem fr_allocT {T:TypeId} {z:List Value} (hz:(Tryz.prog.info? T).map (·.zero)=some (some (.agg z.toArray))) (h3:z.length=3) (hgd:op.guard=none) (ho:op.op=.alloc T) (h:Fr g l en w s bs ts rv zs W)
  (hQ:∀V,Fr g l en w s (bs++[(W.heap.size,z,T)]) ts rv zs V→wpList Tryz.prog ops Q rest (a.put op.dst (.pointer (some ⟨W.heap.size,0,none⟩))) V):wpList Tryz.prog ops Q (op::rest) a W:=
 wpList_plain hgd fun _ hK=>by
  have h2:=hK _ _ (hQ (W.alloc (.cells z.toArray T)) (h.alloc z T h3))
  unfold Oper.wp execOp
  obtain ⟨i,hi,hz⟩:=Option.map_eq_some_iff.1 hz
  have hr:(zeroValue T).run Tryz.prog W=.ok (.agg z.toArray) W:=by simp [zeroValue,typeInfo,hi,hz]
  simp only [ho,Instr.alloc,Sem.run_bind,hr,Result.andThen_ok]
  exact h2
theorem fr_allocN (hgd:op.guard=none) (ho:op.op=.alloc TN) (h:Fr g l en w s bs ts rv zs W) (hQ:∀V,Fr g l en w s (bs++[(W.heap.size,zN,TN)]) ts rv zs V→wpList Tryz.prog ops Q rest (a.put op.dst (.pointer (some ⟨W.heap.size,0,none⟩))) V):wpList Tryz.prog ops Q (op::rest) a W:=fr_allocT zeroN rfl hgd ho h hQ
theorem fr_allocK (hgd:op.guard=none) (ho:op.op=.alloc TTk) (h:Fr g l en w s bs ts rv zs W) (hQ:∀V,Fr g l en w s (bs++[(W.heap.size,zK,TTk)]) ts rv zs V→wpList Tryz.prog ops Q rest (a.put op.dst (.pointer (some ⟨W.heap.size,0,none⟩))) V):wpList Tryz.prog ops Q (op::rest) a W:=fr_allocT zeroK rfl hgd ho h hQ
theorem fr_load {T:TypeId} (hT:Three T) (hgd:op.guard=none) (x:Operand) (ho:op.op=.load T x) (k:Nat) {b:Bx} (hk:bs[k]?=some b) (hx:a.eval x=.pointer (some ⟨b.1,0,none⟩)) (h:Fr g l en w s bs ts rv zs W)
  (hQ:wpList Tryz.prog ops Q rest (a.put op.dst (.agg b.2.1.toArray)) W):wpList Tryz.prog ops Q (op::rest) a W:=by
 obtain ⟨h1,h2,h3⟩:=h.bx b (List.mem_of_getElem? hk)
 obtain ⟨d,hd,hrow⟩:=hT.2
 exact wpList_load_mid hgd T x ho b.1 0 hx b.2.1 d (range_of h1) hd hrow (by rw [hT.1,h3]) hQ
theorem fr_store {T:TypeId} (hT:Three T) (hgd:op.guard=none) (x y:Operand) (ho:op.op=.store T x y) (k:Nat) {b:Bx} (hk:bs[k]?=some b) (vs:List Value) (hx:a.eval x=.pointer (some ⟨b.1,0,none⟩)) (hy:a.eval y=.agg vs.toArray) (hl:vs.length=3) (h1:∀v∈vs,v.oneCell'=true) (h:Fr g l en w s bs ts rv zs W)
  (hQ:∀V,Fr g l en w s (bs.set k (b.1,vs,b.2.2)) ts rv zs V→wpList Tryz.prog ops Q rest (a.put op.dst undef) V):wpList Tryz.prog ops Q (op::rest) a W:=by
 obtain ⟨h4,h2,h3⟩:=h.bx b (List.mem_of_getElem? hk)
 exact wpList_store_mid hgd T x y ho b.1 0 vs.toArray hx hy (there_of h4 (by simp [hl,h3])) (by rw [hT.1];simp [hl]) (all_oneCell_toArray h1) (by simpa using hQ _ (h.set k hk vs hl))
theorem frA (h:Fr g l en w s bs ts rv zs W) (hQ:∀V,Fr g l en w s (bs++[(W.heap.size,zN,TN)]) ts rv zs V→wpList Tryz.prog ops Q rest (a.put op.dst (.pointer (some ⟨W.heap.size,0,none⟩))) V) (hgd:op.guard=none:=by with_reducible rfl) (ho:op.op=.alloc TN:=by with_reducible rfl):wpList Tryz.prog ops Q (op::rest) a W:=fr_allocN hgd ho h hQ
theorem frAK (h:Fr g l en w s bs ts rv zs W) (hQ:∀V,Fr g l en w s (bs++[(W.heap.size,zK,TTk)]) ts rv zs V→wpList Tryz.prog ops Q rest (a.put op.dst (.pointer (some ⟨W.heap.size,0,none⟩))) V) (hgd:op.guard=none:=by with_reducible rfl) (ho:op.op=.alloc TTk:=by with_reducible rfl):wpList Tryz.prog ops Q (op::rest) a W:=fr_allocK hgd ho h hQ
theorem frL (k:Nat) {x:Operand} {b:Bx} (h:Fr g l en w s bs ts rv zs W) (hQ:wpList Tryz.prog ops Q rest (a.put op.dst (.agg b.2.1.toArray)) W) (hgd:op.guard=none:=by with_reducible rfl) (ho:op.op=.load TN x:=by with_reducible rfl) (hk:bs[k]?=some b:=by with_unfolding_all exact rfl) (hx:a.eval x=.pointer (some ⟨b.1,0,none⟩):=by with_unfolding_all rfl):wpList Tryz.prog ops Q (op::rest) a W:=fr_load threeN hgd x ho k hk hx h hQ
theorem fr_wpStore {T:TypeId} (hT:Three T) (x y:Operand) (ho:op.op=.store T x y) (k:Nat) {b:Bx} (hk:bs[k]?=some b) (vs:List Value) (hx:a.eval x=.pointer (some ⟨b.1,0,none⟩)) (hy:a.eval y=.agg vs.toArray) (hl:vs.length=3) (h1:∀v∈vs,v.oneCell'=true) (h:Fr g l en w s bs ts rv zs W)
  {K:Act→World→Prop} (hQ:∀V,Fr g l en w s (bs.set k (b.1,vs,b.2.2)) ts rv zs V→K (a.put op.dst undef) V):op.wp Tryz.prog a W K Q:=by
 obtain ⟨h4,h2,h3⟩:=h.bx b (List.mem_of_getElem? hk)
 exact wp_store_mid T x y ho b.1 0 vs.toArray hx hy (there_of h4 (by simp [hl,h3])) (by rw [hT.1];simp [hl]) (all_oneCell_toArray h1) (by simpa using hQ _ (h.set k hk vs hl))
theorem n_one (t:Nd) (A:Option Addr) (n c:Nat):∀v∈nCells t (.slice A n c),v.oneCell'=true:=fun v h=>by
 simp only [nCells,List.mem_cons,List.not_mem_nil,or_false] at h
 rcases h with rfl | rfl | rfl <;> rfl
theorem nnews (W:World) (l:List Value) (T:TypeId):∀(j:Nat) (u:Value),l[j]?=some u→(W.alloc (.cells l.toArray T)).cell? ((⟨W.heap.size,0,none⟩:Addr).add j)=some u:=fun j u h=>by
 have hadd:(⟨W.heap.size,0,none⟩:Addr).add j=⟨W.heap.size,0+j,none⟩:=by unfold Addr.add;split <;> simp_all
 rw [hadd,Nat.zero_add]
 refine (World.cell?_alloc_at (w:=W) _ _ _ _ rfl).trans ?_
 simpa using h
theorem fr_wpAppend (o1 o2:Operand) (ho:op.op=.call { callee:=.builtin .append,args:=#[o1,o2],argTypes:=#[22,22] }) {t:Nd} {A:Option Addr} {n c:Nat} (hm:(t,.slice A n c)∈ts) (hs:a.eval o1=rv) (hx:a.eval o2=.slice (some ⟨W.heap.size,0,none⟩) 1 1) (h:Fr g l en w s bs ts rv zs W) (hn:zs.length≤1000000)
  {K:Act→World→Prop} (hQ:∀v' V,Fr g l en w s bs ts v' (zs++[(t,.slice A n c)]) V→(∃A' c',v'=.slice A' (zs++[(t,Value.slice A n c)]).length c')→K (a.put op.dst v') V):op.wp Tryz.prog a (W.alloc (.cells (nCells t (.slice A n c)).toArray TN)) K Q:=by
 obtain ⟨i0,hi,hz⟩:=Option.map_eq_some_iff.1 infoN
 obtain ⟨hz0,hz1,hz2⟩:i0.zero=some (.agg #[.int .i64 0,.string ⟨#[]⟩,.slice none 0 0])∧i0.size=3∧i0.bytes=48:=by
  injection hz with h1 h2
  injection h2 with h2 h3
  exact ⟨h1,h2,h3⟩
 have hown:(W.alloc (.cells (nCells t (.slice A n c)).toArray TN)).ownsRow w.heap.size TN 3 rv zs.length (nzCells zs):=rowns_below h.own ((Below.refl _ W).alloc (Nat.le_refl _) _)
 obtain ⟨v',V,hr,ho2,hg2,_,hat⟩:=run_append_own_at (P:=Tryz.prog) (W.alloc (.cells (nCells t (.slice A n c)).toArray TN)) w.heap.size 22 op.type TN i0 _ 3 48 Tryz.underlying22 hi hz0 hz1 hz2 rfl (by decide) rv zs.length (nzCells zs) hown ⟨W.heap.size,0,none⟩ 1 1 (nCells t (.slice A n c)) rfl (nnews W _ _) (n_one t A n c) (by unfold maxLen;omega) (by omega) (by rw [World.size_alloc];have:=h.size;omega)
 have hf:=h.grow hm hg2 ho2 hat
 unfold Oper.wp execOp
 simp only [ho,resolve,invoke,builtin,Sem.run_bind,Sem.run_pure,Result.andThen_ok,List.map_toArray,List.map_cons,List.map_nil,hs,hx,hr]
 exact hQ _ _ hf (rowns_slice hf.own)
theorem yields_ld {T:TypeId} (hT:Three T) (hw:Region.wanted op (yielded ops a.tmps)=true) (y:Operand) (ho:op.op=.load T y) (k:Nat) {b:Bx} (hk:bs[k]?=some b) (h3:b.2.1.length=3) (hx:a.eval y=.pointer (some ⟨b.1,0,none⟩)):YieldsIf Tryz.prog ops (BoxS bs) op (.agg b.2.1.toArray) a:=by
 obtain ⟨d,hd,hrow⟩:=hT.2
 exact yieldsIf_load_mid hw T y ho b.1 0 hx b.2.1 d (fun W H=>range_of (H b (List.mem_of_getElem? hk))) hd hrow (by rw [hT.1,h3])
theorem ret_n {fn:Func} {r:Nat} (hr:fn.results=#[.cell r TN]) {k:Nat} {b:Bx} (hk:bs[k]?=some b) (h:Fr g l en w s bs ts rv zs W)
  (ht:a.tmps.getD r undef=.pointer (some ⟨b.1,0,none⟩)) (hd:a.defers=[]) {R:Ending→World→Prop} (hR:R (.returned (.agg b.2.1.toArray)) W):bodyPost Tryz.prog fn R .ret a W:=by
 have ht':a.tmps[r]?.getD undef=.pointer (some ⟨b.1,0,none⟩):=by simpa using ht
 refine bodyPost_ret (v:=.agg b.2.1.toArray) ?_ hd hR
 obtain ⟨h4,h2,h3⟩:=h.bx b (List.mem_of_getElem? hk)
 obtain ⟨d,hd,hrow⟩:=underN
 have:=run_loadVar_mid W b.1 0 TN b.2.1 d (range_of h4) hd hrow (by rw [sizeN,h3])
 simp [results,hr,ht',asAddr,this]
theorem ret_k {fn:Func} {r:Nat} (hr:fn.results=#[.cell r TTk]) {k:Nat} {b:Bx} (hk:bs[k]?=some b) (h:Fr g l en w s bs ts rv zs W)
  (ht:a.tmps.getD r undef=.pointer (some ⟨b.1,0,none⟩)) (hd:a.defers=[]) {R:Ending→World→Prop} (hR:R (.returned (.agg b.2.1.toArray)) W):bodyPost Tryz.prog fn R .ret a W:=by
 have ht':a.tmps[r]?.getD undef=.pointer (some ⟨b.1,0,none⟩):=by simpa using ht
 refine bodyPost_ret (v:=.agg b.2.1.toArray) ?_ hd hR
 obtain ⟨h4,h2,h3⟩:=h.bx b (List.mem_of_getElem? hk)
 obtain ⟨d,hd,hrow⟩:=underK
 have:=run_loadVar_mid W b.1 0 TTk b.2.1 d (range_of h4) hd hrow (by rw [sizeK,h3])
 simp [results,hr,ht',asAddr,this]
theorem k_one (t:Tk):∀v∈tkCs t,v.oneCell'=true:=fun v h=>by
 simp only [tkCs,List.mem_cons,List.not_mem_nil,or_false] at h
 rcases h with rfl | rfl | rfl <;> rfl
theorem frS (k:Nat) {x y:Operand} {b:Bx} (vs:List Value) (h:Fr g l en w s bs ts rv zs W) (hQ:∀V,Fr g l en w s (bs.set k (b.1,vs,b.2.2)) ts rv zs V→wpList Tryz.prog ops Q rest (a.put op.dst undef) V) (hgd:op.guard=none:=by with_reducible rfl) (ho:op.op=.store TN x y:=by with_reducible rfl) (hk:bs[k]?=some b:=by with_unfolding_all exact rfl)
  (hx:a.eval x=.pointer (some ⟨b.1,0,none⟩):=by with_unfolding_all rfl) (hy:a.eval y=.agg vs.toArray:=by with_unfolding_all rfl) (hl:vs.length=3:=by with_unfolding_all exact rfl) (h1:∀v∈vs,v.oneCell'=true:=by exact n_one _ _ _ _):wpList Tryz.prog ops Q (op::rest) a W:=fr_store threeN hgd x y ho k hk vs hx hy hl h1 h hQ
theorem frSK (k:Nat) {x y:Operand} {b:Bx} (vs:List Value) (h:Fr g l en w s bs ts rv zs W) (hQ:∀V,Fr g l en w s (bs.set k (b.1,vs,b.2.2)) ts rv zs V→wpList Tryz.prog ops Q rest (a.put op.dst undef) V) (hgd:op.guard=none:=by with_reducible rfl) (ho:op.op=.store TTk x y:=by with_reducible rfl) (hk:bs[k]?=some b:=by with_unfolding_all exact rfl)
  (hx:a.eval x=.pointer (some ⟨b.1,0,none⟩):=by with_unfolding_all rfl) (hy:a.eval y=.agg vs.toArray:=by with_unfolding_all rfl) (hl:vs.length=3:=by with_unfolding_all exact rfl) (h1:∀v∈vs,v.oneCell'=true:=by exact k_one _):wpList Tryz.prog ops Q (op::rest) a W:=fr_store threeK hgd x y ho k hk vs hx hy hl h1 h hQ
end
end Go.Proofs.YtmbeicndhigklaaGreatDoor
