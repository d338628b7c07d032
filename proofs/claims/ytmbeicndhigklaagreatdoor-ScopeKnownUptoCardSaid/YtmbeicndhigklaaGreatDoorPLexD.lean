/-
The reader of tokens where it lies: five cells of one block, the rows of its tokens and of its texts (chapter 14).
-/
import Derived.Test.YtmbeicndhigklaaGreatDoorPLexA
import Derived.Laws.AppendOwn
import Derived.Laws.OwnMore
import Derived.Laws.NewBlocks
import Derived.Lib.Builder
import Derived.Lib.OthersKept
import Derived.Deep.Draws
import Derived.Test.YtmbeicndhigklaaGreatDoorRows
import Derived.WalkKit
import Derived.WalkSpells
import Derived.WalkLawsBesides
import Derived.Handy
import Derived.Lib.Hide
import Derived.Deep.RegionLaw
import Derived.Deep.QuietTactic
import Derived.BigQuiet
import Derived.Test.YtmbeicndhigklaaGreatDoorPUtfC
namespace Go.Proofs.YtmbeicndhigklaaGreatDoor
open Lib (hid)
open Go.RowKit
def tkCells (l:List Tk):List Value:=l.flatMap fun k=>[Value.int .i64 (k.kind:Int),.string ⟨k.text.toArray⟩,.int .i64 (k.pos:Int)]
theorem tkCells_snoc (l:List Tk) (k:Tk):tkCells l++[Value.int .i64 (k.kind:Int),.string ⟨k.text.toArray⟩,.int .i64 (k.pos:Int)]=tkCells (l++[k]):=by
 unfold tkCells;simp [List.flatMap_append]
def txCells (l:List Nat):List Value:=l.reverse.map fun (n:Nat)=>Value.int .i64 (n:Int)
theorem lheap_set {w:World} {r k:Nat} {c:Array Value} {T:TypeId} {z:Nat×Nat} (h:w.heap[r]?=some (.cells c T z)) (v:Value):(w.setCell ⟨r,k,none⟩ v).heap[r]?=some (.cells (c.setIfInBounds k v) T z):=by
 simp [World.setCell,Array.getElem?_modify,h]
theorem lheap_far {w:World} {p:Addr} {r:Nat} {v:Value} (h:p.block≠r):(w.setCell p v).heap[r]?=w.heap[r]?:=by
 simp only [World.setCell,Array.getElem?_modify]
 rw [if_neg h]
theorem lowns_far {w:World} {B:Nat} {E:TypeId} {size:Nat} {v:Value} {m:Nat} {xs:List Value} (h:w.ownsRow B E size v m xs) {r k:Nat} {c:Array Value} {T:TypeId} {z:Nat×Nat} (hr:w.heap[r]?=some (.cells c T z)) (hT:T≠E) (x:Value) :
  (w.setCell ⟨r,k,none⟩ x).ownsRow B E size v m xs:=by
 refine ⟨h.1,?_⟩
 rcases h.2 with h2 | ⟨g,cap,cur,hv,hg,hh,r2⟩
 ·exact .inl h2
 ·refine .inr ⟨g,cap,cur,hv,hg,?_,r2⟩
  rw [lheap_far (fun e=>?_)]
  ·exact hh
  ·have e:r=g:=e
   subst e;rw [hr] at hh;injection hh with hh;injection hh with _ hh _;exact hT hh
theorem lowns_below {w w':World} {B:Nat} {E:TypeId} {size:Nat} {v:Value} {m:Nat} {xs:List Value} (h:w.ownsRow B E size v m xs) (hb:Below w.heap.size w w'):w'.ownsRow B E size v m xs:=by
 refine ⟨h.1,?_⟩
 rcases h.2 with h2 | ⟨g,cap,cur,hv,hg,hh,r⟩
 ·exact .inl h2
 ·exact .inr ⟨g,cap,cur,hv,hg,by rw [hb.block g (Array.getElem?_eq_some_iff.1 hh).1];exact hh,r⟩
theorem lowns_grown {w w':World} {B:Nat} {E:TypeId} {size:Nat} {v:Value} {m:Nat} {xs:List Value} (h:w.ownsRow B E size v m xs) {row:Option Nat} (hg:w.grownBy w' row) (hr:∀k,row=some k→k<B∨∃c T z,w.heap[k]?=some (.cells c T z)∧T≠E):w'.ownsRow B E size v m xs:=by
 refine ⟨h.1,?_⟩
 rcases h.2 with h2 | ⟨g,cap,cur,hv,hb,hh,r⟩
 ·exact .inl h2
 ·refine .inr ⟨g,cap,cur,hv,hb,?_,r⟩
  rw [hg.block g (Array.getElem?_eq_some_iff.1 hh).1 (fun e=>?_)]
  ·exact hh
  ·rcases hr g e.symm with h3 | ⟨c,T,z,h3,h4⟩
   ·omega
   ·rw [h3] at hh;injection hh with hh;injection hh with _ hh _;exact h4 hh
theorem lrow_kind {w:World} {B:Nat} {E:TypeId} {size:Nat} {v:Value} {m:Nat} {xs:List Value} (h:w.ownsRow B E size v m xs):∀g,v.ownBlock=some g→∃c fz,w.heap[g]?=some (.cells c E fz):=fun k hk=>by
 rcases h.2 with ⟨hv,_⟩ | ⟨g,cap,cur,hv,_,hh,_⟩
 ·rw [hv] at hk;cases hk
 ·rw [hv] at hk
  have e:g=k:=by simpa [Value.ownBlock] using hk
  subst e
  exact ⟨_,_,hh⟩
theorem lowns_slice {w:World} {B:Nat} {E:TypeId} {size:Nat} {v:Value} {m:Nat} {xs:List Value} (h:w.ownsRow B E size v m xs):∃A cap,v=.slice A m cap:=by
 rcases h.2 with ⟨hv,h0⟩ | ⟨g,cap,cur,hv,_⟩
 ·exact ⟨none,0,by rw [hv,h0]⟩
 ·exact ⟨_,cap,hv⟩
def Lxr (h0:Nat) (w:World) (g:Nat) (S:ByteArray) (s:LS):Prop:=
 h0≤g∧∃tv xv,w.heap[g]?=some (.cells #[.string S,.int .i64 (s.pos:Int),tv,xv,.int .i64 (s.err:Int)] 83 (0,0)) ∧
  w.ownsRow h0 86 3 tv s.toks.length (tkCells s.toks)∧w.ownsRow h0 3 1 xv s.texts.length (txCells s.texts)
def LxV (w0:World) (g:Nat) (S:ByteArray) (s:LS) (w:World):Prop:=Below w0.heap.size w0 w∧Lxr w0.heap.size w g S s
section
variable {w0 w:World} {g:Nat} {S:ByteArray} {s:LS}
theorem LxV.drewN (h:LxV w0 g S s w) (k:Nat):LxV w0 g S s (w.drewN k):=⟨h.1.trans ⟨rfl,rfl,rfl,Nat.le_refl _,fun _ _=>rfl⟩,h.2⟩
theorem LxV.drew (h:LxV w0 g S s w):LxV w0 g S s w.drew:=⟨h.1.drew,h.2⟩
theorem LxV.size (h:LxV w0 g S s w):w0.heap.size≤g∧g<w.heap.size∧w0.heap.size≤w.heap.size:=by
 obtain ⟨hb,hr,tv,xv,hh,_⟩:=h
 exact ⟨hr,(Array.getElem?_eq_some_iff.1 hh).1,hb.size⟩
theorem LxV.below (h:LxV w0 g S s w) {w':World} (hb:Below w.heap.size w w'):LxV w0 g S s w':=by
 obtain ⟨h1,h2,tv,xv,hh,ht,hx⟩:=h
 exact ⟨h1.trans (hb.mono h1.size),h2,tv,xv,(hb.block g (Array.getElem?_eq_some_iff.1 hh).1).trans hh,lowns_below ht hb,lowns_below hx hb⟩
theorem LxV.put_pos (h:LxV w0 g S s w) (p:Nat):LxV w0 g S { s with pos:=p } (w.setCell ⟨g,1,none⟩ (.int .i64 (p:Int))):=by
 obtain ⟨h1,h2,tv,xv,hh,ht,hx⟩:=h
 exact ⟨h1.setCell (p:=⟨g,1,none⟩) h2 _,h2,tv,xv,lheap_set hh _,lowns_far ht hh (by decide) _,lowns_far hx hh (by decide) _⟩
theorem LxV.put_err (h:LxV w0 g S s w) (p:Nat):LxV w0 g S { s with err:=p } (w.setCell ⟨g,4,none⟩ (.int .i64 (p:Int))):=by
 obtain ⟨h1,h2,tv,xv,hh,ht,hx⟩:=h
 exact ⟨h1.setCell (p:=⟨g,4,none⟩) h2 _,h2,tv,xv,lheap_set hh _,lowns_far ht hh (by decide) _,lowns_far hx hh (by decide) _⟩
theorem LxV.frozen (h:LxV w0 g S s w) (k:Nat):w.frozen? ⟨g,k,none⟩=false:=by
 obtain ⟨h1,h2,tv,xv,hh,_⟩:=h
 exact Lib.frozen_of_heap hh k
theorem LxV.c0 (h:LxV w0 g S s w):w.cell? ⟨g,0,none⟩=some (.string S):=by
 obtain ⟨h1,h2,tv,xv,hh,_⟩:=h
 rw [Lib.cell_of_heap hh];rfl
theorem LxV.c1 (h:LxV w0 g S s w):w.cell? ⟨g,1,none⟩=some (.int .i64 (s.pos:Int)):=by
 obtain ⟨h1,h2,tv,xv,hh,_⟩:=h
 rw [Lib.cell_of_heap hh];rfl
theorem LxV.c4 (h:LxV w0 g S s w):w.cell? ⟨g,4,none⟩=some (.int .i64 (s.err:Int)):=by
 obtain ⟨h1,h2,tv,xv,hh,_⟩:=h
 rw [Lib.cell_of_heap hh];rfl
theorem LxV.rows (h:LxV w0 g S s w):∃tv xv,w.heap[g]?=some (.cells #[.string S,.int .i64 (s.pos:Int),tv,xv,.int .i64 (s.err:Int)] 83 (0,0))∧w.cell? ⟨g,2,none⟩=some tv∧w.cell? ⟨g,3,none⟩=some xv ∧
  w.ownsRow w0.heap.size 86 3 tv s.toks.length (tkCells s.toks)∧w.ownsRow w0.heap.size 3 1 xv s.texts.length (txCells s.texts):=by
 obtain ⟨h1,h2,tv,xv,hh,ht,hx⟩:=h
 exact ⟨tv,xv,hh,by rw [Lib.cell_of_heap hh];rfl,by rw [Lib.cell_of_heap hh];rfl,ht,hx⟩
theorem LxV.grows (h:LxV w0 g S s w) {tv:Value} (htv:w.cell? ⟨g,2,none⟩=some tv) {o:Obj} {w5:World} (hg:(w.drew.alloc o).grownBy w5 tv.ownBlock) :
  w5.cell? ⟨g,2,none⟩=some tv∧w5.frozen? ⟨g,2,none⟩=false∧∀(v5:Value) (k:Tk),w5.ownsRow w0.heap.size 86 3 v5 (s.toks.length+1) (tkCells s.toks++[Value.int .i64 (k.kind:Int),.string ⟨k.text.toArray⟩,.int .i64 (k.pos:Int)]) →
   LxV w0 g S { s with toks:=s.toks++[k] } (w5.setCell ⟨g,2,none⟩ v5):=by
 obtain ⟨hb,h2,tv',xv,hh,ho,hx⟩:=h
 have e:tv'=tv:=by rw [Lib.cell_of_heap hh] at htv;exact Option.some.inj htv
 subst e
 have hlt:g<w.heap.size:=(Array.getElem?_eq_some_iff.1 hh).1
 have hblk:∀k,tv'.ownBlock=some k→w0.heap.size≤k∧k<w.heap.size∧∃c z,w.heap[k]?=some (.cells c 86 z):=fun k hk=>by
  rcases ho.2 with ⟨hv,_⟩ | ⟨q,cap',cur,hv,hg2,hh2,_⟩
  ·rw [hv] at hk;cases hk
  ·rw [hv] at hk
   have e:q=k:=by simpa [Value.ownBlock] using hk
   subst e
   exact ⟨hg2,(Array.getElem?_eq_some_iff.1 hh2).1,_,_,hh2⟩
 have hal:(w.drew.alloc o).heap[g]?=some (.cells #[.string S,.int .i64 (s.pos:Int),tv',xv,.int .i64 (s.err:Int)] 83 (0,0)):=(Below.heap_alloc w.drew o g hlt).trans hh
 have h5:w5.heap[g]?=some (.cells #[.string S,.int .i64 (s.pos:Int),tv',xv,.int .i64 (s.err:Int)] 83 (0,0)):=by
  rw [hg.block g (Array.getElem?_eq_some_iff.1 hal).1 (fun e=>?_)]
  ·exact hal
  ·obtain ⟨_,_,c,z,h3⟩:=hblk g e.symm
   rw [hh] at h3;injection h3 with h3;injection h3 with _ h3 _;exact absurd h3 (by decide)
 have hb5:Below w0.heap.size w0 w5:=(hb.drew.alloc hb.size o).grown hg (by rw [World.size_alloc];have:=hb.size;exact Nat.le_succ_of_le this) (fun k hk=>(hblk k hk).1)
 have hx5:w5.ownsRow w0.heap.size 3 1 xv s.texts.length (txCells s.texts):=by
  refine lowns_grown (lowns_below hx ((Below.refl _ w).drew.alloc (Nat.le_refl _) o)) hg (fun k hk=>.inr ?_)
  obtain ⟨_,hlt2,c,z,h3⟩:=hblk k hk
  exact ⟨c,_,z,(Below.heap_alloc w.drew o k hlt2).trans h3,by decide⟩
 refine ⟨by rw [Lib.cell_of_heap h5];rfl,Lib.frozen_of_heap h5 2,fun v5 k ho5=>?_⟩
 rw [tkCells_snoc] at ho5
 refine ⟨hb5.setCell (p:=⟨g,2,none⟩) h2 _,h2,v5,xv,lheap_set h5 v5,?_,lowns_far hx5 h5 (by decide) _⟩
 show World.ownsRow _ _ _ _ _ (s.toks++[k]).length _
 rw [List.length_append]
 exact lowns_far ho5 h5 (by decide) _
end
section
variable {P:Program} (w:World)
theorem lstep_append_own {ops:Array Oper} {o:Oper} {a:Act} {K:Act→World→Prop} {Q:Exit→Act→World→Prop} {E:Prop} (hgd:o.guard=none) (s x:Operand) (t:TypeId)
  (ho:o.op=.call { callee:=.builtin .append,args:=#[s,x],argTypes:=#[t,t] })
  (base:Nat) (e:TypeId) (i:TypeInfo) (z:Value) (size bytes:Nat) (ht:P.underlying t=some (.slice e)) (hi:P.info? e=some i) (hz:i.zero=some z)
  (hsize:i.size=size) (hby:i.bytes=bytes) (hzs:z.cells.size=size) (hsz:0<size)
  (v:Value) (n:Nat) (xs:List Value) (hs:a.eval s=v) (hown:w.ownsRow base e size v n xs)
  (ad:Addr) (m c:Nat) (news:List Value) (hx:a.eval x=.slice (some ad) m c) (hl:news.length=m * size) (hnews:∀j u,news[j]?=some u→w.cell? (ad.add j)=some u) (h1:∀u∈news,u.oneCell'=true)
  (h63:n+m≤maxLen) (hbytes:(n+m) * bytes≤140737488355328) (hbase:base≤w.heap.size)
  (h:∀v' w',w'.ownsRow base e size v' (n+m) (xs++news)→w.grownBy w' v.ownBlock→K (a.put o.dst v') w') :
  if Region.wanted o (yielded ops a.tmps)=true then Oper.wp P o a w K Q else E:=by
 have hw:Region.wanted o (yielded ops a.tmps)=true:=by simp [Region.wanted,hgd]
 rw [if_pos hw]
 exact wp_append_own w s x t ho base e i z size bytes ht hi hz hsize hby hzs hsz v n xs hs hown ad m c news hx hl hnews h1 h63 hbytes hbase fun v' w' h2 h3 _=>h v' w' h2 h3
end
theorem news3 (W:World) (a b c:Value) (T:TypeId):∀(j:Nat) (u:Value),[a,b,c][j]?=some u→(W.drew.alloc (.cells #[a,b,c] T)).cell? ((⟨W.heap.size,0,none⟩:Addr).add j)=some u:=fun j u h=>by
 have hadd:(⟨W.heap.size,0,none⟩:Addr).add j=⟨W.heap.size,0+j,none⟩:=by unfold Addr.add;split <;> simp_all
 rw [hadd,Nat.zero_add]
 refine (World.cell?_alloc_at (w:=W.drew) _ _ _ _ rfl).trans ?_
 simpa using h
theorem one3 (k:IntKind) (a b:Int) (t:ByteArray):∀u∈[Value.int k a,.string t,.int k b],u.oneCell'=true:=fun u h=>by
 simp only [List.mem_cons,List.not_mem_nil,or_false] at h
 rcases h with rfl | rfl | rfl <;> rfl
theorem infoToken:(Tryz.prog.info? 86).map (fun i=>(i.zero,i.size,i.bytes))=some (some (.agg #[.int .i64 0,.string ⟨#[]⟩,.int .i64 0]),3,32):=by kernel_rfl
set_option maxHeartbeats 400000 in
set_option maxRecDepth 100000 in
theorem lexFail_all (w0:World) (g:Nat) (S:ByteArray) (s:LS) (w:World) (p q:Nat) (h:LxV w0 g S s w) :
  Calls Tryz.prog 59 #[.pointer (some ⟨g,0,none⟩),.int .i64 (p:Int),.int .i64 (q:Int)] w fun e w'=>e=.returned (.tuple #[])∧LxV w0 g S (failS s p q) w'∧Lib.OthersKept 86 (some g) w w':=by
 have H:=hid h
 have g1:=h.frozen 1
 have g4:=h.frozen 4
 have c1:=h.c1
 have c4:=h.c4
 clear h
 go_enter Tryz.func59,Tryz.ntmps59
 go_wp2
 go_returns
 exact ⟨rfl,(H.out.put_pos p).put_err q,((Lib.OthersKept.refl _ _ w).setCell ⟨g,1,none⟩ rfl _).setCell ⟨g,4,none⟩ rfl _⟩
theorem lexFail_any (w0:World) (g:Nat) (S:ByteArray) (s:LS) (w:World) (p q:Nat) (h:LxV w0 g S s w) :
  Calls Tryz.prog 59 #[.pointer (some ⟨g,0,none⟩),.int .i64 (p:Int),.int .i64 (q:Int)] w fun e w'=>e=.returned (.tuple #[])∧LxV w0 g S (failS s p q) w':=
 (lexFail_all w0 g S s w p q h).mono fun _ _ h=>⟨h.1,h.2.1⟩
set_option maxHeartbeats 1000000 in
set_option maxRecDepth 100000 in
theorem lexPut_all (w0:World) (g:Nat) (S:ByteArray) (s:LS) (w:World) (k:Nat) (t:List UInt8) (n:Nat) (hp:s.pos≤1073741824) (hn:n≤1073741824) (ht:s.toks.length≤1073741824) (h:LxV w0 g S s w) :
  Calls Tryz.prog 80 #[.pointer (some ⟨g,0,none⟩),.int .i64 (k:Int),.string ⟨t.toArray⟩,.int .i64 (n:Int)] w fun e w'=>e=.returned (.tuple #[])∧LxV w0 g S (putS s k t n) w'∧Lib.OthersKept 86 (some g) w w':=by
 obtain ⟨i0,hi,hz0,hz1,hz2⟩:=info_parts infoToken
 have g2:=h.frozen 2
 have c1:=h.c1
 have hsz:=h.size
 obtain ⟨tv,xv,hh,c2,c3,hot,hox⟩:=h.rows
 have d2:(w.alloc (.cells #[.int .i64 (k:Int),.string ⟨t.toArray⟩,.int .i64 (s.pos:Int)] 86)).cell? ⟨g,2,none⟩=some tv:=by rw [World.cell?_alloc_past (hn:=hsz.2.1)];exact c2
 have HG:=hid (fun o w5=>h.grows (o:=o) (w5:=w5) c2)
 have HOW:=hid hot
 have hsz2:=hsz.2.2
 clear h hh hox c3 hot
 go_enter Tryz.func80,Tryz.ntmps80
 go_wp2
 go_region_law (refine lstep_append_own _ rfl (.tmp 12) (.tmp 20) 51 rfl w0.heap.size 86 i0 (.agg #[.int .i64 0,.string ⟨#[]⟩,.int .i64 0]) 3 32 Tryz.underlying51 hi hz0 hz1 hz2 rfl (by decide) tv s.toks.length (tkCells s.toks) (by simp [Act.eval]) (lowns_below HOW.out ((Below.refl _ w).drew.alloc (Nat.le_refl _) _)) ⟨w.heap.size,0,none⟩ 1 1 [.int .i64 (k:Int),.string ⟨t.toArray⟩,.int .i64 (s.pos:Int)] (by simp [Act.eval]) rfl (news3 w _ _ _ _) (one3 _ _ _ _) (by unfold maxLen;omega) (by omega) (by simp;omega) ?_;intro v5 w5 hown5 hgrow5;obtain ⟨e6,e7,e8⟩:=HG.out _ _ hgrow5;have E8:=hid (e8 v5 ⟨k,t,s.pos⟩ hown5);clear e8;obtain ⟨A5,cap5,rfl⟩:=lowns_slice hown5)
 all_goals
  have E9:=E8.out
  have q2:=E9.frozen 1
  have d2:=E9.c1
  clear E9
  go_wp2
  go_returns
  exact ⟨rfl,E8.out.put_pos (s.pos+n),(((Lib.OthersKept.refl _ _ w).drew.alloc _).grown hgrow5 (lrow_kind (lowns_below HOW.out ((Below.refl _ w).drew.alloc (Nat.le_refl _) _)))).setCell ⟨g,2,none⟩ rfl _ |>.setCell ⟨g,1,none⟩ rfl _⟩
theorem lexPut_any (w0:World) (g:Nat) (S:ByteArray) (s:LS) (w:World) (k:Nat) (t:List UInt8) (n:Nat) (hp:s.pos≤1073741824) (hn:n≤1073741824) (ht:s.toks.length≤1073741824) (h:LxV w0 g S s w) :
  Calls Tryz.prog 80 #[.pointer (some ⟨g,0,none⟩),.int .i64 (k:Int),.string ⟨t.toArray⟩,.int .i64 (n:Int)] w fun e w'=>e=.returned (.tuple #[])∧LxV w0 g S (putS s k t n) w':=
 (lexPut_all w0 g S s w k t n hp hn ht h).mono fun _ _ h=>⟨h.1,h.2.1⟩
end Go.Proofs.YtmbeicndhigklaaGreatDoor
namespace Go.Proofs.YtmbeicndhigklaaGreatDoor
open Lib (hid)
open Go.RowKit
theorem skip_blank (l:List UInt8) (p:Nat) (h:bt l p=32∨bt l p=9∨bt l p=10∨bt l p=13):skipN (l.drop p)=1+skipN (l.drop (p+1)):=by
 have hp:=len_of_bt (l:=l) (k:=p) (by omega)
 rw [List.drop_eq_getElem_cons hp]
 have e:bt l p=l[p].toNat:=by unfold bt;rw [List.getElem?_eq_getElem hp];rfl
 rw [e] at h
 have h2:l[p]=32∨l[p]=9∨l[p]=10∨l[p]=13:=by
  rcases h with h | h | h | h
  ·exact .inl (UInt8.toNat_inj.1 h)
  ·exact .inr (.inl (UInt8.toNat_inj.1 h))
  ·exact .inr (.inr (.inl (UInt8.toNat_inj.1 h)))
  ·exact .inr (.inr (.inr (UInt8.toNat_inj.1 h)))
 unfold skipN
 rw [skipF,if_pos h2]
theorem skip_other (l:List UInt8) (p:Nat) (h:¬(bt l p=32∨bt l p=9∨bt l p=10∨bt l p=13)) (h35:bt l p≠35):skipN (l.drop p)=0:=by
 rcases Nat.lt_or_ge p l.length with hp | hp
 ·rw [List.drop_eq_getElem_cons hp]
  have e:bt l p=l[p].toNat:=by unfold bt;rw [List.getElem?_eq_getElem hp];rfl
  rw [e] at h h35
  unfold skipN
  rw [skipF,if_neg (fun h2=>h ?_),if_neg (fun h2=>h35 (by rw [h2];rfl))]
  rcases h2 with h2 | h2 | h2 | h2 <;> rw [h2] <;> simp
 ·rw [List.drop_eq_nil_of_le hp];rfl
theorem note_in:∀(x:List UInt8),(Lib.indexByte x 10<0→skipF true x=x.length)∧(0≤Lib.indexByte x 10→skipF true x=(Lib.indexByte x 10).toNat+skipF false (x.drop (Lib.indexByte x 10).toNat)∧(Lib.indexByte x 10).toNat≤x.length)
 | []=>⟨fun _=>rfl,fun h=>absurd h (by decide)⟩
 | c::r=>by
  have ih:=note_in r
  have hl:=(indexByte_low r 10).1
  unfold Lib.indexByte
  by_cases hc:c=10
  ·subst hc
   simp only [beq_self_eq_true,if_true]
   refine ⟨fun h=>absurd h (by decide),fun _=>⟨?_,Nat.zero_le _⟩⟩
   show skipF true (10::r)=0+skipF false (10::r)
   rw [skipF,skipF,if_pos rfl,if_pos (.inr (.inr (.inl rfl)))];omega
  ·rw [if_neg (by simpa using hc)]
   have e:skipF true (c::r)=1+skipF true r:=by rw [skipF,if_neg hc]
   rw [e]
   by_cases h1:Lib.indexByte r 10=-1
   ·rw [h1] at ih ⊢
    simp only [beq_self_eq_true,if_true]
    refine ⟨fun _=>by rw [ih.1 (by decide),List.length_cons];omega,fun h=>absurd h (by decide)⟩
   ·rw [if_neg (by simpa using h1)]
    have h0:0≤Lib.indexByte r 10:=by omega
    obtain ⟨a,b⟩:=ih.2 h0
    refine ⟨fun h=>by omega,fun _=>?_⟩
    have e2:(Lib.indexByte r 10+1).toNat=(Lib.indexByte r 10).toNat+1:=by omega
    rw [e2,List.drop_succ_cons,a,List.length_cons]
    omega
theorem skip_hash (l:List UInt8) (p:Nat) (h:bt l p=35) :
  (Lib.indexByte (l.drop p) 10<0→skipN (l.drop p)=l.length-p)∧(0≤Lib.indexByte (l.drop p) 10→skipN (l.drop p)=(Lib.indexByte (l.drop p) 10).toNat+skipN (l.drop (p+(Lib.indexByte (l.drop p) 10).toNat))∧p+(Lib.indexByte (l.drop p) 10).toNat≤l.length∧1≤(Lib.indexByte (l.drop p) 10).toNat):=by
 have hp:=len_of_bt (l:=l) (k:=p) (by omega)
 have e:bt l p=l[p].toNat:=by unfold bt;rw [List.getElem?_eq_getElem hp];rfl
 have hc:l[p]=35:=UInt8.toNat_inj.1 (by rw [←e,h];rfl)
 have hd:=List.drop_eq_getElem_cons hp
 rw [hc] at hd
 have hn:=note_in (l.drop p)
 have e2:skipN (l.drop p)=skipF true (l.drop p):=by
  rw [hd];unfold skipN
  rw [skipF,if_neg (by decide),if_pos rfl,skipF,if_neg (by decide)]
 rw [List.length_drop] at hn
 rw [e2]
 refine ⟨hn.1,fun h0=>?_⟩
 obtain ⟨a,b⟩:=hn.2 h0
 refine ⟨by rw [a,List.drop_drop];rfl,by omega,?_⟩
 have:Lib.indexByte (l.drop p) 10≠0:=by
  rw [hd];unfold Lib.indexByte
  rw [if_neg (by decide)]
  have hl:=(indexByte_low (l.drop (p+1)) 10).1
  split
  ·decide
  ·rename_i h1
   have:Lib.indexByte (l.drop (p+1)) 10≠-1:=by simpa using h1
   omega
 omega
def lxPos (g:Nat) (w:World):Nat:=match w.cell? ⟨g,1,none⟩ with
 | some (.int _ p)=>p.toNat
 | _=>0
theorem LxV.pos_of {w0 w:World} {g:Nat} {S:ByteArray} {s:LS} (h:LxV w0 g S s w):lxPos g w=s.pos:=by unfold lxPos;rw [h.c1];simp
set_option maxHeartbeats 2000000 in
set_option maxRecDepth 100000 in
theorem lexSkip_any (w0:World) (g:Nat) (S:ByteArray) (s:LS) (w:World) (hp:s.pos≤S.size) (hS:S.size≤1073741824) (h:LxV w0 g S s w) :
  Calls Tryz.prog 57 #[.pointer (some ⟨g,0,none⟩)] w fun e w'=>e=.returned (.tuple #[])∧LxV w0 g S (skipS S.data.toList s) w':=by
 have H:=hid h
 have HB:=hid (bt_s S)
 have HL:=hid (Lib.size_eq S)
 have k2:∀(p:Nat) (W:World),Calls Tryz.prog 79 #[.string (S.extract p S.size),.int .u8 10] W fun e w'=>e=.returned (.int .i64 (Lib.indexByte (S.data.toList.drop p) 10))∧W=w':=fun p W=>(Tryz.strings_IndexByte (S.extract p S.size) 10 W).mono (by
  rintro e w' ⟨rfl,rfl⟩
  rw [ext_drop]
  exact ⟨rfl,rfl⟩)
 have K2:=hid k2
 clear h k2
 go_enter Tryz.func57,Tryz.ntmps57
 go_wp2
 go_step3
 go_wp2
 go_step3
 go_wp2
 go_loopw [] (fun wr=>∃p:Nat,p≤S.size∧LxV w0 g S { s with pos:=p } wr∧Hid (s.pos+skipN (S.data.toList.drop s.pos)=p+skipN (S.data.toList.drop p))) (fun wr=>S.size-lxPos g wr)
 case atStart=>exact ⟨s.pos,hp,H.out,rfl⟩
 case round=>
  obtain ⟨p,hpS,hv,hk⟩:=hrel
  have HV:=hid hv
  have c0:=hv.c0
  have c1:=hv.c1
  have g1:=hv.frozen 1
  have hps:=hv.pos_of
  clear hv
  simp only at c1 hps
  by_cases hlt:p<S.size
  ·have hb:=HB.out p hlt
   go_wp2
   go_quiet (fail)
   go_wp2
   go_quiet (fail)
   clear c0 c1 g1
   obtain ⟨W,hW,hv⟩:∃W,(wr.drewN _).drewN nq=W∧LxV w0 g S { s with pos:=p } W:=⟨_,rfl,(HV.out.drewN _).drewN nq⟩
   rw [hW]
   have HV1:=hid hv
   have c0:=hv.c0
   have c1:=hv.c1
   have g1:=hv.frozen 1
   simp only at c1
   have hstep:∀(W':World) (_:LxV w0 g S { s with pos:=p } W') (q:Nat) (x:Int),x=(q:Int)→p<q→q≤S.size→skipN (S.data.toList.drop p)=(q-p)+skipN (S.data.toList.drop q)→(∃q:Nat,q≤S.size∧LxV w0 g S { s with pos:=q } (W'.setCell ⟨g,1,none⟩ (.int .i64 x))∧Hid (s.pos+skipN (S.data.toList.drop s.pos)=q+skipN (S.data.toList.drop q)))∧S.size-lxPos g (W'.setCell ⟨g,1,none⟩ (.int .i64 x))<S.size-lxPos g wr:=fun W' hv q x hx h1 h2 h3=>by
    subst hx
    exact ⟨⟨q,h2,hv.put_pos q,hid (by rw [hk.out,h3];omega)⟩,by rw [(hv.put_pos q).pos_of,hps];simp only;omega⟩
   have HS:=hid hstep
   clear hstep hv hW HV
   have hbl:=skip_blank S.data.toList p
   have hot:=skip_other S.data.toList p
   have hha:=skip_hash S.data.toList p
   rw [hb] at hbl hot hha
   generalize S[p].toNat=c at hb hbl hot hha ⊢
   have HBL:=hid hbl
   have HOT:=hid hot
   have HHA:=hid hha
   clear hbl hot hha hb
   by_cases h:c=32
   ·subst h
    go_wp2
    exact HS.out _ HV1.out (p+1) _ (by omega) (by omega) (by omega) (by rw [HBL.out (by decide)];omega)
   have h32:((c:Int)==32)=false:=beq_false_of_ne (by omega)
   have n32:c≠32:=h
   clear h
   by_cases h:c=9
   ·subst h
    go_wp2
    exact HS.out _ HV1.out (p+1) _ (by omega) (by omega) (by omega) (by rw [HBL.out (by decide)];omega)
   have h9:((c:Int)==9)=false:=beq_false_of_ne (by omega)
   have n9:c≠9:=h
   clear h
   by_cases h:c=10
   ·subst h
    go_wp2
    exact HS.out _ HV1.out (p+1) _ (by omega) (by omega) (by omega) (by rw [HBL.out (by decide)];omega)
   have h10:((c:Int)==10)=false:=beq_false_of_ne (by omega)
   have n10:c≠10:=h
   clear h
   by_cases h:c=13
   ·subst h
    go_wp2
    exact HS.out _ HV1.out (p+1) _ (by omega) (by omega) (by omega) (by rw [HBL.out (by decide)];omega)
   have h13:((c:Int)==13)=false:=beq_false_of_ne (by omega)
   have n13:c≠13:=h
   clear h
   by_cases h:c=35
   ·subst h
    obtain ⟨ha1,ha2⟩:=HHA.out rfl
    have K2':=K2.out p
    by_cases hneg:Lib.indexByte (S.data.toList.drop p) 10<0
    ·have hn:=hid (ha1 hneg)
     clear ha1 ha2
     generalize Lib.indexByte (S.data.toList.drop p) 10=z at hneg K2'
     have K3:=hid (fun m:Nat=>quiet_left (K2' (W.drewN m)))
     clear K2' HHA HOT HBL
     go_wp2
     go_quiet (first | (go_at_call 79;with_reducible exact K3.out _))
     go_wp2
     go_quiet (fail)
     go_wp2
     refine HS.out _ (HV1.out.drewN _) S.size _ ?_ (by omega) (Nat.le_refl _) ?_
     ·omega
     ·rw [hn.out,←HL.out,List.drop_eq_nil_of_le (by rw [←HL.out];omega)];rfl
    ·obtain ⟨b1,b2,b3⟩:=ha2 (by omega)
     clear ha1 ha2
     rw [←HL.out] at b2
     generalize Lib.indexByte (S.data.toList.drop p) 10=z at hneg K2' b1 b2 b3
     have hb1:=hid b1
     have K3:=hid (fun m:Nat=>quiet_left (K2' (W.drewN m)))
     clear K2' HHA HOT HBL b1
     go_wp2
     go_quiet (first | (go_at_call 79;with_reducible exact K3.out _))
     go_wp2
     exact HS.out _ (HV1.out.drewN _) (p+z.toNat) _ (by omega) (by omega) b2 (by rw [hb1.out];omega)
   ·have h35:((c:Int)==35)=false:=beq_false_of_ne (by omega)
    have hz:=HOT.out (by omega) h
    have HZ:=hid hz
    clear hz HHA HOT HBL
    go_wp2
    rw [Exit.noGoto_normal]
    go_returns
    refine ⟨rfl,?_⟩
    unfold skipS
    rw [hk.out,HZ.out]
    exact HV1.out
  ·have hlt':decide ((p:Int)<(S.size:Int))=false:=decide_eq_false (by omega)
   go_wp2
   go_quiet (fail)
   go_wp2
   rw [Exit.noGoto_normal]
   go_returns
   refine ⟨rfl,?_⟩
   unfold skipS
   rw [hk.out,List.drop_eq_nil_of_le (by rw [←HL.out];omega)]
   exact HV.out.drewN _
theorem take_ext (s:ByteArray) (n:Nat):(s.extract 0 n).data.toList=s.data.toList.take n:=by rw [Lib.extract_data,List.drop_zero,Nat.sub_zero]
set_option maxHeartbeats 2000000 in
set_option maxRecDepth 100000 in
theorem lexMarked_any (w0:World) (g:Nat) (S:ByteArray) (s:LS) (w:World) (k:Nat) (keep:List UInt8) (hkeep:keep.length≤1) (hp:s.pos<S.size) (hS:S.size≤1073741824) (ht:s.toks.length≤1073741824) (h:LxV w0 g S s w) :
  Calls Tryz.prog 85 #[.pointer (some ⟨g,0,none⟩),.int .i64 (k:Int),.string ⟨keep.toArray⟩] w fun e w'=>e=.returned (.tuple #[])∧LxV w0 g S (markS S.data.toList s k keep) w':=by
 have H:=hid h
 have c0:=h.c0
 have c1:=h.c1
 have K1:=hid (fun (W:World) (hW:LxV w0 g S s W)=>lexFail_any w0 g S s W s.pos 2 hW)
 have K2:=hid (fun (t:List UInt8) (n:Nat) (hn:n≤1073741824) (W:World) (hW:LxV w0 g S s W)=>lexPut_any w0 g S s W k t n (by omega) hn ht hW)
 have hle:=nameN_le (S.data.toList.drop (s.pos+1))
 rw [List.length_drop,←Lib.size_eq] at hle
 have k3:=fun (W:World)=>lexname_any (S.extract (s.pos+1) S.size) W (ext_size S _ _ (by omega))
 simp only [ext_drop] at k3
 have hcut:∀n,((S.extract (s.pos+1) S.size).extract 0 n).data.toList=(S.data.toList.drop (s.pos+1)).take n:=fun n=>by rw [take_ext,ext_drop]
 have HCUT:=hid hcut
 have hm:markS S.data.toList s k keep=if nameN (S.data.toList.drop (s.pos+1))=0 then failS s s.pos 2 else putS s k (keep++(S.data.toList.drop (s.pos+1)).take (nameN (S.data.toList.drop (s.pos+1)))) (1+nameN (S.data.toList.drop (s.pos+1))):=rfl
 have HM:=hid hm
 clear h hcut hm
 obtain ⟨n,hn⟩:∃n,nameN (S.data.toList.drop (s.pos+1))=n:=⟨_,rfl⟩
 rw [hn] at hle k3 HM
 have hns:((S.extract (s.pos+1) S.size).extract 0 n).size=n:=by rw [Lib.size_eq,HCUT.out,List.length_take,List.length_drop,←Lib.size_eq];omega
 by_cases h0:n=0
 ·subst h0
  have hN:((S.extract (s.pos+1) S.size).extract 0 0)=⟨#[]⟩:=ba_ext (by rw [HCUT.out];rfl)
  rw [hN] at k3
  have K3:=hid (fun m:Nat=>quiet_left (k3 (w.drewN m)))
  rw [if_pos rfl] at HM
  clear k3 hns hN hn
  go_enter Tryz.func85,Tryz.ntmps85
  go_wp2
  go_quiet (first | (go_at_call 72;with_reducible exact K3.out _))
  go_wp2_with (go_at_call 59;refine (K1.out _ (H.out.drewN _)).mono ?_)
  rintro e w1 ⟨rfl,h1⟩
  go_wp2
  go_returns
  exact ⟨rfl,by rw [HM.out];exact h1⟩
 ·rw [if_neg h0] at HM
  generalize hN:(S.extract (s.pos+1) S.size).extract 0 n=N at k3 hns
  have hne:¬N.toList=[]:=fun e=>h0 (by rw [Lib.toList_data] at e;rw [←hns,Lib.size_eq,e];rfl)
  have hie:N.toList.isEmpty=false:=by cases h:N.toList with
   | nil=>exact absurd h hne
   | cons _ _=>rfl
  have K3:=hid (fun m:Nat=>quiet_left (k3 (w.drewN m)))
  have hNl:N.data.toList=(S.data.toList.drop (s.pos+1)).take n:=by rw [←hN,HCUT.out]
  have hap:(⟨keep.toArray⟩:ByteArray)++N=⟨(keep++(S.data.toList.drop (s.pos+1)).take n).toArray⟩:=ba_ext (by rw [←hNl];simp)
  have HAP:=hid hap
  have K2':=hid (K2.out (keep++(S.data.toList.drop (s.pos+1)).take n) (1+n) (by omega))
  clear k3 hn hNl hap hN
  go_enter Tryz.func85,Tryz.ntmps85
  go_wp2
  go_quiet (first | (go_at_call 72;with_reducible exact K3.out _))
  rw [←HAP.out] at K2'
  go_wp2_with (go_at_call 80;refine (K2'.out _ (H.out.drewN _)).mono ?_)
  rintro e w1 ⟨rfl,h1⟩
  go_wp2
  go_returns
  exact ⟨rfl,by rw [HM.out];exact h1⟩
end Go.Proofs.YtmbeicndhigklaaGreatDoor
namespace Go.Proofs.YtmbeicndhigklaaGreatDoor
open Lib (hid)
open Go.RowKit
theorem enc_one (p:Int) (h1:p<128):enc p=[UInt8.ofNat p.toNat]:=by
 unfold enc ptBytes;rw [if_pos h1];rfl
theorem enc_two (p:Int) (h0:128≤p) (h1:p<2048):enc p=[UInt8.ofNat (192+p / 64).toNat,UInt8.ofNat (128+p % 64).toNat]:=by
 unfold enc ptBytes;rw [if_neg (by omega),if_pos h1];rfl
theorem enc_three (p:Int) (h0:2048≤p) (h1:p<65536):enc p=[UInt8.ofNat (224+p / 4096).toNat,UInt8.ofNat (128+p / 64 % 64).toNat,UInt8.ofNat (128+p % 64).toNat]:=by
 unfold enc ptBytes;rw [if_neg (by omega),if_neg (by omega),if_pos h1];rfl
theorem enc_four (p:Int) (h0:65536≤p):enc p=[UInt8.ofNat (240+p / 262144).toNat,UInt8.ofNat (128+p / 4096 % 64).toNat,UInt8.ofNat (128+p / 64 % 64).toNat,UInt8.ofNat (128+p % 64).toNat]:=by
 unfold enc ptBytes;rw [if_neg (by omega),if_neg (by omega),if_neg (by omega)];rfl
theorem bt_num (x:Int) (h:0≤x∧x<256) (r:List UInt8):bt (UInt8.ofNat x.toNat::r) 0=x.toNat:=by
 rw [bt_cons0,UInt8.toNat_ofNat',Nat.mod_eq_of_lt (by omega)]
theorem enc_dec (p:Int) (hp:isPt p=true) (r:List UInt8):dec (enc p++r)=(p.toNat,(enc p).length):=by
 rw [isPt_iff] at hp
 have hl:=(enc_pos p).1
 unfold dec
 rw [if_neg (by rw [List.length_append];omega)]
 generalize hL:(enc p++r).length=n
 have hn:(enc p).length≤n:=by rw [←hL,List.length_append];omega
 clear hL
 rcases (show p<128∨(128≤p∧p<2048)∨(2048≤p∧p<65536)∨65536≤p by omega) with p1 | ⟨p0,p1⟩ | ⟨p0,p1⟩ | p0
 ·rw [enc_one p p1] at hn ⊢
  simp only [List.cons_append,List.nil_append,bt_num p (by omega)]
  simp only [Lib.decodeN]
  rw [if_pos (by omega)];rfl
 ·rw [enc_two p p0 p1] at hn ⊢
  simp only [List.cons_append,List.nil_append,bt_num (192+p / 64) (by omega),bt_cons,bt_num (128+p % 64) (by omega)]
  simp only [List.length_cons,List.length_nil] at hn ⊢
  simp only [Lib.decodeN]
  rw [if_neg (by omega),if_pos (by omega),if_pos (by omega),Prod.mk.injEq]
  exact ⟨by omega,rfl⟩
 ·rw [enc_three p p0 p1] at hn ⊢
  simp only [List.cons_append,List.nil_append,bt_num (224+p / 4096) (by omega),bt_cons,bt_num (128+p / 64 % 64) (by omega),bt_num (128+p % 64) (by omega)]
  simp only [List.length_cons,List.length_nil] at hn ⊢
  simp only [Lib.decodeN]
  rw [if_neg (by omega),if_neg (by omega),if_pos (by omega),if_pos (by omega),Prod.mk.injEq]
  exact ⟨by omega,rfl⟩
 ·rw [enc_four p p0] at hn ⊢
  simp only [List.cons_append,List.nil_append,bt_num (240+p / 262144) (by omega),bt_cons,bt_num (128+p / 4096 % 64) (by omega),bt_num (128+p / 64 % 64) (by omega),bt_num (128+p % 64) (by omega)]
  simp only [List.length_cons,List.length_nil] at hn ⊢
  simp only [Lib.decodeN]
  rw [if_neg (by omega),if_neg (by omega),if_neg (by omega),if_pos (by omega),if_pos (by omega),Prod.mk.injEq]
  exact ⟨by omega,rfl⟩
theorem explode_enc (p:Int) (hp:isPt p=true) (r:List UInt8):explode (enc p++r)=p::explode r:=by
 rw [explode_cons _ (by have:=(enc_pos p).1;rw [List.length_append];omega),enc_dec p hp r]
 simp only [List.drop_left]
 rw [isPt_iff] at hp
 rw [Int.toNat_of_nonneg hp.1]
end Go.Proofs.YtmbeicndhigklaaGreatDoor
