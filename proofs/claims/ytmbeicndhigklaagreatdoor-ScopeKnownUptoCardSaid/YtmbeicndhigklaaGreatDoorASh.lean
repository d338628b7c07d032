/-
  The walks of package show's small parts: bare, format, sound, plain, number (chapter 16).
  The walks of slices.IndexFunc and slices.ContainsFunc over a tree's kids, of package show's filters and are (chapter 16).
  The walk of package show's are (chapter 16).
  The walks of package show's format, sound, number; names as they are asked (chapter 16).
  The walks of package show's number, texts, def, pattern's and untexted's closures (chapter 16).
  The walk of package show's plain (chapter 16).
  The walk of package show's def (chapter 16).
  The walk of package show's untexted and its closure (chapter 16).
  The walks of package show's untexted, pattern and filter (chapter 16): printed by gen_shwh.py.
  The walks of package show's pattern and its closures (chapter 16).
  The walk of package show's filter (chapter 16): printed by gen_shwj.py.
  The walks of package show's nested and May; the knot of filter and pattern (chapter 16).
-/
import Derived.Test.YtmbeicndhigklaaGreatDoorPSynW
import Derived.Test.YtmbeicndhigklaaGreatDoorASs
import Derived.Test.YtmbeicndhigklaaGreatDoorPDecC
import Derived.Test.YtmbeicndhigklaaGreatDoorPLexW
import Derived.Test.YtmbeicndhigklaaGreatDoorPSynA
namespace Go.Proofs.YtmbeicndhigklaaGreatDoor
open Go.RowKit
structure Tb (w:World):Prop where
 t:Tabs w
 n:Tab10 w
theorem Tb.below {B:Nat} {w w':World} (h:Tb w) (hb:Below B w w') (hB:w.heap.size≤B):Tb w':=⟨h.t.below hb hB,h.n.below (hb.mono hB)⟩
abbrev TF (l:List UInt8):Prop:=l.length≤100000000
theorem zbeq (n:Nat):((n:Int)==0)=decide (n=0):=by
 rw [Bool.eq_iff_iff,beq_iff_eq,decide_eq_true_iff];omega
set_option maxHeartbeats 1000000 in
theorem shBare_any (t:Ny) (A:Option Addr) (c:Nat) (w:World):Calls Tryz.prog 44 #[yAgg t (.slice A t.kids.length c)] w (RetY (.bool (bareY t)) fun w'=>Below w.heap.size w w'):=by
 have hv:bareY t=(t.text.isEmpty&&decide (t.kids.length=0)):=by unfold bareY;cases t.kids <;> simp
 rw [hv]
 generalize t.kids.length=n at *
 clear hv
 simp only [yAgg]
 by_cases hx:t.text=[]
 ·go_enter Tryz.func44,Tryz.ntmps44
  go_wp2
  go_ret
  exact ⟨by rw [hx,←zbeq];rfl,(Below.refl _ w).alloc (Nat.le_refl _) _⟩
 ·have he:t.text.isEmpty=false:=by simpa using hx
  go_enter Tryz.func44,Tryz.ntmps44
  go_wp2
  go_ret
  exact ⟨by rw [he];rfl,(Below.refl _ w).alloc (Nat.le_refl _) _⟩
theorem node_in (w:World) (kd:Int) (x:ByteArray) (v:Value):∃V,V=w.alloc (.cells #[.int .i64 kd,.string x,v] TN)∧Below w.heap.size w V∧V.heap[w.heap.size]?=some (.cells #[.int .i64 kd,.string x,v] TN (0,0))∧w.heap.size<V.heap.size
  ∧ V.cell? ⟨w.heap.size,0,none⟩=some (.int .i64 kd)∧V.cell? ⟨w.heap.size,1,none⟩=some (.string x)∧V.cell? ⟨w.heap.size,2,none⟩=some v:=by
 have h:=Go.heap_alloc_new w (.cells #[.int .i64 kd,.string x,v] TN)
 exact ⟨_,rfl,(Below.refl _ w).alloc (Nat.le_refl _) _,h,(Array.getElem?_eq_some_iff.1 h).1,by rw [Lib.cell_of_heap h];rfl,by rw [Lib.cell_of_heap h];rfl,by rw [Lib.cell_of_heap h];rfl⟩
def AskC (g:FuncId) (p:Ny→Bool) (k:Ny):Prop:=
 ∀(A:Option Addr) (c:Nat) (W:World),Tb W→YT W k A c→Calls Tryz.prog g #[yAgg k (.slice A k.kids.length c)] W (RetY (.bool (p k)) fun w'=>Below W.heap.size W w')
def IdxR (b:Bool) (w:World) (e:Ending) (w':World):Prop:=∃z:Int,e=.returned (.int .i64 z)∧decide (0≤z)=b∧Below w.heap.size w w'
set_option maxHeartbeats 4000000 in
set_option maxRecDepth 100000 in
theorem shIndexF_any (g:FuncId) (eg:∀args w,(callFunc g args).run Tryz.prog w=.ok (.enter g args) w) (p:Ny→Bool) (t:Ny) (hs:t.kids.length≤maxLen) (HK:∀k∈t.kids,AskC g p k) (A:Option Addr) (c:Nat) (w:World) (hT:Tb w) (h:YT w t A c) :
  Calls Tryz.prog 110 #[.slice A t.kids.length c,.func (.func g) #[] #[]] w (IdxR (t.kids.any p) w):=by
 have IH:=Lib.hid (fun (k:Ny) (hk:k∈t.kids) (A:Option Addr) (c:Nat) (W:World) (hb:Below w.heap.size w W) (h:YT W k A c)=>HK k hk A c W (hT.below hb (Nat.le_refl _)) h)
 have H1:=Lib.hid h
 have hmax:t.kids.length≤9223372036854775807:=by unfold maxLen at hs;exact hs
 have e1:=eg
 obtain ⟨b,hb⟩:∃b,b=t.kids.any p:=⟨_,rfl⟩
 rw [←hb]
 have HB0:=Lib.hid hb
 clear hb h hs HK hT
 generalize hn:t.kids.length=n at *
 have HN:=Lib.hid hn
 clear hn
 go_enter Tryz.func110,Tryz.ntmps110
 go_wp2
 go_loopg [5,8] (n+1) (fun kx _ v8 wr=>∃i:Nat,v8=.int .i64 (i:Int)∧i≤n∧n-i≤kx∧Hid (b=(t.kids.drop i).any p)∧Below w.heap.size w wr)
 case atStart=>exact ⟨0,rfl,Nat.zero_le _,by omega,HB0,Below.refl _ _⟩
 case round=>
  obtain ⟨i,rfl,hi,hik,hrel,hb⟩:=hrel
  have HB:=Lib.hid hb
  clear hb
  by_cases hlt:i<n
  ·have hne:t.kids≠[]:=fun e=>by have:=HN.out;rw [e] at this;simp at this;omega
   obtain ⟨q1,o1,rfl,hv1⟩:=YT.kid (YX.below H1.out HB.out) hne
   have hlt':i<t.kids.length:=by rw [HN.out];exact hlt
   obtain ⟨k,hk⟩:∃k,k=t.kids[i]:=⟨_,rfl⟩
   have hki:t.kids[i]?=some k:=by rw [hk];exact List.getElem?_eq_getElem hlt'
   have hkm:k∈t.kids:=List.mem_of_getElem? hki
   have hdr:t.kids.drop i=k::t.kids.drop (i+1):=by rw [hk];exact List.drop_eq_getElem_cons hlt'
   have hst:b=(p k||(t.kids.drop (i+1)).any p):=by rw [hrel.out,hdr,List.any_cons]
   obtain ⟨A1,c1',r1,k1'⟩:=hv1 i k hki
   have KC:=Lib.hid (IH.out k hkm A1 c1' wr HB.out k1')
   clear hv1 hk hki hkm k1' hne hdr hrel
   generalize p k=pk at *
   obtain ⟨e0,e1,e2⟩:=y_at r1
   clear r1
   have HST:=Lib.hid hst
   clear hst
   simp only [yAgg] at KC
   cases pk
   ·go_wp2_with (go_at_fn g;refine (KC.out).mono ?_)
    rintro e w3 ⟨rfl,hb3⟩
    have hb4:=Lib.hid (HB.out.trans (hb3.mono HB.out.size))
    clear hb3
    go_wp2_with fail
    go_roundg (n-(i+1))
    case measure=>omega
    case rel=>exact ⟨i+1,by go_num,by omega,Nat.le_refl _,Lib.hid (by have:=HST.out;rwa [Bool.false_or] at this),hb4.out⟩
   ·go_wp2_with (go_at_fn g;refine (KC.out).mono ?_)
    rintro e w3 ⟨rfl,hb3⟩
    have hb4:=Lib.hid (HB.out.trans (hb3.mono HB.out.size))
    clear hb3
    go_wp2_with fail
    go_ret
    exact ⟨_,rfl,by rw [HST.out,Bool.true_or];exact decide_eq_true (by omega),hb4.out⟩
  ·have hme:b=false:=by rw [hrel.out,List.drop_eq_nil_of_le (by rw [HN.out];omega)];rfl
   have HME:=Lib.hid hme
   clear hrel hme
   go_wp2
   go_ret
   exact ⟨_,rfl,by rw [HME.out];rfl,HB.out⟩
set_option maxHeartbeats 1000000 in
theorem shContF_any (g:FuncId) (eg:∀args w,(callFunc g args).run Tryz.prog w=.ok (.enter g args) w) (p:Ny→Bool) (t:Ny) (hs:t.kids.length≤maxLen) (HK:∀k∈t.kids,AskC g p k) (A:Option Addr) (c:Nat) (w:World) (hT:Tb w) (h:YT w t A c) :
  Calls Tryz.prog 74 #[.slice A t.kids.length c,.func (.func g) #[] #[]] w (RetY (.bool (t.kids.any p)) fun w'=>Below w.heap.size w w'):=by
 have K:=Lib.hid (shIndexF_any g eg p t hs HK A c w hT h)
 clear HK hs hT h eg
 generalize t.kids.any p=b at *
 go_enter Tryz.func74,Tryz.ntmps74
 go_wp2_with (go_at_call 110;refine K.out.mono ?_)
 rintro e w1 ⟨z,rfl,hz,hb⟩
 go_wp2
 go_ret
 exact ⟨rfl,hb⟩
abbrev FilC (fil:Ny→Bool) (k:Ny):Prop:=AskC 23 fil k
abbrev PatC (pat:Ny→Bool) (k:Ny):Prop:=AskC 73 pat k
set_option maxHeartbeats 1000000 in
theorem shFilters1_any (fil:Ny→Bool) (k:Ny) (hk:FilC fil k):AskC 75 (fun k=>!fil k) k:=by
 intro A c w hT h
 show Calls _ _ _ _ (RetY (.bool (!fil k)) _)
 have K:=Lib.hid (fun (W:World) (hb:Below w.heap.size w W)=>hk A c W (hT.below hb (Nat.le_refl _)) (YX.below h hb))
 have hb0:=Lib.hid (show Below w.heap.size w (w.alloc (.cells (yCells k (.slice A k.kids.length c)).toArray TN)) from (Below.refl _ w).alloc (Nat.le_refl _) _)
 clear hk hT h
 generalize fil k=b at *
 simp only [yAgg] at K ⊢
 go_enter Tryz.func75,Tryz.ntmps75
 go_wp2_with (go_at_call 23;refine (K.out _ (by first | exact hb0.out | exact Below.refl _ _)).mono ?_)
 rintro e w1 ⟨rfl,hb⟩
 have hb4:=Lib.hid (hb0.out.trans (hb.mono hb0.out.size))
 clear hb
 go_wp2
 go_ret
 exact ⟨rfl,hb4.out⟩
theorem all_not_any (p:Ny→Bool) (l:List Ny):(!l.any fun k=>!p k)=l.all p:=by
 induction l with
 | nil=>rfl
 | cons a l ih=>rw [List.any_cons,List.all_cons,Bool.not_or,Bool.not_not,ih]
set_option maxHeartbeats 1000000 in
set_option maxRecDepth 100000 in
theorem shFilters_any (fil:Ny→Bool) (t:Ny) (hs:t.kids.length≤maxLen) (HK:∀k∈t.kids,FilC fil k) (A:Option Addr) (c:Nat) (w:World) (hT:Tb w) (h:YT w t A c) :
  Calls Tryz.prog 51 #[.slice A t.kids.length c] w (RetY (.bool (t.kids.all fil)) fun w'=>Below w.heap.size w w'):=by
 have K:=Lib.hid (fun W (hb:Below w.heap.size w W)=>shContF_any 75 (fun _ _=>rfl) (fun k=>!fil k) t hs (fun k hk=>shFilters1_any fil k (HK k hk)) A c W (hT.below hb (Nat.le_refl _)) (YX.below h hb))
 have b0:=Below.refl w.heap.size w
 clear HK hs hT h
 rw [←all_not_any]
 generalize (t.kids.any fun k=>!fil k)=b at *
 go_enter Tryz.func51,Tryz.ntmps51
 go_wp2_with (go_at_call 74;refine (K.out _ b0).mono ?_)
 rintro e w1 ⟨rfl,hb⟩
 go_wp2
 go_ret
 exact ⟨rfl,hb⟩
def kCells (ks:List Nat):List Value:=ks.map fun (k:Nat)=>.int .i64 (k:Int)
theorem kCells_at {ks:List Nat} {i:Nat} (h:i<ks.length):(kCells ks)[i]?=some (.int .i64 (ks[i]:Int)):=by
 unfold kCells;rw [List.getElem?_map,List.getElem?_eq_getElem h];rfl
theorem areM_len {fil pat:Ny→Bool}:∀(xs:List Ny) (ks:List Nat),xs.length≠ks.length→areM fil pat xs ks=false
 | [],[],h=>absurd rfl h
 | [],_ :: _,_=>rfl
 | _ :: _,[],_=>rfl
 | x::xs,k::ks,h=>by
  have:=areM_len (fil:=fil) (pat:=pat) xs ks (fun e=>h (by simp [e]))
  show (stdM fil pat k x&&areM fil pat xs ks)=false
  rw [this,Bool.and_false]
set_option maxHeartbeats 4000000 in
set_option maxRecDepth 100000 in
theorem shAre_any (fil pat:Ny→Bool) (t:Ny) (hs:t.kids.length≤maxLen) (HF:∀k∈t.kids,FilC fil k) (HP:∀k∈t.kids,PatC pat k) (ks:List Nat) (hks:∀k∈ks,k≤2) (A:Option Addr) (c:Nat) (q:Nat) (T:TypeId) (z:Nat×Nat) (m:Nat) (w:World) (hT:Tb w) (h:YT w t A c) (hq:w.heap[q]?=some (.cells (kCells ks).toArray T z)) :
  Calls Tryz.prog 49 #[yAgg t (.slice A t.kids.length c),.slice (some ⟨q,0,none⟩) ks.length m] w (RetY (.bool (areM fil pat t.kids ks)) fun w'=>Below w.heap.size w w'):=by
 have IF:=Lib.hid (fun (k:Ny) (hk:k∈t.kids) (A:Option Addr) (c:Nat) (W:World) (hb:Below w.heap.size w W) (h:YT W k A c)=>HF k hk A c W (hT.below hb (Nat.le_refl _)) h)
 have IP:=Lib.hid (fun (k:Ny) (hk:k∈t.kids) (A:Option Addr) (c:Nat) (W:World) (hb:Below w.heap.size w W) (h:YT W k A c)=>HP k hk A c W (hT.below hb (Nat.le_refl _)) h)
 have H1:=Lib.hid h
 have hmax:t.kids.length≤9223372036854775807:=by unfold maxLen at hs;exact hs
 have hql:=(Array.getElem?_eq_some_iff.1 hq).1
 have CQ:=Lib.hid (fun (W:World) (hb:Below w.heap.size w W) (i:Nat) (hi:i<ks.length)=>show W.cell? ⟨q,i,none⟩=some (.int .i64 (ks[i]:Int)) by
  rw [Lib.cell_of_heap ((hb.block q hql).trans hq)];simpa using kCells_at hi)
 have hb0:=Lib.hid (show Below w.heap.size w (w.alloc (.cells (yCells t (.slice A t.kids.length c)).toArray TN)) from (Below.refl _ w).alloc (Nat.le_refl _) _)
 have hx0:=Lib.hid (show (w.alloc (.cells (yCells t (.slice A t.kids.length c)).toArray TN)).heap[w.heap.size]?=some (.cells (yCells t (.slice A t.kids.length c)).toArray TN (0,0)) from Go.heap_alloc_new w _)
 have HKS:=Lib.hid hks
 clear h hs HF HP hT hq hql hks
 by_cases hlen:t.kids.length=ks.length
 ·have HL:=Lib.hid hlen
  obtain ⟨b,hb⟩:∃b,b=areM fil pat t.kids ks:=⟨_,rfl⟩
  rw [←hb]
  have HB0:=Lib.hid hb
  clear hb
  rw [←hlen]
  clear hlen
  generalize hn:t.kids.length=n at *
  have HN:=Lib.hid hn
  clear hn
  have zn:decide (n=n)=true:=decide_eq_true rfl
  simp only [yAgg]
  go_enter Tryz.func49,Tryz.ntmps49
  go_wp2
  go_loopg [16] (n+1) (fun kx v wr=>∃i:Nat,v=.int .i64 (i:Int)∧i≤n∧n-i≤kx∧Hid (b=areM fil pat (t.kids.drop i) (ks.drop i))∧Below w.heap.size w wr∧wr.heap[w.heap.size]?=some (.cells (yCells t (.slice A n c)).toArray TN (0,0)))
  case atStart=>exact ⟨0,rfl,Nat.zero_le _,by omega,HB0,hb0.out,hx0.out⟩
  case round=>
   obtain ⟨i,rfl,hi,hik,hrel,hb,hx⟩:=hrel
   have c1:wr.cell? ⟨w.heap.size,2,none⟩=some (.slice A n c):=by rw [Lib.cell_of_heap hx];rfl
   have HB:=Lib.hid hb
   have HX:=Lib.hid hx
   clear hb hx
   by_cases hlt:i<n
   ·have z1:decide ((i:Int)<(n:Int))=true:=decide_eq_true (by omega)
    have hne:t.kids≠[]:=fun e=>by have:=HN.out;rw [e] at this;simp at this;omega
    obtain ⟨q1,o1,rfl,hv1⟩:=YT.kid (YX.below H1.out HB.out) hne
    have hlt':i<t.kids.length:=by rw [HN.out];exact hlt
    have hlk:i<ks.length:=by rw [←HL.out];exact hlt
    obtain ⟨k,hk⟩:∃k,k=t.kids[i]:=⟨_,rfl⟩
    obtain ⟨kk,hkk⟩:∃kk,kk=ks[i]:=⟨_,rfl⟩
    have hki:t.kids[i]?=some k:=by rw [hk];exact List.getElem?_eq_getElem hlt'
    have hkm:k∈t.kids:=List.mem_of_getElem? hki
    have hk2:kk≤2:=HKS.out kk (by rw [hkk];exact List.getElem_mem hlk)
    have hst:Hid (b=(stdM fil pat kk k&&areM fil pat (t.kids.drop (i+1)) (ks.drop (i+1)))):=Lib.hid (by
     rw [hrel.out,show t.kids.drop i=k::t.kids.drop (i+1) by rw [hk];exact List.drop_eq_getElem_cons hlt',show ks.drop i=kk::ks.drop (i+1) by rw [hkk];exact List.drop_eq_getElem_cons hlk];rfl)
    have cq:=CQ.out wr HB.out i hlk
    rw [←hkk] at cq
    obtain ⟨A1,c1',r1,k1'⟩:=hv1 i k hki
    have KF:=Lib.hid (fun (W:World) (hb:Below wr.heap.size wr W)=>IF.out k hkm A1 c1' W (HB.out.trans (hb.mono HB.out.size)) (YX.below k1' hb))
    have KP:=Lib.hid (fun (W:World) (hb:Below wr.heap.size wr W)=>IP.out k hkm A1 c1' W (HB.out.trans (hb.mono HB.out.size)) (YX.below k1' hb))
    have KB:=Lib.hid (fun (W:World) (_:Below wr.heap.size wr W)=>shBare_any k A1 c1' W)
    clear hv1 hk hki hkm k1' hne hrel hkk hlk
    obtain ⟨e0,e1,e2⟩:=y_at r1
    clear r1
    have i0:(0:Int)≤(i:Int):=by omega
    have i1:(i:Int)<(n:Int):=by omega
    have hwl:=(Array.getElem?_eq_some_iff.1 HX.out).1
    have hv0:=Lib.hid (show Below w.heap.size w (wr.alloc (.cells (yCells k (.slice A1 k.kids.length c1')).toArray TN)) from HB.out.alloc HB.out.size _)
    have hvx:=Lib.hid (show (wr.alloc (.cells (yCells k (.slice A1 k.kids.length c1')).toArray TN)).heap[w.heap.size]?=some (.cells (yCells t (.slice (some ⟨q1,o1,none⟩) n c)).toArray TN (0,0)) from (Below.heap_alloc _ _ w.heap.size hwl).trans HX.out)
    have hvl:=Lib.hid (show w.heap.size<(wr.alloc (.cells (yCells k (.slice A1 k.kids.length c1')).toArray TN)).heap.size by rw [World.size_alloc];omega)
    clear hwl
    simp only [yAgg] at KF KP KB
    rcases (by omega:kk=0∨kk=1∨kk=2) with rfl | rfl | rfl
    ·have hs0:stdM fil pat 0 k=fil k:=rfl
     clear KP KB
     cases hf:fil k
     ·rw [hf] at KF
      go_wp2_with (go_at_call 23;refine (KF.out _ ((Below.refl _ wr).alloc (Nat.le_refl _) _)).mono ?_)
      rintro e w3 ⟨rfl,hb3⟩
      have hb4:=Lib.hid (hv0.out.trans (hb3.mono hv0.out.size))
      have hx4:=Lib.hid ((hb3.block w.heap.size hvl.out).trans hvx.out)
      clear hb3
      have HST:=Lib.hid (show b=false by rw [hst.out,hs0,hf,Bool.false_and])
      go_wp2_with fail
      go_ret
      exact ⟨by rw [HST.out];rfl,hb4.out⟩
     ·rw [hf] at KF
      go_wp2_with (go_at_call 23;refine (KF.out _ ((Below.refl _ wr).alloc (Nat.le_refl _) _)).mono ?_)
      rintro e w3 ⟨rfl,hb3⟩
      have hb4:=Lib.hid (hv0.out.trans (hb3.mono hv0.out.size))
      have hx4:=Lib.hid ((hb3.block w.heap.size hvl.out).trans hvx.out)
      clear hb3
      have HST:=Lib.hid (show b=areM fil pat (t.kids.drop (i+1)) (ks.drop (i+1)) by rw [hst.out,hs0,hf,Bool.true_and])
      go_wp2_with fail
      go_roundg (n-(i+1))
      case measure=>omega
      case rel=>exact ⟨i+1,by go_num,by omega,Nat.le_refl _,HST,hb4.out,hx4.out⟩
    ·have hs0:stdM fil pat 1 k=pat k:=rfl
     clear KF KB
     cases hf:pat k
     ·rw [hf] at KP
      go_wp2_with (go_at_call 73;refine (KP.out _ ((Below.refl _ wr).alloc (Nat.le_refl _) _)).mono ?_)
      rintro e w3 ⟨rfl,hb3⟩
      have hb4:=Lib.hid (hv0.out.trans (hb3.mono hv0.out.size))
      have hx4:=Lib.hid ((hb3.block w.heap.size hvl.out).trans hvx.out)
      clear hb3
      have HST:=Lib.hid (show b=false by rw [hst.out,hs0,hf,Bool.false_and])
      go_wp2_with fail
      go_ret
      exact ⟨by rw [HST.out];rfl,hb4.out⟩
     ·rw [hf] at KP
      go_wp2_with (go_at_call 73;refine (KP.out _ ((Below.refl _ wr).alloc (Nat.le_refl _) _)).mono ?_)
      rintro e w3 ⟨rfl,hb3⟩
      have hb4:=Lib.hid (hv0.out.trans (hb3.mono hv0.out.size))
      have hx4:=Lib.hid ((hb3.block w.heap.size hvl.out).trans hvx.out)
      clear hb3
      have HST:=Lib.hid (show b=areM fil pat (t.kids.drop (i+1)) (ks.drop (i+1)) by rw [hst.out,hs0,hf,Bool.true_and])
      go_wp2_with fail
      go_roundg (n-(i+1))
      case measure=>omega
      case rel=>exact ⟨i+1,by go_num,by omega,Nat.le_refl _,HST,hb4.out,hx4.out⟩
    ·have hs0:stdM fil pat 2 k=((k.kind==32&&bareY k)||fil k):=rfl
     rw [hs0] at hst
     clear KP hs0
     generalize bareY k=br at *
     generalize fil k=f at *
     simp only [yCells] at hv0 hvx hvl
     generalize k.kind=kd at *
     have hva:=Lib.hid (Go.heap_alloc_new wr (.cells #[.int .i64 kd,.string ⟨k.text.toArray⟩,.slice A1 k.kids.length c1'] TN))
     have hvb:=Lib.hid (show wr.heap.size<(wr.alloc (.cells #[.int .i64 kd,.string ⟨k.text.toArray⟩,.slice A1 k.kids.length c1'] TN)).heap.size by rw [World.size_alloc];omega)
     by_cases hkd:kd=32
     ·subst hkd
      cases br
      ·cases f
       ·skip
        go_wp2_with (go_at_call 44;refine (KB.out _ ((Below.refl _ wr).alloc (Nat.le_refl _) _)).mono ?_)
        rintro e w3 ⟨rfl,hb3⟩
        have hb4:=Lib.hid (hv0.out.trans (hb3.mono hv0.out.size))
        have hx4:=Lib.hid ((hb3.block w.heap.size hvl.out).trans hvx.out)
        have hb5:=Lib.hid (((Below.refl wr.heap.size wr).alloc (Nat.le_refl _) _).trans (hb3.mono (by rw [World.size_alloc];omega)))
        have hl4:=Lib.hid (Nat.lt_of_lt_of_le hvl.out hb3.size)
        have hy:=(hb3.block wr.heap.size hvb.out).trans hva.out
        have d0:w3.cell? ⟨wr.heap.size,0,none⟩=some (.int .i64 32):=by rw [Lib.cell_of_heap hy];rfl
        have d1:w3.cell? ⟨wr.heap.size,1,none⟩=some (.string ⟨k.text.toArray⟩):=by rw [Lib.cell_of_heap hy];rfl
        have d2:w3.cell? ⟨wr.heap.size,2,none⟩=some (.slice A1 k.kids.length c1'):=by rw [Lib.cell_of_heap hy];rfl
        clear hb3 hy
        go_wp2_with (go_at_call 23;refine (KF.out _ hb5.out).mono ?_)
        rintro e w5 ⟨rfl,hb3⟩
        replace hx4:=Lib.hid ((hb3.block w.heap.size hl4.out).trans hx4.out)
        replace hb4:=Lib.hid (hb4.out.trans (hb3.mono hb4.out.size))
        clear hb3
        have HST:=Lib.hid (show b=false by have:=hst.out;simpa using this)
        go_wp2_with fail
        go_ret
        exact ⟨by rw [HST.out];rfl,hb4.out⟩
       ·skip
        go_wp2_with (go_at_call 44;refine (KB.out _ ((Below.refl _ wr).alloc (Nat.le_refl _) _)).mono ?_)
        rintro e w3 ⟨rfl,hb3⟩
        have hb4:=Lib.hid (hv0.out.trans (hb3.mono hv0.out.size))
        have hx4:=Lib.hid ((hb3.block w.heap.size hvl.out).trans hvx.out)
        have hb5:=Lib.hid (((Below.refl wr.heap.size wr).alloc (Nat.le_refl _) _).trans (hb3.mono (by rw [World.size_alloc];omega)))
        have hl4:=Lib.hid (Nat.lt_of_lt_of_le hvl.out hb3.size)
        have hy:=(hb3.block wr.heap.size hvb.out).trans hva.out
        have d0:w3.cell? ⟨wr.heap.size,0,none⟩=some (.int .i64 32):=by rw [Lib.cell_of_heap hy];rfl
        have d1:w3.cell? ⟨wr.heap.size,1,none⟩=some (.string ⟨k.text.toArray⟩):=by rw [Lib.cell_of_heap hy];rfl
        have d2:w3.cell? ⟨wr.heap.size,2,none⟩=some (.slice A1 k.kids.length c1'):=by rw [Lib.cell_of_heap hy];rfl
        clear hb3 hy
        go_wp2_with (go_at_call 23;refine (KF.out _ hb5.out).mono ?_)
        rintro e w5 ⟨rfl,hb3⟩
        replace hx4:=Lib.hid ((hb3.block w.heap.size hl4.out).trans hx4.out)
        replace hb4:=Lib.hid (hb4.out.trans (hb3.mono hb4.out.size))
        clear hb3
        have HST:=Lib.hid (show b=areM fil pat (t.kids.drop (i+1)) (ks.drop (i+1)) by have:=hst.out;simpa using this)
        go_wp2_with fail
        go_roundg (n-(i+1))
        case measure=>omega
        case rel=>exact ⟨i+1,by go_num,by omega,Nat.le_refl _,HST,hb4.out,hx4.out⟩
      ·skip
       go_wp2_with (go_at_call 44;refine (KB.out _ ((Below.refl _ wr).alloc (Nat.le_refl _) _)).mono ?_)
       rintro e w3 ⟨rfl,hb3⟩
       have hb4:=Lib.hid (hv0.out.trans (hb3.mono hv0.out.size))
       have hx4:=Lib.hid ((hb3.block w.heap.size hvl.out).trans hvx.out)
       have hb5:=Lib.hid (((Below.refl wr.heap.size wr).alloc (Nat.le_refl _) _).trans (hb3.mono (by rw [World.size_alloc];omega)))
       have hl4:=Lib.hid (Nat.lt_of_lt_of_le hvl.out hb3.size)
       have hy:=(hb3.block wr.heap.size hvb.out).trans hva.out
       have d0:w3.cell? ⟨wr.heap.size,0,none⟩=some (.int .i64 32):=by rw [Lib.cell_of_heap hy];rfl
       have d1:w3.cell? ⟨wr.heap.size,1,none⟩=some (.string ⟨k.text.toArray⟩):=by rw [Lib.cell_of_heap hy];rfl
       have d2:w3.cell? ⟨wr.heap.size,2,none⟩=some (.slice A1 k.kids.length c1'):=by rw [Lib.cell_of_heap hy];rfl
       clear hb3 hy
       have HST:=Lib.hid (show b=areM fil pat (t.kids.drop (i+1)) (ks.drop (i+1)) by have:=hst.out;simpa using this)
       go_wp2_with fail
       go_roundg (n-(i+1))
       case measure=>omega
       case rel=>exact ⟨i+1,by go_num,by omega,Nat.le_refl _,HST,hb4.out,hx4.out⟩
     ·have y1:decide (kd=32)=false:=decide_eq_false hkd
      have hq:=Lib.hid (show (kd==32)=false by simpa using hkd)
      clear KB
      cases f
      ·skip
       go_wp2_with (go_at_call 23;refine (KF.out _ ((Below.refl _ wr).alloc (Nat.le_refl _) _)).mono ?_)
       rintro e w3 ⟨rfl,hb3⟩
       have hb4:=Lib.hid (hv0.out.trans (hb3.mono hv0.out.size))
       have hx4:=Lib.hid ((hb3.block w.heap.size hvl.out).trans hvx.out)
       have hb5:=Lib.hid (((Below.refl wr.heap.size wr).alloc (Nat.le_refl _) _).trans (hb3.mono (by rw [World.size_alloc];omega)))
       have hl4:=Lib.hid (Nat.lt_of_lt_of_le hvl.out hb3.size)
       clear hb3
       have HST:=Lib.hid (show b=false by have:=hst.out;rw [hq.out] at this;simpa using this)
       go_wp2_with fail
       go_ret
       exact ⟨by rw [HST.out];rfl,hb4.out⟩
      ·skip
       go_wp2_with (go_at_call 23;refine (KF.out _ ((Below.refl _ wr).alloc (Nat.le_refl _) _)).mono ?_)
       rintro e w3 ⟨rfl,hb3⟩
       have hb4:=Lib.hid (hv0.out.trans (hb3.mono hv0.out.size))
       have hx4:=Lib.hid ((hb3.block w.heap.size hvl.out).trans hvx.out)
       have hb5:=Lib.hid (((Below.refl wr.heap.size wr).alloc (Nat.le_refl _) _).trans (hb3.mono (by rw [World.size_alloc];omega)))
       have hl4:=Lib.hid (Nat.lt_of_lt_of_le hvl.out hb3.size)
       clear hb3
       have HST:=Lib.hid (show b=areM fil pat (t.kids.drop (i+1)) (ks.drop (i+1)) by have:=hst.out;simpa using this)
       go_wp2_with fail
       go_roundg (n-(i+1))
       case measure=>omega
       case rel=>exact ⟨i+1,by go_num,by omega,Nat.le_refl _,HST,hb4.out,hx4.out⟩
   ·have z1:decide ((i:Int)<(n:Int))=false:=decide_eq_false (by omega)
    have hme:b=true:=by rw [hrel.out,List.drop_eq_nil_of_le (by rw [HN.out];omega),List.drop_eq_nil_of_le (by rw [←HL.out];omega)];rfl
    have HME:=Lib.hid hme
    clear hrel hme
    go_wp2
    go_ret
    exact ⟨by rw [HME.out];rfl,HB.out⟩
 ·have HE:=Lib.hid (areM_len (fil:=fil) (pat:=pat) _ _ hlen)
  have zn:decide ((t.kids.length:Int)=(ks.length:Int))=false:=decide_eq_false (by omega)
  rw [HE.out]
  simp only [yAgg]
  go_enter Tryz.func49,Tryz.ntmps49
  go_wp2
  go_ret
  exact ⟨rfl,hb0.out⟩
set_option maxHeartbeats 1000000 in
set_option maxRecDepth 100000 in
theorem lexName_any (s:ByteArray) (w:World) (hs:s.size≤9223372036854775807) :
  Calls Tryz.prog 48 #[.string s] w fun e w'=>e=.returned (.bool (decide (0<s.size)&&decide (nameN s.data.toList=s.size)))∧w=w':=by
 have k1:=fun (W:World)=>lexname_wide s W hs
 have hle:=nameN_le s.data.toList
 rw [←Lib.size_eq] at hle
 have K1:=Lib.hid k1
 clear k1
 have hcmp:∀n,n≤s.size→((s.extract 0 n).toList==s.toList)=decide (n=s.size):=fun n hn=>by
  by_cases h:n=s.size
  ·rw [h,decide_eq_true rfl,show s.extract 0 s.size=s from ByteArray.ext (by simp)];simp
  ·rw [decide_eq_false h]
   refine beq_false_of_ne (fun e=>h ?_)
   have e2:(s.extract 0 n).toList.length=s.toList.length:=by rw [e]
   rw [Lib.toList_data,Lib.toList_data,←Lib.size_eq,←Lib.size_eq,ByteArray.size_extract] at e2
   omega
 have hne:s.toList=[]↔s.size=0:=by rw [Lib.toList_data,Lib.size_eq];exact List.length_eq_zero_iff.symm
 have HC:=Lib.hid (hcmp _ hle)
 clear hcmp hle
 go_enter Tryz.func48,Tryz.ntmps48
 by_cases h0:s.size=0
 ·have he:=hne.2 h0
  clear hne
  go_wp2
  go_ret
  exact ⟨retb (by rw [h0];rfl),rfl⟩
 ·have he:¬s.toList=[]:=fun h=>h0 (hne.1 h)
  have hi:s.toList.isEmpty=false:=by cases h:s.toList with
   | nil=>exact absurd h he
   | cons _ _=>rfl
  clear hne
  go_wp2_with (go_at_call 72;refine (K1.out _).mono ?_)
  rintro e w1 ⟨rfl,rfl⟩
  go_wp2
  go_ret
  exact ⟨retb (by rw [decide_eq_true (show 0<s.size by omega),Bool.true_and,←HC.out]),rfl⟩
theorem isName_s (l:List UInt8) (w:World) (hs:TF l):Calls Tryz.prog 48 #[.string ⟨l.toArray⟩] w fun e w'=>e=.returned (.bool (isName l))∧w=w':=by
 have h:=lexName_any ⟨l.toArray⟩ w (by rw [ba_len];unfold TF at hs;omega)
 exact h
theorem tx_ix (c:UInt8) (r:List UInt8) (W:World):(Instr.index 9 (.string ⟨(c::r).toArray⟩) (.int .i64 0)).run Tryz.prog W=.ok (.int .u8 (c.toNat:Int)) W:=by
 simp [go_sem]
 rfl
theorem tx_sl (c:UInt8) (r:List UInt8) (w:World):(Instr.slice 9 (.string ⟨(c::r).toArray⟩) (some (.int .i64 1)) none none).run Tryz.prog w=.ok (.string ⟨r.toArray⟩) w:=by
 have hz:(⟨(c::r).toArray⟩:ByteArray).size=r.length+1:=rfl
 rw [run_slice_string_l (P:=Tryz.prog) w 9 ⟨(c::r).toArray⟩ Tryz.underlying9 .i64 1 (by omega) (by rw [hz];omega)]
 congr 2
 have h:=Lib.extract_data (⟨(c::r).toArray⟩:ByteArray) 1 (r.length+1)
 rw [show (1:Int).toNat=1 from rfl,hz]
 refine ByteArray.ext (Array.toList_inj.1 ?_)
 rw [h]
 show (((c::r).drop 1).take (r.length+1-1)) = _
 simp
set_option maxHeartbeats 1000000 in
set_option maxRecDepth 100000 in
theorem shFormat_any (l:List UInt8) (w:World) (hs:TF l):Calls Tryz.prog 47 #[.string ⟨l.toArray⟩] w fun e w'=>e=.returned (.bool (isFmt l))∧w=w':=by
 cases l with
 | nil=>
  go_enter Tryz.func47,Tryz.ntmps47
  go_wp2
  go_ret
  exact ⟨rfl,rfl⟩
 | cons c r=>
  have hr:TF r:=by unfold TF at *;rw [List.length_cons] at hs;omega
  have KN:=Lib.hid (fun W=>isName_s r W hr)
  have f0:=fun W=>tx_ix c r W
  have f1:=fun W=>tx_sl c r W
  have hv:isFmt (c::r)=(c==64&&isName r):=rfl
  rw [hv]
  have hne:¬(⟨(c::r).toArray⟩:ByteArray).toList=[]:=by rw [Lib.toList_data];simp
  have hnf:(⟨(c::r).toArray⟩:ByteArray).toList.isEmpty=false:=by rw [Lib.toList_data];rfl
  generalize isName r=b at *
  generalize (c::r).toArray=ar at *
  clear hv hr hs
  by_cases hc:c=64
  ·subst hc
   go_enter Tryz.func47,Tryz.ntmps47
   go_wp2_with (go_at_call 48;refine (KN.out _).mono ?_)
   rintro e w1 ⟨rfl,rfl⟩
   go_wp2
   go_ret
   exact ⟨by first | rfl | (rw [hnf];rfl) | (simp only [hnf];rfl),rfl⟩
  ·have z1:(c==64)=false:=by simpa using hc
   have z2:¬(c.toNat:Int)=64:=fun h=>hc (UInt8.toNat_inj.1 (by show c.toNat=64;omega))
   go_enter Tryz.func47,Tryz.ntmps47
   go_wp2
   go_ret
   exact ⟨by rw [z1];rfl,rfl⟩
set_option maxHeartbeats 1000000 in
theorem shSound_any (l:List UInt8) (w:World) (hs:TF l) (hT:Tb w):Calls Tryz.prog 71 #[.string ⟨l.toArray⟩] w (RetY (.bool (isSound l)) fun w'=>Below w.heap.size w w'):=by
 have KV:=Lib.hid (utfValid_any ⟨l.toArray⟩ w hT.t (by rw [ba_len];unfold TF at hs;unfold maxLen;omega))
 have hz:(⟨l.toArray⟩:ByteArray).size=l.length:=rfl
 have hv:isSound l=decide ((valid l:Int)=(l.length:Int)):=by unfold isSound;rw [Bool.eq_iff_iff,beq_iff_eq,decide_eq_true_iff];omega
 rw [hv]
 clear hv hs hT
 rw [show (⟨l.toArray⟩:ByteArray).data.toList=l from rfl] at KV
 generalize valid l=V at *
 go_enter Tryz.func71,Tryz.ntmps71
 go_wp2_with (go_at_call 56;refine KV.out.mono ?_)
 rintro e w1 ⟨rfl,hb⟩
 go_wp2
 go_ret
 exact ⟨rfl,hb⟩
set_option maxHeartbeats 1000000 in
set_option maxRecDepth 100000 in
theorem shNumber_any (l:List UInt8) (w:World) (hs:TF l) (hT:Tb w):Calls Tryz.prog 45 #[.string ⟨l.toArray⟩] w (RetY (.bool (isNum numE l)) fun w'=>Below w.heap.size w w'):=by
 cases l with
 | nil=>
  go_enter Tryz.func45,Tryz.ntmps45
  go_wp2
  go_ret
  exact ⟨rfl,Below.refl _ _⟩
 | cons c r=>
  have KD:=Lib.hid (decParse_any (c::r) w hs hT.n)
  have f0:=fun W=>tx_ix c r W
  have hv:isNum numE (c::r)=(!(c==45)&&numE (c::r)==0):=rfl
  rw [hv]
  have hne:¬(⟨(c::r).toArray⟩:ByteArray).toList=[]:=by rw [Lib.toList_data];simp
  have hnf:(⟨(c::r).toArray⟩:ByteArray).toList.isEmpty=false:=by rw [Lib.toList_data];rfl
  generalize numE (c::r)=m at *
  generalize (c::r).toArray=ar at *
  clear hv hs hT
  by_cases hc:c=45
  ·subst hc
   clear KD
   go_enter Tryz.func45,Tryz.ntmps45
   go_wp2
   go_ret
   exact ⟨rfl,Below.refl _ _⟩
  ·have z1:(c==45)=false:=by simpa using hc
   have z3:((c.toNat:Int)==45)=false:=by rw [beq_eq_false_iff_ne];exact fun h=>hc (UInt8.toNat_inj.1 (by show c.toNat=45;omega))
   have z2:¬(c.toNat:Int)=45:=fun h=>hc (UInt8.toNat_inj.1 (by show c.toNat=45;omega))
   go_enter Tryz.func45,Tryz.ntmps45
   go_wp2_with (go_at_call 70;refine KD.out.mono ?_)
   rintro e w1 ⟨ng,A,n,c2,ex,rfl,hb⟩
   go_wp2
   go_ret
   exact ⟨by rw [z1];show Ending.returned (Value.bool ((m:Int)==0)) = _;rw [zbeq];rfl,hb.alloc hb.size _⟩
theorem YT.drop {w:World} {t:Ny} {q o c:Nat} (h:YT w t (some ⟨q,o,none⟩) c) (m:Nat) (hm:m≤t.kids.length):YT w (.mk 0 [] (t.kids.drop m)) (some ⟨q,o+m * 3,none⟩) (c-m):=by
 obtain ⟨n,h⟩:=h
 have hl:(t.kids.drop m).length=t.kids.length-m:=List.length_drop
 cases n with
 | zero=>
  obtain ⟨h0,A',c',e⟩:=h
  have h1:t.kids.drop m=[]:=by rw [h0];simp
  exact ⟨0,h1,_,_,by show Value.slice _ (t.kids.drop m).length _ = _;rw [h1];rfl⟩
 | succ n=>
  obtain ⟨A',c',e,h2,h3⟩:=h
  injection e with e1 e2 e3
  subst e1;subst e3
  refine ⟨n+1,_,_,rfl,fun hne=>?_,fun hne=>?_⟩
  ·have h0:t.kids≠[]:=fun e=>hne (by show t.kids.drop m=[];rw [e];simp)
   have:=h2 h0
   exact ⟨by show (t.kids.drop m).length≤_;omega,by omega⟩
  ·have h0:t.kids≠[]:=fun e=>hne (by show t.kids.drop m=[];rw [e];simp)
   obtain ⟨q',o',cs,T,z,h4,h5,h6,h7⟩:=h3 h0
   injection h4 with h4
   injection h4 with h41 h42
   subst h41;subst h42
   refine ⟨_,_,cs,T,z,rfl,h5,h6,fun i k hi=>?_⟩
   have hi':(t.kids.drop m)[i]?=some k:=hi
   rw [List.getElem?_drop] at hi'
   obtain ⟨kw,h8,h9⟩:=h7 (m+i) k hi'
   exact ⟨kw,fun j v hj=>by rw [show o+m * 3+(i * 3+j)=o+((m+i) * 3+j) by omega];exact h8 j v hj,h9⟩
set_option maxHeartbeats 4000000 in
set_option maxRecDepth 100000 in
theorem shTexts_any (fil:Ny→Bool) (t:Ny) (hs:t.kids.length≤maxLen) (hx:TF t.text) (hk:∀k∈t.kids,TF k.text) (HF:∀k∈t.kids,FilC fil k) (A:Option Addr) (c:Nat) (w:World) (hT:Tb w) (h:YT w t A c) :
  Calls Tryz.prog 46 #[yAgg t (.slice A t.kids.length c)] w (RetY (.bool ((t.text.isEmpty||isFmt t.text)&&texM fil false t.kids)) fun w'=>Below w.heap.size w w'):=by
 have IF:=Lib.hid (fun (k:Ny) (hk:k∈t.kids) (A:Option Addr) (c:Nat) (W:World) (hb:Below w.heap.size w W) (h:YT W k A c)=>HF k hk A c W (hT.below hb (Nat.le_refl _)) h)
 have IS:=Lib.hid (fun (k:Ny) (hm:k∈t.kids) (W:World) (hb:Below w.heap.size w W)=>shSound_any k.text W (hk k hm) (hT.below hb (Nat.le_refl _)))
 have KF:=Lib.hid (fun (W:World)=>shFormat_any t.text W hx)
 have H1:=Lib.hid h
 have hmax:t.kids.length≤9223372036854775807:=by unfold maxLen at hs;exact hs
 clear h hs HF hk hT hx
 obtain ⟨b,hb⟩:∃b,b=texM fil false t.kids:=⟨_,rfl⟩
 rw [←hb]
 have HB0:=Lib.hid hb
 clear hb
 generalize hn:t.kids.length=n at *
 have HN:=Lib.hid hn
 clear hn
 generalize isFmt t.text=f at *
 obtain ⟨V,hV⟩:∃V,V=w.alloc (.cells #[.int .i64 t.kind,.string ⟨t.text.toArray⟩,.slice A n c] TN):=⟨_,rfl⟩
 have hb0:Below w.heap.size w V:=by rw [hV];exact (Below.refl _ w).alloc (Nat.le_refl _) _
 have hx0:V.heap[w.heap.size]?=some (.cells #[.int .i64 t.kind,.string ⟨t.text.toArray⟩,.slice A n c] TN (0,0)):=by rw [hV];exact Go.heap_alloc_new w _
 have c1:V.cell? ⟨w.heap.size,1,none⟩=some (.string ⟨t.text.toArray⟩):=by rw [Lib.cell_of_heap hx0];rfl
 have c2:V.cell? ⟨w.heap.size,2,none⟩=some (.slice A n c):=by rw [Lib.cell_of_heap hx0];rfl
 have B0:=Lib.hid hb0
 have X0:=Lib.hid hx0
 clear hb0 hx0
 simp only [yAgg]
 go_enter Tryz.func46,Tryz.ntmps46
 go_upto_region 1 with fail
 rw [←hV]
 clear hV
 go_cut [15] (fun v wx=>v=.bool (!(t.text.isEmpty||f))∧wx=V)
 case first=>
  by_cases hx:t.text=[]
  ·go_wp2_with fail
   go_meet
   exact ⟨by rw [hx];rfl,rfl⟩
  ·have he:t.text.isEmpty=false:=by simpa using hx
   go_wp2_with (go_at_call 47;refine (KF.out _).mono ?_)
   rintro e w1 ⟨rfl,rfl⟩
   go_wp2_with fail
   go_meet
   exact ⟨by rw [he];rfl,rfl⟩
 case rest=>
  obtain ⟨rfl,rfl⟩:=hcut
  cases hq:(t.text.isEmpty||f)
  ·go_wp2_with fail
   go_ret
   exact ⟨by rw [hq];rfl,B0.out⟩
  ·have HQ:=Lib.hid hq
   clear hq
   go_wp2_with fail
   go_loopg [3,19] (n+1) (fun kx v2 v19 wr=>∃i:Nat,∃last:Bool,v19=.int .i64 (i:Int)∧v2=.bool last∧i≤n∧n-i≤kx∧Hid (b=texM fil last (t.kids.drop i))∧Below w.heap.size w wr)
   case atStart=>exact ⟨0,false,rfl,rfl,Nat.zero_le _,by omega,HB0,B0.out⟩
   case round=>
    obtain ⟨i,last,rfl,rfl,hi,hik,hrel,hb⟩:=hrel
    have HB:=Lib.hid hb
    clear hb
    by_cases hlt:i<n
    ·have hne:t.kids≠[]:=fun e=>by have:=HN.out;rw [e] at this;simp at this;omega
     obtain ⟨q1,o1,rfl,hv1⟩:=YT.kid (YX.below H1.out HB.out) hne
     have hlt':i<t.kids.length:=by rw [HN.out];exact hlt
     obtain ⟨k,hk⟩:∃k,k=t.kids[i]:=⟨_,rfl⟩
     have hki:t.kids[i]?=some k:=by rw [hk];exact List.getElem?_eq_getElem hlt'
     have hkm:k∈t.kids:=List.mem_of_getElem? hki
     have hst:Hid (b=if k.kind=5 then (!last&&!k.text.isEmpty&&k.kids.isEmpty&&isSound k.text)&&texM fil true (t.kids.drop (i+1)) else fil k&&texM fil false (t.kids.drop (i+1))):=Lib.hid (by
      rw [hrel.out,show t.kids.drop i=k::t.kids.drop (i+1) by rw [hk];exact List.drop_eq_getElem_cons hlt',texM])
     obtain ⟨A1,c1',r1,k1'⟩:=hv1 i k hki
     have KF:=Lib.hid (fun (W:World) (hb:Below wr.heap.size wr W)=>IF.out k hkm A1 c1' W (HB.out.trans (hb.mono HB.out.size)) (YX.below k1' hb))
     have KS:=Lib.hid (fun (W:World) (hb:Below wr.heap.size wr W)=>IS.out k hkm W (HB.out.trans (hb.mono HB.out.size)))
     clear hv1 hk hki hkm k1' hne hrel hlt'
     obtain ⟨e0,e1,e2⟩:=y_at r1
     clear r1
     have i0:(0:Int)≤(i:Int):=by omega
     have i1:(i:Int)<(n:Int):=by omega
     have hv0:=Lib.hid (show Below w.heap.size w (wr.alloc (.cells (yCells k (.slice A1 k.kids.length c1')).toArray TN)) from HB.out.alloc HB.out.size _)
     simp only [yAgg] at KF
     simp only [yCells] at hv0
     have hke:k.kids.isEmpty=decide (k.kids.length=0):=by cases k.kids <;> simp
     rw [hke] at hst
     clear hke
     generalize isSound k.text=so at *
     generalize fil k=fk at *
     generalize k.kids.length=kn at *
     generalize k.kind=kd at *
     by_cases hkd:kd=5
     ·subst hkd
      rw [if_pos rfl] at hst
      clear KF
      cases last
      ·by_cases hx:k.text=[]
       ·have HST:=Lib.hid (show b=false by have:=hst.out;rw [hx] at this;simpa using this)
        go_wp2_with fail
        go_ret
        exact ⟨by rw [HQ.out,HST.out];rfl,HB.out.alloc HB.out.size _⟩
       ·have he:k.text.isEmpty=false:=by simpa using hx
        by_cases hz:kn=0
        ·subst hz
         cases so
         ·have HST:=Lib.hid (show b=false by have:=hst.out;rw [he] at this;simpa using this)
          go_wp2_with (go_at_call 71;refine (KS.out _ ((Below.refl _ wr).alloc (Nat.le_refl _) _)).mono ?_)
          rintro e w3 ⟨rfl,hb3⟩
          have hb4:=Lib.hid (hv0.out.trans (hb3.mono (by first | exact hv0.out.size | (have:=HB.out.size;omega))))
          clear hb3
          go_wp2_with fail
          go_ret
          exact ⟨by rw [HQ.out,HST.out];rfl,hb4.out⟩
         ·have HST:=Lib.hid (show b=texM fil true (t.kids.drop (i+1)) by have:=hst.out;rw [he] at this;simpa using this)
          go_wp2_with (go_at_call 71;refine (KS.out _ ((Below.refl _ wr).alloc (Nat.le_refl _) _)).mono ?_)
          rintro e w3 ⟨rfl,hb3⟩
          have hb4:=Lib.hid (hv0.out.trans (hb3.mono (by first | exact hv0.out.size | (have:=HB.out.size;omega))))
          clear hb3
          go_wp2_with fail
          go_roundg (n-(i+1))
          case measure=>omega
          case rel=>exact ⟨i+1,true,by go_num,rfl,by omega,Nat.le_refl _,HST,hb4.out⟩
        ·have HST:=Lib.hid (show b=false by have:=hst.out;rw [decide_eq_false hz] at this;simpa using this)
         have hz0:decide ((0:Int)<(kn:Int))=true:=decide_eq_true (by omega)
         go_wp2_with fail
         go_ret
         exact ⟨by rw [HQ.out,HST.out];rfl,HB.out.alloc HB.out.size _⟩
      ·have HST:=Lib.hid (show b=false by have:=hst.out;simpa using this)
       go_wp2_with fail
       go_ret
       exact ⟨by rw [HQ.out,HST.out];rfl,HB.out.alloc HB.out.size _⟩
     ·rw [if_neg hkd] at hst
      have hq0:(kd==5)=false:=by simpa using hkd
      clear KS
      cases fk
      ·have HST:=Lib.hid (show b=false by have:=hst.out;simpa using this)
       go_wp2_with (go_at_call 23;refine (KF.out _ ((Below.refl _ wr).alloc (Nat.le_refl _) _)).mono ?_)
       rintro e w3 ⟨rfl,hb3⟩
       have hb4:=Lib.hid (hv0.out.trans (hb3.mono (by first | exact hv0.out.size | (have:=HB.out.size;omega))))
       clear hb3
       go_wp2_with fail
       go_ret
       exact ⟨by rw [HQ.out,HST.out];rfl,hb4.out⟩
      ·have HST:=Lib.hid (show b=texM fil false (t.kids.drop (i+1)) by have:=hst.out;simpa using this)
       go_wp2_with (go_at_call 23;refine (KF.out _ ((Below.refl _ wr).alloc (Nat.le_refl _) _)).mono ?_)
       rintro e w3 ⟨rfl,hb3⟩
       have hb4:=Lib.hid (hv0.out.trans (hb3.mono (by first | exact hv0.out.size | (have:=HB.out.size;omega))))
       clear hb3
       go_wp2_with fail
       go_roundg (n-(i+1))
       case measure=>omega
       case rel=>exact ⟨i+1,false,by go_num,rfl,by omega,Nat.le_refl _,HST,hb4.out⟩
    ·have hme:b=true:=by rw [hrel.out,List.drop_eq_nil_of_le (by rw [HN.out];omega)];cases last <;> rfl
     have HME:=Lib.hid hme
     clear hrel hme
     go_wp2
     go_ret
     exact ⟨by rw [HQ.out,HME.out];rfl,HB.out⟩
def PlnR (o:Option (List UInt8)) (w:World) (e:Ending) (w':World):Prop:=
 (∃s:ByteArray,e=.returned (.tuple #[.string s,.bool o.isSome])∧∀n,o=some n→s=⟨n.toArray⟩)∧Below w.heap.size w w'
theorem plainY_no {t:Ny} (h:t.kind≠4∨t.text≠[]∨t.kids.length≠1):plainY t=none:=by
 unfold plainY
 match hk:t.kids with
 | []=>rfl
 | [k]=>
  simp only
  rw [if_neg]
  rintro ⟨h1,h2,_⟩
  rcases h with h | h | h
  ·exact h h1
  ·exact h h2
  ·rw [hk] at h;exact h rfl
 | _ :: _ :: _=>rfl
theorem plainY_one {t k:Ny} (h:t.kids=[k]) (h1:t.kind=4) (h2:t.text=[]) (h3:k.kind=5):plainY t=if isName k.text=true then some k.text else none:=by
 unfold plainY
 rw [h]
 simp [h1,h2,h3]
theorem plainY_ne {t k:Ny} (h:t.kids=[k]) (h3:k.kind≠5):plainY t=none:=by
 unfold plainY
 rw [h]
 simp [h3]
set_option maxHeartbeats 2000000 in
set_option maxRecDepth 100000 in
theorem shPlain_any (t:Ny) (hs:t.kids.length≤maxLen) (hkt:∀k∈t.kids,TF k.text) (A:Option Addr) (c:Nat) (w:World) (h:YT w t A c) :
  Calls Tryz.prog 54 #[yAgg t (.slice A t.kids.length c)] w (PlnR (plainY t) w):=by
 have hmax:t.kids.length≤9223372036854775807:=by unfold maxLen at hs;exact hs
 have no:=fun h=>plainY_no (t:=t) h
 simp only [yAgg]
 by_cases h4:t.kind=4
 ·by_cases hx:t.text=[]
  ·by_cases h1:t.kids.length=1
   ·obtain ⟨k,hk⟩:=List.length_eq_one_iff.1 h1
    have hkm:k∈t.kids:=by rw [hk];exact List.mem_singleton.2 rfl
    rw [h4,hx]
    obtain ⟨V,hV,hb0,hx0,hl0,c0,c1,c2⟩:=node_in w 4 ⟨#[]⟩ (.slice A t.kids.length c)
    have KQ:=Lib.hid (fun m:Nat=>quiet_left (isName_s k.text (V.drewN m) (hkt k hkm)))
    obtain ⟨q,o,rfl,hv⟩:=YT.kid (YX.below h hb0) (by rw [hk];simp)
    obtain ⟨A1,m1,r1,k1⟩:=hv 0 k (by rw [hk];rfl)
    obtain ⟨e0,e1,e2⟩:=y_at r1
    rw [Nat.zero_mul,Nat.add_zero] at e0 e1 e2
    rw [h1] at hV c2 ⊢
    have B0:=Lib.hid hb0
    clear no hv r1 k1 h hkm hkt hx0 hl0 hb0
    by_cases h5:k.kind=5
    ·have hp:=Lib.hid (plainY_one hk h4 hx h5)
     clear hk hs hmax hx h4 h1
     generalize isName k.text=b at *
     rw [hp.out]
     rw [h5] at e0
     clear hp h5
     go_enter Tryz.func54,Tryz.ntmps54
     go_upto_region 1 with fail
     have hV':V=w.alloc (.cells #[.int .i64 4,.string ⟨#[]⟩,.slice (some ⟨q,o,none⟩) 1 c] TN):=hV
     rw [←hV']
     clear hV hV'
     cases b
     ·go_upto_region 3 with fail
      go_quiet (first | (go_at_call 48;with_reducible exact KQ.out _))
      go_wp2
      go_ret2
      exact ⟨⟨_,rfl,fun _ h=>by cases h⟩,below_drewN B0.out _⟩
     ·go_upto_region 3 with fail
      go_quiet (first | (go_at_call 48;with_reducible exact KQ.out _))
      go_wp2
      go_ret2
      exact ⟨⟨_,rfl,fun _ h=>by cases h;rfl⟩,below_drewN B0.out _⟩
    ·rw [plainY_ne hk h5]
     clear hk hs hmax hx h4 h1 KQ
     generalize k.kind=kd at *
     go_enter Tryz.func54,Tryz.ntmps54
     go_upto_region 1 with fail
     have hV':V=w.alloc (.cells #[.int .i64 4,.string ⟨#[]⟩,.slice (some ⟨q,o,none⟩) 1 c] TN):=hV
     rw [←hV']
     clear hV hV'
     have hz:(kd==5)=false:=by simpa using h5
     go_wp2
     go_ret2
     exact ⟨⟨_,rfl,fun _ h=>by cases h⟩,B0.out⟩
   ·rw [no (.inr (.inr h1)),h4,hx]
    clear no h hkt
    generalize t.kids.length=n at *
    have hz:decide ((n:Int)=1)=false:=decide_eq_false (by omega)
    have hz1:((n:Int)==1)=false:=beq_false_of_ne (by omega)
    have hz2:¬(n:Int)=1:=by omega
    go_enter Tryz.func54,Tryz.ntmps54
    go_wp2
    go_ret2
    exact ⟨⟨_,rfl,fun _ h=>by cases h⟩,(Below.refl _ w).alloc (Nat.le_refl _) _⟩
  ·rw [no (.inr (.inl hx)),h4]
   clear no h hkt
   generalize t.kids.length=n at *
   have he:t.text.isEmpty=false:=by simpa using hx
   go_enter Tryz.func54,Tryz.ntmps54
   go_wp2
   go_ret2
   exact ⟨⟨_,rfl,fun _ h=>by cases h⟩,(Below.refl _ w).alloc (Nat.le_refl _) _⟩
 ·rw [no (.inl h4)]
  clear no h hkt
  generalize t.kids.length=n at *
  generalize t.kind=kd at *
  have hz:(kd==4)=false:=by simpa using h4
  go_enter Tryz.func54,Tryz.ntmps54
  go_wp2
  go_ret2
  exact ⟨⟨_,rfl,fun _ h=>by cases h⟩,(Below.refl _ w).alloc (Nat.le_refl _) _⟩
theorem trim_dol (x:List UInt8) (W:World):Calls Tryz.prog 76 #[.string ⟨x.toArray⟩,.string ⟨#[36]⟩] W fun e w'=>e=.returned (.string ⟨(cutDol x).toArray⟩)∧W=w':=by
 have h:=Tryz.strings_TrimPrefix ⟨x.toArray⟩ ⟨#[36]⟩ W
 have hp:=(pre_one x 36 (by decide)).2
 have e:Lib.trimPrefix x [36]=cutDol x:=by
  rw [hp]
  cases x with
  | nil=>rfl
  | cons c r=>
   have hb:bt (c::r) 0=c.toNat:=rfl
   rw [hb]
   show _ = if c=36 then r else c::r
   by_cases hc:c=36
   ·subst hc;rfl
   ·rw [if_neg hc,if_neg (fun h=>hc (UInt8.toNat_inj.1 h))]
 have e1:(⟨x.toArray⟩:ByteArray).data.toList=x:=rfl
 have e2:(⟨#[36]⟩:ByteArray).data.toList=[36]:=rfl
 rw [e1,e2,e] at h
 exact h.mono fun _ _ ⟨h1,h2⟩=>⟨h1,h2.symm⟩
theorem cutDol_len (x:List UInt8):(cutDol x).length≤x.length:=by
 cases x with
 | nil=>exact Nat.le_refl _
 | cons c r=>show (if c=36 then r else c::r).length≤_;split <;> simp
set_option maxHeartbeats 4000000 in
set_option maxRecDepth 100000 in
theorem shDef_any (fil:Ny→Bool) (t:Ny) (hs:t.kids.length≤maxLen) (hx:TF t.text) (hk:∀k∈t.kids,TF k.text) (HF:∀k∈t.kids,FilC fil k) (A:Option Addr) (c:Nat) (w:World) (hT:Tb w) (h:YT w t A c) :
  Calls Tryz.prog 52 #[yAgg t (.slice A t.kids.length c)] w (RetY (.bool (defM fil t)) fun w'=>Below w.heap.size w w'):=by
 have KN:=Lib.hid (fun W=>isName_s t.text W hx)
 have KT:=Lib.hid (fun (k:Ny) (W:World)=>RetY.of (trim_dol k.text W))
 have KM:=Lib.hid (fun (k:Ny) (hm:k∈t.kids) (W:World)=>isName_s (cutDol k.text) W (Nat.le_trans (cutDol_len _) (hk k hm)))
 have hmax:t.kids.length≤9223372036854775807:=by unfold maxLen at hs;exact hs
 obtain ⟨V,hV,hb0,hx0,hl0,c0,c1,c2⟩:=node_in w t.kind ⟨t.text.toArray⟩ (.slice A t.kids.length c)
 have B0:=Lib.hid hb0
 have HL0:=Lib.hid hl0
 unfold defM
 simp only [yAgg]
 by_cases h2:2≤t.kids.length
 ·rw [decide_eq_true h2]
  have hne:t.kids≠[]:=fun e=>by rw [e] at h2;simp at h2
  obtain ⟨q1,o1,rfl,hv1⟩:=YT.kid (YX.below h hb0) hne
  have hcap:=YT.caps h hne
  obtain ⟨m,hm⟩:∃m,m=t.kids.length-2:=⟨_,rfl⟩
  have hmk:t.kids.length=m+2:=by omega
  have KL:=Lib.hid (fun (W:World) (hb:Below w.heap.size w W)=>shFilters_any fil (.mk 0 [] (t.kids.drop m)) (by show (t.kids.drop m).length≤_;rw [List.length_drop];omega) (fun k hk=>HF k (List.mem_of_mem_drop hk)) _ _ W (hT.below hb (Nat.le_refl _)) (YT.drop (YX.below h hb) m (by omega)))
  have hdl:(t.kids.drop m).length=2:=by rw [List.length_drop];omega
  have hdk:(Ny.mk 0 [] (t.kids.drop m)).kids=t.kids.drop m:=rfl
  simp only [hdk,hdl] at KL
  have HH:=Lib.hid h
  rw [←hm]
  clear h HF hT hdl hdk hx hb0 hx0 hl0
  generalize isName t.text=b1 at *
  generalize (t.kids.drop m).all fil=b3 at *
  obtain ⟨b2,hb2⟩:∃b2,b2=(t.kids.take m).all parM:=⟨_,rfl⟩
  rw [←hb2]
  have HB2:=Lib.hid hb2
  clear hb2
  rw [hmk] at hV c2 hmax hcap ⊢
  have HMK:=Lib.hid hmk
  clear hv1
  clear hm hmk h2 hs
  cases b1
  ·go_enter Tryz.func52,Tryz.ntmps52
   go_upto_region 1 with fail
   rw [←hV]
   clear hV
   go_wp2_with (go_at_call 48;refine (KN.out _).mono ?_)
   rintro e w1 ⟨rfl,rfl⟩
   go_wp2_with fail
   go_ret
   exact ⟨rfl,B0.out⟩
  ·go_enter Tryz.func52,Tryz.ntmps52
   go_upto_region 1 with fail
   rw [←hV]
   clear hV
   go_wp2_with (go_at_call 48;refine (KN.out _).mono ?_)
   rintro e w1 ⟨rfl,rfl⟩
   go_wp2_with fail
   go_loopg [23] (m+1) (fun kx v wr=>∃i:Nat,v=.int .i64 (i:Int)∧i≤m∧m-i≤kx∧Hid (b2=((t.kids.take m).drop i).all parM)∧Below w.heap.size w wr∧wr.cell? ⟨w.heap.size,2,none⟩=some (.slice (some ⟨q1,o1,none⟩) (m+2) c)∧w.heap.size<wr.heap.size)
   case atStart=>exact ⟨0,rfl,Nat.zero_le _,by omega,HB2,B0.out,c2,HL0.out⟩
   case round=>
    obtain ⟨i,rfl,hi,hik,hrel,hb,cr,hwl⟩:=hrel
    have HWL:=Lib.hid hwl
    clear hwl
    have HB:=Lib.hid hb
    clear hb
    by_cases hlt:i<m
    ·obtain ⟨q2,o2,ee,hv1⟩:=YT.kid (YX.below HH.out HB.out) hne
     cases ee
     have hlt':i<t.kids.length:=by rw [HMK.out];omega
     obtain ⟨k,hk⟩:∃k,k=t.kids[i]:=⟨_,rfl⟩
     have hki:t.kids[i]?=some k:=by rw [hk];exact List.getElem?_eq_getElem hlt'
     have hkm:k∈t.kids:=List.mem_of_getElem? hki
     have hst:Hid (b2=((k.kind==27&&k.kids.isEmpty&&isName (cutDol k.text))&&((t.kids.take m).drop (i+1)).all parM)):=Lib.hid (by
      have hlm:i<(t.kids.take m).length:=by rw [List.length_take];omega
      have he:(t.kids.take m)[i]=k:=by rw [hk];exact List.getElem_take
      rw [hrel.out,List.drop_eq_getElem_cons hlm,List.all_cons,he];rfl)
     obtain ⟨A1,c1',r1,k1'⟩:=hv1 i k hki
     have KT1:=Lib.hid (fun (W:World)=>KT.out k W)
     have KM1:=Lib.hid (fun (W:World)=>KM.out k hkm W)
     clear hv1 hk hki hkm k1' hrel hlt'
     obtain ⟨e0,e1,e2⟩:=y_at r1
     clear r1
     have i0:(0:Int)≤(i:Int):=by omega
     have i1:(i:Int)<(m:Int):=by omega
     have hv0:=Lib.hid (show Below w.heap.size w (wr.alloc (.cells (yCells k (.slice A1 k.kids.length c1')).toArray TN)) from HB.out.alloc HB.out.size _)
     have hva:=(Below.refl wr.heap.size wr).alloc (Nat.le_refl _) (.cells (yCells k (.slice A1 k.kids.length c1')).toArray TN)
     have hcv:=Lib.hid ((hva.cell (p:=⟨w.heap.size,2,none⟩) HWL.out).trans cr)
     have hlv:=Lib.hid (Nat.lt_of_lt_of_le HWL.out hva.size)
     clear hva
     simp only [yCells] at hv0 hcv hlv
     have hke:k.kids.isEmpty=decide (k.kids.length=0):=by cases k.kids <;> simp
     rw [hke] at hst
     clear hke
     generalize isName (cutDol k.text)=so at *
     generalize k.kids.length=kn at *
     generalize k.kind=kd at *
     by_cases hkd:kd=27
     ·subst hkd
      by_cases hz:kn=0
      ·subst hz
       cases so
       ·have HST:=Lib.hid (show b2=false by have:=hst.out;simpa using this)
        go_wp2_with (go_at_call 76;refine (KT1.out _).mono ?_)
        rintro e w3 ⟨rfl,rfl⟩
        go_wp2_with (go_at_call 48;refine (KM1.out _).mono ?_)
        rintro e w3 ⟨rfl,rfl⟩
        go_wp2_with fail
        go_ret
        exact ⟨by rw [HST.out];rfl,hv0.out⟩
       ·have HST:=Lib.hid (show b2=((t.kids.take m).drop (i+1)).all parM by have:=hst.out;simpa using this)
        go_wp2_with (go_at_call 76;refine (KT1.out _).mono ?_)
        rintro e w3 ⟨rfl,rfl⟩
        go_wp2_with (go_at_call 48;refine (KM1.out _).mono ?_)
        rintro e w3 ⟨rfl,rfl⟩
        go_wp2_with fail
        go_roundg (m-(i+1))
        case measure=>omega
        case rel=>exact ⟨i+1,by go_num,by omega,Nat.le_refl _,HST,hv0.out,hcv.out,hlv.out⟩
      ·have HST:=Lib.hid (show b2=false by have:=hst.out;rw [decide_eq_false hz] at this;simpa using this)
       have hz0:decide ((0:Int)<(kn:Int))=true:=decide_eq_true (by omega)
       go_wp2_with fail
       go_ret
       exact ⟨by rw [HST.out];rfl,hv0.out⟩
     ·have hq0:(kd==27)=false:=by simpa using hkd
      have HST:=Lib.hid (show b2=false by have:=hst.out;rw [hq0] at this;simpa using this)
      go_wp2_with fail
      go_ret
      exact ⟨by rw [HST.out];rfl,hv0.out⟩
    ·have hme:b2=true:=by rw [hrel.out,List.drop_eq_nil_of_le (by rw [List.length_take];omega)];rfl
     have HME:=Lib.hid hme
     clear hrel hme
     go_wp2_with (go_at_call 51;refine (KL.out _ HB.out).mono ?_)
     rintro e w3 ⟨rfl,hb3⟩
     have hb4:=Lib.hid (HB.out.trans (hb3.mono HB.out.size))
     clear hb3
     go_wp2_with fail
     go_ret
     exact ⟨by rw [HME.out];rfl,hb4.out⟩
 ·rw [decide_eq_false h2]
  generalize t.kids.length=n at *
  clear KN KT KM h HF hk hT
  have hz:decide ((n:Int)-2<0)=true:=decide_eq_true (by omega)
  go_enter Tryz.func52,Tryz.ntmps52
  go_wp2
  go_ret
  exact ⟨rfl,(Below.refl _ w).alloc (Nat.le_refl _) _⟩
theorem shAre_lit (fil pat:Ny→Bool) (t:Ny) (hs:t.kids.length≤maxLen) (HF:∀k∈t.kids,FilC fil k) (HP:∀k∈t.kids,PatC pat k) (ks:List Nat) (hks:∀k∈ks,k≤2) (A:Option Addr) (c:Nat) (T:TypeId) (W:World) (hT:Tb W) (h:YT W t A c) :
  Calls Tryz.prog 49 #[yAgg t (.slice A t.kids.length c),.slice (some ⟨W.heap.size,0,none⟩) ks.length ks.length] (W.alloc (.cells (kCells ks).toArray T)) (RetY (.bool (areM fil pat t.kids ks)) fun w'=>Below W.heap.size W w'):=by
 have hb:Below W.heap.size W (W.alloc (.cells (kCells ks).toArray T)):=(Below.refl _ W).alloc (Nat.le_refl _) _
 exact (shAre_any fil pat t hs HF HP ks hks A c W.heap.size T (0,0) ks.length _ (hT.below hb (Nat.le_refl _)) (YX.below h hb) (Go.heap_alloc_new W _)).mono fun e w' ⟨h1,h2⟩=>⟨h1,hb.trans (h2.mono hb.size)⟩
set_option maxHeartbeats 4000000 in
set_option maxRecDepth 100000 in
theorem shUnt1_any (fil pat:Ny→Bool) (t:Ny) (hs:YS maxLen t) (HF:∀k∈t.kids,FilC fil k) (HP:∀k∈t.kids,PatC pat k):AskC 77 (fun k=>!entM fil pat k) t:=by
 intro A c w hT h
 show Calls _ _ _ _ (RetY (.bool (!entM fil pat t)) _)
 have KA:=fun (ks:List Nat) (hks:∀k∈ks,k≤2) (T:TypeId) (W:World) (hb:Below w.heap.size w W)=>shAre_lit fil pat t hs.len HF HP ks hks A c T W (hT.below hb (Nat.le_refl _)) (YX.below h hb)
 obtain ⟨V,hV,hb0,hx0,hl0,c0,c1,c2⟩:=node_in w t.kind ⟨t.text.toArray⟩ (.slice A t.kids.length c)
 have B0:=Lib.hid hb0
 have K:=Lib.hid (fun T=>KA [0,0] (by decide) T V hb0)
 clear KA HF HP hT h hb0 hx0 hl0 hs
 have hv:entM fil pat t=(t.kind==9&&t.text.isEmpty&&areM fil pat t.kids [0,0]):=rfl
 rw [hv]
 clear hv
 generalize areM fil pat t.kids [0,0]=b at *
 simp only [yAgg] at K ⊢
 generalize t.kids.length=n at *
 generalize t.kind=kd at *
 by_cases hk:kd=9
 ·subst hk
  by_cases hx:t.text=[]
  ·rw [hx] at hV c1 K ⊢
   cases b
   ·go_enter Tryz.func77,Tryz.ntmps77
    go_upto_region 1 with fail
    rw [←hV]
    clear hV
    go_wp2_with (go_at_call 49;refine (K.out _).mono ?_)
    rintro e w3 ⟨rfl,hb3⟩
    have hb4:=Lib.hid (B0.out.trans (hb3.mono B0.out.size))
    clear hb3
    go_wp2
    go_ret
    exact ⟨rfl,hb4.out⟩
   ·go_enter Tryz.func77,Tryz.ntmps77
    go_upto_region 1 with fail
    rw [←hV]
    clear hV
    go_wp2_with (go_at_call 49;refine (K.out _).mono ?_)
    rintro e w3 ⟨rfl,hb3⟩
    have hb4:=Lib.hid (B0.out.trans (hb3.mono B0.out.size))
    clear hb3
    go_wp2
    go_ret
    exact ⟨rfl,hb4.out⟩
  ·have he:t.text.isEmpty=false:=by simpa using hx
   rw [he]
   go_enter Tryz.func77,Tryz.ntmps77
   go_wp2
   go_ret
   exact ⟨rfl,(Below.refl _ w).alloc (Nat.le_refl _) _⟩
 ·have hq:(kd==9)=false:=by simpa using hk
  rw [hq]
  go_enter Tryz.func77,Tryz.ntmps77
  go_wp2
  go_ret
  exact ⟨rfl,(Below.refl _ w).alloc (Nat.le_refl _) _⟩
set_option maxHeartbeats 8000000 in
set_option maxRecDepth 100000 in
theorem shUnt_any (fil pat:Ny→Bool) (t:Ny) (hs:YS maxLen t) (HF:∀k∈t.kids,FilC fil k) (HP:∀k∈t.kids,PatC pat k) (HE:∀k∈t.kids,(∀j∈k.kids,FilC fil j)∧∀j∈k.kids,PatC pat j):AskC 53 (untM fil pat) t:=by
 intro A c w hT h
 show Calls _ _ _ _ (RetY (.bool (untM fil pat t)) _)
 have KA:=fun (ks:List Nat) (hks:∀k∈ks,k≤2) (T:TypeId) (W:World) (hb:Below w.heap.size w W)=>shAre_lit fil pat t hs.len HF HP ks hks A c T W (hT.below hb (Nat.le_refl _)) (YX.below h hb)
 obtain ⟨V,hV,hb0,hx0,hl0,c0,c1,c2⟩:=node_in w t.kind ⟨t.text.toArray⟩ (.slice A t.kids.length c)
 have hmax:t.kids.length≤9223372036854775807:=by have:=hs.len;unfold maxLen at this;exact this
 have B0:=Lib.hid hb0
 have KC:=Lib.hid (fun (W:World) (hb:Below w.heap.size w W)=>shContF_any 77 (fun _ _=>rfl) (fun k=>!entM fil pat k) t hs.len (fun k hk=>shUnt1_any fil pat k (hs.kid k hk) (HE k hk).1 (HE k hk).2) A c W (hT.below hb (Nat.le_refl _)) (YX.below h hb))
 have HH:=Lib.hid h
 simp only [yAgg] at KA ⊢
 by_cases hk7:t.kind=7
 ·have hv:untM fil pat t=(t.kids.isEmpty||areM fil pat t.kids [0]):=by unfold untM;simp [hk7]
  have hke:t.kids.isEmpty=decide (t.kids.length=0):=by cases t.kids <;> simp
  rw [hv,hke]
  rw [hk7] at hV c0 KA ⊢
  clear hv hk7 hke KC HH hs HE HF HP hT h hb0 hx0 hl0
  have K:=Lib.hid (fun T=>KA [0] (by decide) T V B0.out)
  clear KA
  generalize areM fil pat t.kids [0]=b at *
  generalize t.kids.length=n at *
  by_cases hn:n=0
  ·subst hn
   go_enter Tryz.func53,Tryz.ntmps53
   go_upto_region 1 with fail
   rw [←hV]
   clear hV
   go_wp2
   go_ret
   exact ⟨rfl,B0.out⟩
  ·rw [decide_eq_false hn,Bool.false_or]
   have hz:((n:Int)==0)=false:=beq_false_of_ne (by omega)
   go_enter Tryz.func53,Tryz.ntmps53
   go_upto_region 1 with fail
   rw [←hV]
   clear hV
   go_wp2_with (go_at_call 49;refine (K.out _).mono ?_)
   rintro e w3 ⟨rfl,hb3⟩
   have hb4:=Lib.hid (B0.out.trans (hb3.mono B0.out.size))
   clear hb3
   go_wp2_with fail
   go_ret
   exact ⟨rfl,hb4.out⟩
 by_cases hk8:t.kind=8
 ·have hv:untM fil pat t=t.kids.all (entM fil pat):=by unfold untM;simp [hk8]
  rw [hv,←all_not_any]
  rw [hk8] at hV c0 ⊢
  clear hv hk8 KA HH hs HE HF HP hT h hb0 hx0 hl0
  generalize (t.kids.any fun k=>!entM fil pat k)=b at *
  go_enter Tryz.func53,Tryz.ntmps53
  go_upto_region 1 with fail
  rw [←hV]
  clear hV
  go_wp2_with (go_at_call 74;refine (KC.out _ B0.out).mono ?_)
  rintro e w3 ⟨rfl,hb3⟩
  have hb4:=Lib.hid (B0.out.trans (hb3.mono B0.out.size))
  clear hb3
  go_wp2_with fail
  go_ret
  exact ⟨rfl,hb4.out⟩
 by_cases hk10:t.kind=10
 ·have hv:untM fil pat t=areM fil pat t.kids [0,0]:=by unfold untM;simp [hk10]
  rw [hv]
  rw [hk10] at hV c0 KA ⊢
  clear hv hk10 KC HH hs HE HF HP hT h hb0 hx0 hl0
  have K:=Lib.hid (fun T=>KA [0,0] (by decide) T V B0.out)
  clear KA
  generalize areM fil pat t.kids [0,0]=b at *
  go_enter Tryz.func53,Tryz.ntmps53
  go_upto_region 1 with fail
  rw [←hV]
  clear hV
  go_wp2_with (go_at_call 49;refine (K.out _).mono ?_)
  rintro e w3 ⟨rfl,hb3⟩
  have hb4:=Lib.hid (B0.out.trans (hb3.mono B0.out.size))
  clear hb3
  go_wp2_with fail
  go_ret
  exact ⟨rfl,hb4.out⟩
 by_cases hk15:t.kind=15
 ·have hv:untM fil pat t=areM fil pat t.kids [0,0]:=by unfold untM;simp [hk15]
  rw [hv]
  rw [hk15] at hV c0 KA ⊢
  clear hv hk15 KC HH hs HE HF HP hT h hb0 hx0 hl0
  have K:=Lib.hid (fun T=>KA [0,0] (by decide) T V B0.out)
  clear KA
  generalize areM fil pat t.kids [0,0]=b at *
  go_enter Tryz.func53,Tryz.ntmps53
  go_upto_region 1 with fail
  rw [←hV]
  clear hV
  go_wp2_with (go_at_call 49;refine (K.out _).mono ?_)
  rintro e w3 ⟨rfl,hb3⟩
  have hb4:=Lib.hid (B0.out.trans (hb3.mono B0.out.size))
  clear hb3
  go_wp2_with fail
  go_ret
  exact ⟨rfl,hb4.out⟩
 by_cases hk16:t.kind=16
 ·have hv:untM fil pat t=areM fil pat t.kids [0,0]:=by unfold untM;simp [hk16]
  rw [hv]
  rw [hk16] at hV c0 KA ⊢
  clear hv hk16 KC HH hs HE HF HP hT h hb0 hx0 hl0
  have K:=Lib.hid (fun T=>KA [0,0] (by decide) T V B0.out)
  clear KA
  generalize areM fil pat t.kids [0,0]=b at *
  go_enter Tryz.func53,Tryz.ntmps53
  go_upto_region 1 with fail
  rw [←hV]
  clear hV
  go_wp2_with (go_at_call 49;refine (K.out _).mono ?_)
  rintro e w3 ⟨rfl,hb3⟩
  have hb4:=Lib.hid (B0.out.trans (hb3.mono B0.out.size))
  clear hb3
  go_wp2_with fail
  go_ret
  exact ⟨rfl,hb4.out⟩
 by_cases hk11:t.kind=11
 ·have hv:untM fil pat t=(areM fil pat t.kids [0,2,2]&&(!(kindAt t 1==32)||!(kindAt t 2==32))):=by unfold untM;simp [hk11]
  rw [hv]
  rw [hk11] at hV c0 KA ⊢
  clear hv hk11 KC HE HF HP hT h hb0 hx0 hl0
  have hl3:=areM_len (fil:=fil) (pat:=pat) t.kids [0,2,2]
  have K:=Lib.hid (fun T=>KA [0,2,2] (by decide) T V B0.out)
  clear KA
  generalize areM fil pat t.kids [0,2,2]=b at *
  cases b
  ·clear hl3 HH hs
   go_enter Tryz.func53,Tryz.ntmps53
   go_upto_region 1 with fail
   rw [←hV]
   clear hV
   go_wp2_with (go_at_call 49;refine (K.out _).mono ?_)
   rintro e w3 ⟨rfl,hb3⟩
   have hb4:=Lib.hid (B0.out.trans (hb3.mono B0.out.size))
   clear hb3
   go_wp2_with fail
   go_ret
   exact ⟨rfl,hb4.out⟩
  ·have hl:t.kids.length=3:=Decidable.byContradiction fun h=>by have:=hl3 h;cases this
   clear hl3 hs
   obtain ⟨x0,x1,x2,hks⟩:∃x0 x1 x2,t.kids=[x0,x1,x2]:=by
    match hq:t.kids,hl with
    | [a,b,c],_=>exact ⟨a,b,c,rfl⟩
   have k1:kindAt t 1=x1.kind:=by unfold kindAt;rw [hks];rfl
   have k2:kindAt t 2=x2.kind:=by unfold kindAt;rw [hks];rfl
   rw [k1,k2]
   obtain ⟨q,o,rfl,_⟩:=YT.kid HH.out (by rw [hks];simp)
   have HV:=Lib.hid (fun (W:World) (hb:Below w.heap.size w W)=>show W.cell? ⟨q,o+3,none⟩=some (.int .i64 x1.kind)∧W.cell? ⟨q,o+6,none⟩=some (.int .i64 x2.kind) by
    obtain ⟨q',o',ee,hv⟩:=YT.kid (YX.below HH.out hb) (by rw [hks];simp)
    cases ee
    obtain ⟨_,_,r1,_⟩:=hv 1 x1 (by rw [hks];rfl)
    obtain ⟨_,_,r2,_⟩:=hv 2 x2 (by rw [hks];rfl)
    exact ⟨(y_at r1).1,(y_at r2).1⟩)
   have HL:=Lib.hid hl
   rw [hl] at hV c2 K ⊢
   have HX:=Lib.hid (show V.heap[w.heap.size]?=some (.cells #[.int .i64 11,.string ⟨t.text.toArray⟩,.slice (some ⟨q,o,none⟩) 3 c] TN (0,0)) by rw [hV];exact Go.heap_alloc_new w _)
   have HLT:=Lib.hid ((Array.getElem?_eq_some_iff.1 HX.out).1)
   clear k1 k2 hks hl HH hmax
   generalize x1.kind=a1 at *
   generalize x2.kind=a2 at *
   go_enter Tryz.func53,Tryz.ntmps53
   go_upto_region 1 with fail
   rw [←hV]
   clear hV
   go_wp2_with (go_at_call 49;refine (K.out _).mono ?_)
   rintro e w3 ⟨rfl,hb3⟩
   have hb4:=Lib.hid (B0.out.trans (hb3.mono B0.out.size))
   have d2:w3.cell? ⟨w.heap.size,2,none⟩=some (.slice (some ⟨q,o,none⟩) 3 c):=by rw [Lib.cell_of_heap ((hb3.block w.heap.size HLT.out).trans HX.out)];rfl
   obtain ⟨v1,v2⟩:=HV.out w3 hb4.out
   clear hb3 c2 c1 c0
   by_cases g1:a1=32
   ·subst g1
    by_cases g2:a2=32
    ·subst g2
     go_wp2_with fail
     go_ret
     exact ⟨rfl,hb4.out⟩
    ·have z2:(a2==32)=false:=by simpa using g2
     go_wp2_with fail
     go_ret
     exact ⟨by first | rfl | (rw [z2];rfl),hb4.out⟩
   ·have z1:(a1==32)=false:=by simpa using g1
    go_wp2_with fail
    go_ret
    exact ⟨by first | rfl | (rw [z1];rfl),hb4.out⟩
 by_cases hk12:t.kind=12
 ·have hv:untM fil pat t=areM fil pat t.kids [0]:=by unfold untM;simp [hk12]
  rw [hv]
  rw [hk12] at hV c0 KA ⊢
  clear hv hk12 KC HH hs HE HF HP hT h hb0 hx0 hl0
  have K:=Lib.hid (fun T=>KA [0] (by decide) T V B0.out)
  clear KA
  generalize areM fil pat t.kids [0]=b at *
  go_enter Tryz.func53,Tryz.ntmps53
  go_upto_region 1 with fail
  rw [←hV]
  clear hV
  go_wp2_with (go_at_call 49;refine (K.out _).mono ?_)
  rintro e w3 ⟨rfl,hb3⟩
  have hb4:=Lib.hid (B0.out.trans (hb3.mono B0.out.size))
  clear hb3
  go_wp2_with fail
  go_ret
  exact ⟨rfl,hb4.out⟩
 by_cases hk14:t.kind=14
 ·have hv:untM fil pat t=areM fil pat t.kids [0]:=by unfold untM;simp [hk14]
  rw [hv]
  rw [hk14] at hV c0 KA ⊢
  clear hv hk14 KC HH hs HE HF HP hT h hb0 hx0 hl0
  have K:=Lib.hid (fun T=>KA [0] (by decide) T V B0.out)
  clear KA
  generalize areM fil pat t.kids [0]=b at *
  go_enter Tryz.func53,Tryz.ntmps53
  go_upto_region 1 with fail
  rw [←hV]
  clear hV
  go_wp2_with (go_at_call 49;refine (K.out _).mono ?_)
  rintro e w3 ⟨rfl,hb3⟩
  have hb4:=Lib.hid (B0.out.trans (hb3.mono B0.out.size))
  clear hb3
  go_wp2_with fail
  go_ret
  exact ⟨rfl,hb4.out⟩
 by_cases hk13:t.kind=13
 ·have hv:untM fil pat t=(areM fil pat t.kids [0]||areM fil pat t.kids [0,0]):=by unfold untM;simp [hk13]
  rw [hv]
  rw [hk13] at hV c0 KA ⊢
  clear hv hk13 KC HH hs HE HF HP hT h hb0 hx0 hl0
  have K1:=Lib.hid (fun T=>KA [0] (by decide) T V B0.out)
  have K2:=Lib.hid (fun T W hb=>KA [0,0] (by decide) T W hb)
  clear KA
  generalize areM fil pat t.kids [0]=b at *
  generalize areM fil pat t.kids [0,0]=b2 at *
  have HX:=Lib.hid (show V.heap[w.heap.size]?=some (.cells #[.int .i64 13,.string ⟨t.text.toArray⟩,.slice A t.kids.length c] TN (0,0)) by rw [hV];exact Go.heap_alloc_new w _)
  have HLT:=Lib.hid ((Array.getElem?_eq_some_iff.1 HX.out).1)
  cases b
  ·skip
   go_enter Tryz.func53,Tryz.ntmps53
   go_upto_region 1 with fail
   rw [←hV]
   clear hV
   go_wp2_with (go_at_call 49;refine (K1.out _).mono ?_)
   rintro e w3 ⟨rfl,hb3⟩
   have hb4:=Lib.hid (B0.out.trans (hb3.mono B0.out.size))
   have hy:=(hb3.block w.heap.size HLT.out).trans HX.out
   have d0:w3.cell? ⟨w.heap.size,0,none⟩=some (.int .i64 13):=by rw [Lib.cell_of_heap hy];rfl
   have d1:w3.cell? ⟨w.heap.size,1,none⟩=some (.string ⟨t.text.toArray⟩):=by rw [Lib.cell_of_heap hy];rfl
   have d2:w3.cell? ⟨w.heap.size,2,none⟩=some (.slice A t.kids.length c):=by rw [Lib.cell_of_heap hy];rfl
   clear hb3 hy c0 c1 c2
   go_wp2_with (go_at_call 49;refine (K2.out _ _ hb4.out).mono ?_)
   rintro e w5 ⟨rfl,hb5⟩
   have hb6:=Lib.hid (hb4.out.trans (hb5.mono hb4.out.size))
   clear hb5
   go_wp2_with fail
   go_ret
   exact ⟨rfl,hb6.out⟩
  ·skip
   go_enter Tryz.func53,Tryz.ntmps53
   go_upto_region 1 with fail
   rw [←hV]
   clear hV
   go_wp2_with (go_at_call 49;refine (K1.out _).mono ?_)
   rintro e w3 ⟨rfl,hb3⟩
   have hb4:=Lib.hid (B0.out.trans (hb3.mono B0.out.size))
   clear hb3
   go_wp2_with fail
   go_ret
   exact ⟨rfl,hb4.out⟩
 by_cases hk18:t.kind=18
 ·have hv:untM fil pat t=areM fil pat t.kids [0,0,2]:=by unfold untM;simp [hk18]
  rw [hv]
  rw [hk18] at hV c0 KA ⊢
  clear hv hk18 KC HH hs HE HF HP hT h hb0 hx0 hl0
  have K:=Lib.hid (fun T=>KA [0,0,2] (by decide) T V B0.out)
  clear KA
  generalize areM fil pat t.kids [0,0,2]=b at *
  go_enter Tryz.func53,Tryz.ntmps53
  go_upto_region 1 with fail
  rw [←hV]
  clear hV
  go_wp2_with (go_at_call 49;refine (K.out _).mono ?_)
  rintro e w3 ⟨rfl,hb3⟩
  have hb4:=Lib.hid (B0.out.trans (hb3.mono B0.out.size))
  clear hb3
  go_wp2_with fail
  go_ret
  exact ⟨rfl,hb4.out⟩
 by_cases hk19:t.kind=19
 ·have hv:untM fil pat t=areM fil pat t.kids [0,1,0,0]:=by unfold untM;simp [hk19]
  rw [hv]
  rw [hk19] at hV c0 KA ⊢
  clear hv hk19 KC HH hs HE HF HP hT h hb0 hx0 hl0
  have K:=Lib.hid (fun T=>KA [0,1,0,0] (by decide) T V B0.out)
  clear KA
  generalize areM fil pat t.kids [0,1,0,0]=b at *
  go_enter Tryz.func53,Tryz.ntmps53
  go_upto_region 1 with fail
  rw [←hV]
  clear hV
  go_wp2_with (go_at_call 49;refine (K.out _).mono ?_)
  rintro e w3 ⟨rfl,hb3⟩
  have hb4:=Lib.hid (B0.out.trans (hb3.mono B0.out.size))
  clear hb3
  go_wp2_with fail
  go_ret
  exact ⟨rfl,hb4.out⟩
 by_cases hk20:t.kind=20
 ·have hv:untM fil pat t=areM fil pat t.kids [0,1,0,0,2]:=by unfold untM;simp [hk20]
  rw [hv]
  rw [hk20] at hV c0 KA ⊢
  clear hv hk20 KC HH hs HE HF HP hT h hb0 hx0 hl0
  have K:=Lib.hid (fun T=>KA [0,1,0,0,2] (by decide) T V B0.out)
  clear KA
  generalize areM fil pat t.kids [0,1,0,0,2]=b at *
  go_enter Tryz.func53,Tryz.ntmps53
  go_upto_region 1 with fail
  rw [←hV]
  clear hV
  go_wp2_with (go_at_call 49;refine (K.out _).mono ?_)
  rintro e w3 ⟨rfl,hb3⟩
  have hb4:=Lib.hid (B0.out.trans (hb3.mono B0.out.size))
  clear hb3
  go_wp2_with fail
  go_ret
  exact ⟨rfl,hb4.out⟩
 by_cases hk23:t.kind=23
 ·have hv:untM fil pat t=areM fil pat t.kids [0,1,0]:=by unfold untM;simp [hk23]
  rw [hv]
  rw [hk23] at hV c0 KA ⊢
  clear hv hk23 KC HH hs HE HF HP hT h hb0 hx0 hl0
  have K:=Lib.hid (fun T=>KA [0,1,0] (by decide) T V B0.out)
  clear KA
  generalize areM fil pat t.kids [0,1,0]=b at *
  go_enter Tryz.func53,Tryz.ntmps53
  go_upto_region 1 with fail
  rw [←hV]
  clear hV
  go_wp2_with (go_at_call 49;refine (K.out _).mono ?_)
  rintro e w3 ⟨rfl,hb3⟩
  have hb4:=Lib.hid (B0.out.trans (hb3.mono B0.out.size))
  clear hb3
  go_wp2_with fail
  go_ret
  exact ⟨rfl,hb4.out⟩
 have hv:untM fil pat t=false:=by unfold untM;simp [hk7,hk8,hk10,hk15,hk16,hk11,hk12,hk14,hk13,hk18,hk19,hk20,hk23]
 rw [hv]
 clear hv KC HH hs KA HE HF HP hT h hb0 hx0 hl0
 generalize t.kind=kd at *
 go_enter Tryz.func53,Tryz.ntmps53
 go_upto_region 1 with fail
 rw [←hV]
 clear hV
 go_wp2_with fail
 go_ret
 exact ⟨rfl,B0.out⟩
set_option maxHeartbeats 1000000 in
theorem shPat1_any (pat:Ny→Bool) (k:Ny) (hk:PatC pat k):AskC 108 (fun k=>!pat k) k:=by
 intro A c w hT h
 show Calls _ _ _ _ (RetY (.bool (!pat k)) _)
 have K:=Lib.hid (fun (W:World) (hb:Below w.heap.size w W)=>hk A c W (hT.below hb (Nat.le_refl _)) (YX.below h hb))
 have hb0:=Lib.hid (show Below w.heap.size w (w.alloc (.cells (yCells k (.slice A k.kids.length c)).toArray TN)) from (Below.refl _ w).alloc (Nat.le_refl _) _)
 clear hk hT h
 generalize pat k=b at *
 simp only [yAgg] at K ⊢
 go_enter Tryz.func108,Tryz.ntmps108
 go_wp2_with (go_at_call 73;refine (K.out _ (by first | exact hb0.out | exact Below.refl _ _)).mono ?_)
 rintro e w1 ⟨rfl,hb⟩
 have hb4:=Lib.hid (hb0.out.trans (hb.mono hb0.out.size))
 clear hb
 go_wp2
 go_ret
 exact ⟨rfl,hb4.out⟩
set_option maxHeartbeats 4000000 in
set_option maxRecDepth 100000 in
theorem shPat2_any (fil pat:Ny→Bool) (t:Ny) (hs:YS maxLen t) (hx:TF t.text) (HF:∀k∈t.kids,FilC fil k) (HP:∀k∈t.kids,PatC pat k):AskC 109 (fun k=>!keyM fil pat k) t:=by
 intro A c w hT h
 show Calls _ _ _ _ (RetY (.bool (!keyM fil pat t)) _)
 have KA:=fun (ks:List Nat) (hks:∀k∈ks,k≤2) (T:TypeId) (W:World) (hb:Below w.heap.size w W)=>shAre_lit fil pat t hs.len HF HP ks hks A c T W (hT.below hb (Nat.le_refl _)) (YX.below h hb)
 obtain ⟨V,hV,hb0,hx0,hl0,c0,c1,c2⟩:=node_in w t.kind ⟨t.text.toArray⟩ (.slice A t.kids.length c)
 have B0:=Lib.hid hb0
 have K:=Lib.hid (fun T W hb=>KA [1] (by decide) T W hb)
 have KS:=Lib.hid (shSound_any t.text V hx (hT.below hb0 (Nat.le_refl _)))
 have X0:=Lib.hid hx0
 have L0:=Lib.hid hl0
 clear KA HF HP hT h hb0 hx0 hl0 hs
 have hv:keyM fil pat t=(t.kind==31&&isSound t.text&&areM fil pat t.kids [1]):=rfl
 rw [hv]
 clear hv
 generalize areM fil pat t.kids [1]=b at *
 generalize isSound t.text=so at *
 simp only [yAgg] at K ⊢
 generalize t.kids.length=n at *
 generalize t.kind=kd at *
 by_cases hk:kd=31
 ·subst hk
  cases so
  ·go_enter Tryz.func109,Tryz.ntmps109
   go_upto_region 1 with fail
   rw [←hV]
   clear hV
   go_wp2_with (go_at_call 71;refine KS.out.mono ?_)
   rintro e w3 ⟨rfl,hb3⟩
   have hb4:=Lib.hid (B0.out.trans (hb3.mono B0.out.size))
   clear hb3
   go_wp2
   go_ret
   exact ⟨rfl,hb4.out⟩
  ·go_enter Tryz.func109,Tryz.ntmps109
   go_upto_region 1 with fail
   rw [←hV]
   clear hV
   go_wp2_with (go_at_call 71;refine KS.out.mono ?_)
   rintro e w3 ⟨rfl,hb3⟩
   have hb4:=Lib.hid (B0.out.trans (hb3.mono B0.out.size))
   have hy:=(hb3.block w.heap.size L0.out).trans X0.out
   have d0:w3.cell? ⟨w.heap.size,0,none⟩=some (.int .i64 31):=by rw [Lib.cell_of_heap hy];rfl
   have d1:w3.cell? ⟨w.heap.size,1,none⟩=some (.string ⟨t.text.toArray⟩):=by rw [Lib.cell_of_heap hy];rfl
   have d2:w3.cell? ⟨w.heap.size,2,none⟩=some (.slice A n c):=by rw [Lib.cell_of_heap hy];rfl
   clear hb3 hy c0 c1 c2
   go_wp2_with (go_at_call 49;refine (K.out _ _ hb4.out).mono ?_)
   rintro e w5 ⟨rfl,hb5⟩
   have hb6:=Lib.hid (hb4.out.trans (hb5.mono hb4.out.size))
   clear hb5
   go_wp2
   go_ret
   exact ⟨by first | rfl | (cases b <;> rfl),hb6.out⟩
 ·have hq:(kd==31)=false:=by simpa using hk
  rw [hq]
  go_enter Tryz.func109,Tryz.ntmps109
  go_wp2
  go_ret
  exact ⟨rfl,(Below.refl _ w).alloc (Nat.le_refl _) _⟩
set_option maxHeartbeats 4000000 in
set_option maxRecDepth 100000 in
theorem shPat_any (fil pat:Ny→Bool) (t:Ny) (hs:YS maxLen t) (hx:TF t.text) (hk:∀k∈t.kids,TF k.text) (HP:∀k∈t.kids,PatC pat k) (HE:∀k∈t.kids,(∀j∈k.kids,FilC fil j)∧∀j∈k.kids,PatC pat j):AskC 73 (patS fil pat) t:=by
 intro A c w hT h
 show Calls _ _ _ _ (RetY (.bool (patS fil pat t)) _)
 have hmax:t.kids.length≤9223372036854775807:=by have:=hs.len;unfold maxLen at this;exact this
 obtain ⟨V,hV,hb0,hx0,hl0,c0,c1,c2⟩:=node_in w t.kind ⟨t.text.toArray⟩ (.slice A t.kids.length c)
 have B0:=Lib.hid hb0
 have K1:=Lib.hid (fun (W:World) (hb:Below w.heap.size w W)=>shContF_any 108 (fun _ _=>rfl) (fun k=>!pat k) t hs.len (fun k hk=>shPat1_any pat k (HP k hk)) A c W (hT.below hb (Nat.le_refl _)) (YX.below h hb))
 have K2:=Lib.hid (fun (W:World) (hb:Below w.heap.size w W)=>shContF_any 109 (fun _ _=>rfl) (fun k=>!keyM fil pat k) t hs.len (fun k hm=>shPat2_any fil pat k (hs.kid k hm) (hk k hm) (HE k hm).1 (HE k hm).2) A c W (hT.below hb (Nat.le_refl _)) (YX.below h hb))
 have KN:=Lib.hid (fun W=>isName_s t.text W hx)
 have hke:t.kids.isEmpty=decide (t.kids.length=0):=by cases t.kids <;> simp
 clear HE HP hT h hb0 hx0 hl0 hs hk hx
 simp only [yAgg]
 by_cases h28:t.kind=28
 ·have hv:patS fil pat t=(t.kids.isEmpty&&isName t.text):=by unfold patS;simp [h28]
  rw [hv,hke]
  rw [h28] at hV c0 ⊢
  clear hv h28 hke K1 K2
  generalize isName t.text=b at *
  generalize t.kids.length=n at *
  by_cases hn:n=0
  ·subst hn
   go_enter Tryz.func73,Tryz.ntmps73
   go_upto_region 1 with fail
   rw [←hV]
   clear hV
   go_wp2_with (go_at_call 48;refine (KN.out _).mono ?_)
   rintro e w3 ⟨rfl,rfl⟩
   go_wp2
   go_ret
   exact ⟨rfl,B0.out⟩
  ·have hz:((n:Int)==0)=false:=beq_false_of_ne (by omega)
   rw [decide_eq_false hn]
   go_enter Tryz.func73,Tryz.ntmps73
   go_upto_region 1 with fail
   rw [←hV]
   clear hV
   go_wp2
   go_ret
   exact ⟨rfl,B0.out⟩
 by_cases h29:t.kind=29
 ·have hv:patS fil pat t=(t.text.isEmpty&&!t.kids.isEmpty&&t.kids.all pat):=by unfold patS;simp [h29]
  rw [hv,hke,←all_not_any]
  rw [h29] at hV c0 ⊢
  clear hv h29 h28 hke K2 KN
  generalize (t.kids.any fun k=>!pat k)=b at *
  generalize t.kids.length=n at *
  by_cases hx:t.text=[]
  ·rw [hx] at hV c1 ⊢
   by_cases hn:n=0
   ·subst hn
    go_enter Tryz.func73,Tryz.ntmps73
    go_upto_region 1 with fail
    rw [←hV]
    clear hV
    go_wp2
    go_ret
    exact ⟨rfl,B0.out⟩
   ·rw [decide_eq_false hn]
    have hz:decide ((0:Int)<(n:Int))=true:=decide_eq_true (by omega)
    go_enter Tryz.func73,Tryz.ntmps73
    go_upto_region 1 with fail
    rw [←hV]
    clear hV
    go_wp2_with (go_at_call 74;refine (K1.out _ B0.out).mono ?_)
    rintro e w3 ⟨rfl,hb3⟩
    have hb4:=Lib.hid (B0.out.trans (hb3.mono B0.out.size))
    clear hb3
    go_wp2
    go_ret
    exact ⟨rfl,hb4.out⟩
  ·have he:t.text.isEmpty=false:=by simpa using hx
   rw [he]
   go_enter Tryz.func73,Tryz.ntmps73
   go_upto_region 1 with fail
   rw [←hV]
   clear hV
   go_wp2
   go_ret
   exact ⟨rfl,B0.out⟩
 by_cases h30:t.kind=30
 ·have hv:patS fil pat t=(t.text.isEmpty&&!t.kids.isEmpty&&t.kids.all (keyM fil pat)):=by unfold patS;simp [h30]
  rw [hv,hke,←all_not_any]
  rw [h30] at hV c0 ⊢
  clear hv h30 h29 h28 hke K1 KN
  generalize (t.kids.any fun k=>!keyM fil pat k)=b at *
  generalize t.kids.length=n at *
  by_cases hx:t.text=[]
  ·rw [hx] at hV c1 ⊢
   by_cases hn:n=0
   ·subst hn
    go_enter Tryz.func73,Tryz.ntmps73
    go_upto_region 1 with fail
    rw [←hV]
    clear hV
    go_wp2
    go_ret
    exact ⟨rfl,B0.out⟩
   ·rw [decide_eq_false hn]
    have hz:decide ((0:Int)<(n:Int))=true:=decide_eq_true (by omega)
    go_enter Tryz.func73,Tryz.ntmps73
    go_upto_region 1 with fail
    rw [←hV]
    clear hV
    go_wp2_with (go_at_call 74;refine (K2.out _ B0.out).mono ?_)
    rintro e w3 ⟨rfl,hb3⟩
    have hb4:=Lib.hid (B0.out.trans (hb3.mono B0.out.size))
    clear hb3
    go_wp2
    go_ret
    exact ⟨rfl,hb4.out⟩
  ·have he:t.text.isEmpty=false:=by simpa using hx
   rw [he]
   go_enter Tryz.func73,Tryz.ntmps73
   go_upto_region 1 with fail
   rw [←hV]
   clear hV
   go_wp2
   go_ret
   exact ⟨rfl,B0.out⟩
 have hv:patS fil pat t=false:=by unfold patS;simp [h28,h29,h30]
 rw [hv]
 clear hv K1 K2 KN hke
 generalize t.kind=kd at *
 go_enter Tryz.func73,Tryz.ntmps73
 go_upto_region 1 with fail
 rw [←hV]
 clear hV
 go_wp2
 go_ret
 exact ⟨rfl,B0.out⟩
def opsL:List ByteArray:=opsT.map fun x=>⟨x.toArray⟩
theorem ops_cell (w:World) (T:TypeId) (j:Nat) (hj:j<opsL.length):(w.alloc (.cells (opsL.map Value.string).toArray T)).cell? ⟨w.heap.size,0+j,none⟩=some (.string (opsL.getD j ByteArray.empty)):=by
 rw [Lib.cell_of_heap (World.alloc_heap_new w _),Nat.zero_add]
 simp [List.getElem?_map,List.getElem?_eq_getElem hj]
theorem isOp_of (t:List UInt8):Lib.containsS opsL ⟨t.toArray⟩=isOp t:=by
 unfold isOp opsL
 rw [Bool.eq_iff_iff,Lib.containsS_iff]
 simp
theorem op_in (t:List UInt8) (w:World):Calls Tryz.prog 25 #[.slice (some ⟨w.heap.size,0,none⟩) 22 22,.string ⟨t.toArray⟩] (w.alloc (.cells (opsL.map Value.string).toArray 9)) (RetY (.bool (isOp t)) fun w'=>w'=w.alloc (.cells (opsL.map Value.string).toArray 9)):=by
 have k1:=Tryz.slices_Contains_string w.heap.size 0 22 22 opsL ⟨t.toArray⟩ (w.alloc (.cells (opsL.map Value.string).toArray 9)) (by decide) (by decide) (ops_cell w _)
 have htk:opsL.take 22=opsL:=rfl
 rw [htk,isOp_of] at k1
 exact RetY.of k1
set_option maxHeartbeats 8000000 in
set_option maxRecDepth 100000 in
theorem shFil_any (fil pat:Ny→Bool) (t:Ny) (hs:YS maxLen t) (hx:TF t.text) (hk:∀k∈t.kids,TF k.text) (HF:∀k∈t.kids,FilC fil k) (HP:∀k∈t.kids,PatC pat k) (HE:∀k∈t.kids,(∀j∈k.kids,FilC fil j)∧∀j∈k.kids,PatC pat j):AskC 23 (filS numE fil pat) t:=by
 intro A c w hT h
 show Calls _ _ _ _ (RetY (.bool (filS numE fil pat t)) _)
 have hmax:t.kids.length≤9223372036854775807:=by have:=hs.len;unfold maxLen at this;exact this
 obtain ⟨V,hV,hb0,X0,hl0,c0,c1,c2⟩:=node_in w t.kind ⟨t.text.toArray⟩ (.slice A t.kids.length c)
 have B0:=Lib.hid hb0
 have KAr:=Lib.hid (fun (ks:List Nat) (hks:∀k∈ks,k≤2) (T:TypeId) (W:World) (hb:Below w.heap.size w W)=>shAre_lit fil pat t hs.len HF HP ks hks A c T W (hT.below hb (Nat.le_refl _)) (YX.below h hb))
 have KBa:=Lib.hid (fun (W:World)=>shBare_any t A c W)
 have KNu:=Lib.hid (shNumber_any t.text V hx (hT.below hb0 (Nat.le_refl _)))
 have KTx:=Lib.hid (shTexts_any fil t hs.len hx hk HF A c V (hT.below hb0 (Nat.le_refl _)) (YX.below h hb0))
 have KFm:=Lib.hid (fun W=>shFormat_any t.text W hx)
 have KNm:=Lib.hid (fun W=>isName_s t.text W hx)
 have KWd:=Lib.hid (fun W=>RetY.of (wordT_of t.text▸lexWord_any ⟨t.text.toArray⟩ W))
 have KFl:=Lib.hid (fun (W:World) (hb:Below w.heap.size w W)=>shFilters_any fil t hs.len HF A c W (hT.below hb (Nat.le_refl _)) (YX.below h hb))
 have KDf:=Lib.hid (shDef_any fil t hs.len hx hk HF A c V (hT.below hb0 (Nat.le_refl _)) (YX.below h hb0))
 have KOp:=Lib.hid (op_in t.text V)
 have KUn:=Lib.hid (shUnt_any fil pat t hs HF HP HE A c V (hT.below hb0 (Nat.le_refl _)) (YX.below h hb0))
 have L0:=Lib.hid hl0
 have HKE:=Lib.hid (show t.kids.isEmpty=decide (t.kids.length=0) by cases t.kids <;> simp)
 clear HE HF HP hT h hb0 hl0 hs hk hx
 simp only [yAgg] at KAr KBa KTx KDf KUn ⊢
 by_cases hk1:t.kind=1
 ·have hv:filS numE fil pat t=(bareY t):=by unfold filS;simp [hk1]
  rw [hv]
  rw [hk1] at hV c0 X0 ⊢
  clear hv HKE KNu KTx KFm KNm KWd KFl KDf KOp KAr KUn
  rw [hk1] at KBa
  clear hk1
  generalize bareY t=b at *
  go_enter Tryz.func23,Tryz.ntmps23
  go_upto_region 1 with fail
  rw [←hV]
  clear hV
  go_wp2_with (go_at_call 44;refine (KBa.out _).mono ?_)
  rintro e w3 ⟨rfl,hb3⟩
  have hb4:=Lib.hid (B0.out.trans (hb3.mono B0.out.size))
  clear hb3
  go_wp2_with fail
  go_ret
  exact ⟨rfl,hb4.out⟩
 by_cases hk2:t.kind=2
 ·have hv:filS numE fil pat t=(bareY t):=by unfold filS;simp [hk2]
  rw [hv]
  rw [hk2] at hV c0 X0 ⊢
  clear hv HKE KNu KTx KFm KNm KWd KFl KDf KOp KAr KUn
  rw [hk2] at KBa
  clear hk2
  generalize bareY t=b at *
  go_enter Tryz.func23,Tryz.ntmps23
  go_upto_region 1 with fail
  rw [←hV]
  clear hV
  go_wp2_with (go_at_call 44;refine (KBa.out _).mono ?_)
  rintro e w3 ⟨rfl,hb3⟩
  have hb4:=Lib.hid (B0.out.trans (hb3.mono B0.out.size))
  clear hb3
  go_wp2_with fail
  go_ret
  exact ⟨rfl,hb4.out⟩
 by_cases hk3:t.kind=3
 ·have hv:filS numE fil pat t=(t.kids.isEmpty&&isNum numE t.text):=by unfold filS;simp [hk3]
  rw [hv]
  rw [hk3] at hV c0 X0 ⊢
  clear hv HKE KBa KTx KFm KNm KWd KFl KDf KOp KAr KUn
  clear hk3
  have hke:t.kids.isEmpty=decide (t.kids.length=0):=by cases t.kids <;> simp
  rw [hke]
  clear hke
  generalize isNum numE t.text=b at *
  generalize t.kids.length=n at *
  by_cases hn:n=0
  ·subst hn
   go_enter Tryz.func23,Tryz.ntmps23
   go_upto_region 1 with fail
   rw [←hV]
   clear hV
   go_wp2_with (go_at_call 45;refine (KNu.out).mono ?_)
   rintro e w3 ⟨rfl,hb3⟩
   have hb4:=Lib.hid (B0.out.trans (hb3.mono B0.out.size))
   clear hb3
   go_wp2_with fail
   go_ret
   exact ⟨rfl,hb4.out⟩
  ·rw [decide_eq_false hn]
   have hz:((n:Int)==0)=false:=beq_false_of_ne (by omega)
   go_enter Tryz.func23,Tryz.ntmps23
   go_upto_region 1 with fail
   rw [←hV]
   clear hV
   go_wp2_with fail
   go_ret
   exact ⟨rfl,B0.out⟩
 by_cases hk4:t.kind=4
 ·have hv:filS numE fil pat t=((t.text.isEmpty||isFmt t.text)&&texM fil false t.kids):=by unfold filS;simp [hk4]
  rw [hv]
  rw [hk4] at hV c0 X0 ⊢
  clear hv HKE KBa KNu KFm KNm KWd KFl KDf KOp KAr KUn
  rw [hk4] at KTx
  clear hk4
  generalize ((t.text.isEmpty||isFmt t.text)&&texM fil false t.kids)=b at *
  go_enter Tryz.func23,Tryz.ntmps23
  go_upto_region 1 with fail
  rw [←hV]
  clear hV
  go_wp2_with (go_at_call 46;refine (KTx.out).mono ?_)
  rintro e w3 ⟨rfl,hb3⟩
  have hb4:=Lib.hid (B0.out.trans (hb3.mono B0.out.size))
  clear hb3
  go_wp2_with fail
  go_ret
  exact ⟨rfl,hb4.out⟩
 by_cases hk6:t.kind=6
 ·have hv:filS numE fil pat t=(t.kids.isEmpty&&isFmt t.text):=by unfold filS;simp [hk6]
  rw [hv]
  rw [hk6] at hV c0 X0 ⊢
  clear hv HKE KBa KNu KTx KNm KWd KFl KDf KOp KAr KUn
  clear hk6
  have hke:t.kids.isEmpty=decide (t.kids.length=0):=by cases t.kids <;> simp
  rw [hke]
  clear hke
  generalize isFmt t.text=b at *
  generalize t.kids.length=n at *
  by_cases hn:n=0
  ·subst hn
   go_enter Tryz.func23,Tryz.ntmps23
   go_upto_region 1 with fail
   rw [←hV]
   clear hV
   go_wp2_with (go_at_call 47;refine (KFm.out _).mono ?_)
   rintro e w3 ⟨rfl,rfl⟩
   go_wp2_with fail
   go_ret
   exact ⟨rfl,B0.out⟩
  ·rw [decide_eq_false hn]
   have hz:((n:Int)==0)=false:=beq_false_of_ne (by omega)
   go_enter Tryz.func23,Tryz.ntmps23
   go_upto_region 1 with fail
   rw [←hV]
   clear hV
   go_wp2_with fail
   go_ret
   exact ⟨rfl,B0.out⟩
 by_cases hk22:t.kind=22
 ·have hv:filS numE fil pat t=(t.kids.isEmpty&&isName t.text):=by unfold filS;simp [hk22]
  rw [hv]
  rw [hk22] at hV c0 X0 ⊢
  clear hv HKE KBa KNu KTx KFm KWd KFl KDf KOp KAr KUn
  clear hk22
  have hke:t.kids.isEmpty=decide (t.kids.length=0):=by cases t.kids <;> simp
  rw [hke]
  clear hke
  generalize isName t.text=b at *
  generalize t.kids.length=n at *
  by_cases hn:n=0
  ·subst hn
   go_enter Tryz.func23,Tryz.ntmps23
   go_upto_region 1 with fail
   rw [←hV]
   clear hV
   go_wp2_with (go_at_call 48;refine (KNm.out _).mono ?_)
   rintro e w3 ⟨rfl,rfl⟩
   go_wp2_with fail
   go_ret
   exact ⟨rfl,B0.out⟩
  ·rw [decide_eq_false hn]
   have hz:((n:Int)==0)=false:=beq_false_of_ne (by omega)
   go_enter Tryz.func23,Tryz.ntmps23
   go_upto_region 1 with fail
   rw [←hV]
   clear hV
   go_wp2_with fail
   go_ret
   exact ⟨rfl,B0.out⟩
 by_cases hk24:t.kind=24
 ·have hv:filS numE fil pat t=(t.kids.isEmpty&&isName t.text):=by unfold filS;simp [hk24]
  rw [hv]
  rw [hk24] at hV c0 X0 ⊢
  clear hv HKE KBa KNu KTx KFm KWd KFl KDf KOp KAr KUn
  clear hk24
  have hke:t.kids.isEmpty=decide (t.kids.length=0):=by cases t.kids <;> simp
  rw [hke]
  clear hke
  generalize isName t.text=b at *
  generalize t.kids.length=n at *
  by_cases hn:n=0
  ·subst hn
   go_enter Tryz.func23,Tryz.ntmps23
   go_upto_region 1 with fail
   rw [←hV]
   clear hV
   go_wp2_with (go_at_call 48;refine (KNm.out _).mono ?_)
   rintro e w3 ⟨rfl,rfl⟩
   go_wp2_with fail
   go_ret
   exact ⟨rfl,B0.out⟩
  ·rw [decide_eq_false hn]
   have hz:((n:Int)==0)=false:=beq_false_of_ne (by omega)
   go_enter Tryz.func23,Tryz.ntmps23
   go_upto_region 1 with fail
   rw [←hV]
   clear hV
   go_wp2_with fail
   go_ret
   exact ⟨rfl,B0.out⟩
 by_cases hk21:t.kind=21
 ·have hv:filS numE fil pat t=(isName t.text&&areM fil pat t.kids [0]):=by unfold filS;simp [hk21]
  rw [hv]
  rw [hk21] at hV c0 X0 ⊢
  clear hv HKE KBa KNu KTx KFm KWd KFl KDf KOp KUn
  rw [hk21] at KAr
  clear hk21
  have K:=Lib.hid (fun T=>KAr.out [0] (by decide) T V B0.out)
  clear KAr
  generalize isName t.text=b1 at *
  generalize areM fil pat t.kids [0]=b at *
  cases b1
  ·skip
   go_enter Tryz.func23,Tryz.ntmps23
   go_upto_region 1 with fail
   rw [←hV]
   clear hV
   go_wp2_with (go_at_call 48;refine (KNm.out _).mono ?_)
   rintro e w3 ⟨rfl,rfl⟩
   go_wp2_with fail
   go_ret
   exact ⟨rfl,B0.out⟩
  ·skip
   go_enter Tryz.func23,Tryz.ntmps23
   go_upto_region 1 with fail
   rw [←hV]
   clear hV
   go_wp2_with (go_at_call 48;refine (KNm.out _).mono ?_)
   rintro e w3 ⟨rfl,rfl⟩
   go_wp2_with (go_at_call 49;refine (K.out _).mono ?_)
   rintro e w3 ⟨rfl,hb3⟩
   have hb4:=Lib.hid (B0.out.trans (hb3.mono B0.out.size))
   clear hb3
   go_wp2_with fail
   go_ret
   exact ⟨rfl,hb4.out⟩
 by_cases hk25:t.kind=25
 ·have hv:filS numE fil pat t=(isName t.text&&!wordT t.text&&t.kids.all fil):=by unfold filS;simp [hk25]
  rw [hv]
  rw [hk25] at hV c0 X0 ⊢
  clear hv HKE KBa KNu KTx KFm KDf KOp KAr KUn
  clear hk25
  generalize isName t.text=b1 at *
  generalize wordT t.text=b2 at *
  generalize t.kids.all fil=b at *
  cases b1
  ·skip
   go_enter Tryz.func23,Tryz.ntmps23
   go_upto_region 1 with fail
   rw [←hV]
   clear hV
   go_wp2_with (go_at_call 48;refine (KNm.out _).mono ?_)
   rintro e w3 ⟨rfl,rfl⟩
   go_wp2_with fail
   go_ret
   exact ⟨rfl,B0.out⟩
  cases b2
  ·skip
   go_enter Tryz.func23,Tryz.ntmps23
   go_upto_region 1 with fail
   rw [←hV]
   clear hV
   go_wp2_with (go_at_call 48;refine (KNm.out _).mono ?_)
   rintro e w3 ⟨rfl,rfl⟩
   go_wp2_with (go_at_call 50;refine (KWd.out _).mono ?_)
   rintro e w3 ⟨rfl,hb3⟩
   have hb4:=Lib.hid (B0.out.trans (hb3.mono B0.out.size))
   have hy:=(hb3.block w.heap.size L0.out).trans X0
   have d0:w3.cell? ⟨w.heap.size,0,none⟩=some (.int .i64 25):=by rw [Lib.cell_of_heap hy];rfl
   have d1:w3.cell? ⟨w.heap.size,1,none⟩=some (.string ⟨t.text.toArray⟩):=by rw [Lib.cell_of_heap hy];rfl
   have d2:w3.cell? ⟨w.heap.size,2,none⟩=some (.slice A t.kids.length c):=by rw [Lib.cell_of_heap hy];rfl
   clear hy c0 c1 c2
   clear hb3
   go_wp2_with (go_at_call 51;refine (KFl.out _ hb4.out).mono ?_)
   rintro e w5 ⟨rfl,hb5⟩
   have hb6:=Lib.hid (hb4.out.trans (hb5.mono hb4.out.size))
   clear hb5
   go_wp2_with fail
   go_ret
   exact ⟨by first | rfl | (cases b <;> rfl),hb6.out⟩
  ·skip
   go_enter Tryz.func23,Tryz.ntmps23
   go_upto_region 1 with fail
   rw [←hV]
   clear hV
   go_wp2_with (go_at_call 48;refine (KNm.out _).mono ?_)
   rintro e w3 ⟨rfl,rfl⟩
   go_wp2_with (go_at_call 50;refine (KWd.out _).mono ?_)
   rintro e w3 ⟨rfl,hb3⟩
   have hb4:=Lib.hid (B0.out.trans (hb3.mono B0.out.size))
   clear hb3
   go_wp2_with fail
   go_ret
   exact ⟨rfl,hb4.out⟩
 by_cases hk26:t.kind=26
 ·have hv:filS numE fil pat t=(defM fil t):=by unfold filS;simp [hk26]
  rw [hv]
  rw [hk26] at hV c0 X0 ⊢
  clear hv HKE KBa KNu KTx KFm KNm KWd KFl KOp KAr KUn
  rw [hk26] at KDf
  clear hk26
  generalize defM fil t=b at *
  go_enter Tryz.func23,Tryz.ntmps23
  go_upto_region 1 with fail
  rw [←hV]
  clear hV
  go_wp2_with (go_at_call 52;refine (KDf.out).mono ?_)
  rintro e w3 ⟨rfl,hb3⟩
  have hb4:=Lib.hid (B0.out.trans (hb3.mono B0.out.size))
  clear hb3
  go_wp2_with fail
  go_ret
  exact ⟨rfl,hb4.out⟩
 by_cases hk17:t.kind=17
 ·have hv:filS numE fil pat t=(isOp t.text&&areM fil pat t.kids [0,0]):=by unfold filS;simp [hk17]
  rw [hv]
  rw [hk17] at hV c0 X0 ⊢
  clear hv HKE KBa KNu KTx KFm KNm KWd KFl KDf KUn
  rw [hk17] at KAr
  clear hk17
  have K:=Lib.hid (fun T W hb=>KAr.out [0,0] (by decide) T W hb)
  clear KAr
  generalize isOp t.text=b1 at *
  generalize areM fil pat t.kids [0,0]=b at *
  have hb1:=Lib.hid (B0.out.alloc B0.out.size (.cells (opsL.map Value.string).toArray 9))
  have hv0:=(Below.refl V.heap.size V).alloc (Nat.le_refl _) (.cells (opsL.map Value.string).toArray 9)
  have hy:=(hv0.block w.heap.size L0.out).trans X0
  obtain ⟨V2,hV2⟩:∃V2,V2=V.alloc (.cells (opsL.map Value.string).toArray 9):=⟨_,rfl⟩
  rw [←hV2] at hy hb1 KOp
  have d0:V2.cell? ⟨w.heap.size,0,none⟩=some (.int .i64 17):=by rw [Lib.cell_of_heap hy];rfl
  have d1:V2.cell? ⟨w.heap.size,1,none⟩=some (.string ⟨t.text.toArray⟩):=by rw [Lib.cell_of_heap hy];rfl
  have d2:V2.cell? ⟨w.heap.size,2,none⟩=some (.slice A t.kids.length c):=by rw [Lib.cell_of_heap hy];rfl
  have d3:(V.alloc (.cells #[.string ⟨#[47,47]⟩,.string ⟨#[61]⟩,.string ⟨#[124,61]⟩,.string ⟨#[43,61]⟩,.string ⟨#[45,61]⟩,.string ⟨#[42,61]⟩,.string ⟨#[47,61]⟩,.string ⟨#[37,61]⟩,.string ⟨#[47,47,61]⟩,.string ⟨#[111,114]⟩,.string ⟨#[97,110,100]⟩,.string ⟨#[61,61]⟩,.string ⟨#[33,61]⟩,.string ⟨#[60]⟩,.string ⟨#[60,61]⟩,.string ⟨#[62]⟩,.string ⟨#[62,61]⟩,.string ⟨#[43]⟩,.string ⟨#[45]⟩,.string ⟨#[42]⟩,.string ⟨#[47]⟩,.string ⟨#[37]⟩] 9)).cell? ⟨w.heap.size,1,none⟩=some (.string ⟨t.text.toArray⟩):=by rw [hV2] at d1;exact d1
  clear hy hv0
  have HV2:=Lib.hid hV2
  clear hV2
  cases b1
  ·skip
   go_enter Tryz.func23,Tryz.ntmps23
   go_upto_region 1 with fail
   rw [←hV]
   clear hV
   go_wp2_with (go_at_call 25;rw [show V.alloc (.cells #[.string ⟨#[47,47]⟩,.string ⟨#[61]⟩,.string ⟨#[124,61]⟩,.string ⟨#[43,61]⟩,.string ⟨#[45,61]⟩,.string ⟨#[42,61]⟩,.string ⟨#[47,61]⟩,.string ⟨#[37,61]⟩,.string ⟨#[47,47,61]⟩,.string ⟨#[111,114]⟩,.string ⟨#[97,110,100]⟩,.string ⟨#[61,61]⟩,.string ⟨#[33,61]⟩,.string ⟨#[60]⟩,.string ⟨#[60,61]⟩,.string ⟨#[62]⟩,.string ⟨#[62,61]⟩,.string ⟨#[43]⟩,.string ⟨#[45]⟩,.string ⟨#[42]⟩,.string ⟨#[47]⟩,.string ⟨#[37]⟩] 9)=V2 from HV2.out.symm];refine KOp.out.mono ?_)
   rintro e w3 ⟨rfl,rfl⟩
   clear c0 c1 c2
   go_wp2_with fail
   go_ret
   exact ⟨rfl,hb1.out⟩
  ·skip
   go_enter Tryz.func23,Tryz.ntmps23
   go_upto_region 1 with fail
   rw [←hV]
   clear hV
   go_wp2_with (go_at_call 25;rw [show V.alloc (.cells #[.string ⟨#[47,47]⟩,.string ⟨#[61]⟩,.string ⟨#[124,61]⟩,.string ⟨#[43,61]⟩,.string ⟨#[45,61]⟩,.string ⟨#[42,61]⟩,.string ⟨#[47,61]⟩,.string ⟨#[37,61]⟩,.string ⟨#[47,47,61]⟩,.string ⟨#[111,114]⟩,.string ⟨#[97,110,100]⟩,.string ⟨#[61,61]⟩,.string ⟨#[33,61]⟩,.string ⟨#[60]⟩,.string ⟨#[60,61]⟩,.string ⟨#[62]⟩,.string ⟨#[62,61]⟩,.string ⟨#[43]⟩,.string ⟨#[45]⟩,.string ⟨#[42]⟩,.string ⟨#[47]⟩,.string ⟨#[37]⟩] 9)=V2 from HV2.out.symm];refine KOp.out.mono ?_)
   rintro e w3 ⟨rfl,rfl⟩
   clear c0 c1 c2
   go_wp2_with (go_at_call 49;refine (K.out _ _ hb1.out).mono ?_)
   rintro e w5 ⟨rfl,hb5⟩
   have hb6:=Lib.hid (hb1.out.trans (hb5.mono hb1.out.size))
   clear hb5
   go_wp2_with fail
   go_ret
   exact ⟨by first | rfl | (cases b <;> rfl),hb6.out⟩
 have hv:filS numE fil pat t=(t.text.isEmpty&&untM fil pat t):=by unfold filS;simp [hk1,hk2,hk3,hk4,hk6,hk22,hk24,hk21,hk25,hk26,hk17]
 rw [hv]
 clear hv HKE KBa KNu KTx KFm KNm KWd KFl KDf KOp KAr
 generalize untM fil pat t=b at *
 generalize t.kind=kd at *
 by_cases hx:t.text=[]
 ·rw [hx] at hV c1 KUn X0 ⊢
  go_enter Tryz.func23,Tryz.ntmps23
  go_upto_region 1 with fail
  rw [←hV]
  clear hV
  go_wp2_with (go_at_call 53;refine (KUn.out).mono ?_)
  rintro e w3 ⟨rfl,hb3⟩
  have hb4:=Lib.hid (B0.out.trans (hb3.mono B0.out.size))
  clear hb3
  go_wp2_with fail
  go_ret
  exact ⟨rfl,hb4.out⟩
 ·have he:t.text.isEmpty=false:=by simpa using hx
  rw [he]
  go_enter Tryz.func23,Tryz.ntmps23
  go_upto_region 1 with fail
  rw [←hV]
  clear hV
  go_wp2_with fail
  go_ret
  exact ⟨rfl,B0.out⟩
theorem depY_more {n:Nat}:∀{t:Ny},depY n t≤n→depY (n+1) t≤n+1:=by
 induction n with
 | zero=>intro t h;exact absurd h (depY_pos t)
 | succ n ih=>
  intro t h
  have hk:=depY_kids h
  have hm:∀(ks:List Ny) (m:Nat),m≤n+1→(∀k∈ks,depY n k≤n)→maxDY (n+1) ks m≤n+1:=by
   intro ks
   induction ks with
   | nil=>intro m hm _;exact hm
   | cons k ks ih2=>
    intro m hm hks
    rw [maxDY_cons]
    exact ih2 _ (by have:=ih (hks k (List.mem_cons_self ..));omega) (fun x hx=>hks x (List.mem_cons_of_mem _ hx))
  have:=hm t.kids 0 (Nat.zero_le _) hk
  show maxDY (n+1) t.kids 0+1≤_
  omega
theorem sh_knot:∀(n:Nat) (t:Ny),depY n t≤n→YS maxLen t→YB 100000000 t→FilC (filN numE n) t∧PatC (patN numE n) t
 | 0,t,h,_,_=>absurd h (depY_pos t)
 | n+1,t,h,hs,hb=>by
  have hk:=depY_kids h
  have ih:=fun k hm=>sh_knot n k (hk k hm) (hs.kid k hm) (hb.kid k hm)
  have ih2:∀k∈t.kids,∀j∈k.kids,FilC (filN numE n) j∧PatC (patN numE n) j:=fun k hm j hj=>by
   have hd:=hk k hm
   cases n with
   | zero=>exact absurd hd (depY_pos k)
   | succ m=>exact sh_knot (m+1) j (depY_more (depY_kids hd j hj)) ((hs.kid k hm).kid j hj) ((hb.kid k hm).kid j hj)
  exact ⟨shFil_any (filN numE n) (patN numE n) t hs hb.len (fun k hm=>(hb.kid k hm).len) (fun k hm=>(ih k hm).1) (fun k hm=>(ih k hm).2) (fun k hm=>⟨fun j hj=>(ih2 k hm j hj).1,fun j hj=>(ih2 k hm j hj).2⟩),
   shPat_any (filN numE n) (patN numE n) t hs hb.len (fun k hm=>(hb.kid k hm).len) (fun k hm=>(ih k hm).2) (fun k hm=>⟨fun j hj=>(ih2 k hm j hj).1,fun j hj=>(ih2 k hm j hj).2⟩)⟩
theorem nstYs_le {k:Int} {m:Nat}:∀(ys:List Ny) (i:Nat),(∀y∈ys,∀b,nstY b y≤m)→nstYs k i ys≤m
 | [],_,_=>by rw [nstYs];exact Nat.zero_le _
 | y::ys,i,h=>by
  rw [nstYs]
  have h1:=h y (List.mem_cons_self ..) ((k==10&&i==1)||(k==9&&i==0))
  have h2:=nstYs_le (k:=k) ys (i+1) (fun z hz=>h z (List.mem_cons_of_mem _ hz))
  omega
theorem nst_le:∀(n:Nat) (t:Ny),depY n t≤n→∀b,nstY b t≤n
 | 0,t,h,_=>absurd h (depY_pos t)
 | n+1,.mk k x ks,h,b=>by
  have hk:=depY_kids h
  have h1:=nstYs_le (k:=k) (m:=n) ks 0 (fun y hy b=>nst_le n y (hk y hy) b)
  rw [nstY]
  split
  ·exact Nat.zero_le _
  ·split
   ·omega
   ·split <;> omega
def PlnB (q:Bool) (w:World) (e:Ending) (w':World):Prop:=(∃s:ByteArray,e=.returned (.tuple #[.string s,.bool q]))∧Below w.heap.size w w'
def NstC (t:Ny):Prop:=∀(b:Bool) (A:Option Addr) (c:Nat) (w:World),YT w t A c→Calls Tryz.prog 24 #[yAgg t (.slice A t.kids.length c),.bool b] w (RetY (.int .i64 (nstY b t:Int)) fun w'=>Below w.heap.size w w')
theorem nstY_eq (b:Bool) (t:Ny):nstY b t=if b=true∧(plainY t).isSome=true then 0 else if t.kind=4 then nstYs t.kind 0 t.kids+1 else if t.kind=31∧isName t.text=false then max (nstYs t.kind 0 t.kids) 1 else nstYs t.kind 0 t.kids:=by
 cases t with
 | mk k x ks=>rw [nstY];rfl
set_option maxHeartbeats 4000000 in
set_option maxRecDepth 100000 in
theorem shNest_step (t:Ny) (hs:t.kids.length≤maxLen) (hx:TF t.text) (hkt:∀k∈t.kids,TF k.text) (m:Nat) (hm:m≤1000) (hb:∀k∈t.kids,∀b,nstY b k≤m) (ih:∀k∈t.kids,NstC k):NstC t:=by
 intro b A c w h
 have hmax:t.kids.length≤9223372036854775807:=by unfold maxLen at hs;exact hs
 obtain ⟨V,hV,hb0,hx0,hl0,c0,c1,c2⟩:=node_in w t.kind ⟨t.text.toArray⟩ (.slice A t.kids.length c)
 have KP:=Lib.hid ((shPlain_any t hs hkt A c V (YX.below h hb0)).mono fun e w' h=>show PlnB (plainY t).isSome V e w' from ⟨h.1.imp fun _ h=>h.1,h.2⟩)
 have KN:=Lib.hid (fun W=>RetY.of (isName_s t.text W hx))
 have IH:=Lib.hid (fun (k:Ny) (hk:k∈t.kids) (b:Bool) (A:Option Addr) (c:Nat) (W:World) (h:YT W k A c)=>ih k hk b A c W h)
 have HB:=Lib.hid (fun (k:Ny) (hk:k∈t.kids) (b:Bool)=>hb k hk b)
 have H1:=Lib.hid h
 have B0:=Lib.hid hb0
 have X0:=Lib.hid hx0
 have L0:=Lib.hid hl0
 rw [nstY_eq]
 obtain ⟨M,hM⟩:∃M,M=nstYs t.kind 0 t.kids:=⟨_,rfl⟩
 rw [←hM]
 have hMm:M≤m:=by rw [hM];exact nstYs_le _ _ hb
 have HM:=Lib.hid hM
 clear hM hb ih h hs hkt hx hb0 hx0 hl0
 generalize isName t.text=nm at *
 generalize (plainY t).isSome=q at *
 obtain ⟨R,hR⟩:∃R,R=if b=true∧q=true then 0 else if t.kind=4 then M+1 else if t.kind=31∧nm=false then max M 1 else M:=⟨_,rfl⟩
 rw [←hR]
 have HR:=Lib.hid hR
 clear hR
 simp only [yAgg] at KP ⊢
 generalize t.kind=kd at *
 go_enter Tryz.func24,Tryz.ntmps24
 go_upto_region 1 with fail
 rw [←hV]
 clear hV
 go_upto_region 2 with (go_at_call 54;refine KP.out.mono ?_)
 rintro e w3 ⟨⟨s',rfl⟩,hb3⟩
 have BC:=Lib.hid (B0.out.trans (hb3.mono B0.out.size))
 have hx:=(hb3.block w.heap.size L0.out).trans X0.out
 have d0:w3.cell? ⟨w.heap.size,0,none⟩=some (.int .i64 kd):=by rw [Lib.cell_of_heap hx];rfl
 have d1:w3.cell? ⟨w.heap.size,1,none⟩=some (.string ⟨t.text.toArray⟩):=by rw [Lib.cell_of_heap hx];rfl
 have d2:w3.cell? ⟨w.heap.size,2,none⟩=some (.slice A t.kids.length c):=by rw [Lib.cell_of_heap hx];rfl
 have XC:=Lib.hid hx
 clear hb3 hx c0 c1 c2 KP X0 L0
 go_upto_region 2 with fail
 go_cut [18] (fun v wx=>v=.bool (q&&b)∧wx=w3)
 case first=>
  cases q
  ·go_wp2_with fail
   go_meet
   exact ⟨rfl,rfl⟩
  ·go_wp2_with fail
   go_meet
   exact ⟨rfl,rfl⟩
 case rest=>
  obtain ⟨rfl,rfl⟩:=hcut
  cases hqb:(q&&b)
  ·have hR2:R=if kd=4 then M+1 else if kd=31∧nm=false then max M 1 else M:=by
    rw [HR.out,if_neg]
    rintro ⟨rfl,rfl⟩
    cases hqb
   have HR2:=Lib.hid hR2
   clear hR2 HR hqb
   generalize hn:t.kids.length=n at *
   have HN:=Lib.hid hn
   clear hn
   go_wp2_with fail
   go_loopg [7,22] (n+1) (fun kx v5 v22 wr=>∃i a:Nat,v22=.int .i64 (i:Int)∧v5=.int .i64 (a:Int)∧a≤m∧i≤n∧n-i≤kx∧Hid (M=max a (nstYs kd i (t.kids.drop i)))∧Below w.heap.size w wr∧wr.heap[w.heap.size]?=some (.cells #[.int .i64 kd,.string ⟨t.text.toArray⟩,.slice A n c] TN (0,0)))
   case atStart=>exact ⟨0,0,rfl,rfl,Nat.zero_le _,Nat.zero_le _,by omega,Lib.hid (by rw [HM.out,Nat.zero_max];rfl),BC.out,XC.out⟩
   case round=>
    obtain ⟨i,a,rfl,rfl,ham,hi,hik,hrel,hb,hx⟩:=hrel
    have hwl:=(Array.getElem?_eq_some_iff.1 hx).1
    have f0:wr.cell? ⟨w.heap.size,0,none⟩=some (.int .i64 kd):=by rw [Lib.cell_of_heap hx];rfl
    have f1:wr.cell? ⟨w.heap.size,1,none⟩=some (.string ⟨t.text.toArray⟩):=by rw [Lib.cell_of_heap hx];rfl
    have HBW:=Lib.hid hb
    have HX:=Lib.hid hx
    have HWL:=Lib.hid hwl
    clear hb hx hwl d0 d1 d2
    by_cases hlt:i<n
    ·have hne:t.kids≠[]:=fun e=>by have:=HN.out;rw [e] at this;simp at this;omega
     obtain ⟨q1,o1,rfl,hv1⟩:=YT.kid (YX.below H1.out HBW.out) hne
     have hlt':i<t.kids.length:=by rw [HN.out];exact hlt
     obtain ⟨k,hk⟩:∃k,k=t.kids[i]:=⟨_,rfl⟩
     have hki:t.kids[i]?=some k:=by rw [hk];exact List.getElem?_eq_getElem hlt'
     have hkm:k∈t.kids:=List.mem_of_getElem? hki
     obtain ⟨nb,hnb⟩:∃nb,nb=((kd==10&&i==1)||(kd==9&&i==0)):=⟨_,rfl⟩
     have hst:M=max (max a (nstY nb k)) (nstYs kd (i+1) (t.kids.drop (i+1))):=by
      rw [hrel.out,show t.kids.drop i=k::t.kids.drop (i+1) by rw [hk];exact List.drop_eq_getElem_cons hlt',nstYs,←hnb,Nat.max_assoc]
     have HST:=Lib.hid hst
     have hkl:=HB.out k hkm nb
     obtain ⟨A1,c1',r1,k1'⟩:=hv1 i k hki
     have KC:=Lib.hid (fun (W:World) (hb:Below wr.heap.size wr W)=>IH.out k hkm nb A1 c1' W (YX.below k1' hb))
     clear hv1 hk hki hkm k1' hne hrel hlt' hst
     obtain ⟨e0,e1,e2⟩:=y_at r1
     clear r1
     have i0:(0:Int)≤(i:Int):=by omega
     have i1:(i:Int)<(n:Int):=by omega
     generalize nstY nb k=dk at *
     have hv0:=Lib.hid (show Below w.heap.size w (wr.alloc (.cells (yCells k (.slice A1 k.kids.length c1')).toArray TN)) from HBW.out.alloc HBW.out.size _)
     have hvb:=(Below.refl wr.heap.size wr).alloc (Nat.le_refl _) (.cells (yCells k (.slice A1 k.kids.length c1')).toArray TN)
     have hvx:=Lib.hid ((hvb.block w.heap.size HWL.out).trans HX.out)
     have hvl:=Lib.hid (Nat.lt_of_lt_of_le HWL.out hvb.size)
     have hg0:(wr.alloc (.cells (yCells k (.slice A1 k.kids.length c1')).toArray TN)).cell? ⟨w.heap.size,0,none⟩=some (.int .i64 kd):=by rw [Lib.cell_of_heap hvx.out];rfl
     have hws:=HBW.out.size
     simp only [yCells] at hg0
     clear hvb
     simp only [yAgg] at KC
     have hc:(kd=10∧i=1∧nb=true)∨(kd=9∧i=0∧nb=true)∨(kd=10∧¬i=1∧nb=false)∨(kd=9∧¬i=0∧nb=false)∨(¬kd=10∧¬kd=9∧nb=false):=by
      by_cases h1:kd=10
      ·by_cases h2:i=1
       ·exact .inl ⟨h1,h2,by rw [hnb,h1,h2];rfl⟩
       ·exact .inr (.inr (.inl ⟨h1,h2,by rw [hnb,h1];simp [h2]⟩))
      ·by_cases h3:kd=9
       ·by_cases h2:i=0
        ·exact .inr (.inl ⟨h3,h2,by rw [hnb,h3,h2];rfl⟩)
        ·exact .inr (.inr (.inr (.inl ⟨h3,h2,by rw [hnb,h3];simp [h2]⟩)))
       ·exact .inr (.inr (.inr (.inr ⟨h1,h3,by rw [hnb];simp [h1,h3]⟩)))
     clear hnb
     have hi01:((i:Int)==1)=decide (i=1):=by rw [Bool.eq_iff_iff,beq_iff_eq,decide_eq_true_iff];omega
     have hi00:=zbeq i
     rcases hc with ⟨rfl,hne1,rfl⟩ | ⟨rfl,hne1,rfl⟩ | ⟨rfl,hne1,rfl⟩ | ⟨rfl,hne1,rfl⟩ | ⟨hk1,hk2,rfl⟩
     all_goals first | rw [decide_eq_true hne1] at hi01 | rw [decide_eq_false hne1] at hi01 | skip
     all_goals first | rw [decide_eq_true hne1] at hi00 | rw [decide_eq_false hne1] at hi00 | skip
     all_goals try clear hne1
     all_goals
      go_wp2_with (go_at_call 24;refine (KC.out _ ((Below.refl _ wr).alloc (Nat.le_refl _) _)).mono ?_)
      rintro e w5 ⟨rfl,hb5⟩
      have hb6:=Lib.hid (hv0.out.trans (hb5.mono (by first | exact hv0.out.size | omega)))
      have hx6:=Lib.hid ((hb5.block w.heap.size (by first | exact hvl.out | (have:=HWL.out;omega))).trans hvx.out)
      clear hb5
      go_wp2_with fail
      go_roundg (n-(i+1))
      case measure=>omega
      case rel=>exact ⟨i+1,max a dk,by go_num,by go_num,by omega,by omega,by omega,HST,hb6.out,hx6.out⟩
    ·have hme:M=a:=by rw [hrel.out,List.drop_eq_nil_of_le (by rw [HN.out];omega),nstYs,Nat.max_zero]
     have HME:=Lib.hid hme
     clear hrel hme
     by_cases h4:kd=4
     ·subst h4
      have HR4:=Lib.hid (show R=a+1 by rw [HR2.out,if_pos rfl,HME.out])
      clear HR2
      go_wp2_with fail
      go_ret
      exact ⟨by rw [HR4.out];go_num,HBW.out⟩
     ·by_cases h31:kd=31
      ·subst h31
       cases nm
       ·have HR4:=Lib.hid (show R=max a 1 by rw [HR2.out,if_neg h4,if_pos ⟨rfl,rfl⟩,HME.out])
        clear HR2
        go_wp2_with (go_at_call 48;refine (KN.out _).mono ?_)
        rintro e w5 ⟨rfl,rfl⟩
        go_wp2_with fail
        go_ret
        exact ⟨by rw [HR4.out];go_num,HBW.out⟩
       ·have HR4:=Lib.hid (show R=a by rw [HR2.out,if_neg h4,if_neg (fun h=>by cases h.2),HME.out])
        clear HR2
        go_wp2_with (go_at_call 48;refine (KN.out _).mono ?_)
        rintro e w5 ⟨rfl,rfl⟩
        go_wp2_with fail
        go_ret
        exact ⟨by rw [HR4.out];rfl,HBW.out⟩
      ·have HR4:=Lib.hid (show R=a by rw [HR2.out,if_neg h4,if_neg (fun h=>h31 h.1),HME.out])
       clear HR2
       go_wp2_with fail
       go_ret
       exact ⟨by rw [HR4.out];rfl,HBW.out⟩
  ·have hR2:R=0:=by
    rw [HR.out,if_pos]
    cases q
    ·cases hqb
    ·cases b
     ·cases hqb
     ·exact ⟨rfl,rfl⟩
   have HR2:=Lib.hid hR2
   clear hR2 HR hqb
   go_wp2_with fail
   go_ret
   exact ⟨by rw [HR2.out];rfl,BC.out⟩
theorem shNest_any:∀(n:Nat) (t:Ny),n≤1000→depY n t≤n→YS maxLen t→YB 100000000 t→NstC t
 | 0,t,_,h,_,_=>absurd h (depY_pos t)
 | n+1,t,hn,h,hs,hb=>by
  have hk:=depY_kids h
  exact shNest_step t hs.len hb.len (fun k hm=>(hb.kid k hm).len) n (by omega) (fun k hm b=>nst_le n k (hk k hm) b) (fun k hm=>shNest_any n k (by omega) (hk k hm) (hs.kid k hm) (hb.kid k hm))
set_option maxHeartbeats 4000000 in
set_option maxRecDepth 100000 in
theorem shMay_any (t:Ny) (hs:YS maxLen t) (hb:YB 100000000 t) (A:Option Addr) (c:Nat) (w:World) (hT:Tb w) (h:YT w t A c) :
  Calls Tryz.prog 13 #[yAgg t (.slice A t.kids.length c)] w (RetY (.bool (mayY numE t)) fun w'=>Below w.heap.size w w'):=by
 obtain ⟨V,hV,hb0,hx0,hl0,c0,c1,c2⟩:=node_in w t.kind ⟨t.text.toArray⟩ (.slice A t.kids.length c)
 have KD:=Lib.hid (yDepthTop t A c V hs (YX.below h hb0))
 have B0:=Lib.hid hb0
 have L0:=Lib.hid hl0
 have X0:=Lib.hid hx0
 have CELL:∀W,Below w.heap.size w W→W.heap[w.heap.size]?=some (.cells #[.int .i64 t.kind,.string ⟨t.text.toArray⟩,.slice A t.kids.length c] TN (0,0))→W.cell? ⟨w.heap.size,0,none⟩=some (.int .i64 t.kind)∧W.cell? ⟨w.heap.size,1,none⟩=some (.string ⟨t.text.toArray⟩)∧W.cell? ⟨w.heap.size,2,none⟩=some (.slice A t.kids.length c):=fun W _ h=>⟨by rw [Lib.cell_of_heap h];rfl,by rw [Lib.cell_of_heap h];rfl,by rw [Lib.cell_of_heap h];rfl⟩
 have HC:=Lib.hid CELL
 unfold mayY
 by_cases hd:depY 200 t≤200
 ·rw [decide_eq_true hd,Bool.true_and]
  have KF:=Lib.hid (fun (W:World) (hb:Below w.heap.size w W)=>(sh_knot 200 t hd hs (by assumption)).1 A c W (hT.below hb (Nat.le_refl _)) (YX.below h hb))
  have KN:=Lib.hid (fun (W:World) (hb':Below w.heap.size w W)=>shNest_any 200 t (by omega) hd hs hb false A c W (YX.below h hb'))
  clear hT h hs hb hb0 hx0 hl0 CELL
  generalize filN numE 200 t=f at *
  generalize nstY false t=ns at *
  generalize depY 200 t=d at *
  simp only [yAgg] at KD KF KN ⊢
  have z1:decide ((d:Int)≤200)=true:=decide_eq_true (by omega)
  have z1':(d:Int)≤200:=by omega
  have zn:decide (ns≤50)=decide ((ns:Int)≤50):=by rw [decide_eq_decide];omega
  rw [zn]
  cases f
  ·go_enter Tryz.func13,Tryz.ntmps13
   go_upto_region 1 with fail
   rw [←hV]
   clear hV
   go_wp2_with (go_at_call 22;refine KD.out.mono ?_)
   rintro e w3 ⟨rfl,hb3⟩
   have hb4:=Lib.hid (B0.out.trans (hb3.mono B0.out.size))
   obtain ⟨d0,d1,d2⟩:=HC.out w3 hb4.out ((hb3.block w.heap.size L0.out).trans X0.out)
   clear hb3 c0 c1 c2
   go_wp2_with (go_at_call 23;refine (KF.out _ hb4.out).mono ?_)
   rintro e w5 ⟨rfl,hb5⟩
   have hb6:=Lib.hid (hb4.out.trans (hb5.mono hb4.out.size))
   clear hb5
   go_wp2_with fail
   go_ret
   exact ⟨rfl,hb6.out⟩
  ·go_enter Tryz.func13,Tryz.ntmps13
   go_upto_region 1 with fail
   rw [←hV]
   clear hV
   go_wp2_with (go_at_call 22;refine KD.out.mono ?_)
   rintro e w3 ⟨rfl,hb3⟩
   have hb4:=Lib.hid (B0.out.trans (hb3.mono B0.out.size))
   have hx3:=(hb3.block w.heap.size L0.out).trans X0.out
   obtain ⟨d0,d1,d2⟩:=HC.out w3 hb4.out hx3
   have X3:=Lib.hid hx3
   have L3:=Lib.hid (Nat.lt_of_lt_of_le L0.out hb3.size)
   clear hb3 c0 c1 c2 hx3
   go_wp2_with (go_at_call 23;refine (KF.out _ hb4.out).mono ?_)
   rintro e w5 ⟨rfl,hb5⟩
   have hb6:=Lib.hid (hb4.out.trans (hb5.mono hb4.out.size))
   obtain ⟨f0,f1,f2⟩:=HC.out w5 hb6.out ((hb5.block w.heap.size L3.out).trans X3.out)
   clear hb5 d0 d1 d2
   go_wp2_with (go_at_call 24;refine (KN.out _ hb6.out).mono ?_)
   rintro e w7 ⟨rfl,hb7⟩
   have hb8:=Lib.hid (hb6.out.trans (hb7.mono hb6.out.size))
   clear hb7
   go_wp2_with fail
   go_ret
   exact ⟨rfl,hb8.out⟩
 ·rw [decide_eq_false hd]
  clear hT h hs hb hb0 hx0 hl0
  generalize depY 200 t=d at *
  simp only [yAgg] at KD ⊢
  have z1:decide ((d:Int)≤200)=false:=decide_eq_false (by omega)
  go_enter Tryz.func13,Tryz.ntmps13
  go_upto_region 1 with fail
  rw [←hV]
  clear hV
  go_wp2_with (go_at_call 22;refine KD.out.mono ?_)
  rintro e w3 ⟨rfl,hb3⟩
  have hb4:=Lib.hid (B0.out.trans (hb3.mono B0.out.size))
  clear hb3
  go_wp2_with fail
  go_ret
  exact ⟨rfl,hb4.out⟩
end Go.Proofs.YtmbeicndhigklaaGreatDoor
