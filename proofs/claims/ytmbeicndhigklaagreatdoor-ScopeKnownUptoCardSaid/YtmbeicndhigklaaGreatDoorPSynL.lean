/-
More laws of the walk's frame: a variable that is laid with its value, a row that ends, an append that stands alone; what a call answers that is given a tree (chapter 15).
-/
import Derived.Test.YtmbeicndhigklaaGreatDoorPSynA
namespace Go.Proofs.YtmbeicndhigklaaGreatDoor
open Go.RowKit
section
variable {g:Nat} {l:List Tk} {en:Nat} {w W:World} {s:PT} {bs:List Bx} {ts:List (Nd×Value)} {rv:Value} {zs:List (Nd×Value)}
theorem Fr.endRow (h:Fr g l en w s bs ts rv zs W) (x:Nd) (hx:x.kids=zs.map Prod.fst):Fr g l en w s bs ((x,rv)::ts) rNil [] W:=by
 refine ⟨h.prs,h.pg,h.glt,h.bx,h.nd,fun t ht=>?_,⟨rfl,.inl ⟨rfl,rfl⟩⟩,(fun q e=>by cases e),(fun t ht=>by cases ht)⟩
 rcases List.mem_cons.1 ht with rfl | ht
 rotate_left
 ·exact (h.tr t ht).imp fun q hq=>⟨hq.1,hq.2.1,fun e=>by cases e⟩
 ·unfold NX
  simp only
  rw [hx]
  exact NZ.kids h.own h.zr (fun q hq=>⟨hq.1,hq.2.1,fun e=>by cases e⟩) (fun q e=>⟨(rrow_kind h.own q e).1,fun b hb=>h.ownB q e b hb,fun e=>by cases e⟩)
variable {ops:Array Oper} {rest:List Oper} {op:Oper} {a:Act} {Q:Exit→Act→World→Prop}
theorem fr_box {T:TypeId} (hgd:op.guard=none) (x:Operand) (ho:op.op=.box T x) (vs:List Value) (hx:a.eval x=.agg vs.toArray) (h3:vs.length=3) (h:Fr g l en w s bs ts rv zs W)
  (hQ:∀V,Fr g l en w s (bs++[(W.heap.size,vs,T)]) ts rv zs V→wpList Tryz.prog ops Q rest (a.put op.dst (.pointer (some ⟨W.heap.size,0,none⟩))) V):wpList Tryz.prog ops Q (op::rest) a W:=
 wpList_plain hgd fun _ hK=>by
  have h2:=hK _ _ (hQ (W.alloc (.cells vs.toArray T)) (h.alloc vs T h3))
  unfold Oper.wp execOp
  simp only [ho,Instr.box,Sem.run_bind,hx]
  exact h2
theorem fr_append (hgd:op.guard=none) (o1 o2:Operand) (ho:op.op=.call { callee:=.builtin .append,args:=#[o1,o2],argTypes:=#[22,22] }) {t:Nd} {A:Option Addr} {n c:Nat} (hm:(t,.slice A n c)∈ts) (hs:a.eval o1=rv) (hx:a.eval o2=.slice (some ⟨W.heap.size,0,none⟩) 1 1) (h:Fr g l en w s bs ts rv zs W) (hn:zs.length≤1000000)
  (hQ:∀v' V,Fr g l en w s bs ts v' (zs++[(t,.slice A n c)]) V→(∃A' c',v'=.slice A' (zs++[(t,Value.slice A n c)]).length c')→wpList Tryz.prog ops Q rest (a.put op.dst v') V):wpList Tryz.prog ops Q (op::rest) a (W.alloc (.cells #[.int .i64 (t.kind:Int),.string ⟨t.text.toArray⟩,.slice A n c] TN)):=
 wpList_plain hgd fun _ hK=>fr_wpAppend o1 o2 ho hm hs hx h hn fun v' V hV hs'=>hK _ _ (hQ v' V hV hs')
end
def OkI (g:Nat) (l:List Tk) (en:Nat) (w:World) (bs:List Bx) (s':PT) (t:Nd) (e:Ending) (w':World):Prop:=
 ∃A c,e=.returned (nAgg t (.slice A t.kids.length c))∧Fr g l en w s' bs [(t,.slice A t.kids.length c)] rNil [] w'
def ResI (g:Nat) (l:List Tk) (en:Nat) (w:World) (bs:List Bx) (r:PY Nd) (e:Ending) (w':World):Prop:=match r with
 | .ok t s'=>OkI g l en w bs s' t e w'
 | .bad a n=>BdY g a n w e w'
end Go.Proofs.YtmbeicndhigklaaGreatDoor
