/-
Plain Lean: what holds of whatever is read as a tree (chapter 15): how far it goes, its kinds, its places. No program in sight.
-/
import Derived.Test.YtmbeicndhigklaaGreatDoorPSynS
import Derived.Test.YtmbeicndhigklaaGreatDoorPLexP
namespace Go.Proofs.YtmbeicndhigklaaGreatDoor
inductive RightN:Nd→Prop where
 | mk {k:Nat} {t:List UInt8} {ks:List Nd}:1≤k→k≤32→(∀n∈ks,RightN n)→RightN (.mk k t ks)
def RightsN (ns:List Nd):Prop:=∀n∈ns,RightN n
theorem RightsN.nil:RightsN []:=fun _ h=>by cases h
theorem RightsN.cons {n:Nd} {ns:List Nd} (h:RightN n) (k:RightsN ns):RightsN (n::ns):=fun x hx=>by
 rcases List.mem_cons.1 hx with rfl | hx
 ·exact h
 ·exact k x hx
theorem RightsN.append {a b:List Nd} (h:RightsN a) (k:RightsN b):RightsN (a++b):=fun x hx=>(List.mem_append.1 hx).elim (h x) (k x)
theorem RightsN.nd {k:Nat} {t:List UInt8} {ks:List Nd} (h:RightsN ks) (h1:1≤k:=by decide) (h2:k≤32:=by decide):RightN (.mk k t ks):=.mk h1 h2 h
theorem right_none:RightN ndNone:=RightsN.nil.nd
theorem right_self:RightN ndSelf:=RightsN.nil.nd
theorem right_named (t:List UInt8):RightN (namedN t):=RightsN.nd (.cons (RightsN.nil.nd) .nil)
section
variable {numE:List UInt8→Nat} {l:List Tk} {en:Nat}
structure FitY (numE:List UInt8→Nat) (l:List Tk) (en:Nat):Prop where
 pos:∀t∈l,t.pos≤en
 num:∀t,numE t=0∨numE t=2∨numE t=3
def BadOk (en a e:Nat):Prop:=a≤en∧(e=5→a=en)∧(e=2∨e=3∨e=5∨e=6)
structure TY (l:List Tk) (en:Nat) {α:Type} (s:PT) (r:PY α) (Q:α→Prop) (k:Nat):Prop where
 ok:∀v s',r=.ok v s'→s.at'+k≤s'.at'∧s'.at'≤l.length∧s'.pipes=s.pipes∧Q v
 bad:∀a e,r=.bad a e→BadOk en a e
theorem TY.of {α:Type} {s s':PT} {v:α} {Q:α→Prop} {k:Nat} (h1:s.at'+k≤s'.at') (h2:s'.at'≤l.length) (h3:s'.pipes=s.pipes) (h4:Q v):TY l en s (.ok v s') Q k:=
 ⟨(fun _ _ h=>by injection h with ha hb;subst ha hb;exact ⟨h1,h2,h3,h4⟩),(fun _ _ h=>by cases h)⟩
theorem TY.no {α:Type} {s:PT} {Q:α→Prop} {k a e:Nat} (h:BadOk en a e):TY l en s (.bad a e:PY α) Q k:=
 ⟨(fun _ _ h=>by cases h),fun _ _ h'=>by injection h' with ha hb;subst ha hb;exact h⟩
theorem TY.bind {α β:Type} {s:PT} {r:PY α} {Q:α→Prop} {k k':Nat} {f:α→PT→PY β} {Q':β→Prop} (h:TY l en s r Q k) (hf:∀v s',s.at'+k≤s'.at'→s'.at'≤l.length→s'.pipes=s.pipes→Q v→TY l en s (f v s') Q' k'):TY l en s (r.bind f) Q' k':=by
 cases r with
 | ok v s'=>obtain ⟨h1,h2,h3,h4⟩:=h.ok v s' rfl;exact hf v s' h1 h2 h3 h4
 | bad a e=>exact .no (h.bad a e rfl)
theorem TY.from {α:Type} {s s':PT} {r:PY α} {Q Q':α→Prop} {j k:Nat} (h:TY l en s' r Q j) (h1:s.at'+k≤s'.at'+j) (h2:s'.pipes=s.pipes) (hQ:∀v,Q v→Q' v):TY l en s r Q' k:=
 ⟨fun v t e=>by obtain ⟨a,b,c,d⟩:=h.ok v t e;exact ⟨by omega,b,c.trans h2,hQ v d⟩,h.bad⟩
theorem TY.fromS {α:Type} {s s':PT} {r:PY α} {Q:α→Prop} {j k:Nat} (h:TY l en s' r Q j) (h1:s.at'+k≤s'.at'+j) (h2:s'.pipes=s.pipes):TY l en s r Q k:=h.from h1 h2 fun _ h=>h
theorem due_some {p:Nat} (h:(dueT l p).kind≠0):p<l.length:=by
 by_cases hp:p<l.length
 ·exact hp
 ·exact absurd (by unfold dueT;rw [List.getD_eq_getElem?_getD,List.getElem?_eq_none (by omega)];rfl) h
theorem isT_lt {t:List UInt8} {p:Nat} (h:isT l t p=true):p<l.length:=by
 refine due_some (fun e=>?_)
 unfold isT at h
 rw [e] at h
 simp at h
theorem due_pos (hF:FitY numE l en) {p:Nat} (h:p<l.length):(dueT l p).pos≤en:=by
 refine hF.pos _ ?_
 unfold dueT
 rw [List.getD_eq_getElem?_getD,List.getElem?_eq_getElem h]
 exact List.getElem_mem _
theorem fail_ty (hF:FitY numE l en) {α:Type} {s:PT} {Q:α→Prop} {k p:Nat}:TY l en s (failY l en p:PY α) Q k:=by
 unfold failY
 split
 ·exact .no ⟨Nat.le_refl _,fun _=>rfl,by omega⟩
 ·exact .no ⟨due_pos hF (by omega),(fun h=>by cases h),by omega⟩
theorem must_ty (hF:FitY numE l en) (t:List UInt8) (s:PT):TY l en s (mustT l en t s) (fun _=>True) 1:=by
 unfold mustT
 split
 ·rename_i h;exact .of (Nat.le_refl _) (isT_lt h) rfl trivial
 ·exact fail_ty hF
theorem kind_ty (hF:FitY numE l en) {k:Nat} (hk:k≠0) (s:PT):TY l en s (kindT l en k s) (fun _=>True) 1:=by
 unfold kindT
 split
 ·rename_i h;exact .of (Nat.le_refl _) (due_some (by omega)) rfl trivial
 ·exact fail_ty hF
structure KnotOk (l:List Tk) (en:Nat) (R:Knot) (n:Nat):Prop where
 pipe:∀s,s.at'≤l.length→l.length<n+s.at'→TY l en s (R.pipe s) RightN 1
 alt:∀s,s.at'≤l.length→l.length<n+s.at'→TY l en s (R.alt s) RightN 1
 neg:∀s,s.at'≤l.length→l.length<n+s.at'→TY l en s (R.neg s) RightN 1
 post:∀s,s.at'≤l.length→l.length<n+s.at'→TY l en s (R.post s) RightN 1
 pat:∀s,s.at'≤l.length→l.length<n+s.at'→TY l en s (R.pat s) RightN 1
section
variable {R:Knot} {n:Nat}
theorem list_ty (hF:FitY numE l en) (sep:List UInt8) {one:PT→PY Nd} {m:Nat} (h1:∀s,s.at'≤l.length→l.length<m+s.at'→TY l en s (one s) RightN 1):∀(f:Nat) (s:PT),s.at'≤l.length→l.length<m+s.at'→l.length<f+s.at'→TY l en s (listF l sep one f s) RightsN 1
 | 0,_,h,_,hf=>absurd h (by omega)
 | f+1,s,h,hm,hf=>by
  rw [listF]
  refine (h1 s h hm).bind fun v s' a b c d=>?_
  split
  ·rename_i hi
   have hi:=isT_lt hi
   refine ((list_ty hF sep h1 f (nextT s') hi (by simp only [nextT];omega) (by simp only [nextT];omega)).fromS (s:=s) (k:=1) (by simp only [nextT];omega) c).bind fun v' s'' a' b' c' d'=>?_
   exact .of a' b' c' (.cons d d')
  ·exact .of a b c (.cons d .nil)
theorem parts_ty (hF:FitY numE l en) (hR:KnotOk l en R n):∀(f:Nat) (s:PT),s.at'≤l.length→l.length<n+1+s.at'→l.length<f+s.at'→TY l en s (partsF l en R f s) RightsN 1
 | 0,_,h,_,hf=>absurd h (by omega)
 | f+1,s,h,hm,hf=>by
  rw [partsF]
  split
  ·rename_i hk
   have hp:=due_some (l:=l) (p:=s.at') (by omega)
   refine ((parts_ty hF hR f (nextT s) hp (by simp only [nextT];omega) (by simp only [nextT];omega)).fromS (s:=s) (k:=1) (by simp only [nextT];omega) rfl).bind fun v s' a b c d=>?_
   exact .of a b c (.cons RightsN.nil.nd d)
  split
  ·rename_i hk
   have hp:=due_some (l:=l) (p:=s.at') (by omega)
   refine ((hR.pipe (nextT s) hp (by simp only [nextT];omega)).fromS (s:=s) (k:=2) (by simp only [nextT];omega) rfl).bind fun v s1 a b c d=>?_
   refine ((kind_ty hF (by decide) s1).fromS (s:=s) (k:=3) (by omega) c).bind fun _ s2 a2 b2 c2 _=>?_
   refine ((parts_ty hF hR f s2 b2 (by omega) (by omega)).fromS (s:=s) (k:=1) (by omega) c2).bind fun v' s3 a3 b3 c3 d3=>?_
   exact .of a3 b3 c3 (.cons d d3)
  ·exact (kind_ty hF (by decide) s).bind fun _ s1 a b c _=>.of a b c .nil
theorem text_ty (hF:FitY numE l en) (hR:KnotOk l en R n) (fmt:List UInt8) (s:PT) (_h:s.at'≤l.length) (hm:l.length<n+1+s.at'):TY l en s (textB l en R fmt s) RightN 1:=by
 unfold textB
 refine (kind_ty hF (by decide) s).bind fun _ s1 a b c _=>?_
 refine ((parts_ty hF hR _ s1 b (by omega) (by omega)).fromS (s:=s) (k:=1) (by omega) c).bind fun v s2 a2 b2 c2 d2=>?_
 exact .of a2 b2 c2 d2.nd
theorem call_ty (hF:FitY numE l en) (hR:KnotOk l en R n) (s:PT) (hm:l.length<n+1+s.at'):TY l en s (callB l en R s) RightN 1:=by
 unfold callB
 refine (kind_ty hF (by decide) s).bind fun t s1 a b c _=>?_
 split
 ·rename_i hi
  have hi:=isT_lt hi
  refine ((list_ty hF tSemi hR.pipe _ (nextT s1) hi (by simp only [nextT];omega) (by simp only [nextT];omega)).fromS (s:=s) (k:=1) (by simp only [nextT];omega) c).bind fun v s2 a2 b2 c2 d2=>?_
  refine ((must_ty hF _ s2).fromS (s:=s) (k:=1) (by omega) c2).bind fun _ s3 a3 b3 c3 _=>?_
  exact .of a3 b3 c3 d2.nd
 ·exact .of a b c RightsN.nil.nd
theorem entryV_ty (hR:KnotOk l en R n) (key:Nd) (hk:RightN key) (s:PT) (h:s.at'≤l.length) (hm:l.length<n+1+s.at'):TY l en s (entryV l R key s) RightN 0:=by
 unfold entryV
 split
 ·rename_i hi
  have hi:=isT_lt hi
  refine ((hR.alt (nextT s) hi (by simp only [nextT];omega)).fromS (s:=s) (k:=0) (by simp only [nextT];omega) rfl).bind fun v s2 a2 b2 c2 d2=>?_
  exact .of a2 b2 c2 (RightsN.nd (.cons hk (.cons d2 .nil)))
 ·exact .of (Nat.le_refl _) h rfl (RightsN.nd (.cons hk (.cons (RightsN.nd (.cons right_self (.cons hk .nil))) .nil)))
theorem entry_ty (hF:FitY numE l en) (hR:KnotOk l en R n) (s:PT) (h:s.at'≤l.length) (hm:l.length<n+1+s.at'):TY l en s (entryB l en R s) RightN 1:=by
 unfold entryB
 split
 ·rename_i hk
  have hp:=due_some (l:=l) (p:=s.at') (by omega)
  exact .of (Nat.le_refl _) hp rfl (RightsN.nd (.cons (right_named _) (.cons RightsN.nil.nd .nil)))
 split
 ·rename_i hk
  have hp:=due_some (l:=l) (p:=s.at') (by omega)
  exact (entryV_ty hR _ (right_named _) (nextT s) hp (by simp only [nextT];omega)).fromS (by simp only [nextT];omega) rfl
 split
 ·refine (text_ty hF hR [] s h hm).bind fun v s1 a b c d=>?_
  exact (entryV_ty hR _ d s1 b (by omega)).fromS (by omega) c
 ·refine (must_ty hF _ s).bind fun _ s1 a b c _=>?_
  refine ((hR.pipe s1 b (by omega)).fromS (s:=s) (k:=2) (by omega) c).bind fun v s2 a2 b2 c2 d2=>?_
  refine ((must_ty hF _ s2).fromS (s:=s) (k:=3) (by omega) c2).bind fun _ s3 a3 b3 c3 _=>?_
  refine ((must_ty hF _ s3).fromS (s:=s) (k:=4) (by omega) c3).bind fun _ s4 a4 b4 c4 _=>?_
  refine ((hR.alt s4 b4 (by omega)).fromS (s:=s) (k:=1) (by omega) c4).bind fun v' s5 a5 b5 c5 d5=>?_
  exact .of a5 b5 c5 (RightsN.nd (.cons d2 (.cons d5 .nil)))
theorem signed_ty (hF:FitY numE l en) (hR:KnotOk l en R n) (s:PT) (hm:l.length<n+1+s.at'):TY l en s (signedB l en R s) RightN 1:=by
 unfold signedB
 split
 ·rename_i hi;exact .of (Nat.le_refl _) (isT_lt hi) rfl RightsN.nil.nd
 split
 ·rename_i hi
  have hi:=isT_lt hi
  split
  ·refine ((text_ty hF hR [] (nextT s) hi (by simp only [nextT];omega)).fromS (s:=s) (k:=1) (by simp only [nextT];omega) rfl).bind fun v s2 a2 b2 c2 d2=>?_
   exact .of a2 b2 c2 (RightsN.nd (.cons right_self (.cons d2 .nil)))
  ·exact .of (Nat.le_refl _) hi rfl right_self
 split
 ·rename_i hi
  have hi:=isT_lt hi
  refine ((hR.pipe (nextT s) hi (by simp only [nextT];omega)).fromS (s:=s) (k:=1) (by simp only [nextT];omega) rfl).bind fun v s2 a2 b2 c2 d2=>?_
  refine ((must_ty hF _ s2).fromS (s:=s) (k:=1) (by omega) c2).bind fun _ s3 a3 b3 c3 _=>?_
  exact .of a3 b3 c3 d2
 split
 ·rename_i hi
  have hi:=isT_lt hi
  split
  ·rename_i hj
   exact .of (by simp only [nextT];omega) (isT_lt hj) rfl RightsN.nil.nd
  ·refine ((hR.pipe (nextT s) hi (by simp only [nextT];omega)).fromS (s:=s) (k:=1) (by simp only [nextT];omega) rfl).bind fun v s2 a2 b2 c2 d2=>?_
   refine ((must_ty hF _ s2).fromS (s:=s) (k:=1) (by omega) c2).bind fun _ s3 a3 b3 c3 _=>?_
   exact .of a3 b3 c3 (RightsN.nd (.cons d2 .nil))
 split
 ·rename_i hi
  have hi:=isT_lt hi
  split
  ·rename_i hj
   exact .of (by simp only [nextT];omega) (isT_lt hj) rfl RightsN.nil.nd
  ·refine ((list_ty hF tComma (m:=n+1) (fun s a b=>entry_ty hF hR s a b) _ (nextT s) hi (by simp only [nextT];omega) (by simp only [nextT];omega)).fromS (s:=s) (k:=1) (by simp only [nextT];omega) rfl).bind fun v s2 a2 b2 c2 d2=>?_
   refine ((must_ty hF _ s2).fromS (s:=s) (k:=1) (by omega) c2).bind fun _ s3 a3 b3 c3 _=>?_
   exact .of a3 b3 c3 d2.nd
 ·exact fail_ty hF
theorem fold_ty (hF:FitY numE l en) (hR:KnotOk l en R n) (s:PT) (h:s.at'≤l.length) (hm:l.length<n+s.at'):TY l en s (foldB l en R s) RightsN 1:=by
 unfold foldB
 refine (hR.post s h hm).bind fun v1 s1 a1 b1 c1 d1=>?_
 refine ((must_ty hF _ s1).fromS (s:=s) (k:=1) (by omega) c1).bind fun _ s2 a2 b2 c2 _=>?_
 refine ((hR.pat s2 b2 (by omega)).fromS (s:=s) (k:=1) (by omega) c2).bind fun v3 s3 a3 b3 c3 d3=>?_
 refine ((must_ty hF _ s3).fromS (s:=s) (k:=1) (by omega) c3).bind fun _ s4 a4 b4 c4 _=>?_
 refine ((hR.pipe s4 b4 (by omega)).fromS (s:=s) (k:=1) (by omega) c4).bind fun v5 s5 a5 b5 c5 d5=>?_
 refine ((must_ty hF _ s5).fromS (s:=s) (k:=1) (by omega) c5).bind fun _ s6 a6 b6 c6 _=>?_
 refine ((hR.pipe s6 b6 (by omega)).fromS (s:=s) (k:=1) (by omega) c6).bind fun v7 s7 a7 b7 c7 d7=>?_
 exact .of a7 b7 c7 (.cons d1 (.cons d3 (.cons d5 (.cons d7 .nil))))
theorem cho_ty (hF:FitY numE l en) (hR:KnotOk l en R n):∀(f:Nat) (s:PT),s.at'≤l.length→l.length<n+s.at'→l.length<f+s.at'→TY l en s (choF l en R f s) RightN 1
 | 0,_,h,_,hf=>absurd h (by omega)
 | f+1,s,h,hm,hf=>by
  rw [choF]
  refine (hR.pipe s h hm).bind fun v1 s1 a1 b1 c1 d1=>?_
  refine ((must_ty hF _ s1).fromS (s:=s) (k:=1) (by omega) c1).bind fun _ s2 a2 b2 c2 _=>?_
  refine ((hR.pipe s2 b2 (by omega)).fromS (s:=s) (k:=1) (by omega) c2).bind fun v3 s3 a3 b3 c3 d3=>?_
  split
  ·rename_i hi
   have hi:=isT_lt hi
   refine ((cho_ty hF hR f (nextT s3) hi (by simp only [nextT];omega) (by simp only [nextT];omega)).fromS (s:=s) (k:=1) (by simp only [nextT];omega) c3).bind fun v4 s4 a4 b4 c4 d4=>?_
   exact .of a4 b4 c4 (RightsN.nd (.cons d1 (.cons d3 (.cons d4 .nil))))
  split
  ·rename_i hi
   have hi:=isT_lt hi
   refine ((hR.pipe (nextT s3) hi (by simp only [nextT];omega)).fromS (s:=s) (k:=1) (by simp only [nextT];omega) c3).bind fun v4 s4 a4 b4 c4 d4=>?_
   refine ((must_ty hF _ s4).fromS (s:=s) (k:=1) (by omega) c4).bind fun _ s5 a5 b5 c5 _=>?_
   exact .of a5 b5 c5 (RightsN.nd (.cons d1 (.cons d3 (.cons d4 .nil))))
  ·refine ((must_ty hF _ s3).fromS (s:=s) (k:=1) (by omega) c3).bind fun _ s5 a5 b5 c5 _=>?_
   exact .of a5 b5 c5 (RightsN.nd (.cons d1 (.cons d3 (.cons right_none .nil))))
theorem try_ty (hR:KnotOk l en R n) (s:PT) (h:s.at'≤l.length) (hm:l.length<n+s.at'):TY l en s (tryB l R s) RightN 1:=by
 unfold tryB
 refine (hR.post s h hm).bind fun v1 s1 a1 b1 c1 d1=>?_
 split
 ·rename_i hi
  have hi:=isT_lt hi
  refine ((hR.post (nextT s1) hi (by simp only [nextT];omega)).fromS (s:=s) (k:=1) (by simp only [nextT];omega) c1).bind fun v4 s4 a4 b4 c4 d4=>?_
  exact .of a4 b4 c4 (RightsN.nd (.cons d1 (.cons d4 .nil)))
 ·exact .of a1 b1 c1 (RightsN.nd (.cons d1 .nil))
theorem each_ty (hF:FitY numE l en) (hR:KnotOk l en R n) (s:PT) (h:s.at'≤l.length) (hm:l.length<n+s.at'):TY l en s (eachB l en R s) RightN 1:=by
 unfold eachB
 refine (fold_ty hF hR s h hm).bind fun v1 s1 a1 b1 c1 d1=>?_
 split
 ·rename_i hi
  have hi:=isT_lt hi
  refine ((hR.pipe (nextT s1) hi (by simp only [nextT];omega)).fromS (s:=s) (k:=1) (by simp only [nextT];omega) c1).bind fun v4 s4 a4 b4 c4 d4=>?_
  refine ((must_ty hF _ s4).fromS (s:=s) (k:=1) (by omega) c4).bind fun _ s5 a5 b5 c5 _=>?_
  exact .of a5 b5 c5 (RightsN.nd (d1.append (.cons d4 .nil)))
 ·refine ((must_ty hF _ s1).fromS (s:=s) (k:=1) (by omega) c1).bind fun _ s5 a5 b5 c5 _=>?_
  exact .of a5 b5 c5 (RightsN.nd (d1.append (.cons right_none .nil)))
theorem word_ty (hF:FitY numE l en) (hR:KnotOk l en R n) (s:PT) (hm:l.length<n+1+s.at'):TY l en s (wordB l en R s) RightN 1:=by
 unfold wordB
 split
 ·rename_i hi
  have hi:=isT_lt hi
  exact (cho_ty hF hR _ (nextT s) hi (by simp only [nextT];omega) (by simp only [nextT];omega)).fromS (by simp only [nextT];omega) rfl
 split
 ·rename_i hi
  have hi:=isT_lt hi
  exact (try_ty hR (nextT s) hi (by simp only [nextT];omega)).fromS (by simp only [nextT];omega) rfl
 split
 ·rename_i hi
  have hi:=isT_lt hi
  refine ((fold_ty hF hR (nextT s) hi (by simp only [nextT];omega)).fromS (s:=s) (k:=1) (by simp only [nextT];omega) rfl).bind fun v1 s1 a1 b1 c1 d1=>?_
  refine ((must_ty hF _ s1).fromS (s:=s) (k:=1) (by omega) c1).bind fun _ s5 a5 b5 c5 _=>?_
  exact .of a5 b5 c5 d1.nd
 split
 ·rename_i hi
  have hi:=isT_lt hi
  exact (each_ty hF hR (nextT s) hi (by simp only [nextT];omega)).fromS (by simp only [nextT];omega) rfl
 split
 ·rename_i hi
  have hi:=isT_lt hi
  refine ((kind_ty hF (by decide) (nextT s)).fromS (s:=s) (k:=1) (by simp only [nextT];omega) rfl).bind fun t s1 a b c _=>?_
  exact .of a b c RightsN.nil.nd
 ·exact fail_ty hF
theorem term_ty (hF:FitY numE l en) (hR:KnotOk l en R n) (s:PT) (h:s.at'≤l.length) (hm:l.length<n+1+s.at'):TY l en s (termB numE l en R s) RightN 1:=by
 unfold termB
 simp only
 split
 ·rename_i hk
  have hp:=due_some (l:=l) (p:=s.at') (by omega)
  split
  ·exact .of (Nat.le_refl _) hp rfl RightsN.nil.nd
  ·rename_i hn
   have:=hF.num (dueT l s.at').text
   exact .no ⟨due_pos hF hp,(fun e=>by omega),by omega⟩
 split
 ·rename_i hk
  have hp:=due_some (l:=l) (p:=s.at') (by omega)
  exact .of (Nat.le_refl _) hp rfl (RightsN.nd (.cons right_self (.cons (right_named _) .nil)))
 split
 ·rename_i hk
  have hp:=due_some (l:=l) (p:=s.at') (by omega)
  exact .of (Nat.le_refl _) hp rfl RightsN.nil.nd
 split
 ·exact text_ty hF hR [] s h hm
 split
 ·rename_i hk
  have hp:=due_some (l:=l) (p:=s.at') (by omega)
  split
  ·exact (text_ty hF hR _ (nextT s) hp (by simp only [nextT];omega)).fromS (by simp only [nextT];omega) rfl
  ·exact .of (Nat.le_refl _) hp rfl RightsN.nil.nd
 split
 ·split
  ·exact word_ty hF hR s hm
  ·exact call_ty hF hR s hm
 ·exact signed_ty hF hR s hm
theorem slice_ty (hR:KnotOk l en R n) (x:Nd) (hx:RightN x) (s:PT) (h:s.at'≤l.length) (hm:l.length<n+s.at'):TY l en s (sliceB l R x s) RightN 1:=by
 unfold sliceB
 split
 ·rename_i hi
  have hi:=isT_lt hi
  refine ((hR.pipe (nextT s) hi (by simp only [nextT];omega)).fromS (s:=s) (k:=1) (by simp only [nextT];omega) rfl).bind fun v s2 a2 b2 c2 d2=>?_
  exact .of a2 b2 c2 (RightsN.nd (.cons hx (.cons right_none (.cons d2 .nil))))
 ·refine (hR.pipe s h hm).bind fun v s2 a2 b2 c2 d2=>?_
  split
  ·rename_i hi
   have hi:=isT_lt hi
   split
   ·exact .of (by simp only [nextT];omega) hi c2 (RightsN.nd (.cons hx (.cons d2 (.cons right_none .nil))))
   ·refine ((hR.pipe (nextT s2) hi (by simp only [nextT];omega)).fromS (s:=s) (k:=1) (by simp only [nextT];omega) c2).bind fun v3 s3 a3 b3 c3 d3=>?_
    exact .of a3 b3 c3 (RightsN.nd (.cons hx (.cons d2 (.cons d3 .nil))))
  ·exact .of a2 b2 c2 (RightsN.nd (.cons hx (.cons d2 .nil)))
theorem inner_ty (hF:FitY numE l en) (hR:KnotOk l en R n) (x:Nd) (hx:RightN x) (s:PT) (hm:l.length<n+1+s.at'):TY l en s (innerB l en R x s) RightN 1:=by
 unfold innerB
 refine (must_ty hF _ s).bind fun _ s1 a1 b1 c1 _=>?_
 split
 ·rename_i hi
  exact .of (by simp only [nextT];omega) (isT_lt hi) c1 (RightsN.nd (.cons hx .nil))
 ·refine ((slice_ty hR x hx s1 b1 (by omega)).fromS (s:=s) (k:=1) (by omega) c1).bind fun v s2 a2 b2 c2 d2=>?_
  refine ((must_ty hF _ s2).fromS (s:=s) (k:=1) (by omega) c2).bind fun _ s3 a3 b3 c3 _=>?_
  exact .of a3 b3 c3 d2
theorem suf_ty (hF:FitY numE l en) (hR:KnotOk l en R n):∀(f:Nat) (x:Nd) (s:PT),RightN x→s.at'≤l.length→l.length<n+1+s.at'→l.length<f+s.at'→TY l en s (sufF l en R f x s) RightN 0
 | 0,_,_,_,h,_,hf=>absurd h (by omega)
 | f+1,x,s,hx,h,hm,hf=>by
  have ih:=fun (x':Nd) (s':PT) (hx':RightN x') (h':s'.at'≤l.length) (hs:s.at'+1≤s'.at') (hp:s'.pipes=s.pipes)=>(suf_ty hF hR f x' s' hx' h' (by omega) (by omega)).fromS (s:=s) (k:=0) (by omega) hp
  rw [sufF]
  split
  ·rename_i hk
   have hp:=due_some (l:=l) (p:=s.at') (by omega)
   exact ih _ _ (RightsN.nd (.cons hx (.cons (right_named _) .nil))) hp (Nat.le_refl _) rfl
  split
  ·rename_i hi
   rw [Bool.and_eq_true] at hi
   have hi:=isT_lt hi.1
   refine ((text_ty hF hR [] (nextT s) hi (by simp only [nextT];omega)).fromS (s:=s) (k:=1) (by simp only [nextT];omega) rfl).bind fun v s2 a2 b2 c2 d2=>?_
   exact ih _ _ (RightsN.nd (.cons hx (.cons d2 .nil))) b2 a2 c2
  split
  ·rename_i hi
   rw [Bool.and_eq_true] at hi
   have hi:=isT_lt hi.1
   refine ((inner_ty hF hR x hx (nextT s) (by simp only [nextT];omega)).fromS (s:=s) (k:=1) (by simp only [nextT];omega) rfl).bind fun v s2 a2 b2 c2 d2=>?_
   exact ih _ _ d2 b2 a2 c2
  split
  ·refine ((inner_ty hF hR x hx s (by omega)).fromS (s:=s) (k:=1) (by omega) rfl).bind fun v s2 a2 b2 c2 d2=>?_
   exact ih _ _ d2 b2 a2 c2
  split
  ·rename_i hi
   have hi:=isT_lt hi
   exact ih _ _ (RightsN.nd (.cons hx .nil)) hi (Nat.le_refl _) rfl
  ·exact .of (Nat.le_refl _) h rfl hx
theorem post_ty (hF:FitY numE l en) (hR:KnotOk l en R n) (s:PT) (h:s.at'≤l.length) (hm:l.length<n+1+s.at'):TY l en s (postB numE l en R s) RightN 1:=by
 unfold postB
 refine (term_ty hF hR s h hm).bind fun v s1 a b c d=>?_
 exact (suf_ty hF hR _ v s1 d b (by omega) (by omega)).fromS (by omega) c
theorem neg_ty (hF:FitY numE l en) (hR:KnotOk l en R n) (s:PT) (h:s.at'≤l.length) (hm:l.length<n+1+s.at'):TY l en s (negB numE l en R s) RightN 1:=by
 unfold negB
 split
 ·rename_i hi
  have hi:=isT_lt hi
  refine ((hR.neg (nextT s) hi (by simp only [nextT];omega)).fromS (s:=s) (k:=1) (by simp only [nextT];omega) rfl).bind fun v s2 a2 b2 c2 d2=>?_
  exact .of a2 b2 c2 (RightsN.nd (.cons d2 .nil))
 ·refine (post_ty hF hR s h hm).bind fun v s1 a b c d=>?_
  split
  ·rename_i hi
   have hi:=isT_lt hi
   refine ((hR.pat (nextT s1) hi (by simp only [nextT];omega)).fromS (s:=s) (k:=1) (by simp only [nextT];omega) c).bind fun v2 s2 a2 b2 c2 d2=>?_
   refine ((must_ty hF _ s2).fromS (s:=s) (k:=1) (by omega) c2).bind fun _ s3 a3 b3 c3 _=>?_
   refine ((hR.pipe s3 b3 (by omega)).fromS (s:=s) (k:=1) (by omega) c3).bind fun v4 s4 a4 b4 c4 d4=>?_
   exact .of a4 b4 c4 (RightsN.nd (.cons d (.cons d2 (.cons d4 .nil))))
  ·exact .of a b c d
theorem str_lt {p:Nat} {k:Nat} (h:(strT l p).1=k) (hk:k≠0):p<l.length:=by
 refine due_some (fun e=>?_)
 unfold strT at h
 simp only [e] at h
 simp at h
 omega
theorem opF_ty {next:PT→PY Nd} {least:Nat} (hl:least≠0) (hN:∀s,s.at'≤l.length→l.length<n+1+s.at'→TY l en s (next s) RightN 1):∀(f:Nat) (x:Nd) (s:PT),RightN x→s.at'≤l.length→l.length<n+1+s.at'→l.length<f+s.at'→TY l en s (opF l next least f x s) RightN 0
 | 0,_,_,_,h,_,hf=>absurd h (by omega)
 | f+1,x,s,hx,h,hm,hf=>by
  rw [opF]
  split
  ·rename_i hi
   have hi:=str_lt hi hl
   refine ((hN (nextT s) hi (by simp only [nextT];omega)).fromS (s:=s) (k:=1) (by simp only [nextT];omega) rfl).bind fun v s2 a2 b2 c2 d2=>?_
   have hx2:RightN (.mk 17 (dueT l s.at').text [x,v]):=RightsN.nd (.cons hx (.cons d2 .nil))
   split
   ·exact .of (by omega) b2 c2 hx2
   ·exact (opF_ty hl hN f _ s2 hx2 b2 (by omega) (by omega)).fromS (by omega) c2
  ·exact .of (Nat.le_refl _) h rfl hx
theorem op_ty (hF:FitY numE l en) (hR:KnotOk l en R n):∀(k:Nat),k≤6→∀(s:PT),s.at'≤l.length→l.length<n+1+s.at'→TY l en s (opB numE l en R k s) RightN 1
 | 0,_,s,h,hm=>neg_ty hF hR s h hm
 | k+1,hk,s,h,hm=>by
  rw [opB]
  have ih:=op_ty hF hR k (by omega)
  refine (ih s h hm).bind fun v s1 a b c d=>?_
  exact (opF_ty (by omega) ih _ v s1 d b (by omega) (by omega)).fromS (by omega) c
theorem alt_ty (hF:FitY numE l en) (hR:KnotOk l en R n) (s:PT) (h:s.at'≤l.length) (hm:l.length<n+1+s.at'):TY l en s (altB numE l en R s) RightN 1:=by
 unfold altB
 refine (op_ty hF hR 6 (Nat.le_refl _) s h hm).bind fun v s1 a b c d=>?_
 split
 ·rename_i hi
  have hi:=isT_lt hi
  refine ((hR.alt (nextT s1) hi (by simp only [nextT];omega)).fromS (s:=s) (k:=1) (by simp only [nextT];omega) c).bind fun v2 s2 a2 b2 c2 d2=>?_
  exact .of a2 b2 c2 (RightsN.nd (.cons d (.cons d2 .nil)))
 ·exact .of a b c d
theorem commas_ty (hF:FitY numE l en) (hR:KnotOk l en R n):∀(f:Nat) (x:Nd) (s:PT),RightN x→s.at'≤l.length→l.length<n+1+s.at'→l.length<f+s.at'→TY l en s (commasF numE l en R f x s) RightN 0
 | 0,_,_,_,h,_,hf=>absurd h (by omega)
 | f+1,x,s,hx,h,hm,hf=>by
  rw [commasF]
  split
  ·rename_i hi
   have hi:=isT_lt hi
   refine ((alt_ty hF hR (nextT s) hi (by simp only [nextT];omega)).fromS (s:=s) (k:=1) (by simp only [nextT];omega) rfl).bind fun v s2 a2 b2 c2 d2=>?_
   exact (commas_ty hF hR f _ s2 (RightsN.nd (.cons hx (.cons d2 .nil))) b2 (by omega) (by omega)).fromS (by omega) c2
  ·exact .of (Nat.le_refl _) h rfl hx
theorem param_ty (hF:FitY numE l en) (s:PT):TY l en s (paramB l en s) RightN 1:=by
 unfold paramB
 split
 ·rename_i hk
  have hp:=due_some (l:=l) (p:=s.at') (by omega)
  exact .of (Nat.le_refl _) hp rfl RightsN.nil.nd
 ·exact (kind_ty hF (by decide) s).bind fun t s1 a b c _=>.of a b c RightsN.nil.nd
theorem params_ty (hF:FitY numE l en) (s:PT) (h:s.at'≤l.length):TY l en s (paramsB l en s) RightsN 0:=by
 unfold paramsB
 split
 ·rename_i hi
  have hi:=isT_lt hi
  refine ((list_ty hF tSemi (m:=l.length+1) (fun s _ _=>param_ty hF s) _ (nextT s) hi (by simp only [nextT];omega) (by simp only [nextT];omega)).fromS (s:=s) (k:=1) (by simp only [nextT];omega) rfl).bind fun v s2 a2 b2 c2 d2=>?_
  refine ((must_ty hF _ s2).fromS (s:=s) (k:=1) (by omega) c2).bind fun _ s3 a3 b3 c3 _=>?_
  exact .of (by omega) b3 c3 d2
 ·exact .of (Nat.le_refl _) h rfl .nil
theorem def_ty (hF:FitY numE l en) (hR:KnotOk l en R n) (s:PT) (hm:l.length<n+s.at'):TY l en s (defB l en R s) RightN 1:=by
 unfold defB
 refine (kind_ty hF (by decide) s).bind fun t s1 a1 b1 c1 _=>?_
 refine ((params_ty hF s1 b1).fromS (s:=s) (k:=1) (by omega) c1).bind fun v2 s2 a2 b2 c2 d2=>?_
 refine ((must_ty hF _ s2).fromS (s:=s) (k:=1) (by omega) c2).bind fun _ s3 a3 b3 c3 _=>?_
 refine ((hR.pipe s3 b3 (by omega)).fromS (s:=s) (k:=1) (by omega) c3).bind fun v4 s4 a4 b4 c4 d4=>?_
 refine ((must_ty hF _ s4).fromS (s:=s) (k:=1) (by omega) c4).bind fun _ s5 a5 b5 c5 _=>?_
 refine ((hR.pipe s5 b5 (by omega)).fromS (s:=s) (k:=1) (by omega) c5).bind fun v6 s6 a6 b6 c6 d6=>?_
 exact .of a6 b6 c6 (RightsN.nd (d2.append (.cons d4 (.cons d6 .nil))))
theorem whole_ty (hF:FitY numE l en) (hR:KnotOk l en R n) (s:PT) (h:s.at'≤l.length) (hm:l.length<n+1+s.at'):TY l en s (wholeB numE l en R s) RightN 1:=by
 unfold wholeB
 split
 ·rename_i hi
  have hi:=isT_lt hi
  exact (def_ty hF hR (nextT s) (by simp only [nextT];omega)).fromS (by simp only [nextT];omega) rfl
 split
 ·rename_i hi
  have hi:=isT_lt hi
  refine ((kind_ty hF (by decide) (nextT s)).fromS (s:=s) (k:=1) (by simp only [nextT];omega) rfl).bind fun t s1 a b c _=>?_
  refine ((must_ty hF _ s1).fromS (s:=s) (k:=1) (by omega) c).bind fun _ s2 a2 b2 c2 _=>?_
  refine ((hR.pipe s2 b2 (by omega)).fromS (s:=s) (k:=1) (by omega) c2).bind fun v3 s3 a3 b3 c3 d3=>?_
  exact .of a3 b3 c3 (RightsN.nd (.cons d3 .nil))
 ·refine (alt_ty hF hR s h hm).bind fun v s1 a b c d=>?_
  refine ((commas_ty hF hR _ v s1 d b (by omega) (by omega)).fromS (s:=s) (k:=1) (by omega) c).bind fun v2 s2 a2 b2 c2 d2=>?_
  split
  ·rename_i hi
   have hi:=isT_lt hi
   refine ((hR.pipe (nextT s2) hi (by simp only [nextT];omega)).fromS (s:=s) (k:=1) (by simp only [nextT];omega) c2).bind fun v3 s3 a3 b3 c3 d3=>?_
   exact .of a3 b3 c3 (RightsN.nd (.cons d2 (.cons d3 .nil)))
  ·exact .of a2 b2 c2 d2
theorem pipe_ty (hF:FitY numE l en) (hR:KnotOk l en R n) (s:PT) (h:s.at'≤l.length) (hm:l.length<n+1+s.at'):TY l en s (pipeB numE l en R s) RightN 1:=by
 unfold pipeB
 split
 ·refine .no ⟨?_,(fun e=>by cases e),by omega⟩
  split
  ·rename_i hp;exact due_pos hF hp
  ·exact Nat.le_refl _
 ·have:=whole_ty hF hR { s with pipes:=s.pipes+1 } h hm
  cases hw:wholeB numE l en R { s with pipes:=s.pipes+1 } with
  | bad a e=>exact .no (this.bad a e hw)
  | ok v s'=>
   obtain ⟨a,b,c,d⟩:=this.ok v s' hw
   refine .of a b ?_ d
   simp only at c ⊢
   omega
theorem keyT_ty (hF:FitY numE l en) (s:PT):TY l en s (keyTB l en s) (fun _=>True) 1:=by
 unfold keyTB
 split
 ·split
  ·refine ((kind_ty hF (by decide) (nextT (nextT s))).fromS (s:=s) (k:=1) (by simp only [nextT];omega) rfl).bind fun t s1 a b c _=>?_
   exact .of a b c trivial
  ·refine ((kind_ty hF (by decide) (nextT s)).fromS (s:=s) (k:=1) (by simp only [nextT];omega) rfl).bind fun t s1 a b c _=>?_
   exact .of a b c trivial
 ·exact (kind_ty hF (by decide) s).bind fun t s1 a b c _=>.of a b c trivial
theorem key_ty (hF:FitY numE l en) (hR:KnotOk l en R n) (s:PT) (hm:l.length<n+1+s.at'):TY l en s (keyB l en R s) RightN 1:=by
 unfold keyB
 split
 ·rename_i hk
  have hp:=due_some (l:=l) (p:=s.at') (by omega)
  exact .of (Nat.le_refl _) hp rfl (RightsN.nd (.cons RightsN.nil.nd .nil))
 ·refine (keyT_ty hF s).bind fun t s1 a b c _=>?_
  refine ((must_ty hF _ s1).fromS (s:=s) (k:=1) (by omega) c).bind fun _ s2 a2 b2 c2 _=>?_
  refine ((hR.pat s2 b2 (by omega)).fromS (s:=s) (k:=1) (by omega) c2).bind fun v3 s3 a3 b3 c3 d3=>?_
  exact .of a3 b3 c3 (RightsN.nd (.cons d3 .nil))
theorem pat_ty (hF:FitY numE l en) (hR:KnotOk l en R n) (s:PT) (hm:l.length<n+1+s.at'):TY l en s (patB l en R s) RightN 1:=by
 unfold patB
 split
 ·rename_i hk
  have hp:=due_some (l:=l) (p:=s.at') (by omega)
  exact .of (Nat.le_refl _) hp rfl RightsN.nil.nd
 split
 ·rename_i hi
  have hi:=isT_lt hi
  refine ((list_ty hF tComma hR.pat _ (nextT s) hi (by simp only [nextT];omega) (by simp only [nextT];omega)).fromS (s:=s) (k:=1) (by simp only [nextT];omega) rfl).bind fun v s2 a2 b2 c2 d2=>?_
  refine ((must_ty hF _ s2).fromS (s:=s) (k:=1) (by omega) c2).bind fun _ s3 a3 b3 c3 _=>?_
  exact .of a3 b3 c3 d2.nd
 ·refine (must_ty hF _ s).bind fun _ s1 a b c _=>?_
  refine ((list_ty hF tComma (m:=n+1) (fun s _ h=>key_ty hF hR s h) _ s1 b (by omega) (by omega)).fromS (s:=s) (k:=1) (by omega) c).bind fun v s2 a2 b2 c2 d2=>?_
  refine ((must_ty hF _ s2).fromS (s:=s) (k:=1) (by omega) c2).bind fun _ s3 a3 b3 c3 _=>?_
  exact .of a3 b3 c3 d2.nd
end
theorem knot_ok (hF:FitY numE l en):∀n,KnotOk l en (knotF numE l en n) n
 | 0=>⟨fun _ h k=>absurd h (by omega),fun _ h k=>absurd h (by omega),fun _ h k=>absurd h (by omega),fun _ h k=>absurd h (by omega),fun _ h k=>absurd h (by omega)⟩
 | n+1=>by
  have ih:=knot_ok hF n
  exact ⟨fun s h k=>pipe_ty hF ih s h k,fun s h k=>alt_ty hF ih s h k,fun s h k=>neg_ty hF ih s h k,fun s h k=>post_ty hF ih s h k,fun s _ k=>pat_ty hF ih s k⟩
end
end Go.Proofs.YtmbeicndhigklaaGreatDoor
namespace Go.Proofs.YtmbeicndhigklaaGreatDoor
end Go.Proofs.YtmbeicndhigklaaGreatDoor
namespace Go.Proofs.YtmbeicndhigklaaGreatDoor
def parseV (numE:List UInt8→Nat) (l:List UInt8):Nd×Nat×Nat:=
 if (tokensV l).2.2≠0 then (ndZero,(tokensV l).2.1,(tokensV l).2.2) else parseT numE (tokensV l).1 l.length
end Go.Proofs.YtmbeicndhigklaaGreatDoor
