/-
Plain Lean: LexRises (chapter 14): tokens rise, texts are shut as they were opened. No program in sight.
-/
import Derived.Test.YtmbeicndhigklaaGreatDoorPLexP
import Derived.Test.YtmbeicndhigklaaGreatDoorPSynP
import Derived.Test.YtmbeicndhigklaaGreatDoorPNum4
namespace Go.Proofs.YtmbeicndhigklaaGreatDoor
def openK (k:Tk) (st:List Nat):Option (List Nat):=
 if k.kind=7∨k.kind=9 then some (k.kind::st)
 else if k.kind=11 then (if st.head?=some 7 then some st.tail else none)
 else if k.kind=10 then (if st.head?=some 9 then some st.tail else none)
 else if k.kind=8 then (if st.head?=some 7∧k.text≠[] then some st else none)
 else some st
def opens:List Tk→List Nat→Option (List Nat)
 | [],st=>some st
 | k::r,st=>(openK k st).bind (opens r)
theorem opens_snoc:∀(a:List Tk) (k:Tk) (st:List Nat),opens (a++[k]) st=(opens a st).bind (openK k)
 | [],k,st=>by
  show (openK k st).bind (opens [])=openK k st
  cases openK k st <;> rfl
 | b::a,k,st=>by
  show (openK b st).bind (opens (a++[k]))=((openK b st).bind (opens a)).bind (openK k)
  cases openK b st with
  | none=>rfl
  | some x=>exact opens_snoc a k x
def pairs (l:List Nat):List Nat:=l.flatMap fun _=>[9,7]
structure RiseS (l:List UInt8) (s:LS) (st:List Nat):Prop where
 op:opens s.toks []=some st
 low:∀k∈s.toks,k.pos<s.pos∧1≤k.kind∧k.kind≤11
 rise:s.toks.Pairwise fun a b=>a.pos<b.pos
 pos:s.pos≤l.length
theorem RiseS.texts {l:List UInt8} {s:LS} {st:List Nat} (h:RiseS l s st) (x:List Nat):RiseS l { s with texts:=x } st:=⟨h.op,h.low,h.rise,h.pos⟩
theorem RiseS.push {l:List UInt8} {s:LS} {st st':List Nat} (h:RiseS l s st) (k:Nat) (t:List UInt8) (n:Nat) (hk:1≤k∧k≤11) (hn:0<n) (hl:s.pos+n≤l.length) (ho:openK ⟨k,t,s.pos⟩ st=some st') :
  RiseS l { s with toks:=s.toks++[⟨k,t,s.pos⟩],pos:=s.pos+n } st':=by
 refine ⟨?_,?_,?_,hl⟩
 ·simp only
  rw [opens_snoc,h.op];exact ho
 ·intro q hq
  simp only at hq ⊢
  rcases List.mem_append.1 hq with h1 | h1
  ·have:=h.low q h1;omega
  ·rw [List.mem_singleton] at h1
   subst h1
   simp only;omega
 ·simp only
  rw [List.pairwise_append]
  refine ⟨h.rise,by simp,fun a ha b hb=>?_⟩
  rw [List.mem_singleton] at hb
  subst hb
  exact (h.low a ha).1
theorem RiseS.put {l:List UInt8} {s:LS} {st st':List Nat} (h:RiseS l s st) (k:Nat) (t:List UInt8) (n:Nat) (hk:1≤k∧k≤11) (hn:0<n) (hl:s.pos+n≤l.length) (ho:openK ⟨k,t,s.pos⟩ st=some st'):RiseS l (putS s k t n) st':=
 h.push k t n hk hn hl ho
theorem RiseS.plain {l:List UInt8} {s:LS} {st:List Nat} (h:RiseS l s st) (k:Nat) (t:List UInt8) (n:Nat) (hk:1≤k∧k≤6) (hn:0<n) (hl:s.pos+n≤l.length):RiseS l (putS s k t n) st:=
 h.put k t n (by omega) hn hl (by unfold openK;simp only;rw [if_neg (by omega),if_neg (by omega),if_neg (by omega),if_neg (by omega)])
theorem RiseS.flush {l:List UInt8} {s:LS} {st:List Nat} (h:RiseS l s (7::st)) (n:Nat) (o:List UInt8) (ho:0<n→o≠[]) (hl:s.pos+n≤l.length):RiseS l (flushS s n o) (7::st):=by
 unfold flushS
 split
 ·rename_i hn
  refine h.push 8 o n (by omega) hn hl ?_
  unfold openK
  simp [ho hn]
 ·exact h
theorem text_rise {l:List UInt8} {s:LS} {x:Nat} {ts:List Nat} (h:RiseS l s (7::pairs ts)) (ht:s.texts=x::ts) (he:(textS l s).err=0):RiseS l (textS l s) (pairs (textS l s).texts):=by
 obtain ⟨a,b,c,d,e⟩:=scanT_facts (l.drop s.pos)
 rw [List.length_drop] at a c d
 have hp:=h.pos
 have hf:=flushS_pos s (scanT (l.drop s.pos)).2.1 (scanT (l.drop s.pos)).2.2
 have hr:=h.flush (scanT (l.drop s.pos)).2.1 (scanT (l.drop s.pos)).2.2 e (by omega)
 unfold textS at he ⊢
 simp only at he ⊢
 by_cases h0:(scanT (l.drop s.pos)).1=0
 ·have:=c h0
  rw [if_pos h0]
  simp only [ht,List.tail_cons]
  refine (hr.put 11 [] 1 (by omega) (by omega) (by rw [hf.1];omega) (st':=pairs ts) ?_).texts _
  unfold openK;simp
 rw [if_neg h0] at he ⊢
 by_cases h1:(scanT (l.drop s.pos)).1=1
 ·have:=d h1
  rw [if_pos h1]
  have e2:(putS (flushS s (scanT (l.drop s.pos)).2.1 (scanT (l.drop s.pos)).2.2) 9 [] 2).texts=x::ts:=by unfold putS;simp only;rw [hf.2.1,ht]
  rw [e2]
  refine hr.put 9 [] 2 (by omega) (by omega) (by rw [hf.1];omega) ?_
  unfold openK pairs;simp
 rw [if_neg h1] at he
 by_cases h2:(scanT (l.drop s.pos)).1=2
 ·rw [if_pos h2] at he;exact absurd he (by unfold failS;simp)
 ·rw [if_neg h2] at he;exact absurd he (by unfold failS;simp)
theorem mark_rise {l:List UInt8} {s:LS} (h:RiseS l s (pairs s.texts)) (k:Nat) (keep:List UInt8) (hk:1≤k∧k≤6) (hp:s.pos<l.length) (he:(markS l s k keep).err=0):RiseS l (markS l s k keep) (pairs (markS l s k keep).texts):=by
 have:=nameN_le (l.drop (s.pos+1))
 rw [List.length_drop] at this
 unfold markS at he ⊢
 split
 ·rename_i h0;rw [if_pos h0] at he;exact absurd he (by unfold failS;simp)
 ·exact h.plain k _ _ hk (by omega) (by omega)
theorem sign_rise {l:List UInt8} {s:LS} (h:RiseS l s (pairs s.texts)) (t:List UInt8) (hp:s.pos+t.length≤l.length) (he:(signS l s t).err=0):RiseS l (signS l s t) (pairs (signS l s t).texts):=by
 unfold signS at he ⊢
 by_cases h0:t=[]
 ·rw [if_pos h0] at he;exact absurd he (by unfold failS;simp)
 rw [if_neg h0] at he ⊢
 have h1:0<t.length:=List.length_pos_iff.2 h0
 cases hx:s.texts with
 | nil=>
  simp only
  have:=h.plain 6 t t.length (by omega) h1 hp
  exact this
 | cons x ts=>
  rw [hx] at he h
  simp only at he ⊢
  by_cases h2:t=[40]
  ·rw [if_pos h2]
   exact (h.texts ((x+1)::ts)).plain 6 t t.length (by omega) h1 hp
  rw [if_neg h2] at he ⊢
  by_cases h3:t=[41]
  ·rw [if_pos h3] at he ⊢
   by_cases h4:x=0
   ·rw [if_pos h4] at he ⊢
    have h5:t.length=1:=by rw [h3];rfl
    refine text_rise (x:=x) (ts:=ts) ?_ hx he
    refine h.put 10 [] 1 (by omega) (by omega) (by omega) ?_
    unfold openK pairs;simp
   ·rw [if_neg h4]
    exact (h.texts ((x-1)::ts)).plain 6 t t.length (by omega) h1 hp
  ·rw [if_neg h3]
   have:=h.plain 6 t t.length (by omega) h1 hp
   have e:(putS s 6 t t.length).texts=x::ts:=hx
   rw [e];exact this
theorem token_rise {l:List UInt8} {s:LS} (h:RiseS l s (pairs s.texts)) (hp:s.pos<l.length) (he:(tokenS l s).err=0):RiseS l (tokenS l s) (pairs (tokenS l s).texts):=by
 have hn:=nameN_le (l.drop s.pos)
 have hm:=numN_le (l.drop s.pos)
 have hg:=signL_le (l.drop s.pos)
 have hn0:=nameN_pos (l.drop s.pos)
 have hm0:=digN_pos (l.drop s.pos)
 rw [List.length_drop] at hn hm hg
 unfold tokenS at he ⊢
 simp only at he ⊢
 by_cases h1:bt (l.drop s.pos) 0=34
 ·rw [if_pos h1] at he ⊢
  by_cases h2:50≤s.texts.length
  ·rw [if_pos h2] at he;exact absurd he (by unfold failS;simp)
  rw [if_neg h2] at he ⊢
  refine text_rise (x:=0) (ts:=s.texts) ?_ rfl he
  refine (h.put 7 [] 1 (by omega) (by omega) (by omega) ?_).texts _
  unfold openK;simp
 rw [if_neg h1] at he ⊢
 by_cases h2:digB (bt (l.drop s.pos) 0)=true
 ·rw [if_pos h2];have:=hm0.2 h2;exact h.plain 1 _ _ (by omega) (by omega) (by omega)
 rw [if_neg h2] at he ⊢
 by_cases h3:letB (bt (l.drop s.pos) 0)=true
 ·rw [if_pos h3];have:=hn0.2 h3;exact h.plain 2 _ _ (by omega) (by omega) (by omega)
 rw [if_neg h3] at he ⊢
 by_cases h4:bt (l.drop s.pos) 0=36
 ·rw [if_pos h4] at he ⊢;exact mark_rise h _ _ (by omega) hp he
 rw [if_neg h4] at he ⊢
 by_cases h5:bt (l.drop s.pos) 0=64
 ·rw [if_pos h5] at he ⊢;exact mark_rise h _ _ (by omega) hp he
 rw [if_neg h5] at he ⊢
 by_cases h6:bt (l.drop s.pos) 0=46∧letB (bt (l.drop s.pos) 1)=true
 ·rw [if_pos h6] at he ⊢;exact mark_rise h _ _ (by omega) hp he
 rw [if_neg h6] at he ⊢
 exact sign_rise h _ (by omega) he
theorem skip_rise {l:List UInt8} {s:LS} {st:List Nat} (h:RiseS l s st):RiseS l (skipS l s) st:=by
 have:=skipS_pos l s h.pos
 refine ⟨h.op,fun k hk=>?_,h.rise,this.2⟩
 have:=h.low k hk
 omega
theorem run_rise:∀(f:Nat) (l:List UInt8) (s:LS),RiseS l s (pairs s.texts)→s.err=0 →
  (runF f l s).pos≤l.length∧((runF f l s).err=0→RiseS l (runF f l s) (pairs (runF f l s).texts))
 | 0,_,_,h,_=>⟨h.pos,fun _=>h⟩
 | f+1,l,s,h,he=>by
  have hk:=skip_rise h
  unfold runF
  by_cases h0:l.length≤(skipS l s).pos
  ·rw [if_pos h0];exact ⟨hk.pos,fun _=>hk⟩
  rw [if_neg h0]
  have ht:=tokenS_pos l (skipS l s) (by omega)
  by_cases h1:(tokenS l (skipS l s)).err≠0
  ·rw [if_pos h1];exact ⟨ht.1,fun h2=>absurd h2 h1⟩
  rw [if_neg h1]
  have h2:(tokenS l (skipS l s)).err=0:=Decidable.of_not_not h1
  exact run_rise f l _ (token_rise hk (by omega) h2) h2
theorem tokens_rises (l:List UInt8) :
  ((tokensV l).2.2≠0→(tokensV l).1=[]∧(tokensV l).2.1≤l.length) ∧
  ((tokensV l).2.2=0→opens (tokensV l).1 []=some []∧(∀k∈(tokensV l).1,k.pos<l.length∧1≤k.kind∧k.kind≤11)∧(tokensV l).1.Pairwise fun a b=>a.pos<b.pos):=by
 have hr:=run_rise (l.length+1) l ⟨0,[],[],0⟩ ⟨rfl,fun k hk=>absurd hk (by simp),by simp,Nat.zero_le _⟩ rfl
 have e:runF (l.length+1) l ⟨0,[],[],0⟩=runS l:=rfl
 rw [e] at hr
 unfold tokensV
 by_cases c0:100000<l.length
 ·rw [if_pos c0];exact ⟨fun _=>⟨rfl,Nat.zero_le _⟩,fun h=>absurd h (by simp)⟩
 rw [if_neg c0]
 by_cases c1:valid l<l.length
 ·rw [if_pos c1];exact ⟨fun _=>⟨rfl,by simp only;omega⟩,fun h=>absurd h (by simp)⟩
 rw [if_neg c1]
 by_cases c2:(runS l).err≠0
 ·rw [if_pos c2];exact ⟨fun _=>⟨rfl,hr.1⟩,fun h=>absurd h c2⟩
 rw [if_neg c2]
 have c2':(runS l).err=0:=Decidable.of_not_not c2
 have hR:=hr.2 c2'
 by_cases c3:(runS l).texts≠[]
 ·rw [if_pos c3];exact ⟨fun _=>⟨rfl,Nat.le_refl _⟩,fun h=>absurd h (by simp)⟩
 rw [if_neg c3]
 have c3':(runS l).texts=[]:=Decidable.of_not_not c3
 rw [c3'] at hR
 refine ⟨fun h=>absurd rfl h,fun _=>⟨hR.op,fun k hk=>?_,hR.rise⟩⟩
 have:=hR.low k hk
 have:=hR.pos
 omega
end Go.Proofs.YtmbeicndhigklaaGreatDoor
namespace Go.Proofs.YtmbeicndhigklaaGreatDoor
def dgL (l:List UInt8):List Nat:=l.map fun b=>b.toNat-48
def smallN (l:List UInt8):Nat:=if 6<(l.dropWhile (·==48)).length then 999999 else decD (dgL (l.dropWhile (·==48)))
structure NumT where
 neg:Bool
 whole:List UInt8
 behind:List UInt8
 exp:Int
def powT (neg:Bool) (w b:List UInt8) (m:Bool) (p:List UInt8):Option NumT:=
 if digN p=0∨digN p<p.length then none else some ⟨neg,w,b,if m then -(smallN p:Int) else (smallN p:Int)⟩
def expT (neg:Bool) (w b r:List UInt8):Option NumT:=
 if r=[] then some ⟨neg,w,b,0⟩
 else if bt r 0≠101∧bt r 0≠69 then none
 else if bt (r.drop 1) 0=45 then powT neg w b true (r.drop 2)
 else if bt (r.drop 1) 0=43 then powT neg w b false (r.drop 2)
 else powT neg w b false (r.drop 1)
def fracT (neg:Bool) (w r:List UInt8):Option NumT:=
 if bt r 0=46 then
  if digN (r.drop 1)=0 then none else expT neg w ((r.drop 1).take (digN (r.drop 1))) ((r.drop 1).drop (digN (r.drop 1)))
 else expT neg w [] r
def wholeT (neg:Bool) (r:List UInt8):Option NumT:=
 if digN r=0∨(1<digN r∧bt r 0=48) then none else fracT neg (r.take (digN r)) (r.drop (digN r))
def scanN (l:List UInt8):Option NumT:=if bt l 0=45 then wholeT true (l.drop 1) else wholeT false l
def zerosN (N:Nat):Nat:=((digs 10 N).takeWhile (·==0)).length
def fitE (N:Nat) (e:Int):Nat:=
 if N=0 then 0
 else if (digs 10 N).length-zerosN N≤400∧-10000≤e+((digs 10 N).length:Int)-1∧e+((digs 10 N).length:Int)-1≤10000 then 0 else 3
def numE (l:List UInt8):Nat:=match scanN l with
 | none=>2
 | some t=>if 1000<l.length then 3 else fitE (decD (dgL (t.whole++t.behind))) (t.exp-(t.behind.length:Int))
theorem fitE_or (N:Nat) (e:Int):fitE N e=0∨fitE N e=3:=by
 unfold fitE
 split
 ·exact .inl rfl
 ·split
  ·exact .inl rfl
  ·exact .inr rfl
theorem numE_or (l:List UInt8):numE l=0∨numE l=2∨numE l=3:=by
 unfold numE
 split
 ·exact .inr (.inl rfl)
 ·split
  ·exact .inr (.inr rfl)
  ·rcases fitE_or (decD (dgL (_ ++ _))) _ with h | h
   ·exact .inl h
   ·exact .inr (.inr h)
example:numE [49]=0:=by decide +kernel
example:numE [49,46,53,101,43,49,48,48,48,48]=0:=by decide +kernel
example:numE [49,46,53,101,43,49,48,48,48,49]=3:=by decide +kernel
end Go.Proofs.YtmbeicndhigklaaGreatDoor
namespace Go.Proofs.YtmbeicndhigklaaGreatDoor
def LenS (L:Nat) (s:LS):Prop:=∀k∈s.toks,k.kind≠8→k.text.length≤L
section
variable {L:Nat} {s:LS}
theorem LenS.put (h:LenS L s) (k:Nat) (t:List UInt8) (n:Nat) (hk:k≠8→t.length≤L):LenS L (putS s k t n):=fun q hq h8=>by
 unfold putS at hq
 rcases List.mem_append.1 hq with hq | hq
 ·exact h q hq h8
 ·obtain rfl:=List.mem_singleton.1 hq
  exact hk h8
theorem LenS.texts' (h:LenS L s) (x:List Nat):LenS L { s with texts:=x }:=h
theorem LenS.flush (h:LenS L s) (n:Nat) (o:List UInt8):LenS L (flushS s n o):=by
 unfold flushS
 split
 ·intro q hq h8
  rcases List.mem_append.1 hq with hq | hq
  ·exact h q hq h8
  ·obtain rfl:=List.mem_singleton.1 hq
   exact absurd rfl h8
 ·exact h
theorem LenS.text (h:LenS L s) (l:List UInt8):LenS L (textS l s):=by
 unfold textS
 simp only
 split
 ·exact (h.flush _ _).put 11 [] 1 (fun _=>Nat.zero_le _)
 split
 ·exact (h.flush _ _).put 9 [] 2 (fun _=>Nat.zero_le _)
 split
 ·exact h
 ·exact h
theorem LenS.mark (h:LenS (L+1) s) (l:List UInt8) (hl:l.length≤L) (k:Nat) (keep:List UInt8) (hk:keep.length≤1):LenS (L+1) (markS l s k keep):=by
 unfold markS
 split
 ·exact h
 ·refine h.put k _ _ fun _=>?_
  rw [List.length_append,List.length_take,List.length_drop]
  omega
theorem LenS.sign (h:LenS L s) (l t:List UInt8) (ht:t.length≤L):LenS L (signS l s t):=by
 unfold signS
 split
 ·exact h
 split
 ·exact h.put 6 t _ (fun _=>ht)
 ·split
  ·exact (h.texts' _).put 6 t t.length (fun _=>ht)
  split
  ·split
   ·exact (h.put 10 [] 1 (fun _=>Nat.zero_le _)).text l
   ·exact (h.texts' _).put 6 t t.length (fun _=>ht)
  ·exact h.put 6 t _ (fun _=>ht)
theorem LenS.token (h:LenS (L+1) s) (l:List UInt8) (hl:l.length≤L):LenS (L+1) (tokenS l s):=by
 unfold tokenS
 simp only
 split
 ·split
  ·exact h
  ·exact ((h.put 7 [] 1 (fun _=>Nat.zero_le _)).texts' (0::s.texts)).text l
 split
 ·exact h.put 1 _ _ fun _=>by rw [List.length_take,List.length_drop];omega
 split
 ·exact h.put 2 _ _ fun _=>by rw [List.length_take,List.length_drop];omega
 split
 ·exact h.mark l hl 4 [] (by simp)
 split
 ·exact h.mark l hl 5 [64] (by simp)
 split
 ·exact h.mark l hl 3 [] (by simp)
 ·refine h.sign l _ ?_
  have:=signL_le (l.drop s.pos)
  rw [List.length_drop] at this
  omega
theorem LenS.run:∀(f:Nat) (l:List UInt8) (s:LS),l.length≤L→LenS (L+1) s→LenS (L+1) (runF f l s)
 | 0,_,_,_,h=>h
 | f+1,l,s,hl,h=>by
  have h1:LenS (L+1) (skipS l s):=h
  unfold runF
  split
  ·exact h1
  split
  ·exact h1.token l hl
  ·exact LenS.run f l _ hl (h1.token l hl)
end
theorem tokens_short (l:List UInt8):∀k∈(tokensV l).1,k.kind≠8→k.text.length≤10000000:=by
 unfold tokensV
 by_cases h0:100000<l.length
 ·rw [if_pos h0];intro k hk;cases hk
 rw [if_neg h0]
 split
 ·intro k hk;cases hk
 split
 ·intro k hk;cases hk
 split
 ·intro k hk;cases hk
 ·intro k hk h8
  have:=LenS.run (L:=100000) (l.length+1) l ⟨0,[],[],0⟩ (by omega) (fun q hq=>by cases hq) k hk h8
  omega
theorem tokens_in (l:List UInt8):∀k∈(tokensV l).1,k.pos≤l.length:=by
 have h:=tokens_rises l
 by_cases h0:(tokensV l).2.2=0
 ·exact fun k hk=>Nat.le_of_lt ((h.2 h0).2.1 k hk).1
 ·rw [(h.1 h0).1];intro k hk;cases hk
theorem tokens_fit (l:List UInt8):FitY numE (tokensV l).1 l.length:=⟨tokens_in l,numE_or⟩
end Go.Proofs.YtmbeicndhigklaaGreatDoor
