/-
Plain Lean: how far the reader of tokens goes (chapter 14). No program in sight.
-/
import Derived.Test.YtmbeicndhigklaaGreatDoorPQuoH
namespace Go.Proofs.YtmbeicndhigklaaGreatDoor
theorem bt_past (l:List UInt8) (k:Nat) (h:l.length≤k):bt l k=0:=by unfold bt;rw [List.getElem?_eq_none h];rfl
theorem len_of_bt {l:List UInt8} {k:Nat} (h:bt l k≠0):k<l.length:=by
 rcases Nat.lt_or_ge k l.length with h1 | h1
 ·exact h1
 ·exact absurd (bt_past l k h1) h
theorem digB_pos {c:Nat} (h:digB c=true):48≤c∧c≤57:=by
 unfold digB at h;simpa only [Bool.and_eq_true,decide_eq_true_eq] using h
theorem nameF_le:∀(k:Bool) (l:List UInt8),nameF k l≤l.length
 | _,[]=>Nat.zero_le _
 | k,c::r=>by unfold nameF;have:=nameF_le true r;split <;> simp only [List.length_cons] <;> omega
theorem nameN_le (l:List UInt8):nameN l≤l.length:=nameF_le false l
theorem digN_le:∀(l:List UInt8),digN l≤l.length
 | []=>Nat.zero_le _
 | c::r=>by unfold digN;have:=digN_le r;split <;> simp only [List.length_cons] <;> omega
theorem nameN_pos (l:List UInt8):0<nameN l↔letB (bt l 0)=true:=by
 cases l with
 | nil=>exact ⟨fun h=>absurd h (by decide),fun h=>absurd h (by decide)⟩
 | cons c r=>unfold nameN nameF;simp only [bt_cons0,Bool.false_and,Bool.or_false];split <;> simp_all;omega
theorem digN_pos (l:List UInt8):0<digN l↔digB (bt l 0)=true:=by
 cases l with
 | nil=>exact ⟨fun h=>absurd h (by decide),fun h=>absurd h (by decide)⟩
 | cons c r=>unfold digN;simp only [bt_cons0];split <;> simp_all;omega
theorem skipF_le:∀(k:Bool) (l:List UInt8),skipF k l≤l.length
 | false,[]=>Nat.zero_le _
 | true,[]=>Nat.zero_le _
 | false,c::r=>by unfold skipF;have:=skipF_le false r;have:=skipF_le true r;(repeat' split) <;> simp only [List.length_cons] <;> omega
 | true,c::r=>by unfold skipF;have:=skipF_le false r;have:=skipF_le true r;(repeat' split) <;> simp only [List.length_cons] <;> omega
theorem skipN_le (l:List UInt8):skipN l≤l.length:=skipF_le false l
theorem fracN_le (l:List UInt8) (n:Nat) (h:n≤l.length):n≤fracN l n∧fracN l n≤l.length:=by
 unfold fracN
 have:=digN_le (l.drop (n+1))
 rw [List.length_drop] at this
 split <;> omega
theorem expoAt_le (l:List UInt8) (n:Nat):n+1≤expoAt l n∧expoAt l n≤n+2:=by unfold expoAt;split <;> omega
theorem expoN_le (l:List UInt8) (n:Nat) (h:n≤l.length):n≤expoN l n∧expoN l n≤l.length:=by
 unfold expoN
 have h1:=digN_le (l.drop (expoAt l n))
 have h2:=expoAt_le l n
 rw [List.length_drop] at h1
 split <;> omega
theorem numN_le (l:List UInt8):digN l≤numN l∧numN l≤l.length:=by
 have h1:=fracN_le l _ (digN_le l)
 have h2:=expoN_le l _ h1.2
 unfold numN
 omega
theorem signL_form (l:List UInt8) (h:signL l≠[]):signL l∈signs2∨∃c,signL l=[c]∧c∈signs1:=by
 unfold signL at h ⊢
 cases hf:signs2.find? (fun t=>t.isPrefixOf l) with
 | some t=>exact .inl (List.mem_of_find?_eq_some hf)
 | none=>
  rw [hf] at h
  simp only [Option.getD_none] at h ⊢
  cases l with
  | nil=>exact absurd rfl h
  | cons c r=>
   simp only at h ⊢
   by_cases hc:c∈signs1
   ·rw [if_pos hc];exact .inr ⟨c,rfl,hc⟩
   ·rw [if_neg hc] at h;exact absurd rfl h
theorem signL_prefix (l:List UInt8):signL l <+: l:=by
 unfold signL
 cases hf:signs2.find? (fun t=>t.isPrefixOf l) with
 | some t=>
  have:=List.find?_some hf
  exact List.isPrefixOf_iff_prefix.1 this
 | none=>
  simp only [Option.getD_none]
  cases l with
  | nil=>exact List.prefix_rfl
  | cons c r=>
   simp only
   by_cases hc:c∈signs1
   ·rw [if_pos hc];exact ⟨r,rfl⟩
   ·rw [if_neg hc];exact List.nil_prefix
theorem signL_le (l:List UInt8):(signL l).length≤l.length:=(signL_prefix l).length_le
theorem pieceP_size (l:List UInt8) (h:(pieceP l).2≠0):2≤(pieceP l).2∧(pieceP l).2≤l.length∧(pieceP l).1≠[]:=by
 unfold pieceP at h ⊢
 by_cases he:(escapedP l).err=0
 ·rw [if_pos he]
  have h1:=escapedP_size l he
  refine ⟨h1.1,h1.2,fun hn=>?_⟩
  have:=(enc_pos ((escapedP l).point:Int)).1
  simp only at hn
  rw [hn] at this;simp at this
 ·rw [if_neg he] at h;exact absurd rfl h
theorem scanF_more:∀(f g:Nat) (l:List UInt8),l.length≤f→l.length≤g→scanF f l=scanF g l
 | 0,0,_,_,_=>rfl
 | 0,g+1,l,h,_=>by unfold scanF;rw [if_pos (by omega)]
 | f+1,0,l,_,h=>by unfold scanF;rw [if_pos (by omega)]
 | f+1,g+1,l,hf,hg=>by
  unfold scanF
  by_cases h0:l.length=0
  ·rw [if_pos h0,if_pos h0]
  have hd:=dec_n l h0
  have e2:scanF f (l.drop (dec l).2)=scanF g (l.drop (dec l).2):=scanF_more f g _ (by rw [List.length_drop];omega) (by rw [List.length_drop];omega)
  by_cases hp:(pieceP l).2=0
  ·rw [e2];simp only [hp,if_true]
  ·have hs:=pieceP_size l hp
   have e1:scanF f (l.drop (pieceP l).2)=scanF g (l.drop (pieceP l).2):=scanF_more f g _ (by rw [List.length_drop];omega) (by rw [List.length_drop];omega)
   rw [e1,e2]
theorem scanT_eq (l:List UInt8):scanT l =
  if l.length=0 then (2,0,[])
  else if bt l 0=34 then (0,0,[])
  else if bt l 0=92∧bt l 1=40 then (1,0,[])
  else if bt l 0=92 then
   if (pieceP l).2=0 then (if tooShort l then 2 else 3,0,[])
   else ((scanT (l.drop (pieceP l).2)).1,(pieceP l).2+(scanT (l.drop (pieceP l).2)).2.1,(pieceP l).1++(scanT (l.drop (pieceP l).2)).2.2)
  else ((scanT (l.drop (dec l).2)).1,(dec l).2+(scanT (l.drop (dec l).2)).2.1,l.take (dec l).2++(scanT (l.drop (dec l).2)).2.2):=by
 have e:scanT l=scanF (l.length+1) l:=scanF_more _ _ l (Nat.le_refl _) (by omega)
 have e1:∀k,scanF l.length (l.drop k)=scanT (l.drop k):=fun k=>scanF_more _ _ _ (by rw [List.length_drop];omega) (Nat.le_refl _)
 rw [e]
 unfold scanF
 rw [e1,e1]
theorem scanT_len:∀(n:Nat) (l:List UInt8),l.length≤n →
  (scanT l).2.1≤l.length∧(scanT l).1≤3∧((scanT l).1=0→(scanT l).2.1+1≤l.length)∧((scanT l).1=1→(scanT l).2.1+2≤l.length)∧(0<(scanT l).2.1→(scanT l).2.2≠[])
 | 0,l,h=>by rw [scanT_eq,if_pos (by omega)];refine ⟨Nat.zero_le _,by decide,fun h=>absurd h (by decide),fun h=>absurd h (by decide),fun h=>absurd h (by decide)⟩
 | n+1,l,h=>by
  rw [scanT_eq]
  by_cases h0:l.length=0
  ·rw [if_pos h0];refine ⟨Nat.zero_le _,by simp,fun h=>absurd h (by simp),fun h=>absurd h (by simp),fun h=>absurd h (by simp)⟩
  rw [if_neg h0]
  by_cases h1:bt l 0=34
  ·rw [if_pos h1];refine ⟨Nat.zero_le _,by simp,fun _=>by simp only;omega,fun h=>absurd h (by simp),fun h=>absurd h (by simp)⟩
  rw [if_neg h1]
  by_cases h2:bt l 0=92∧bt l 1=40
  ·have:=len_of_bt (l:=l) (k:=1) (by omega)
   rw [if_pos h2];refine ⟨Nat.zero_le _,by simp,fun h=>absurd h (by simp),fun _=>by simp only;omega,fun h=>absurd h (by simp)⟩
  rw [if_neg h2]
  by_cases h3:bt l 0=92
  ·rw [if_pos h3]
   by_cases h4:(pieceP l).2=0
   ·rw [if_pos h4];refine ⟨Nat.zero_le _,?_,fun h=>?_,fun h=>?_,fun h=>absurd h (by simp)⟩
    ·simp only;split <;> simp
    ·simp only at h;split at h <;> simp at h
    ·simp only at h;split at h <;> simp at h
   ·rw [if_neg h4]
    have hs:=pieceP_size l h4
    have ih:=scanT_len n (l.drop (pieceP l).2) (by rw [List.length_drop];omega)
    rw [List.length_drop] at ih
    obtain ⟨a,b,c,d,e⟩:=ih
    refine ⟨by simp only;omega,b,fun h=>?_,fun h=>?_,fun _=>?_⟩
    ·have:=c h;simp only;omega
    ·have:=d h;simp only;omega
    ·exact List.append_ne_nil_of_left_ne_nil hs.2.2 _
  ·rw [if_neg h3]
   have hd:=dec_n l h0
   have ih:=scanT_len n (l.drop (dec l).2) (by rw [List.length_drop];omega)
   rw [List.length_drop] at ih
   obtain ⟨a,b,c,d,e⟩:=ih
   refine ⟨by simp only;omega,b,fun h=>?_,fun h=>?_,fun _=>?_⟩
   ·have:=c h;simp only;omega
   ·have:=d h;simp only;omega
   ·refine List.append_ne_nil_of_left_ne_nil (fun hn=>?_) _
    have:(l.take (dec l).2).length=0:=by rw [hn];rfl
    rw [List.length_take] at this;omega
theorem scanT_facts (l:List UInt8):(scanT l).2.1≤l.length∧(scanT l).1≤3∧((scanT l).1=0→(scanT l).2.1+1≤l.length)∧((scanT l).1=1→(scanT l).2.1+2≤l.length)∧(0<(scanT l).2.1→(scanT l).2.2≠[]):=scanT_len _ l (Nat.le_refl _)
theorem flushS_pos (s:LS) (n:Nat) (o:List UInt8):(flushS s n o).pos=s.pos+n∧(flushS s n o).texts=s.texts∧(flushS s n o).err=s.err:=by
 unfold flushS;split
 ·exact ⟨rfl,rfl,rfl⟩
 ·exact ⟨by omega,rfl,rfl⟩
theorem textS_pos (l:List UInt8) (s:LS) (hp:s.pos≤l.length) :
  (textS l s).pos≤l.length∧((textS l s).err=0→s.pos<(textS l s).pos):=by
 have h:=scanT_facts (l.drop s.pos)
 rw [List.length_drop] at h
 obtain ⟨a,b,c,d,_⟩:=h
 unfold textS
 simp only
 have hf:=flushS_pos s (scanT (l.drop s.pos)).2.1 (scanT (l.drop s.pos)).2.2
 by_cases h0:(scanT (l.drop s.pos)).1=0
 ·rw [if_pos h0];have:=c h0;unfold putS;simp only [hf.1];omega
 rw [if_neg h0]
 by_cases h1:(scanT (l.drop s.pos)).1=1
 ·rw [if_pos h1];have:=d h1;unfold putS;simp only [hf.1];omega
 rw [if_neg h1]
 by_cases h2:(scanT (l.drop s.pos)).1=2
 ·rw [if_pos h2];exact ⟨Nat.le_refl _,fun h=>absurd h (by unfold failS;simp)⟩
 ·rw [if_neg h2];exact ⟨by unfold failS;simp only;omega,fun h=>absurd h (by unfold failS;simp)⟩
theorem markS_pos (l:List UInt8) (s:LS) (k:Nat) (keep:List UInt8) (hp:s.pos<l.length):(markS l s k keep).pos≤l.length∧((markS l s k keep).err=0→s.pos<(markS l s k keep).pos):=by
 unfold markS
 have:=nameN_le (l.drop (s.pos+1))
 rw [List.length_drop] at this
 split
 ·exact ⟨by unfold failS;simp only;omega,fun h=>absurd h (by unfold failS;simp)⟩
 ·unfold putS;simp only;omega
theorem signS_pos (l:List UInt8) (s:LS) (t:List UInt8) (hp:s.pos<l.length) (ht:s.pos+t.length≤l.length):(signS l s t).pos≤l.length∧((signS l s t).err=0→s.pos<(signS l s t).pos):=by
 unfold signS
 by_cases h0:t=[]
 ·rw [if_pos h0];exact ⟨by unfold failS;simp only;omega,fun h=>absurd h (by unfold failS;simp)⟩
 rw [if_neg h0]
 have h1:0<t.length:=List.length_pos_iff.2 h0
 cases hx:s.texts with
 | nil=>simp only;unfold putS;simp only;omega
 | cons x ts=>
  simp only
  split
  ·unfold putS;simp only;omega
  ·split
   ·split
    ·have:=textS_pos l (putS s 10 [] 1) (by unfold putS;simp only;omega)
     refine ⟨this.1,fun h=>?_⟩
     have h3:=this.2 h
     unfold putS at h3 ⊢
     simp only at h3 ⊢;omega
    ·unfold putS;simp only;omega
   ·unfold putS;simp only;omega
theorem tokenS_pos (l:List UInt8) (s:LS) (hp:s.pos<l.length):(tokenS l s).pos≤l.length∧((tokenS l s).err=0→s.pos<(tokenS l s).pos):=by
 unfold tokenS
 simp only
 have hn:=nameN_le (l.drop s.pos)
 have hm:=numN_le (l.drop s.pos)
 have hg:=signL_le (l.drop s.pos)
 have hn0:=nameN_pos (l.drop s.pos)
 have hm0:=digN_pos (l.drop s.pos)
 rw [List.length_drop] at hn hm hg
 by_cases h1:bt (l.drop s.pos) 0=34
 ·rw [if_pos h1]
  split
  ·exact ⟨by unfold failS;simp only;omega,fun h=>absurd h (by unfold failS;simp)⟩
  ·have:=textS_pos l { putS s 7 [] 1 with texts:=0::s.texts } (by unfold putS;simp only;omega)
   refine ⟨this.1,fun h=>?_⟩
   have h3:=this.2 h
   unfold putS at h3 ⊢
   simp only at h3 ⊢;omega
 rw [if_neg h1]
 by_cases h2:digB (bt (l.drop s.pos) 0)=true
 ·rw [if_pos h2];have:=hm0.2 h2;unfold putS;simp only;omega
 rw [if_neg h2]
 by_cases h3:letB (bt (l.drop s.pos) 0)=true
 ·rw [if_pos h3];have:=hn0.2 h3;unfold putS;simp only;omega
 rw [if_neg h3]
 by_cases h4:bt (l.drop s.pos) 0=36
 ·rw [if_pos h4];exact markS_pos l s _ _ hp
 rw [if_neg h4]
 by_cases h5:bt (l.drop s.pos) 0=64
 ·rw [if_pos h5];exact markS_pos l s _ _ hp
 rw [if_neg h5]
 by_cases h6:bt (l.drop s.pos) 0=46∧letB (bt (l.drop s.pos) 1)=true
 ·rw [if_pos h6];exact markS_pos l s _ _ hp
 rw [if_neg h6]
 exact signS_pos l s _ hp (by omega)
theorem skipS_pos (l:List UInt8) (s:LS) (hp:s.pos≤l.length):s.pos≤(skipS l s).pos∧(skipS l s).pos≤l.length:=by
 have:=skipN_le (l.drop s.pos)
 rw [List.length_drop] at this
 unfold skipS;simp only;omega
end Go.Proofs.YtmbeicndhigklaaGreatDoor
namespace Go.Proofs.YtmbeicndhigklaaGreatDoor
def FineS (s:LS):Prop:=s.toks.length≤s.pos∧s.texts.length≤50∧∀x∈s.texts,x≤s.pos
theorem FineS.put {s:LS} (h:FineS s) (k:Nat) (t:List UInt8) (n:Nat) (hn:0<n):FineS (putS s k t n):=by
 obtain ⟨a,b,c⟩:=h
 refine ⟨?_,b,fun x hx=>?_⟩
 ·simp only [putS,List.length_append,List.length_singleton];omega
 ·have:=c x hx;simp only [putS];omega
theorem FineS.flush {s:LS} (h:FineS s) (n:Nat) (o:List UInt8):FineS (flushS s n o):=by
 obtain ⟨a,b,c⟩:=h
 unfold flushS
 split
 ·refine ⟨?_,b,fun x hx=>?_⟩
  ·simp only [List.length_append,List.length_singleton];omega
  ·have:=c x hx;simp only;omega
 ·exact ⟨a,b,c⟩
theorem FineS.texts {s:LS} (h:FineS s) (x:List Nat) (h1:x.length≤50) (h2:∀y∈x,y≤s.pos):FineS { s with texts:=x }:=⟨h.1,h1,h2⟩
theorem FineS.skip {s:LS} (h:FineS s) (l:List UInt8):FineS (skipS l s):=by
 obtain ⟨a,b,c⟩:=h
 refine ⟨?_,b,fun x hx=>?_⟩
 ·simp only [skipS];omega
 ·have:=c x hx;simp only [skipS];omega
theorem FineS.text {s:LS} (h:FineS s) (l:List UInt8) (he:(textS l s).err=0):FineS (textS l s):=by
 unfold textS at he ⊢
 simp only at he ⊢
 by_cases h0:(scanT (l.drop s.pos)).1=0
 ·rw [if_pos h0]
  have:=((h.flush (scanT (l.drop s.pos)).2.1 (scanT (l.drop s.pos)).2.2).put 11 [] 1 (by omega))
  refine this.texts _ ?_ (fun y hy=>?_)
  ·have:=h.2.1;rw [List.length_tail];omega
  ·have h1:=h.2.2 y (List.mem_of_mem_tail hy)
   have h2:=(flushS_pos s (scanT (l.drop s.pos)).2.1 (scanT (l.drop s.pos)).2.2).1
   simp only [putS,h2];omega
 rw [if_neg h0] at he ⊢
 by_cases h1:(scanT (l.drop s.pos)).1=1
 ·rw [if_pos h1]
  exact (h.flush _ _).put 9 [] 2 (by omega)
 rw [if_neg h1] at he ⊢
 by_cases h2:(scanT (l.drop s.pos)).1=2
 ·rw [if_pos h2] at he;exact absurd he (by simp [failS])
 ·rw [if_neg h2] at he;exact absurd he (by simp [failS])
theorem FineS.mark {s:LS} (h:FineS s) (l:List UInt8) (k:Nat) (keep:List UInt8) (he:(markS l s k keep).err=0):FineS (markS l s k keep):=by
 unfold markS at he ⊢
 split
 ·rename_i h0;rw [if_pos h0] at he;exact absurd he (by simp [failS])
 ·exact h.put _ _ _ (by omega)
theorem FineS.sign {s:LS} (h:FineS s) (l t:List UInt8) (he:(signS l s t).err=0):FineS (signS l s t):=by
 unfold signS at he ⊢
 by_cases h0:t=[]
 ·rw [if_pos h0] at he;exact absurd he (by simp [failS])
 rw [if_neg h0] at he ⊢
 have hl:0<t.length:=List.length_pos_iff.2 h0
 cases hx:s.texts with
 | nil=>exact h.put _ _ _ hl
 | cons x ts=>
  rw [hx] at he
  simp only at he ⊢
  have h1:=h.2.1
  have h2:=h.2.2
  rw [hx] at h1 h2
  by_cases h40:t=[40]
  ·rw [if_pos h40]
   refine ⟨?_,h1,fun y hy=>?_⟩
   ·have:=h.1;simp only [putS,List.length_append,List.length_singleton];omega
   ·simp only [putS] at hy ⊢
    rcases List.mem_cons.1 hy with rfl | hy
    ·have:=h2 x (List.mem_cons_self ..);omega
    ·have:=h2 y (List.mem_cons_of_mem _ hy);omega
  rw [if_neg h40] at he ⊢
  by_cases h41:t=[41]
  ·rw [if_pos h41] at he ⊢
   by_cases hx0:x=0
   ·rw [if_pos hx0] at he ⊢
    exact (h.put 10 [] 1 (by omega)).text l he
   ·rw [if_neg hx0]
    refine (h.texts ((x-1)::ts) h1 (fun y hy=>?_)).put _ _ _ hl
    rcases List.mem_cons.1 hy with rfl | hy
    ·have:=h2 x (List.mem_cons_self ..);omega
    ·exact h2 y (List.mem_cons_of_mem _ hy)
  ·rw [if_neg h41]
   exact h.put _ _ _ hl
theorem FineS.token {s:LS} (h:FineS s) (l:List UInt8) (he:(tokenS l s).err=0) (_:s.pos<l.length):FineS (tokenS l s):=by
 unfold tokenS at he ⊢
 simp only at he ⊢
 by_cases a1:bt (l.drop s.pos) 0=34
 ·rw [if_pos a1] at he ⊢
  by_cases a2:50≤s.texts.length
  ·rw [if_pos a2] at he;exact absurd he (by simp [failS])
  ·rw [if_neg a2] at he ⊢
   refine FineS.text ?_ l he
   refine (h.put 7 [] 1 (by omega)).texts _ (by rw [List.length_cons];omega) (fun y hy=>?_)
   rcases List.mem_cons.1 hy with rfl | hy
   ·exact Nat.zero_le _
   ·have:=h.2.2 y hy;simp only [putS];omega
 rw [if_neg a1] at he ⊢
 by_cases a2:digB (bt (l.drop s.pos) 0)=true
 ·rw [if_pos a2]
  exact h.put _ _ _ (by have:=(numN_le (l.drop s.pos)).1;have:=(digN_pos (l.drop s.pos)).2 a2;omega)
 rw [if_neg a2] at he ⊢
 by_cases a3:letB (bt (l.drop s.pos) 0)=true
 ·rw [if_pos a3]
  exact h.put _ _ _ ((nameN_pos (l.drop s.pos)).2 a3)
 rw [if_neg a3] at he ⊢
 by_cases a4:bt (l.drop s.pos) 0=36
 ·rw [if_pos a4] at he ⊢;exact h.mark _ _ _ he
 rw [if_neg a4] at he ⊢
 by_cases a5:bt (l.drop s.pos) 0=64
 ·rw [if_pos a5] at he ⊢;exact h.mark _ _ _ he
 rw [if_neg a5] at he ⊢
 by_cases a6:bt (l.drop s.pos) 0=46∧letB (bt (l.drop s.pos) 1)=true
 ·rw [if_pos a6] at he ⊢;exact h.mark _ _ _ he
 rw [if_neg a6] at he ⊢
 exact h.sign _ _ he
theorem FineS.run:∀(f:Nat) (l:List UInt8) (s:LS),FineS s→s.err=0→s.pos≤l.length→(runF f l s).err=0→FineS (runF f l s)∧(runF f l s).pos≤l.length
 | 0,l,s,h,_,hp,_=>⟨h,hp⟩
 | f+1,l,s,h,he,hp,h0=>by
  have hk:=h.skip l
  have hps:=skipS_pos l s hp
  unfold runF at h0 ⊢
  by_cases a:l.length≤(skipS l s).pos
  ·rw [if_pos a];exact ⟨hk,hps.2⟩
  rw [if_neg a] at h0 ⊢
  have ht:=tokenS_pos l (skipS l s) (by omega)
  by_cases b:(tokenS l (skipS l s)).err≠0
  ·rw [if_pos b] at h0;exact absurd h0 b
  rw [if_neg b] at h0 ⊢
  have b':(tokenS l (skipS l s)).err=0:=Decidable.of_not_not b
  exact FineS.run f l _ (hk.token l b' (by omega)) b' ht.1 h0
theorem tokens_len (l:List UInt8):(tokensV l).1.length≤100000∧(tokensV l).1.length≤l.length:=by
 unfold tokensV
 by_cases c0:100000<l.length
 ·rw [if_pos c0];exact ⟨Nat.zero_le _,Nat.zero_le _⟩
 rw [if_neg c0]
 by_cases c1:valid l<l.length
 ·rw [if_pos c1];exact ⟨Nat.zero_le _,Nat.zero_le _⟩
 rw [if_neg c1]
 by_cases c2:(runS l).err≠0
 ·rw [if_pos c2];exact ⟨Nat.zero_le _,Nat.zero_le _⟩
 rw [if_neg c2]
 by_cases c3:(runS l).texts≠[]
 ·rw [if_pos c3];exact ⟨Nat.zero_le _,Nat.zero_le _⟩
 rw [if_neg c3]
 have h:=FineS.run (l.length+1) l ⟨0,[],[],0⟩ ⟨Nat.le_refl _,Nat.zero_le _,fun x h=>by cases h⟩ rfl (Nat.zero_le _) (Decidable.of_not_not c2)
 have e:runF (l.length+1) l ⟨0,[],[],0⟩=runS l:=rfl
 rw [e] at h
 have:=h.1.1
 simp only
 omega
theorem tokensV_at (l:List UInt8):(tokensV l).2.1≤l.length:=by
 have hr:∀(f:Nat) (s:LS),s.pos≤l.length→s.err=0→(runF f l s).pos≤l.length:=by
  intro f
  induction f with
  | zero=>intro s hp _;exact hp
  | succ f ih=>
   intro s hp he
   have hps:=skipS_pos l s hp
   unfold runF
   by_cases a:l.length≤(skipS l s).pos
   ·rw [if_pos a];exact hps.2
   rw [if_neg a]
   have ht:=tokenS_pos l (skipS l s) (by omega)
   by_cases b:(tokenS l (skipS l s)).err≠0
   ·rw [if_pos b];exact ht.1
   rw [if_neg b]
   exact ih _ ht.1 (Decidable.of_not_not b)
 unfold tokensV
 by_cases c0:100000<l.length
 ·rw [if_pos c0];exact Nat.zero_le _
 rw [if_neg c0]
 by_cases c1:valid l<l.length
 ·rw [if_pos c1];simp only;omega
 rw [if_neg c1]
 by_cases c2:(runS l).err≠0
 ·rw [if_pos c2];exact hr _ _ (Nat.zero_le _) rfl
 rw [if_neg c2]
 by_cases c3:(runS l).texts≠[]
 ·rw [if_pos c3];exact Nat.le_refl _
 rw [if_neg c3];exact Nat.zero_le _
end Go.Proofs.YtmbeicndhigklaaGreatDoor
