/-
The laws of chapter 15: what stands at their head (printed by gen_synla.py).
-/
import Derived.Test.YtmbeicndhigklaaGreatDoorPSynX
namespace Go.Proofs.YtmbeicndhigklaaGreatDoor
open Lib (hid)
open Go.RowKit
theorem sp1:parseV numE [46,97,32,43,32,49]=(.mk 17 [43] [.mk 10 [] [.mk 1 [] [],.mk 4 [] [.mk 5 [97] []]],.mk 3 [49] []],0,0):=by kernel_rfl
theorem sp2:parseV numE [49,44,50,124,46]=(.mk 15 [] [.mk 16 [] [.mk 3 [49] [],.mk 3 [50] []],.mk 1 [] []],0,0):=by kernel_rfl
theorem sp3:parseV numE [46,97,32,97,115,32,36,120]=(ndZero,8,5):=by kernel_rfl
theorem sp4:parseV numE [49,32,43,42,32,50]=(ndZero,3,2):=by kernel_rfl
def ParY (X:Ny) (a e:Nat) (w:World) (x:Ending) (w':World):Prop:=
 ∃A c,x=.returned (.tuple #[yAgg X (.slice A X.kids.length c),.int .i64 (a:Int),.int .i64 (e:Int)])∧YX (fun q=>w.heap.size≤q) w' X (.slice A X.kids.length c)∧Below w.heap.size w w'
theorem par_y {w0:World} (hT:Tabs w0) (h10:Tab10 w0) {L:List UInt8} (hm:L.length≤maxLen) {n:Nd} {a e:Nat} (h:parseV numE L=(n,a,e)) (w:World) (hb:Below w0.heap.size w0 w) :
  Calls Tryz.prog 16 #[.string ⟨L.toArray⟩] w (ParY (toY n) a e w):=
 (syParse_any L w (hT.below hb (Nat.le_refl _)) (h10.below hb) hm).mono (by
  rw [h]
  rintro x w' ⟨kv,rfl,hk,hb⟩
  obtain ⟨A,c,rfl⟩:=hk.slice
  have hy:=hk.y
  refine ⟨A,c,?_,by rw [toY_len];exact hy,hb⟩
  rw [toY_len,toY_agg])
theorem par_ys {w0:World} (hT:Tabs w0) (h10:Tab10 w0) {L:List UInt8} (hm:L.length≤maxLen) {n:Nd} {a e:Nat} (h:parseV numE L=(n,a,e)) (w:World) (hb:Below w0.heap.size w0 w) :
  Calls Tryz.prog 16 #[.string ⟨L.toArray⟩] w fun x w'=>ParY (toY n) a e w x w'∧YS maxLen (toY n):=
 (syParse_any L w (hT.below hb (Nat.le_refl _)) (h10.below hb) hm).mono (by
  rw [h]
  rintro x w' ⟨kv,rfl,hk,hb⟩
  obtain ⟨A,c,rfl⟩:=hk.slice
  have hy:=hk.y
  refine ⟨⟨A,c,?_,by rw [toY_len];exact hy,hb⟩,hk.ys⟩
  rw [toY_len,toY_agg])
end Go.Proofs.YtmbeicndhigklaaGreatDoor
namespace Go.Proofs.YtmbeicndhigklaaGreatDoor
open Lib (hid)
open Go.RowKit
inductive YR:Ny→Prop where
 | mk {t:Ny}:1≤t.kind→t.kind≤32→t.kids.length≤maxLen→(∀k∈t.kids,YR k)→YR t
end Go.Proofs.YtmbeicndhigklaaGreatDoor
namespace Go.Proofs.YtmbeicndhigklaaGreatDoor
open Lib (hid)
open Go.RowKit
theorem markS_5 (l:List UInt8) (s:LS) (k:Nat) (keep:List UInt8) (h:s.err=0):(markS l s k keep).err≠5:=by
 unfold markS failS putS
 split <;> simp [h]
theorem flushS_err (s:LS) (n:Nat) (o:List UInt8):(flushS s n o).err=s.err:=by unfold flushS;split <;> rfl
theorem textS_5 (l:List UInt8) (s:LS) (h:s.err=0) (h5:(textS l s).err=5):(textS l s).pos=l.length:=by
 unfold textS at *
 simp only at *
 split at h5
 ·exact absurd h5 (by simp [putS,flushS_err,h])
 ·split at h5
  ·exact absurd h5 (by simp [putS,flushS_err,h])
  ·split at h5
   ·rw [if_neg (by assumption),if_neg (by assumption),if_pos (by assumption)];rfl
   ·exact absurd h5 (by simp [failS])
theorem signS_5 (l:List UInt8) (s:LS) (t:List UInt8) (h:s.err=0) (h5:(signS l s t).err=5):(signS l s t).pos=l.length:=by
 unfold signS at *
 by_cases h0:t=[]
 ·rw [if_pos h0] at h5;exact absurd h5 (by simp [failS])
 rw [if_neg h0] at h5 ⊢
 cases hx:s.texts with
 | nil=>rw [hx] at h5;exact absurd h5 (by simp [putS,h])
 | cons x ts=>
  rw [hx] at h5
  simp only at h5 ⊢
  by_cases h1:t=[40]
  ·rw [if_pos h1] at h5;exact absurd h5 (by simp [putS,h])
  rw [if_neg h1] at h5 ⊢
  by_cases h2:t=[41]
  ·rw [if_pos h2] at h5 ⊢
   by_cases h3:x=0
   ·rw [if_pos h3] at h5 ⊢
    exact textS_5 l _ (by simp [putS,h]) h5
   ·rw [if_neg h3] at h5;exact absurd h5 (by simp [putS,h])
  ·rw [if_neg h2] at h5;exact absurd h5 (by simp [putS,h])
theorem tokenS_5 (l:List UInt8) (s:LS) (h:s.err=0) (h5:(tokenS l s).err=5):(tokenS l s).pos=l.length:=by
 unfold tokenS at *
 simp only at *
 split at h5
 ·split at h5
  ·exact absurd h5 (by simp [failS])
  ·rw [if_pos (by assumption),if_neg (by assumption)];exact textS_5 l _ (by simp [putS,h]) h5
 rw [if_neg (by assumption)]
 split at h5
 ·exact absurd h5 (by simp [putS,h])
 rw [if_neg (by assumption)]
 split at h5
 ·exact absurd h5 (by simp [putS,h])
 rw [if_neg (by assumption)]
 split at h5
 ·exact absurd h5 (markS_5 l s _ _ h)
 rw [if_neg (by assumption)]
 split at h5
 ·exact absurd h5 (markS_5 l s _ _ h)
 rw [if_neg (by assumption)]
 split at h5
 ·exact absurd h5 (markS_5 l s _ _ h)
 rw [if_neg (by assumption)]
 exact signS_5 l s _ h h5
theorem tokensV_5 (l:List UInt8) (h:(tokensV l).2.2=5):(tokensV l).2.1=l.length:=by
 have hr:∀(f:Nat) (s:LS),s.err=0→(runF f l s).err=5→(runF f l s).pos=l.length:=by
  intro f
  induction f with
  | zero=>intro s he h5;exact absurd (he.symm.trans h5) (by decide)
  | succ f ih=>
   intro s he h5
   have hk:(skipS l s).err=0:=he
   unfold runF at h5 ⊢
   by_cases a:l.length≤(skipS l s).pos
   ·rw [if_pos a] at h5;exact absurd (hk.symm.trans h5) (by decide)
   rw [if_neg a] at h5 ⊢
   by_cases b:(tokenS l (skipS l s)).err≠0
   ·rw [if_pos b] at h5 ⊢;exact tokenS_5 l _ hk h5
   rw [if_neg b] at h5 ⊢
   exact ih _ (Decidable.of_not_not b) h5
 unfold tokensV at *
 by_cases c0:100000<l.length
 ·rw [if_pos c0] at h;exact absurd h (by decide)
 rw [if_neg c0] at h ⊢
 by_cases c1:valid l<l.length
 ·rw [if_pos c1] at h;exact absurd h (by simp)
 rw [if_neg c1] at h ⊢
 by_cases c2:(runS l).err≠0
 ·rw [if_pos c2] at h ⊢;exact hr _ _ rfl h
 rw [if_neg c2] at h ⊢
 by_cases c3:(runS l).texts≠[]
 ·rw [if_pos c3]
 rw [if_neg c3] at h;exact absurd h (by simp)
theorem parseV_places (L:List UInt8) {n:Nd} {a e:Nat} (h:parseV numE L=(n,a,e)):(e=0→RightN n∧a=0)∧(e≠0→n=ndZero∧a≤L.length∧(e=5→a=L.length)):=by
 unfold parseV at h
 by_cases h0:(tokensV L).2.2≠0
 ·rw [if_pos h0] at h
  injection h with h1 h;injection h with h2 h3
  subst h1 h2 h3
  exact ⟨fun e=>absurd e h0,fun _=>⟨rfl,tokensV_at L,tokensV_5 L⟩⟩
 ·rw [if_neg h0] at h
  unfold parseT at h
  have hk:=(knot_ok (tokens_fit L) ((tokensV L).1.length+1)).pipe ⟨0,0⟩ (Nat.zero_le _) (by simp)
  cases hr:(knotF numE (tokensV L).1 L.length ((tokensV L).1.length+1)).pipe ⟨0,0⟩ with
  | bad x y=>
   rw [hr] at h
   injection h with h1 h;injection h with h2 h3
   subst h1 h2 h3
   obtain ⟨b1,b2,b3⟩:=hk.bad _ _ hr
   exact ⟨fun e=>by omega,fun _=>⟨rfl,b1,b2⟩⟩
  | ok v s=>
   rw [hr] at h
   obtain ⟨q1,q2,q3,q4⟩:=hk.ok v s hr
   simp only at h
   split at h
   ·rename_i hlt
    injection h with h1 h;injection h with h2 h3
    subst h1 h2 h3
    refine ⟨fun e=>by omega,fun _=>⟨rfl,?_,fun e=>by omega⟩⟩
    exact due_pos (tokens_fit L) hlt
   ·split at h
    ·injection h with h1 h;injection h with h2 h3
     subst h1 h2 h3
     exact ⟨fun e=>by omega,fun _=>⟨rfl,Nat.zero_le _,fun e=>by omega⟩⟩
    ·injection h with h1 h;injection h with h2 h3
     subst h1 h2 h3
     exact ⟨fun _=>⟨q4,rfl⟩,fun e=>absurd rfl e⟩
theorem right_yr {n:Nd} (h:RightN n):YS maxLen (toY n)→YR (toY n):=by
 induction h with
 | @mk k t ks h1 h2 _ ih=>
  intro hs
  have hl:=hs.len
  have hk:=hs.kid
  rw [toY_kids] at hl hk
  refine .mk (by rw [toY_kind];exact_mod_cast h1) (by rw [toY_kind];exact_mod_cast h2) (by rw [toY_kids];exact hl) fun y hy=>?_
  rw [toY_kids] at hy
  obtain ⟨x,hx,rfl⟩:=List.mem_map.1 hy
  exact ih x hx (hk _ (List.mem_map.2 ⟨x,hx,rfl⟩))
theorem str_back (s:ByteArray):(⟨s.data.toList.toArray⟩:ByteArray)=s:=by cases s;simp
theorem str_len (s:ByteArray):s.data.toList.length=s.size:=Array.length_toList
end Go.Proofs.YtmbeicndhigklaaGreatDoor
