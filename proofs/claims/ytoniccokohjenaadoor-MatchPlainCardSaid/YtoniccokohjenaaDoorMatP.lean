/-
  Plain Lean: how a pattern's tree is laid out as steps, and how these are gone over (chapter 19). No program in sight.
  Plain Lean: the machine of chapter 19 is a search; fuel enough changes nothing. No program in sight.
-/
import Derived.Test.YtoniccokohjenaaDoorRegS
namespace Go.Proofs.YtoniccokohjenaaDoor

/-- what flags say -/
structure Md where
  all : Bool
  fold : Bool
  free : Bool
  dot : Bool
  some : Bool
def md0 : Md := ⟨false, false, false, false, false⟩
def readF : Md → List UInt8 → Option Md
  | m, [] => Option.some m
  | m, c :: r =>
    if c = 103 then readF { m with all := true } r
    else if c = 105 then readF { m with fold := true } r
    else if c = 120 then readF { m with free := true } r
    else if c = 115 then readF { m with dot := true } r
    else if c = 110 then readF { m with some := true } r
    else none

def upI (c : Int) : Bool := decide (65 ≤ c) && decide (c ≤ 90)
def loI (c : Int) : Bool := decide (97 ≤ c) && decide (c ≤ 122)
/-- a letter in the other kind -/
def othI (c : Int) : Int := if upI c then c + 32 else if loI c then c - 32 else c
def wrdI (c : Int) : Bool := upI c || loI c || digI c || c == 95

section
variable (m : Md)
/-- a part of one sign that is no set -/
def hasL (x : Rx) (c : Int) : Bool :=
  if x.kind = 2 then m.dot || c != 10
  else if x.kind = 1 then c == x.rune || (m.fold && othI c == x.rune)
  else if x.kind = 4 then decide (x.rune ≤ c) && decide (c ≤ x.to)
  else (if x.rune = 100 then digI c else if x.rune = 119 then wrdI c else if x.rune = 115 then blkI c else false) != x.not
def hasR (x : Rx) (c : Int) : Bool :=
  if x.kind = 3 then (x.kids.any fun k => hasL m k c || (m.fold && hasL m k (othI c))) != x.not else hasL m x c
variable (l : List Int)
def wrdAt (i : Nat) : Bool := decide (i < l.length) && wrdI (l.getD i 0)
/-- the word's sign ahead of a place -/
def wrdBe (i : Nat) : Bool := decide (0 < i) && wrdI (l.getD (i - 1) 0)
/-- where a part of one sign, or of a place, leads -/
def testR (x : Rx) (i : Nat) : Option Nat :=
  if x.kind = 10 then (if i = 0 then Option.some i else none)
  else if x.kind = 11 then (if i = l.length then Option.some i else none)
  else if x.kind = 12 then (if ((wrdBe l i != wrdAt l i) != x.not) then Option.some i else none)
  else if i < l.length ∧ hasR m x (l.getD i 0) = true then Option.some (i + 1) else none
end

/-- a step: 0 a test, 1 a fork, 2 a jump, 3 a group's beginning, 4 its end, 5 the end of all -/
structure Stp where
  kind : Nat
  x : Rx
  a : Nat
  b : Nat
def sTest (x : Rx) : Stp := ⟨0, x, 0, 0⟩
def sFork (z : Bool) (more on : Nat) : Stp := if z then ⟨1, rxNone, on, more⟩ else ⟨1, rxNone, more, on⟩
def sJump (a : Nat) : Stp := ⟨2, rxNone, a, 0⟩
def sOpen (g : Nat) : Stp := ⟨3, rxNone, g, 0⟩
def sShut (g : Nat) : Stp := ⟨4, rxNone, g, 0⟩
def sDone : Stp := ⟨5, rxNone, 0, 0⟩

/-- how many steps a tree has -/
def copiesL (f : Nat → List Stp) : Nat → Nat → List Stp
  | 0, _ => []
  | n + 1, p => f p ++ copiesL f n (p + (f p).length)
/-- a repeat without an end -/
def starL (f : Nat → List Stp) (z : Bool) (p : Nat) : List Stp := sFork z (p + 1) (p + 1 + (f (p + 1)).length + 1) :: (f (p + 1) ++ [sJump p])
/-- so many times, or less; e: what stands behind -/
def optsL (f : Nat → List Stp) (z : Bool) (e : Nat) : Nat → Nat → List Stp
  | 0, _ => []
  | n + 1, p => sFork z (p + 1) e :: (f (p + 1) ++ optsL f z e n (p + 1 + (f (p + 1)).length))
def repL (f : Nat → List Stp) (mn mx : Int) (z : Bool) (p : Nat) : List Stp :=
  let c := copiesL f mn.toNat p
  let q := p + c.length
  c ++ (if mx < 0 then starL f z q else optsL f z (q + (mx - mn).toNat * ((f 0).length + 1)) (mx - mn).toNat q)

mutual
/-- a tree's steps, from p on -/
def layR : Rx → Nat → List Stp
  | .mk kind rune to kids min max lazy not group name, p =>
    if kind = 0 then []
    else if kind = 6 then laySeq kids p
    else if kind = 7 then layAlt kids p
    else if kind = 9 then sOpen group :: (layHead kids (p + 1) ++ [sShut group])
    else if kind = 8 then repL (layHead kids) min max lazy p
    else [sTest (.mk kind rune to kids min max lazy not group name)]
def layHead : List Rx → Nat → List Stp
  | [], _ => []
  | k :: _, p => layR k p
def laySeq : List Rx → Nat → List Stp
  | [], _ => []
  | k :: ks, p => layR k p ++ laySeq ks (p + (layR k p).length)
def layAlt : List Rx → Nat → List Stp
  | [], _ => []
  | k :: ks, p =>
    if ks.isEmpty then layR k p
    else
      let q := p + 1 + (layR k (p + 1)).length
      let r := layAlt ks (q + 1)
      sFork false (p + 1) (q + 1) :: (layR k (p + 1) ++ sJump (q + 1 + r.length) :: r)
end

mutual
/-- the document's steps: at most one more than there may be -/
def sizeR : Rx → Int
  | .mk kind _ _ kids min max _ _ _ _ =>
    let n := sizesR kids
    let v := if kind = 0 ∨ kind = 6 then n
      else if kind = 7 then n + 2 * ((kids.length : Int) - 1)
      else if kind = 9 then n + 2
      else if kind = 8 then (if max < 0 then (min + 1) * n + 2 else max * n + max - min)
      else 1
    if 20001 < v then 20001 else v
def sizesR : List Rx → Int
  | [] => 0
  | k :: ks => sizeR k + sizesR ks
end

/-- a way that is left to try, or a mark that is put back -/
inductive Fr where
  | way (pc i : Nat)
  | mark (k : Nat) (was : Int)

section
variable (m : Md) (l : List Int) (P : List Stp)
def bitAt (pc i : Nat) : Nat := pc * (l.length + 1) + i
def setT (T : Nat → Bool) (b : Nat) : Nat → Bool := fun k => if k = b then true else T k
/-- a group's mark -/
def markAt (s : Stp) : Nat := 2 * (s.a - 1) + (if s.kind = 4 then 1 else 0)
/-- the machine: where it ends, the marks, what was tried -/
def runF : Nat → Option (Nat × Nat) → List Fr → List Int → (Nat → Bool) → Option Nat × List Int × (Nat → Bool)
  | 0, _, _, M, T => (none, M, T)
  | _ + 1, none, [], M, T => (none, M, T)
  | f + 1, none, .way pc i :: st, M, T => runF f (some (pc, i)) st M T
  | f + 1, none, .mark k w :: st, M, T => runF f none st (M.set k w) T
  | f + 1, some (pc, i), st, M, T =>
    if T (bitAt l pc i) = true then runF f none st M T
    else
      let T := setT T (bitAt l pc i)
      let s := P.getD pc sDone
      if s.kind = 0 then
        match testR m l s.x i with
        | none => runF f none st M T
        | some j => runF f (some (pc + 1, j)) st M T
      else if s.kind = 1 then runF f (some (s.a, i)) (.way s.b i :: st) M T
      else if s.kind = 2 then runF f (some (s.a, i)) st M T
      else if s.kind = 5 then (some i, M, T)
      else runF f (some (pc + 1, i)) (.mark (markAt s) (M.getD (markAt s) 0) :: st) (M.set (markAt s) i) T
/-- the like, as a search: the end with the marks, what was tried -/
def dfs : Nat → Nat → Nat → List Int → (Nat → Bool) → Option (Nat × List Int) × (Nat → Bool)
  | 0, _, _, _, T => (none, T)
  | f + 1, pc, i, M, T =>
    if T (bitAt l pc i) = true then (none, T)
    else
      let T := setT T (bitAt l pc i)
      let s := P.getD pc sDone
      if s.kind = 0 then
        match testR m l s.x i with
        | none => (none, T)
        | some j => dfs f (pc + 1) j M T
      else if s.kind = 1 then
        match dfs f s.a i M T with
        | (some r, T) => (some r, T)
        | (none, T) => dfs f s.b i M T
      else if s.kind = 2 then dfs f s.a i M T
      else if s.kind = 5 then (some (i, M), T)
      else dfs f (pc + 1) i (M.set (markAt s) i) T
end

end Go.Proofs.YtoniccokohjenaaDoor

namespace Go.Proofs.YtoniccokohjenaaDoor

/-- how many were not tried -/
def untr : Nat → (Nat → Bool) → Nat
  | 0, _ => 0
  | n + 1, T => untr n T + (if T n = true then 0 else 1)
theorem untr_le : ∀ (n : Nat) (T : Nat → Bool), untr n T ≤ n
  | 0, _ => Nat.le_refl _
  | n + 1, T => by have := untr_le n T; unfold untr; split <;> omega
theorem untr_far : ∀ (n b : Nat) (T : Nat → Bool), n ≤ b → untr n (setT T b) = untr n T
  | 0, _, _, _ => rfl
  | n + 1, b, T, h => by
    unfold untr
    rw [untr_far n b T (by omega)]
    unfold setT
    rw [if_neg (show ¬ n = b by omega)]
theorem untr_set : ∀ (n b : Nat) (T : Nat → Bool), b < n → T b = false → untr n (setT T b) + 1 = untr n T
  | 0, _, _, h, _ => absurd h (Nat.not_lt_zero _)
  | n + 1, b, T, h, hb => by
    unfold untr
    by_cases e : b = n
    · subst e
      rw [untr_far b b T (Nat.le_refl _)]
      have : setT T b b = true := by unfold setT; rw [if_pos rfl]
      rw [if_pos this, if_neg (by rw [hb]; decide)]
    · have h1 := untr_set n b T (by omega) hb
      have : setT T b n = T n := by unfold setT; rw [if_neg (fun h => e h.symm)]
      rw [this]
      omega
/-- more was tried -/
def TLe (T T' : Nat → Bool) : Prop := ∀ b, T b = true → T' b = true
theorem TLe.refl (T : Nat → Bool) : TLe T T := fun _ h => h
theorem TLe.trans {A B C : Nat → Bool} (h : TLe A B) (k : TLe B C) : TLe A C := fun b hb => k b (h b hb)
theorem TLe.set (T : Nat → Bool) (b : Nat) : TLe T (setT T b) := fun k h => by unfold setT; split <;> simp_all
theorem untr_mono : ∀ (n : Nat) {T T' : Nat → Bool}, TLe T T' → untr n T' ≤ untr n T
  | 0, _, _, _ => Nat.le_refl _
  | n + 1, T, T', h => by
    have := untr_mono n h
    unfold untr
    by_cases e : T n = true
    · rw [if_pos e, if_pos (h n e)]; omega
    · rw [if_neg e]; split <;> omega

/-- steps that lead to steps -/
structure WfP (P : List Stp) : Prop where
  next : ∀ (pc : Nat) (s : Stp), P[pc]? = some s → s.kind = 0 ∨ s.kind = 3 ∨ s.kind = 4 → pc + 1 < P.length
  fork : ∀ (pc : Nat) (s : Stp), P[pc]? = some s → s.kind = 1 → s.a < P.length ∧ s.b < P.length
  jump : ∀ (pc : Nat) (s : Stp), P[pc]? = some s → s.kind = 2 → s.a < P.length
  kind : ∀ (pc : Nat) (s : Stp), P[pc]? = some s → s.kind ≤ 5
theorem testR_le {m : Md} {l : List Int} {x : Rx} {i j : Nat} (hi : i ≤ l.length) (h : testR m l x i = some j) : j ≤ l.length := by
  unfold testR at h
  split at h
  · split at h
    · injection h with h; omega
    · cases h
  split at h
  · split at h
    · injection h with h; omega
    · cases h
  split at h
  · split at h
    · injection h with h; omega
    · cases h
  split at h
  · rename_i hc
    injection h with h; omega
  · cases h
section
variable {m : Md} {l : List Int} {P : List Stp}
theorem bit_lt {pc i : Nat} (hp : pc < P.length) (hi : i ≤ l.length) : bitAt l pc i < P.length * (l.length + 1) := by
  unfold bitAt
  have : (pc + 1) * (l.length + 1) ≤ P.length * (l.length + 1) := Nat.mul_le_mul_right _ hp
  rw [Nat.add_mul, Nat.one_mul] at this
  omega
theorem bit_inj {pc i pc' i' : Nat} (hi : i ≤ l.length) (hi' : i' ≤ l.length) (h : bitAt l pc i = bitAt l pc' i') : pc = pc' ∧ i = i' := by
  unfold bitAt at h
  have h1 : (pc * (l.length + 1) + i) / (l.length + 1) = pc := by rw [Nat.mul_comm, Nat.mul_add_div (by omega), Nat.div_eq_of_lt (by omega)]; omega
  have h2 : (pc' * (l.length + 1) + i') / (l.length + 1) = pc' := by rw [Nat.mul_comm, Nat.mul_add_div (by omega), Nat.div_eq_of_lt (by omega)]; omega
  have h3 : pc = pc' := by rw [← h1, h, h2]
  subst h3
  exact ⟨rfl, by omega⟩

/-- the measure of a run -/
def mu (P : List Stp) (l : List Int) (c : Option (Nat × Nat)) (st : List Fr) (T : Nat → Bool) : Nat := 3 * untr (P.length * (l.length + 1)) T + 2 * st.length + (if c.isSome then 2 else 1)
/-- what stands in the frames -/
def StOk (P : List Stp) (l : List Int) (st : List Fr) : Prop := ∀ fr ∈ st, ∀ pc i, fr = .way pc i → pc < P.length ∧ i ≤ l.length
def CurOk (P : List Stp) (l : List Int) (c : Option (Nat × Nat)) : Prop := ∀ pc i, c = some (pc, i) → pc < P.length ∧ i ≤ l.length
theorem StOk.tail {fr : Fr} {st : List Fr} (h : StOk P l (fr :: st)) : StOk P l st := fun f hf => h f (List.mem_cons_of_mem _ hf)
theorem CurOk.none : CurOk P l Option.none := fun _ _ h => by cases h
theorem CurOk.some {pc i : Nat} (hp : pc < P.length) (hi : i ≤ l.length) : CurOk P l (Option.some (pc, i)) := fun _ _ h => by
  injection h with h; injection h with h1 h2; subst h1 h2; exact ⟨hp, hi⟩
theorem StOk.way {pc i : Nat} {st : List Fr} (hp : pc < P.length) (hi : i ≤ l.length) (h : StOk P l st) : StOk P l (.way pc i :: st) := fun f hf => by
  rcases List.mem_cons.1 hf with rfl | hf
  · intro p j e; injection e with e1 e2; subst e1 e2; exact ⟨hp, hi⟩
  · exact h f hf
theorem StOk.mark {k : Nat} {w : Int} {st : List Fr} (h : StOk P l st) : StOk P l (.mark k w :: st) := fun f hf => by
  rcases List.mem_cons.1 hf with rfl | hf
  · intro p j e; cases e
  · exact h f hf

/-- one step of the machine: where it is next -/
theorem run_step (hw : WfP P) {pc i : Nat} {st : List Fr} {M : List Int} {T : Nat → Bool} (hp : pc < P.length) (hi : i ≤ l.length) (hst : StOk P l st) :
    (∃ r, ∀ f, runF m l P (f + 1) (some (pc, i)) st M T = r) ∨
    (∃ c st' M' T', (∀ f, runF m l P (f + 1) (some (pc, i)) st M T = runF m l P f c st' M' T') ∧ CurOk P l c ∧ StOk P l st' ∧ mu P l c st' T' < mu P l (some (pc, i)) st T) := by
  by_cases ht : T (bitAt l pc i) = true
  · refine .inr ⟨none, st, M, T, fun f => ?_, .none, hst, ?_⟩
    · rw [runF, if_pos ht]
    · unfold mu; simp
  have hu := untr_set (P.length * (l.length + 1)) (bitAt l pc i) T (bit_lt hp hi) (by simpa using ht)
  obtain ⟨s, hs⟩ : ∃ s, P[pc]? = some s := ⟨_, List.getElem?_eq_getElem hp⟩
  have hsd : P.getD pc sDone = s := by rw [List.getD_eq_getElem?_getD, hs]; rfl
  by_cases h0 : s.kind = 0
  · cases htt : testR m l s.x i with
    | none =>
      refine .inr ⟨none, st, M, setT T (bitAt l pc i), fun f => ?_, .none, hst, ?_⟩
      · rw [runF, if_neg ht]; simp only; rw [hsd, if_pos h0, htt]
      · unfold mu; simp; omega
    | some j =>
      refine .inr ⟨some (pc + 1, j), st, M, setT T (bitAt l pc i), fun f => ?_, .some (hw.next pc s hs (.inl h0)) (testR_le hi htt), hst, ?_⟩
      · rw [runF, if_neg ht]; simp only; rw [hsd, if_pos h0, htt]
      · unfold mu; simp; omega
  by_cases h1 : s.kind = 1
  · refine .inr ⟨some (s.a, i), .way s.b i :: st, M, setT T (bitAt l pc i), fun f => ?_, .some (hw.fork pc s hs h1).1 hi, hst.way (hw.fork pc s hs h1).2 hi, ?_⟩
    · rw [runF, if_neg ht]; simp only; rw [hsd, if_neg h0, if_pos h1]
    · unfold mu; simp; omega
  by_cases h2 : s.kind = 2
  · refine .inr ⟨some (s.a, i), st, M, setT T (bitAt l pc i), fun f => ?_, .some (hw.jump pc s hs h2) hi, hst, ?_⟩
    · rw [runF, if_neg ht]; simp only; rw [hsd, if_neg h0, if_neg h1, if_pos h2]
    · unfold mu; simp; omega
  by_cases h5 : s.kind = 5
  · refine .inl ⟨(some i, M, setT T (bitAt l pc i)), fun f => ?_⟩
    rw [runF, if_neg ht]; simp only; rw [hsd, if_neg h0, if_neg h1, if_neg h2, if_pos h5]
  · have hk := hw.kind pc s hs
    refine .inr ⟨some (pc + 1, i), .mark (markAt s) (M.getD (markAt s) 0) :: st, M.set (markAt s) i, setT T (bitAt l pc i), fun f => ?_, .some (hw.next pc s hs (.inr (by omega))) hi, hst.mark, ?_⟩
    · rw [runF, if_neg ht]; simp only; rw [hsd, if_neg h0, if_neg h1, if_neg h2, if_neg h5]
    · unfold mu; simp; omega

/-- fuel enough changes nothing -/
theorem run_fuel (hw : WfP P) : ∀ (n : Nat) (c : Option (Nat × Nat)) (st : List Fr) (M : List Int) (T : Nat → Bool) (f g : Nat), mu P l c st T ≤ n → CurOk P l c → StOk P l st → mu P l c st T ≤ f → mu P l c st T ≤ g → runF m l P f c st M T = runF m l P g c st M T
  | 0, c, st, M, T, f, g, hn, _, _, _, _ => by
    exfalso; unfold mu at hn; split at hn <;> omega
  | n + 1, c, st, M, T, f, g, hn, hc, hst, hf, hg => by
    have hpos : 1 ≤ mu P l c st T := by unfold mu; split <;> omega
    obtain ⟨f, rfl⟩ : ∃ k, f = k + 1 := ⟨f - 1, by omega⟩
    obtain ⟨g, rfl⟩ : ∃ k, g = k + 1 := ⟨g - 1, by omega⟩
    match c, st with
    | none, [] => rw [runF, runF]
    | none, .way pc i :: st =>
      have h := hst (.way pc i) (by simp) pc i rfl
      have hm : mu P l (some (pc, i)) st T < mu P l none (.way pc i :: st) T := by unfold mu; simp; omega
      rw [runF, runF]
      exact run_fuel hw n _ _ _ _ f g (by omega) (.some h.1 h.2) hst.tail (by omega) (by omega)
    | none, .mark k w :: st =>
      have hm : mu P l none st T < mu P l none (.mark k w :: st) T := by unfold mu; simp
      rw [runF, runF]
      exact run_fuel hw n _ _ _ _ f g (by omega) .none hst.tail (by omega) (by omega)
    | some (pc, i), st =>
      have h := hc pc i rfl
      rcases run_step (m := m) (M := M) (T := T) hw h.1 h.2 hst with ⟨r, hr⟩ | ⟨c', st', M', T', hr, hc', hst', hm⟩
      · rw [hr, hr]
      · rw [hr, hr]
        exact run_fuel hw n _ _ _ _ f g (by omega) hc' hst' (by omega) (by omega)

/-- a search tries more -/
theorem dfs_mono : ∀ (f pc i : Nat) (M : List Int) (T : Nat → Bool), TLe T (dfs m l P f pc i M T).2
  | 0, _, _, _, T => .refl T
  | f + 1, pc, i, M, T => by
    rw [dfs]
    split
    · exact .refl T
    have h0 := TLe.set T (bitAt l pc i)
    simp only
    split
    · split
      · exact h0
      · exact h0.trans (dfs_mono f _ _ _ _)
    split
    · have h1 := dfs_mono f (P.getD pc sDone).a i M (setT T (bitAt l pc i))
      split
      · rename_i r T1 he; rw [he] at h1; exact h0.trans h1
      · rename_i T1 he; rw [he] at h1; exact (h0.trans h1).trans (dfs_mono f _ _ _ _)
    split
    · exact h0.trans (dfs_mono f _ _ _ _)
    split
    · exact h0
    · exact h0.trans (dfs_mono f _ _ _ _)

/-- where a search ends, the machine ends; where it fails, the machine goes on with what is left -/
def After (m : Md) (l : List Int) (P : List Stp) (r : Option (Nat × List Int) × (Nat → Bool)) (st : List Fr) (M : List Int) : Option Nat × List Int × (Nat → Bool) :=
  match r with
  | (some (e, M'), T') => (some e, M', T')
  | (none, T') => runF m l P (mu P l none st T') none st M T'
theorem set_back {M : List Int} {k : Nat} {v : Int} : (M.set k v).set k (M.getD k 0) = M := by
  rw [List.set_set]
  by_cases h : k < M.length
  · rw [List.getD_eq_getElem?_getD, List.getElem?_eq_getElem h]; simp
  · rw [List.set_eq_of_length_le (by omega)]
theorem run_dfs (hw : WfP P) : ∀ (f pc i : Nat) (st : List Fr) (M : List Int) (T : Nat → Bool), untr (P.length * (l.length + 1)) T < f → pc < P.length → i ≤ l.length → StOk P l st →
    runF m l P (mu P l (some (pc, i)) st T) (some (pc, i)) st M T = After m l P (dfs m l P f pc i M T) st M
  | 0, _, _, _, _, _, h, _, _, _ => absurd h (Nat.not_lt_zero _)
  | f + 1, pc, i, st, M, T, hf, hp, hi, hst => by
    have hpos : mu P l (some (pc, i)) st T = (mu P l (some (pc, i)) st T - 1) + 1 := by unfold mu; simp
    have hm2 : 2 ≤ mu P l (some (pc, i)) st T := by unfold mu; simp
    rw [hpos]
    generalize hq : mu P l (some (pc, i)) st T - 1 = q
    rw [runF, dfs]
    by_cases ht : T (bitAt l pc i) = true
    · rw [if_pos ht, if_pos ht]
      unfold After
      simp only
      have hle : mu P l none st T ≤ q := by rw [← hq]; unfold mu; simp
      exact run_fuel hw _ _ _ _ _ _ _ (Nat.le_refl _) .none hst hle (Nat.le_refl _)
    rw [if_neg ht, if_neg ht]
    have hu := untr_set (P.length * (l.length + 1)) (bitAt l pc i) T (bit_lt hp hi) (by simpa using ht)
    have hT : ∀ (c : Option (Nat × Nat)) (st' : List Fr), st'.length ≤ st.length + 1 → CurOk P l c → StOk P l st' → ∀ M', runF m l P q c st' M' (setT T (bitAt l pc i)) = runF m l P (mu P l c st' (setT T (bitAt l pc i))) c st' M' (setT T (bitAt l pc i)) := fun c st' hl hc hs M' => by
      refine run_fuel hw _ _ _ _ _ _ _ (Nat.le_refl _) hc hs ?_ (Nat.le_refl _)
      rw [← hq]; unfold mu; simp; split <;> omega
    generalize setT T (bitAt l pc i) = T1 at *
    obtain ⟨s, hs⟩ : ∃ s, P[pc]? = some s := ⟨_, List.getElem?_eq_getElem hp⟩
    have hsd : P.getD pc sDone = s := by rw [List.getD_eq_getElem?_getD, hs]; rfl
    simp only
    rw [hsd]
    by_cases h0 : s.kind = 0
    · rw [if_pos h0, if_pos h0]
      cases htt : testR m l s.x i with
      | none => simp only; rw [hT none st (by omega) .none hst]; rfl
      | some j =>
        simp only
        have hn := hw.next pc s hs (.inl h0)
        rw [hT _ st (by omega) (.some hn (testR_le hi htt)) hst]
        exact run_dfs hw f _ _ _ _ _ (by omega) hn (testR_le hi htt) hst
    rw [if_neg h0, if_neg h0]
    by_cases h1 : s.kind = 1
    · rw [if_pos h1, if_pos h1]
      have hn := hw.fork pc s hs h1
      have hst2 := hst.way hn.2 hi
      rw [hT _ _ (by simp) (.some hn.1 hi) hst2, run_dfs hw f _ _ _ _ _ (by omega) hn.1 hi hst2]
      have hmo := dfs_mono (m := m) (l := l) (P := P) f s.a i M T1
      cases hd : dfs m l P f s.a i M T1 with
      | mk r T2 =>
        rw [hd] at hmo
        cases r with
        | some r => rfl
        | none =>
          have hu2 := untr_mono (P.length * (l.length + 1)) hmo
          have hr := run_dfs hw f s.b i st M T2 (by simp only at hu2; omega) hn.2 hi hst
          simp only
          rw [← hr]
          unfold After
          simp only
          have hm3 : mu P l none (.way s.b i :: st) T2 = (mu P l none (.way s.b i :: st) T2 - 1) + 1 := by unfold mu; simp
          rw [hm3, runF]
          exact run_fuel hw _ _ _ _ _ _ _ (Nat.le_refl _) (.some hn.2 hi) hst (by unfold mu; simp; omega) (Nat.le_refl _)
    rw [if_neg h1, if_neg h1]
    by_cases h2 : s.kind = 2
    · rw [if_pos h2, if_pos h2]
      have hn := hw.jump pc s hs h2
      rw [hT _ st (by omega) (.some hn hi) hst]
      exact run_dfs hw f _ _ _ _ _ (by omega) hn hi hst
    rw [if_neg h2, if_neg h2]
    by_cases h5 : s.kind = 5
    · rw [if_pos h5, if_pos h5]; rfl
    rw [if_neg h5, if_neg h5]
    have hk := hw.kind pc s hs
    have hn := hw.next pc s hs (.inr (by omega))
    have hst2 : StOk P l (.mark (markAt s) (M.getD (markAt s) 0) :: st) := hst.mark
    rw [hT _ _ (by simp) (.some hn hi) hst2, run_dfs hw f _ _ _ _ _ (by omega) hn hi hst2]
    cases hd : dfs m l P f (pc + 1) i (M.set (markAt s) i) T1 with
    | mk r T2 =>
      cases r with
      | some r => rfl
      | none =>
        unfold After
        simp only
        have hm3 : mu P l none (.mark (markAt s) (M.getD (markAt s) 0) :: st) T2 = (mu P l none (.mark (markAt s) (M.getD (markAt s) 0) :: st) T2 - 1) + 1 := by unfold mu; simp
        rw [hm3, runF, set_back]
        exact run_fuel hw _ _ _ _ _ _ _ (Nat.le_refl _) .none hst (by unfold mu; simp; omega) (Nat.le_refl _)
end

end Go.Proofs.YtoniccokohjenaaDoor
