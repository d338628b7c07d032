/-
  Plain Lean: a pattern of letters and digits matches where its signs stand (chapter 19). No program in sight.
-/
import Derived.Test.YtoniccokohjenaaDoorMatZ
import Derived.Test.YtoniccokohjenaaDoorRegU
namespace Go.Proofs.YtoniccokohjenaaDoor

/-- the steps of signs -/
def plainP (p : List Int) : List Stp := p.map fun c => sTest (rxRune c)
theorem lay_rune (c : Int) (k : Nat) : layR (rxRune c) k = [sTest (rxRune c)] := rfl
theorem laySeq_plain : ∀ (p : List Int) (k : Nat), laySeq (p.map rxRune) k = plainP p
  | [], _ => rfl
  | c :: p, k => by rw [List.map_cons, laySeq, lay_rune, laySeq_plain p]; rfl
theorem steps_plain (p : List Int) : stepsOf (seqOf (p.map rxRune)) = plainP p ++ [sDone] := by
  unfold stepsOf
  match p with
  | [] => rfl
  | [c] => rfl
  | c :: d :: r => rw [← laySeq_plain (c :: d :: r) 0]; rfl
theorem plain_at {p : List Int} {k : Nat} (hk : k < p.length) : (plainP p ++ [sDone]).getD k sDone = sTest (rxRune (p.getD k 0)) := by
  rw [List.getD_eq_getElem?_getD, List.getElem?_append_left (by simp [plainP]; exact hk), List.getD_eq_getElem?_getD]
  simp [plainP, hk]
theorem plain_end (p : List Int) : (plainP p ++ [sDone]).getD p.length sDone = sDone := by
  rw [List.getD_eq_getElem?_getD, List.getElem?_append_right (by simp [plainP])]
  simp [plainP]
/-- do the signs q stand at the head? -/
def heads (q t : List Int) : Bool := decide (q.length ≤ t.length) && t.take q.length == q
theorem heads_nil (t : List Int) : heads [] t = true := by simp [heads]
theorem heads_cons (c : Int) (q t : List Int) : heads (c :: q) t = (match t with | [] => false | d :: r => d == c && heads q r) := by
  cases t with
  | nil => simp [heads]
  | cons d r =>
    simp only [heads, List.length_cons, List.take_succ_cons]
    by_cases h : q.length ≤ r.length
    · rw [decide_eq_true (p := q.length + 1 ≤ r.length + 1) (by omega), decide_eq_true h]
      simp only [Bool.true_and]
      rw [List.cons_beq_cons]
    · rw [decide_eq_false (p := q.length + 1 ≤ r.length + 1) (by omega), decide_eq_false h]; simp
/-- nothing was tried but from places ahead of s -/
def Dg (n : Nat) (l : List Int) (s : Nat) (T : Nat → Bool) : Prop := ∀ k j, k ≤ n → j ≤ l.length → T (bitAt l k j) = true → j < s + k
theorem test_rune (m : Md) (hm : m.fold = false) (l : List Int) (c : Int) (i : Nat) : testR m l (rxRune c) i = if i < l.length ∧ l.getD i 0 = c then some (i + 1) else none := by
  unfold testR
  have hk1 : (rxRune c).kind = 1 := rfl
  rw [if_neg (by rw [hk1]; decide), if_neg (by rw [hk1]; decide), if_neg (by rw [hk1]; decide)]
  have : hasR m (rxRune c) (l.getD i 0) = (l.getD i 0 == c) := by
    unfold hasR hasL
    rw [if_neg (by rw [hk1]; decide), if_neg (by rw [hk1]; decide), if_pos hk1, hm]
    simp [rxRune, Rx.rune]
  rw [this]
  simp
theorem drop_getD {l : List Int} {i : Nat} (h : i < l.length) : l.drop i = l.getD i 0 :: l.drop (i + 1) := by
  rw [List.drop_eq_getElem_cons h, List.getD_eq_getElem?_getD, List.getElem?_eq_getElem h]; rfl
theorem dfs_plain {m : Md} (hm : m.fold = false) {l p : List Int} {s : Nat} : ∀ (f k : Nat) (M : List Int) (T : Nat → Bool), p.length < f + k → k ≤ p.length → s + k ≤ l.length →
    (∀ k' j, k' ≤ p.length → j ≤ l.length → T (bitAt l k' j) = true → j < s + k' ∨ (k' < k ∧ j = s + k')) →
    ∃ T', dfs m l (plainP p ++ [sDone]) f k (s + k) M T = (if heads (p.drop k) (l.drop (s + k)) then some (s + p.length, M) else none, T') ∧ Dg p.length l (s + 1) T'
  | 0, k, _, _, h, hk, _, _ => absurd h (by omega)
  | f + 1, k, M, T, h, hk, hs, hT => by
    have ht : T (bitAt l k (s + k)) = false := by
      cases e : T (bitAt l k (s + k)) with
      | false => rfl
      | true => have := hT k (s + k) hk hs e; omega
    have hT1 : ∀ k' j, k' ≤ p.length → j ≤ l.length → setT T (bitAt l k (s + k)) (bitAt l k' j) = true → j < s + k' ∨ (k' < k + 1 ∧ j = s + k') := fun k' j h1 h2 h3 => by
      unfold setT at h3
      split at h3
      · rename_i e
        obtain ⟨e1, e2⟩ := bit_inj h2 hs e
        omega
      · have := hT k' j h1 h2 h3; omega
    have hD : Dg p.length l (s + 1) (setT T (bitAt l k (s + k))) := fun k' j h1 h2 h3 => by have := hT1 k' j h1 h2 h3; omega
    rw [dfs, if_neg (by rw [ht]; decide)]
    by_cases hkp : k = p.length
    · subst hkp
      simp only
      rw [plain_end, List.drop_length, heads_nil, if_pos rfl]
      exact ⟨_, rfl, hD⟩
    · have hk2 : k < p.length := by omega
      simp only
      rw [plain_at hk2, if_pos (show (sTest (rxRune (p.getD k 0))).kind = 0 from rfl), show (sTest (rxRune (p.getD k 0))).x = rxRune (p.getD k 0) from rfl, test_rune m hm]
      by_cases hi : s + k < l.length
      · by_cases hc : l.getD (s + k) 0 = p.getD k 0
        · have hh : heads (p.drop k) (l.drop (s + k)) = heads (p.drop (k + 1)) (l.drop (s + (k + 1))) := by
            rw [drop_getD hk2, heads_cons, drop_getD hi, hc]
            show (_ == _ && _) = _
            rw [beq_self_eq_true, Bool.true_and]; rfl
          rw [if_pos ⟨hi, hc⟩, hh]
          exact dfs_plain hm f (k + 1) M (setT T (bitAt l k (s + k))) (by omega) (by omega) (by omega) hT1
        · have hh : heads (p.drop k) (l.drop (s + k)) = false := by
            rw [drop_getD hk2, heads_cons, drop_getD hi]
            show (_ == _ && _) = _
            rw [beq_false_of_ne hc, Bool.false_and]
          rw [if_neg (fun h => hc h.2), hh]
          exact ⟨_, rfl, hD⟩
      · have hh : heads (p.drop k) (l.drop (s + k)) = false := by
          rw [drop_getD hk2, heads_cons, List.drop_eq_nil_of_le (by omega)]
        rw [if_neg (fun h => hi h.1), hh]
        exact ⟨_, rfl, hD⟩
/-- where the signs stand, from i on, none within another one -/
def occs (p l : List Int) : Nat → Nat → List (Nat × Nat)
  | 0, _ => []
  | f + 1, i => if l.length < i + p.length then []
    else if heads p (l.drop i) then (i, i + p.length) :: occs p l f (i + max 1 p.length)
    else occs p l f (i + 1)
theorem occs_far (p l : List Int) : ∀ (f i : Nat), l.length < i + p.length → occs p l f i = []
  | 0, _, _ => rfl
  | f + 1, i, h => by rw [occs, if_pos h]
theorem occs_fuel (p l : List Int) : ∀ (f g i : Nat), l.length + 1 ≤ i + f → l.length + 1 ≤ i + g → occs p l f i = occs p l g i
  | 0, g, i, h, _ => by rw [occs_far p l g i (by omega)]; rfl
  | f + 1, 0, i, _, h => by rw [occs_far p l (f + 1) i (by omega)]; rfl
  | f + 1, g + 1, i, h1, h2 => by
    rw [occs, occs]
    split
    · rfl
    split
    · rw [occs_fuel p l f g _ (by omega) (by omega)]
    · exact occs_fuel p l f g _ (by omega) (by omega)
theorem heads_len {q t : List Int} (h : heads q t = true) : q.length ≤ t.length := by
  unfold heads at h; rw [Bool.and_eq_true] at h; exact of_decide_eq_true h.1
theorem all_plain {m : Md} (hm : m.fold = false) (ha : m.all = true) (hs : m.some = false) {l p : List Int} : ∀ (f i : Nat) (T : Nat → Bool), l.length + 1 ≤ i + f → Dg p.length l i T →
    allF m l (plainP p ++ [sDone]) 0 f i T = (occs p l f i).map fun x => ⟨x.1, x.2, []⟩
  | 0, _, _, _, _ => rfl
  | f + 1, i, T, hf, hT => by
    rw [allF, occs]
    by_cases h : l.length < i
    · rw [if_pos h, if_pos (by omega)]; rfl
    rw [if_neg h]
    have hl : (plainP p ++ [sDone]).length = p.length + 1 := by simp [plainP]
    have hd := dfs_plain hm (l := l) (p := p) (s := i) ((plainP p ++ [sDone]).length * (l.length + 1) + 1) 0 (List.replicate (2 * 0) (-1)) T (by
        rw [hl]
        have : p.length + 1 ≤ (p.length + 1) * (l.length + 1) := Nat.le_mul_of_pos_right _ (by omega)
        omega) (by omega) (by omega) (fun k' j h1 h2 h3 => .inl (hT k' j h1 h2 h3))
    obtain ⟨T', hd, hD⟩ := hd
    rw [Nat.add_zero, List.drop_zero] at hd
    have hr : runAt m l (plainP p ++ [sDone]) 0 i T = (if heads p (l.drop i) then some (i + p.length, []) else none, T') := hd
    rw [hr]
    cases hh : heads p (l.drop i) with
    | false =>
      simp only [Bool.false_eq_true, if_false]
      rw [all_plain hm ha hs f (i + 1) T' (by omega) hD]
      by_cases hc : l.length < i + p.length
      · rw [if_pos hc, occs_far p l f (i + 1) (by omega)]
      · rw [if_neg hc]
    | true =>
      have := heads_len hh
      rw [List.length_drop] at this
      have hc : ¬ l.length < i + p.length := by omega
      simp only [if_true]
      rw [if_neg hc, if_pos (.inr hs), ha, if_pos rfl]
      rw [all_plain hm ha hs f _ _ (by omega) (fun _ _ _ _ h => by cases h), List.map_cons, show max (i + p.length) (i + 1) = i + max 1 p.length by omega]
/-- what a text is with something in the place of parts -/
def replF (l : List Int) (by_ : List UInt8) : List (Nat × Nat) → Nat → List UInt8
  | [], at_ => allB (l.drop at_)
  | (a, b) :: r, at_ => allB ((l.drop at_).take (a - at_)) ++ by_ ++ replF l by_ r b
theorem allB_append (a b : List Int) : allB (a ++ b) = allB a ++ allB b := List.flatMap_append
/-- matches in the place of matches -/
theorem repl_occs (p l : List Int) : ∀ (f i at_ : Nat), at_ ≤ i → replF l (allB p) (occs p l f i) at_ = allB (l.drop at_)
  | 0, _, _, _ => rfl
  | f + 1, i, at_, h => by
    rw [occs]
    split
    · rfl
    split
    · rename_i hc hh
      rw [replF, repl_occs p l f _ _ (by omega)]
      rw [← allB_append, ← allB_append]
      congr 1
      unfold heads at hh
      rw [Bool.and_eq_true] at hh
      have e : (l.drop i).take p.length = p := by simpa using hh.2
      have e2 : l.drop at_ = (l.drop at_).take (i - at_) ++ (l.drop i) := by
        have := (List.take_append_drop (i - at_) (l.drop at_)).symm
        rw [List.drop_drop, show at_ + (i - at_) = i by omega] at this
        exact this
      have e3 : l.drop i = p ++ l.drop (i + p.length) := by
        have := (List.take_append_drop p.length (l.drop i)).symm
        rw [e, List.drop_drop] at this
        exact this
      rw [List.append_assoc, ← e3]
      exact e2.symm
    · exact repl_occs p l f (i + 1) at_ (by omega)

end Go.Proofs.YtoniccokohjenaaDoor
