/-
  Plain Lean: what a token of a stream depends on (chapter 9).
  Plain Lean: the tokens of a stream, one law for all of them (chapter 9).
  Plain Lean: two readers of two texts go on alike, where what they read is alike (chapter 9).
  Plain Lean: how far a round of the reader looks; rounds over other texts (chapter 9).
  Plain Lean: the laws of a stream: what the bytes up to a fault are; two streams are one (chapter 9).
  Plain Lean: the laws of a stream: where it may go deeper (chapter 9).
  Plain Lean: the laws of a stream: each of its texts is one (chapter 9).
-/
import Derived.Test.YtojapomkmfbciaaDoorValH
import Derived.Test.YtojapomkmfbciaaDoorValJ
namespace Go.Proofs.YtojapomkmfbciaaDoor

theorem bt_of {r r' : List UInt8} {i : Nat} (h : r'[i]? = r[i]?) : bt r' i = bt r i := by unfold bt; rw [h]
theorem lt_of {r r' : List UInt8} {i : Nat} (h : r'[i]? = r[i]?) : i < r'.length ↔ i < r.length := by
  have a := List.getElem?_eq_none_iff (l := r') (i := i)
  have b := List.getElem?_eq_none_iff (l := r) (i := i)
  rw [h] at a
  have c := a.symm.trans b
  omega

/-- digits that end at k -/
theorem digE_to (r r' : List UInt8) : ∀ (m a : Nat), r.length - a ≤ m → (∀ i, a ≤ i → i < digE r a → r'[i]? = r[i]?) → ¬ (48 ≤ bt r' (digE r a) ∧ bt r' (digE r a) ≤ 57) → digE r' a = digE r a
  | m, a, hm, h, hn => by
    by_cases hd : a < r.length ∧ 48 ≤ bt r a ∧ bt r a ≤ 57
    · have e := digE_step r a hd.1 hd.2
      have hge : a + 1 ≤ digE r (a + 1) := Nat.le_add_right _ _
      have ha := h a (Nat.le_refl _) (by omega)
      have e' := digE_step r' a ((lt_of ha).2 hd.1) (by rw [bt_of ha]; exact hd.2)
      rw [e, e']
      cases m with
      | zero => omega
      | succ m => exact digE_to r r' m (a + 1) (by omega) (fun i h1 h2 => h i (by omega) (by omega)) (by rw [← e]; exact hn)
    · have e := digE_stop r a (fun h1 h2 => hd ⟨h1, h2⟩)
      rw [e] at hn ⊢
      exact digE_stop r' a (fun _ => hn)
/-- behind digits there is none -/
theorem digE_end (r : List UInt8) : ∀ (m a : Nat), r.length - a ≤ m → ¬ (48 ≤ bt r (digE r a) ∧ bt r (digE r a) ≤ 57)
  | m, a, hm => by
    by_cases hd : a < r.length ∧ 48 ≤ bt r a ∧ bt r a ≤ 57
    · rw [digE_step r a hd.1 hd.2]
      cases m with
      | zero => omega
      | succ m => exact digE_end r m (a + 1) (by omega)
    · rw [digE_stop r a (fun h1 h2 => hd ⟨h1, h2⟩)]
      intro h
      by_cases h2 : a < r.length
      · exact hd ⟨h2, h⟩
      · rw [bt_out r a (by omega)] at h; omega
theorem digE_loc (r r' : List UInt8) (a : Nat) (h : ∀ i, a ≤ i → i ≤ digE r a → r'[i]? = r[i]?) : digE r' a = digE r a :=
  digE_to r r' _ a (Nat.le_refl _) (fun i h1 h2 => h i h1 (by omega)) (by
    have hge : a ≤ digE r a := Nat.le_add_right _ _
    rw [bt_of (h _ hge (Nat.le_refl _))]; exact digE_end r _ a (Nat.le_refl _))

/-- no number goes on with this byte -/
def StopB (c : Nat) : Prop := ¬ (48 ≤ c ∧ c ≤ 57) ∧ c ≠ 46 ∧ c ≠ 101 ∧ c ≠ 69 ∧ c ≠ 45 ∧ c ≠ 43
theorem stop_zero : StopB 0 := by unfold StopB; omega
theorem stop_blank (c : Nat) (h : blankB c = true) : StopB c := by
  unfold blankB at h
  simp only [Bool.or_eq_true, beq_iff_eq] at h
  unfold StopB; omega

theorem intV_def (r : List UInt8) (a : Nat) : intV r a = if bt r (if bt r a = 45 then a + 1 else a) = 48 then ((if bt r a = 45 then a + 1 else a) + 1, true) else if digE r (if bt r a = 45 then a + 1 else a) = (if bt r a = 45 then a + 1 else a) then ((if bt r a = 45 then a + 1 else a), false) else (digE r (if bt r a = 45 then a + 1 else a), true) := rfl

theorem intV_join (r r' : List UInt8) (a : Nat) (hb : (intV r a).2 = true) (h : ∀ i, a ≤ i → i < (intV r a).1 → r'[i]? = r[i]?) (hs : ¬ (48 ≤ bt r' (intV r a).1 ∧ bt r' (intV r a).1 ≤ 57)) : intV r' a = intV r a := by
  have hgt := intV_gt r a hb
  have h0 := bt_of (h a (Nat.le_refl _) hgt)
  rw [intV_def r'] 
  rw [h0]
  rw [intV_def r] at hb h hs hgt ⊢
  generalize hi : (if bt r a = 45 then a + 1 else a) = i at *
  have hia : a ≤ i := by rw [← hi]; split <;> omega
  by_cases h48 : bt r i = 48
  · rw [if_pos h48] at h ⊢
    rw [if_pos (by rw [bt_of (h i hia (Nat.lt_succ_self _))]; exact h48)]
  · rw [if_neg h48] at hb h hs hgt ⊢
    by_cases hd : digE r i = i
    · rw [if_pos hd] at hb; cases hb
    · rw [if_neg hd] at h hs ⊢
      have hge : i ≤ digE r i := Nat.le_add_right _ _
      have e := digE_to r r' _ i (Nat.le_refl _) (fun j h1 h2 => h j (by omega) h2) hs
      rw [if_neg (by rw [bt_of (h i hia (show i < digE r i by omega))]; exact h48), e, if_neg hd]
theorem intV_loc (r r' : List UInt8) (a : Nat) (h : ∀ i, a ≤ i → i ≤ (intV r a).1 → r'[i]? = r[i]?) : intV r' a = intV r a := by
  have hge : a ≤ (intV r a).1 := by
    rw [intV_def]
    generalize hi : (if bt r a = 45 then a + 1 else a) = i
    have hia : a ≤ i := by rw [← hi]; split <;> omega
    have : i ≤ digE r i := Nat.le_add_right _ _
    (repeat' split) <;> simp only [] <;> omega
  have h0 := bt_of (h a (Nat.le_refl _) hge)
  rw [intV_def r', h0]
  rw [intV_def r] at h ⊢
  generalize hi : (if bt r a = 45 then a + 1 else a) = i at *
  have hia : a ≤ i := by rw [← hi]; split <;> omega
  have hge2 : i ≤ digE r i := Nat.le_add_right _ _
  by_cases h48 : bt r i = 48
  · rw [if_pos h48] at h ⊢
    rw [if_pos (by rw [bt_of (h i hia (Nat.le_succ _))]; exact h48)]
  · rw [if_neg h48] at h ⊢
    by_cases hd : digE r i = i
    · rw [if_pos hd] at h ⊢
      have e := digE_loc r r' i (fun j h1 h2 => h j (by omega) (by rw [hd] at h2; exact h2))
      rw [if_neg (by rw [bt_of (h i hia (Nat.le_refl _))]; exact h48), e, if_pos hd]
    · rw [if_neg hd] at h ⊢
      have e := digE_loc r r' i (fun j h1 h2 => h j (by omega) h2)
      rw [if_neg (by rw [bt_of (h i hia (show i ≤ digE r i by omega))]; exact h48), e, if_neg hd]
theorem intV_cut (r r' : List UInt8) (a : Nat) (hb : (intV r a).2 = false) (h : ∀ i, a ≤ i → i < (intV r a).1 → r'[i]? = r[i]?) (hs : StopB (bt r' (intV r a).1)) : intV r' a = intV r a := by
  rw [intV_def r] at hb h hs ⊢
  generalize hi : (if bt r a = 45 then a + 1 else a) = i at *
  by_cases h48 : bt r i = 48
  · rw [if_pos h48] at hb; cases hb
  rw [if_neg h48] at hb h hs ⊢
  by_cases hd : digE r i = i
  · rw [if_pos hd] at h hs ⊢
    have e : (if bt r' a = 45 then a + 1 else a) = i := by
      by_cases h45 : bt r a = 45
      · rw [if_pos h45] at hi
        rw [bt_of (h a (Nat.le_refl _) (show a < i by omega)), if_pos h45, hi]
      · rw [if_neg h45] at hi
        subst hi
        rw [if_neg hs.2.2.2.2.1]
    rw [intV_def, e, if_neg (fun h => hs.1 (by rw [show bt r' i = 48 from h]; omega)), digE_stop r' i (fun _ => hs.1), if_pos rfl]
  · rw [if_neg hd] at hb; cases hb

theorem fracV_join (r r' : List UInt8) (a : Nat) (hb : (fracV r a).2 = true) (h : ∀ i, a ≤ i → i < (fracV r a).1 → r'[i]? = r[i]?) (hs : StopB (bt r' (fracV r a).1)) : fracV r' a = fracV r a := by
  unfold fracV at hb h hs ⊢
  by_cases h46 : bt r a = 46
  · rw [if_pos h46] at hb h hs ⊢
    by_cases hd : digE r (a + 1) = a + 1
    · rw [if_pos hd] at hb; cases hb
    · rw [if_neg hd] at h hs ⊢
      have hge : a + 1 ≤ digE r (a + 1) := Nat.le_add_right _ _
      have e := digE_to r r' _ (a + 1) (Nat.le_refl _) (fun j h1 h2 => h j (by omega) h2) hs.1
      rw [if_pos (by rw [bt_of (h a (Nat.le_refl _) (show a < digE r (a + 1) by omega))]; exact h46), e, if_neg hd]
  · rw [if_neg h46] at hs ⊢
    rw [if_neg hs.2.1]
theorem fracV_loc (r r' : List UInt8) (a : Nat) (h : ∀ i, a ≤ i → i ≤ (fracV r a).1 → r'[i]? = r[i]?) : fracV r' a = fracV r a := by
  unfold fracV at h ⊢
  have hge : a + 1 ≤ digE r (a + 1) := Nat.le_add_right _ _
  by_cases h46 : bt r a = 46
  · rw [if_pos h46] at h ⊢
    by_cases hd : digE r (a + 1) = a + 1
    · rw [if_pos hd] at h ⊢
      have e := digE_loc r r' (a + 1) (fun j h1 h2 => h j (by omega) (by rw [hd] at h2; exact h2))
      rw [if_pos (by rw [bt_of (h a (Nat.le_refl _) (Nat.le_succ _))]; exact h46), e, if_pos hd]
    · rw [if_neg hd] at h ⊢
      have e := digE_loc r r' (a + 1) (fun j h1 h2 => h j (by omega) h2)
      rw [if_pos (by rw [bt_of (h a (Nat.le_refl _) (show a ≤ digE r (a + 1) by omega))]; exact h46), e, if_neg hd]
  · rw [if_neg h46] at h ⊢
    rw [if_neg (by rw [bt_of (h a (Nat.le_refl _) (Nat.le_refl _))]; exact h46)]
theorem fracV_cut (r r' : List UInt8) (a : Nat) (hb : (fracV r a).2 = false) (h : ∀ i, a ≤ i → i < (fracV r a).1 → r'[i]? = r[i]?) (hs : StopB (bt r' (fracV r a).1)) : fracV r' a = fracV r a := by
  unfold fracV at hb h hs ⊢
  by_cases h46 : bt r a = 46
  · rw [if_pos h46] at hb h hs ⊢
    by_cases hd : digE r (a + 1) = a + 1
    · rw [if_pos hd] at h hs ⊢
      rw [if_pos (by rw [bt_of (h a (Nat.le_refl _) (Nat.lt_succ_self _))]; exact h46), digE_stop r' (a + 1) (fun _ => hs.1), if_pos rfl]
    · rw [if_neg hd] at hb; cases hb
  · rw [if_neg h46] at hb; cases hb

theorem expV_def (r : List UInt8) (a : Nat) : expV r a = if bt r a = 101 ∨ bt r a = 69 then (if digE r (if bt r (a + 1) = 43 ∨ bt r (a + 1) = 45 then a + 1 + 1 else a + 1) = (if bt r (a + 1) = 43 ∨ bt r (a + 1) = 45 then a + 1 + 1 else a + 1) then ((if bt r (a + 1) = 43 ∨ bt r (a + 1) = 45 then a + 1 + 1 else a + 1), false) else (digE r (if bt r (a + 1) = 43 ∨ bt r (a + 1) = 45 then a + 1 + 1 else a + 1), true)) else (a, true) := rfl
theorem expV_join (r r' : List UInt8) (a : Nat) (hb : (expV r a).2 = true) (h : ∀ i, a ≤ i → i < (expV r a).1 → r'[i]? = r[i]?) (hs : StopB (bt r' (expV r a).1)) : expV r' a = expV r a := by
  rw [expV_def r] at hb h hs ⊢
  by_cases hee : bt r a = 101 ∨ bt r a = 69
  · rw [if_pos hee] at hb h hs ⊢
    generalize hi : (if bt r (a + 1) = 43 ∨ bt r (a + 1) = 45 then a + 1 + 1 else a + 1) = i at *
    have hia : a + 1 ≤ i := by rw [← hi]; split <;> omega
    have hge : i ≤ digE r i := Nat.le_add_right _ _
    by_cases hd : digE r i = i
    · rw [if_pos hd] at hb; cases hb
    · rw [if_neg hd] at h hs ⊢
      have e1 : (if bt r' (a + 1) = 43 ∨ bt r' (a + 1) = 45 then a + 1 + 1 else a + 1) = i := by
        rw [bt_of (h (a + 1) (by omega) (show a + 1 < digE r i by omega))]; exact hi
      have e := digE_to r r' _ i (Nat.le_refl _) (fun j h1 h2 => h j (by omega) h2) hs.1
      rw [expV_def, if_pos (by rw [bt_of (h a (Nat.le_refl _) (show a < digE r i by omega))]; exact hee), e1, e, if_neg hd]
  · rw [if_neg hee] at hs ⊢
    rw [expV_def, if_neg (fun h => by rcases h with h | h; exact hs.2.2.1 h; exact hs.2.2.2.1 h)]
theorem expV_loc (r r' : List UInt8) (a : Nat) (h : ∀ i, a ≤ i → i ≤ (expV r a).1 → r'[i]? = r[i]?) : expV r' a = expV r a := by
  rw [expV_def r] at h ⊢
  by_cases hee : bt r a = 101 ∨ bt r a = 69
  · rw [if_pos hee] at h ⊢
    generalize hi : (if bt r (a + 1) = 43 ∨ bt r (a + 1) = 45 then a + 1 + 1 else a + 1) = i at *
    have hia : a + 1 ≤ i := by rw [← hi]; split <;> omega
    have hge : i ≤ digE r i := Nat.le_add_right _ _
    by_cases hd : digE r i = i
    · rw [if_pos hd] at h ⊢
      have e1 : (if bt r' (a + 1) = 43 ∨ bt r' (a + 1) = 45 then a + 1 + 1 else a + 1) = i := by
        rw [bt_of (h (a + 1) (by omega) (show a + 1 ≤ i by omega))]; exact hi
      have e := digE_loc r r' i (fun j h1 h2 => h j (by omega) (by rw [hd] at h2; exact h2))
      rw [expV_def, if_pos (by rw [bt_of (h a (Nat.le_refl _) (show a ≤ i by omega))]; exact hee), e1, e, if_pos hd]
    · rw [if_neg hd] at h ⊢
      have e1 : (if bt r' (a + 1) = 43 ∨ bt r' (a + 1) = 45 then a + 1 + 1 else a + 1) = i := by
        rw [bt_of (h (a + 1) (by omega) (show a + 1 ≤ digE r i by omega))]; exact hi
      have e := digE_loc r r' i (fun j h1 h2 => h j (by omega) h2)
      rw [expV_def, if_pos (by rw [bt_of (h a (Nat.le_refl _) (show a ≤ digE r i by omega))]; exact hee), e1, e, if_neg hd]
  · rw [if_neg hee] at h ⊢
    rw [expV_def, if_neg (by rw [bt_of (h a (Nat.le_refl _) (Nat.le_refl _))]; exact hee)]
theorem expV_cut (r r' : List UInt8) (a : Nat) (hb : (expV r a).2 = false) (h : ∀ i, a ≤ i → i < (expV r a).1 → r'[i]? = r[i]?) (hs : StopB (bt r' (expV r a).1)) : expV r' a = expV r a := by
  rw [expV_def r] at hb h hs ⊢
  by_cases hee : bt r a = 101 ∨ bt r a = 69
  · rw [if_pos hee] at hb h hs ⊢
    generalize hi : (if bt r (a + 1) = 43 ∨ bt r (a + 1) = 45 then a + 1 + 1 else a + 1) = i at *
    have hia : a + 1 ≤ i := by rw [← hi]; split <;> omega
    by_cases hd : digE r i = i
    · rw [if_pos hd] at h hs ⊢
      have e1 : (if bt r' (a + 1) = 43 ∨ bt r' (a + 1) = 45 then a + 1 + 1 else a + 1) = i := by
        by_cases hsg : bt r (a + 1) = 43 ∨ bt r (a + 1) = 45
        · rw [if_pos hsg] at hi
          rw [bt_of (h (a + 1) (by omega) (show a + 1 < i by omega)), if_pos hsg, hi]
        · rw [if_neg hsg] at hi
          subst hi
          rw [if_neg (fun h => by rcases h with h | h; exact hs.2.2.2.2.2 h; exact hs.2.2.2.2.1 h)]
      rw [expV_def, if_pos (by rw [bt_of (h a (Nat.le_refl _) (show a < i by omega))]; exact hee), e1, digE_stop r' i (fun _ => hs.1), if_pos rfl]
    · rw [if_neg hd] at hb; cases hb
  · rw [if_neg hee] at hb; cases hb

theorem tailV_loc (top : Bool) (r r' : List UInt8) (a : Nat) (h : r'[a]? = r[a]?) : tailV top r' a = tailV top r a := by
  unfold tailV
  have := lt_of h
  rw [bt_of h]
  by_cases hl : a < r.length
  · have hl' := this.2 hl
    simp only [hl, hl']
  · have hl' : ¬ a < r'.length := fun h => hl (this.1 h)
    simp only [hl, hl']

/-- the parts of a number -/
theorem numV_parts (top : Bool) (r : List UInt8) (a : Nat) :
    ((intV r a).2 = false ∧ numV top r a = intV r a) ∨ ((intV r a).2 = true ∧ (fracV r (intV r a).1).2 = false ∧ numV top r a = fracV r (intV r a).1) ∨
    ((intV r a).2 = true ∧ (fracV r (intV r a).1).2 = true ∧ (expV r (fracV r (intV r a).1).1).2 = false ∧ numV top r a = expV r (fracV r (intV r a).1).1) ∨
    ((intV r a).2 = true ∧ (fracV r (intV r a).1).2 = true ∧ (expV r (fracV r (intV r a).1).1).2 = true ∧ numV top r a = tailV top r (expV r (fracV r (intV r a).1).1).1) := by
  unfold numV thenV
  cases h1 : intV r a with
  | mk i bi =>
    cases bi with
    | false => exact .inl ⟨rfl, rfl⟩
    | true =>
      refine .inr ?_
      simp only [if_true]
      cases h2 : fracV r i with
      | mk j bj =>
        cases bj with
        | false => exact .inl ⟨trivial, rfl, rfl⟩
        | true =>
          refine .inr ?_
          simp only [if_true]
          cases h3 : expV r j with
          | mk k bk =>
            cases bk with
            | false => exact .inl ⟨trivial, trivial, rfl, rfl⟩
            | true => exact .inr ⟨trivial, trivial, rfl, rfl⟩
theorem fracV_ge (r : List UInt8) (a : Nat) : a ≤ (fracV r a).1 := by
  unfold fracV
  have hge : a + 1 ≤ digE r (a + 1) := Nat.le_add_right _ _
  (repeat' split) <;> simp only [] <;> omega
theorem expV_ge (r : List UInt8) (a : Nat) : a ≤ (expV r a).1 := by
  rw [expV_def]
  generalize hi : (if bt r (a + 1) = 43 ∨ bt r (a + 1) = 45 then a + 1 + 1 else a + 1) = i
  have hia : a + 1 ≤ i := by rw [← hi]; split <;> omega
  have hge : i ≤ digE r i := Nat.le_add_right _ _
  (repeat' split) <;> simp only [] <;> omega

theorem numV_loc (top : Bool) (r r' : List UInt8) (a : Nat) (h : ∀ i, a ≤ i → i ≤ (numV top r a).1 → r'[i]? = r[i]?) : numV top r' a = numV top r a := by
  have g2 := fracV_ge r (intV r a).1
  have g3 := expV_ge r (fracV r (intV r a).1).1
  rcases numV_parts top r a with ⟨h1, e⟩ | ⟨h1, h2, e⟩ | ⟨h1, h2, h3, e⟩ | ⟨h1, h2, h3, e⟩
  · rw [e] at h ⊢
    have e1 := intV_loc r r' a h
    rcases numV_parts top r' a with ⟨k1, f⟩ | ⟨k1, _, f⟩ | ⟨k1, _, _, f⟩ | ⟨k1, _, _, f⟩
    · rw [f, e1]
    all_goals (rw [e1, h1] at k1; cases k1)
  · rw [e] at h ⊢
    have e1 := intV_loc r r' a (fun i x y => h i x (by omega))
    have e2 := fracV_loc r r' (intV r a).1 (fun i x y => h i (by have := intV_gt r a h1; omega) y)
    rcases numV_parts top r' a with ⟨k1, f⟩ | ⟨k1, k2, f⟩ | ⟨k1, k2, _, f⟩ | ⟨k1, k2, _, f⟩
    · rw [e1, h1] at k1; cases k1
    · rw [f, e1, e2]
    all_goals (rw [e1, e2, h2] at k2; cases k2)
  · rw [e] at h ⊢
    have hgt := intV_gt r a h1
    have e1 := intV_loc r r' a (fun i x y => h i x (by omega))
    have e2 := fracV_loc r r' (intV r a).1 (fun i x y => h i (by omega) (by omega))
    have e3 := expV_loc r r' (fracV r (intV r a).1).1 (fun i x y => h i (by omega) y)
    rcases numV_parts top r' a with ⟨k1, f⟩ | ⟨k1, k2, f⟩ | ⟨k1, k2, k3, f⟩ | ⟨k1, k2, k3, f⟩
    · rw [e1, h1] at k1; cases k1
    · rw [e1, e2, h2] at k2; cases k2
    · rw [f, e1, e2, e3]
    · rw [e1, e2, e3, h3] at k3; cases k3
  · rw [e] at h ⊢
    rw [tailV_le] at h
    have hgt := intV_gt r a h1
    have e1 := intV_loc r r' a (fun i x y => h i x (by omega))
    have e2 := fracV_loc r r' (intV r a).1 (fun i x y => h i (by omega) (by omega))
    have e3 := expV_loc r r' (fracV r (intV r a).1).1 (fun i x y => h i (by omega) y)
    have e4 := tailV_loc top r r' (expV r (fracV r (intV r a).1).1).1 (h _ (by omega) (Nat.le_refl _))
    rcases numV_parts top r' a with ⟨k1, f⟩ | ⟨k1, k2, f⟩ | ⟨k1, k2, k3, f⟩ | ⟨k1, k2, k3, f⟩
    · rw [e1, h1] at k1; cases k1
    · rw [e1, e2, h2] at k2; cases k2
    · rw [e1, e2, e3, h3] at k3; cases k3
    · rw [f, e1, e2, e3, e4]

/-- a part stays what it is where a number may not go on behind the whole -/
theorem part_join (P : List UInt8 → Nat → Nat × Bool) (hl : ∀ r r' a, (∀ i, a ≤ i → i ≤ (P r a).1 → r'[i]? = r[i]?) → P r' a = P r a)
    (hj : ∀ r r' a, (P r a).2 = true → (∀ i, a ≤ i → i < (P r a).1 → r'[i]? = r[i]?) → StopB (bt r' (P r a).1) → P r' a = P r a)
    (r r' : List UInt8) (a k : Nat) (hb : (P r a).2 = true) (hk : (P r a).1 ≤ k) (h : ∀ i, a ≤ i → i < k → r'[i]? = r[i]?) (hs : StopB (bt r' k)) : P r' a = P r a := by
  by_cases e : (P r a).1 = k
  · exact hj r r' a hb (fun i x y => h i x (by omega)) (by rw [e]; exact hs)
  · exact hl r r' a (fun i x y => h i x (by omega))

theorem numV_join (top : Bool) (r r' : List UInt8) (a : Nat) (hb : (numV top r a).2 = true) (h : ∀ i, a ≤ i → i < (numV top r a).1 → r'[i]? = r[i]?) (hs : StopB (bt r' (numV top r a).1))
    (ht : (numV top r a).1 < r'.length → blankB (bt r' (numV top r a).1) = true) : numV top r' a = numV top r a := by
  have g2 := fracV_ge r (intV r a).1
  have g3 := expV_ge r (fracV r (intV r a).1).1
  rcases numV_parts top r a with ⟨h1, e⟩ | ⟨h1, h2, e⟩ | ⟨h1, h2, h3, e⟩ | ⟨h1, h2, h3, e⟩
  · rw [e, h1] at hb; cases hb
  · rw [e, h2] at hb; cases hb
  · rw [e, h3] at hb; cases hb
  · rw [e] at hb h hs ht ⊢
    rw [tailV_le] at h hs ht
    have hgt := intV_gt r a h1
    generalize hk : (expV r (fracV r (intV r a).1).1).1 = k at *
    have e1 := part_join intV intV_loc (fun r r' a x y z => intV_join r r' a x y z.1) r r' a k h1 (by omega) h hs
    have e2 := part_join fracV fracV_loc fracV_join r r' (intV r a).1 k h2 (by omega) (fun i x y => h i (by omega) y) hs
    have e3 := part_join expV expV_loc expV_join r r' (fracV r (intV r a).1).1 k h3 (by omega) (fun i x y => h i (by omega) y) hs
    have e4 : tailV top r' k = tailV top r k := by
      have : tailV top r' k = (k, true) := by unfold tailV; rw [if_neg (fun c => by have := ht c.2.1; rw [c.2.2] at this; cases this)]
      rw [this]
      exact Prod.ext (tailV_le top r k).symm hb.symm
    rcases numV_parts top r' a with ⟨k1, f⟩ | ⟨k1, k2, f⟩ | ⟨k1, k2, k3, f⟩ | ⟨k1, k2, k3, f⟩
    · rw [e1, h1] at k1; cases k1
    · rw [e1, e2, h2] at k2; cases k2
    · rw [e1, e2, e3, h3] at k3; cases k3
    · rw [f, e1, e2, e3, hk, e4]
theorem numV_cut (top : Bool) (r r' : List UInt8) (a : Nat) (h : ∀ i, a ≤ i → i < (numV top r a).1 → r'[i]? = r[i]?) (hs : StopB (bt r' (numV top r a).1)) : (numV top r' a).1 = (numV top r a).1 := by
  have g2 := fracV_ge r (intV r a).1
  have g3 := expV_ge r (fracV r (intV r a).1).1
  rcases numV_parts top r a with ⟨h1, e⟩ | ⟨h1, h2, e⟩ | ⟨h1, h2, h3, e⟩ | ⟨h1, h2, h3, e⟩
  · rw [e] at h hs ⊢
    have e1 := intV_cut r r' a h1 h hs
    rcases numV_parts top r' a with ⟨k1, f⟩ | ⟨k1, _, f⟩ | ⟨k1, _, _, f⟩ | ⟨k1, _, _, f⟩
    · rw [f, e1]
    all_goals (rw [e1, h1] at k1; cases k1)
  · rw [e] at h hs ⊢
    have hgt := intV_gt r a h1
    have e1 := part_join intV intV_loc (fun r r' a x y z => intV_join r r' a x y z.1) r r' a _ h1 g2 h hs
    have e2 := fracV_cut r r' (intV r a).1 h2 (fun i x y => h i (by omega) y) hs
    rcases numV_parts top r' a with ⟨k1, f⟩ | ⟨k1, k2, f⟩ | ⟨k1, k2, _, f⟩ | ⟨k1, k2, _, f⟩
    · rw [e1, h1] at k1; cases k1
    · rw [f, e1, e2]
    all_goals (rw [e1, e2, h2] at k2; cases k2)
  · rw [e] at h hs ⊢
    have hgt := intV_gt r a h1
    have e1 := part_join intV intV_loc (fun r r' a x y z => intV_join r r' a x y z.1) r r' a _ h1 (by omega) h hs
    have e2 := part_join fracV fracV_loc fracV_join r r' (intV r a).1 _ h2 g3 (fun i x y => h i (by omega) y) hs
    have e3 := expV_cut r r' (fracV r (intV r a).1).1 h3 (fun i x y => h i (by omega) y) hs
    rcases numV_parts top r' a with ⟨k1, f⟩ | ⟨k1, k2, f⟩ | ⟨k1, k2, k3, f⟩ | ⟨k1, k2, k3, f⟩
    · rw [e1, h1] at k1; cases k1
    · rw [e1, e2, h2] at k2; cases k2
    · rw [f, e1, e2, e3]
    · rw [e1, e2, e3, h3] at k3; cases k3
  · rw [e] at h hs ⊢
    rw [tailV_le] at h hs ⊢
    have hgt := intV_gt r a h1
    have e1 := part_join intV intV_loc (fun r r' a x y z => intV_join r r' a x y z.1) r r' a _ h1 (by omega) h hs
    have e2 := part_join fracV fracV_loc fracV_join r r' (intV r a).1 _ h2 g3 (fun i x y => h i (by omega) y) hs
    have e3 := part_join expV expV_loc expV_join r r' (fracV r (intV r a).1).1 _ h3 (Nat.le_refl _) (fun i x y => h i (by omega) y) hs
    rcases numV_parts top r' a with ⟨k1, f⟩ | ⟨k1, k2, f⟩ | ⟨k1, k2, k3, f⟩ | ⟨k1, k2, k3, f⟩
    · rw [e1, h1] at k1; cases k1
    · rw [e1, e2, h2] at k2; cases k2
    · rw [e1, e2, e3, h3] at k3; cases k3
    · rw [f, e1, e2, e3, tailV_le]

end Go.Proofs.YtojapomkmfbciaaDoor

namespace Go.Proofs.YtojapomkmfbciaaDoor

/-- what is so of every token: how far, did it go well, out of the rest of the text -/
structure TokP (F : List UInt8 → Nat × Bool) : Prop where
  le : ∀ r, (F r).1 ≤ r.length
  pos : ∀ r, (F r).2 = true → 0 < (F r).1
  loc : ∀ r r', (∀ i, i ≤ (F r).1 → r'[i]? = r[i]?) → ((F r).2 = false → (F r).1 < r.length → bt r (F r).1 ≤ 127) → F r' = F r
  join : ∀ r r', (F r).2 = true → (∀ i, i < (F r).1 → r'[i]? = r[i]?) → ((F r).1 < r'.length → blankB (bt r' (F r).1) = true) → F r' = F r
  cut : ∀ r, (F r).2 = false → (F (r.take (F r).1)).1 = (F r).1

def shf (a : Nat) (t : Nat × Bool) : Nat × Bool := (a + t.1, t.2)
theorem digE_shift (l : List UInt8) (a i : Nat) : digE l (a + i) = a + digE (l.drop a) i := by
  unfold digE; rw [List.drop_drop]; omega
theorem intV_shift (l : List UInt8) (a i : Nat) : intV l (a + i) = shf a (intV (l.drop a) i) := by
  rw [intV_def, intV_def, ← bt_drop l a i]
  have e : (if bt (l.drop a) i = 45 then a + i + 1 else a + i) = a + (if bt (l.drop a) i = 45 then i + 1 else i) := by split <;> omega
  rw [e]
  generalize (if bt (l.drop a) i = 45 then i + 1 else i) = j
  rw [← bt_drop l a j, digE_shift]
  by_cases h48 : bt (l.drop a) j = 48
  · rw [if_pos h48, if_pos h48]; rfl
  · rw [if_neg h48, if_neg h48]
    by_cases hd : digE (l.drop a) j = j
    · rw [if_pos (by rw [hd]), if_pos hd]; rfl
    · rw [if_neg (by omega), if_neg hd]; rfl
theorem fracV_shift (l : List UInt8) (a i : Nat) : fracV l (a + i) = shf a (fracV (l.drop a) i) := by
  unfold fracV
  rw [← bt_drop l a i, show a + i + 1 = a + (i + 1) by omega, digE_shift]
  split
  · by_cases hd : digE (l.drop a) (i + 1) = i + 1
    · rw [if_pos (by rw [hd]), if_pos hd]; rfl
    · rw [if_neg (by omega), if_neg hd]; rfl
  · rfl
theorem expV_shift (l : List UInt8) (a i : Nat) : expV l (a + i) = shf a (expV (l.drop a) i) := by
  rw [expV_def, expV_def, ← bt_drop l a i, show a + i + 1 = a + (i + 1) by omega, ← bt_drop l a (i + 1)]
  have e : (if bt (l.drop a) (i + 1) = 43 ∨ bt (l.drop a) (i + 1) = 45 then a + (i + 1) + 1 else a + (i + 1)) = a + (if bt (l.drop a) (i + 1) = 43 ∨ bt (l.drop a) (i + 1) = 45 then i + 1 + 1 else i + 1) := by split <;> omega
  rw [e]
  generalize (if bt (l.drop a) (i + 1) = 43 ∨ bt (l.drop a) (i + 1) = 45 then i + 1 + 1 else i + 1) = j
  rw [digE_shift]
  split
  · by_cases hd : digE (l.drop a) j = j
    · rw [if_pos (by rw [hd]), if_pos hd]; rfl
    · rw [if_neg (by omega), if_neg hd]; rfl
  · rfl
theorem tailV_shift (top : Bool) (l : List UInt8) (a i : Nat) : tailV top l (a + i) = shf a (tailV top (l.drop a) i) := by
  unfold tailV
  rw [← bt_drop l a i, List.length_drop]
  by_cases h : top = true ∧ i < l.length - a ∧ blankB (bt (l.drop a) i) = false
  · rw [if_pos h, if_pos ⟨h.1, by omega, h.2.2⟩]; rfl
  · rw [if_neg h, if_neg (fun c => h ⟨c.1, by omega, c.2.2⟩)]; rfl
theorem thenV_shift (a : Nat) (t : Nat × Bool) (f g : Nat → Nat × Bool) (h : ∀ i, f (a + i) = shf a (g i)) : thenV (shf a t) f = shf a (thenV t g) := by
  unfold thenV shf
  split
  · exact h _
  · rfl
theorem numV_shift (top : Bool) (l : List UInt8) (a : Nat) : numV top l a = shf a (numV top (l.drop a) 0) := by
  unfold numV
  have h := intV_shift l a 0
  rw [Nat.add_zero] at h
  rw [h, thenV_shift a _ _ _ (fracV_shift l a), thenV_shift a _ _ _ (expV_shift l a), thenV_shift a _ _ _ (tailV_shift top l a)]
theorem wordV_shift (ws : List Nat) : ∀ (l : List UInt8) (a i : Nat), wordV ws l (a + i) = shf a (wordV ws (l.drop a) i) := by
  induction ws with
  | nil => intro l a i; rfl
  | cons c ws ih =>
    intro l a i
    unfold wordV
    rw [← bt_drop l a i, List.length_drop]
    by_cases h : i < l.length - a ∧ bt (l.drop a) i = c
    · rw [if_pos h, if_pos ⟨by omega, h.2⟩, show a + i + 1 = a + (i + 1) by omega]; exact ih l a (i + 1)
    · rw [if_neg h, if_neg (fun x => h ⟨by omega, x.2⟩)]; rfl
def quoR (r : List UInt8) : Nat × Bool := ((readP r).2.1, (readP r).2.2 == 0)
theorem quoV_shift (l : List UInt8) (a : Nat) : quoV l a = shf a (quoR (l.drop a)) := rfl
def numR (top : Bool) (r : List UInt8) : Nat × Bool := numV top r 0
def wordR (ws : List Nat) (r : List UInt8) : Nat × Bool := wordV ws r 0

theorem tokP_num (top : Bool) : TokP (numR top) where
  le r := (numV_le top r 0 (Nat.zero_le _)).1
  pos r h := (numV_le top r 0 (Nat.zero_le _)).2.2 h
  loc r r' h _ := numV_loc top r r' 0 (fun i _ hi => h i hi)
  join r r' hb h ht := numV_join top r r' 0 hb (fun i _ hi => h i hi) (by
    by_cases hl : (numV top r 0).1 < r'.length
    · exact stop_blank _ (ht hl)
    · rw [bt_out r' _ (by omega)]; exact stop_zero) ht
  cut r _ := by
    have hle := (numV_le top r 0 (Nat.zero_le _)).1
    exact numV_cut top r (r.take (numV top r 0).1) 0 (fun i _ hi => by rw [List.getElem?_take, if_pos hi]) (by
      rw [bt_out _ _ (by rw [List.length_take]; exact Nat.min_le_left _ _)]; exact stop_zero)

theorem wordV_ge (ws : List Nat) : ∀ (r : List UInt8) (a : Nat), a ≤ (wordV ws r a).1 := by
  induction ws with
  | nil => intro r a; exact Nat.le_refl _
  | cons c ws ih2 =>
    intro r a
    unfold wordV
    split
    · exact Nat.le_trans (Nat.le_succ _) (ih2 r (a + 1))
    · exact Nat.le_refl _
theorem wordV_same (ws : List Nat) : ∀ (r r' : List UInt8) (a : Nat), (∀ i, a ≤ i → (i < (wordV ws r a).1 ∨ (wordV ws r a).2 = false ∧ i ≤ (wordV ws r a).1) → r'[i]? = r[i]?) → wordV ws r' a = wordV ws r a := by
  induction ws with
  | nil => intro r r' a _; rfl
  | cons c ws ih =>
    intro r r' a h
    have hd : ∀ x : List UInt8, wordV (c :: ws) x a = if a < x.length ∧ bt x a = c then wordV ws x (a + 1) else (a, false) := fun _ => rfl
    have hge := wordV_ge
    rw [hd r] at h
    rw [hd r, hd r']
    by_cases hc : a < r.length ∧ bt r a = c
    · rw [if_pos hc] at h ⊢
      have ha := h a (Nat.le_refl _) (.inl (hge ws r (a + 1)))
      rw [if_pos ⟨(lt_of ha).2 hc.1, by rw [bt_of ha]; exact hc.2⟩]
      exact ih r r' (a + 1) (fun i hi => h i (by omega))
    · rw [if_neg hc] at h ⊢
      have ha := h a (Nat.le_refl _) (.inr ⟨rfl, Nat.le_refl _⟩)
      rw [if_neg (fun x => hc ⟨(lt_of ha).1 x.1, by rw [← bt_of ha]; exact x.2⟩)]
theorem tokP_word (ws : List Nat) (hz : ∀ c ∈ ws, c ≠ 0) (hl : 0 < ws.length) : TokP (wordR ws) where
  le r := (wordV_le ws hz r 0 (Nat.zero_le _)).1
  pos r h := by have := (wordV_le ws hz r 0 (Nat.zero_le _)).2.2 h; show 0 < (wordV ws r 0).1; omega
  loc r r' h _ := wordV_same ws r r' 0 (fun i _ hi => h i (by
    rcases hi with hi | hi
    · exact Nat.le_of_lt hi
    · exact hi.2))
  join r r' hb h _ := wordV_same ws r r' 0 (fun i _ hi => h i (by
    rcases hi with hi | hi
    · exact hi
    · have hb' : (wordV ws r 0).2 = true := hb
      rw [hb'] at hi; cases hi.1))
  cut r hb := by
    have : ∀ (ws : List Nat) (a : Nat), (wordV ws r a).2 = false → (wordV ws (r.take (wordV ws r a).1) a).1 = (wordV ws r a).1 := by
      intro ws
      induction ws with
      | nil => intro a h; cases h
      | cons c ws ih =>
        intro a h
        have hd : ∀ x : List UInt8, wordV (c :: ws) x a = if a < x.length ∧ bt x a = c then wordV ws x (a + 1) else (a, false) := fun _ => rfl
        rw [hd r] at h ⊢
        by_cases hc : a < r.length ∧ bt r a = c
        · rw [if_pos hc] at h ⊢
          have hge := wordV_ge ws r (a + 1)
          have ih' := ih (a + 1) h
          generalize (wordV ws r (a + 1)).1 = k at hge ih' ⊢
          have hg : (r.take k)[a]? = r[a]? := by rw [List.getElem?_take, if_pos (by omega)]
          rw [hd, if_pos ⟨(lt_of hg).2 hc.1, by rw [bt_of hg]; exact hc.2⟩]
          exact ih'
        · rw [if_neg hc]
          rw [hd, if_neg (fun x => by have := x.1; rw [List.length_take] at this; simp only [] at this; omega)]
    exact this ws 0 hb

theorem agree_split (r r' : List UInt8) (k : Nat) (h : ∀ i, i < k → r'[i]? = r[i]?) : r' = r.take k ++ r'.drop k := by
  have : r'.take k = r.take k := by
    apply List.ext_getElem?
    intro i
    rw [List.getElem?_take, List.getElem?_take]
    split
    · rename_i hi; exact h i hi
    · rfl
  rw [← this, List.take_append_drop]
theorem tokP_quo : TokP quoR where
  le r := by
    show (readP r).2.1 ≤ r.length
    by_cases h : (readP r).2.2 = 0
    · exact (read_keep r [] h).1
    · exact (read_stop r h).2.1
  pos r h := by
    have := quoV_gt r 0 h
    unfold quoV at this
    show 0 < (readP r).2.1
    simpa using this
  loc r r' h hb := by
    show ((readP r').2.1, (readP r').2.2 == 0) = ((readP r).2.1, (readP r).2.2 == 0)
    have h : ∀ i, i ≤ (readP r).2.1 → r'[i]? = r[i]? := h
    by_cases he : (readP r).2.2 = 0
    · have hk := read_keep r (r'.drop (readP r).2.1) he
      have hs := agree_split r r' (readP r).2.1 (fun i hi => h i (by omega))
      rw [hs, hk.2]
    · have hle := (read_stop r he).2.1
      by_cases hlt : (readP r).2.1 < r.length
      · have hbt := hb (beq_false_of_ne he) hlt
        have hbad := read_bad r (r'.drop ((readP r).2.1 + 1)) he hlt hbt
        have hs := agree_split r r' ((readP r).2.1 + 1) (fun i hi => h i (by omega))
        rw [hs, hbad.2, beq_false_of_ne hbad.1, beq_false_of_ne he]
      · have hkl : (readP r).2.1 = r.length := by omega
        have hn := h r.length (by omega)
        rw [List.getElem?_eq_none (Nat.le_refl _)] at hn
        have hl := List.getElem?_eq_none_iff.1 hn
        have : r' = r := by
          apply List.ext_getElem?
          intro i
          by_cases hi : i < r.length
          · exact h i (by omega)
          · rw [List.getElem?_eq_none (by omega), List.getElem?_eq_none (by omega)]
        rw [this]
  join r r' hb h _ := by
    show ((readP r').2.1, (readP r').2.2 == 0) = ((readP r).2.1, (readP r).2.2 == 0)
    have he : (readP r).2.2 = 0 := eq_of_beq hb
    have hk := read_keep r (r'.drop (readP r).2.1) he
    have hs := agree_split r r' (readP r).2.1 h
    rw [hs, hk.2]
  cut r hb := (read_stop r (ne_of_beq_false hb)).2.2.2.1

end Go.Proofs.YtojapomkmfbciaaDoor

namespace Go.Proofs.YtojapomkmfbciaaDoor

def bodyF (s : VS) (c : Nat) : Option (List UInt8 → Nat × Bool) :=
  if c = 34 then some quoR
  else if c = 110 then some (wordR [110, 117, 108, 108])
  else if c = 116 then some (wordR [116, 114, 117, 101])
  else if c = 102 then some (wordR [102, 97, 108, 115, 101])
  else if c = 45 ∨ 48 ≤ c ∧ c ≤ 57 then some (numR (s.stack == []))
  else none
/-- which token is read -/
def selF (s : VS) (c : Nat) : Option (List UInt8 → Nat × Bool) :=
  if s.st = 1 then none
  else if s.st = 3 then (if c = 93 then none else bodyF s c)
  else if s.st = 0 ∨ s.st = 2 then bodyF s c
  else if (s.st = 5 ∨ s.st = 4) ∧ c = 34 then some quoR
  else none
theorem bodyF_tok (s : VS) (c : Nat) (F) (h : bodyF s c = some F) : TokP F := by
  unfold bodyF at h
  split at h
  · injection h with h; subst h; exact tokP_quo
  split at h
  · injection h with h; subst h; exact tokP_word _ (by decide) (by decide)
  split at h
  · injection h with h; subst h; exact tokP_word _ (by decide) (by decide)
  split at h
  · injection h with h; subst h; exact tokP_word _ (by decide) (by decide)
  split at h
  · injection h with h; subst h; exact tokP_num _
  · cases h
theorem selF_tok (s : VS) (c : Nat) (F) (h : selF s c = some F) : TokP F := by
  unfold selF at h
  split at h
  · cases h
  split at h
  · split at h
    · cases h
    · exact bodyF_tok s c F h
  split at h
  · exact bodyF_tok s c F h
  split at h
  · injection h with h; subst h; exact tokP_quo
  · cases h

def mv (δ : Nat) (p : Nat × Nat) : Nat × Nat := (p.1 + δ, p.2 + δ)
/-- the same state, moved by so much, other texts ahead -/
structure Sim (δ : Nat) (σ : List (Nat × Nat)) (s s' : VS) : Prop where
  pos : s'.pos = s.pos + δ
  st : s'.st = s.st
  stack : s'.stack = s.stack
  beg : s.stack ≠ [] → s'.beg = s.beg + δ
  spans : s'.spans = σ ++ s.spans.map (mv δ)
  fault : s'.fault = s.fault.map fun p => (p.1 + δ, p.2)
def SimB (δ : Nat) (σ : List (Nat × Nat)) (s s' : VS) : Prop := Sim δ σ s s' ∧ s'.beg = s.beg + δ

section
variable {δ : Nat} {σ : List (Nat × Nat)} {s s' : VS} {l l' : List UInt8} {d d' : Nat}
/-- where the ends lie -/
def EndsAt (δ : Nat) (l l' : List UInt8) (i : Nat) : Prop := (l.length ≤ i ↔ l'.length ≤ i + δ) ∧ (l.length ≤ i → l'.length = l.length + δ)
theorem EndsAt.lt {i j : Nat} (h : i < l.length) (h' : j < l'.length) (e : j = i + δ) : EndsAt δ l l' i := ⟨by omega, fun h2 => by omega⟩
theorem sim_wrong (h : Sim δ σ s s') {i j : Nat} (hj : j = i + δ) (he : EndsAt δ l l' i) : Sim δ σ (wrongV l i s) (wrongV l' j s') := by
  subst hj
  refine ⟨h.pos, h.st, h.stack, h.beg, h.spans, ?_⟩
  show some (if l'.length ≤ i + δ then (l'.length, 2) else (i + δ, 1)) = some _
  by_cases hc : l.length ≤ i
  · show _ = some ((if l.length ≤ i then (l.length, 2) else (i, 1)).1 + δ, (if l.length ≤ i then (l.length, 2) else (i, 1)).2)
    rw [if_pos hc, if_pos (he.1.1 hc), he.2 hc]
  · show _ = some ((if l.length ≤ i then (l.length, 2) else (i, 1)).1 + δ, (if l.length ≤ i then (l.length, 2) else (i, 1)).2)
    rw [if_neg hc, if_neg (fun x => hc (he.1.2 x))]
theorem sim_done (h : SimB δ σ s s') {k k' : Nat} (hk : k' = k + δ) : Sim δ σ (doneV k s) (doneV k' s') := by
  subst hk
  obtain ⟨h, hb⟩ := h
  unfold doneV
  rw [h.stack]
  by_cases hs : s.stack = []
  · rw [if_pos hs, if_pos hs]
    refine ⟨rfl, rfl, rfl, fun x => absurd hs x, ?_, h.fault⟩
    show s'.spans ++ [(s'.beg, k + δ)] = σ ++ (s.spans ++ [(s.beg, k)]).map (mv δ)
    rw [h.spans, hb, List.map_append, List.append_assoc]; rfl
  · rw [if_neg hs, if_neg hs]
    exact ⟨rfl, rfl, rfl, fun _ => hb, h.spans, h.fault⟩
theorem sim_start (h : Sim δ σ s s') : SimB δ σ (startV s) (startV s') := by
  unfold startV
  rw [h.stack]
  by_cases hs : s.stack = []
  · rw [if_pos hs, if_pos hs]
    exact ⟨⟨h.pos, h.st, rfl, fun x => absurd hs x, h.spans, h.fault⟩, h.pos⟩
  · rw [if_neg hs, if_neg hs]
    exact ⟨h, h.beg hs⟩
theorem sim_opens (h : SimB δ σ s s') (hd : d ≤ s.stack.length ↔ d' ≤ s.stack.length) (x : Bool) : Sim δ σ (opensV d x s) (opensV d' x s') := by
  obtain ⟨h, hb⟩ := h
  unfold opensV
  rw [h.stack]
  by_cases hs : d ≤ s.stack.length
  · rw [if_pos hs, if_pos (hd.1 hs)]
    exact ⟨h.pos, h.st, rfl, h.beg, h.spans, by rw [h.pos]; rfl⟩
  · rw [if_neg hs, if_neg (fun y => hs (hd.2 y))]
    refine ⟨by show s'.pos + 1 = s.pos + 1 + δ; rw [h.pos]; omega, rfl, rfl, fun _ => hb, h.spans, h.fault⟩
theorem sim_shuts (h : Sim δ σ s s') (hs : s.stack ≠ []) : Sim δ σ (shutsV s) (shutsV s') := by
  unfold shutsV
  have hb : SimB δ σ { s with stack := s.stack.tail } { s' with stack := s'.stack.tail } := ⟨⟨h.pos, h.st, congrArg List.tail h.stack, fun _ => h.beg hs, h.spans, h.fault⟩, h.beg hs⟩
  exact sim_done hb (by rw [h.pos]; omega)
/-- what is asked of a token -/
def TC (δ : Nat) (l l' : List UInt8) (p p' : Nat) (F : List UInt8 → Nat × Bool) : Prop :=
  F (l'.drop p') = F (l.drop p) ∧ ((F (l.drop p)).2 = false → EndsAt δ l l' (p + (F (l.drop p)).1))
theorem sim_tok (h : SimB δ σ s s') (F : List UInt8 → Nat × Bool) (hT : TC δ l l' s.pos s'.pos F) : Sim δ σ (tokV l (shf s.pos (F (l.drop s.pos))) s) (tokV l' (shf s'.pos (F (l'.drop s'.pos))) s') := by
  obtain ⟨h1, h2⟩ := hT
  rw [h1]
  unfold tokV shf
  by_cases hb : (F (l.drop s.pos)).2 = true
  · simp only []
    rw [if_pos hb, if_pos hb]
    exact sim_done h (by rw [h.1.pos]; omega)
  · simp only []
    rw [if_neg hb, if_neg hb]
    exact sim_wrong h.1 (by rw [h.1.pos]; omega) (h2 (by simpa using hb))
theorem sim_body (h : SimB δ σ s s') (hp : s.pos < l.length) (hp' : s'.pos < l'.length) (hd : d ≤ s.stack.length ↔ d' ≤ s.stack.length) (c : Nat)
    (hT : ∀ F, bodyF s c = some F → TC δ l l' s.pos s'.pos F) : Sim δ σ (bodyV l d c s) (bodyV l' d' c s') := by
  unfold bodyF at hT
  unfold bodyV
  rw [h.1.stack]
  by_cases c1 : c = 91
  · rw [if_pos c1, if_pos c1]; exact sim_opens h hd _
  rw [if_neg c1, if_neg c1]
  by_cases c2 : c = 123
  · rw [if_pos c2, if_pos c2]; exact sim_opens h hd _
  rw [if_neg c2, if_neg c2]
  by_cases c3 : c = 34
  · rw [if_pos c3, if_pos c3]; rw [if_pos c3] at hT; exact sim_tok h quoR (hT _ rfl)
  rw [if_neg c3, if_neg c3]; rw [if_neg c3] at hT
  by_cases c4 : c = 110
  · rw [if_pos c4, if_pos c4]; rw [if_pos c4] at hT
    have := sim_tok h _ (hT _ rfl)
    unfold wordR at this
    rw [← wordV_shift, ← wordV_shift] at this
    exact this
  rw [if_neg c4, if_neg c4]; rw [if_neg c4] at hT
  by_cases c5 : c = 116
  · rw [if_pos c5, if_pos c5]; rw [if_pos c5] at hT
    have := sim_tok h _ (hT _ rfl)
    unfold wordR at this
    rw [← wordV_shift, ← wordV_shift] at this
    exact this
  rw [if_neg c5, if_neg c5]; rw [if_neg c5] at hT
  by_cases c6 : c = 102
  · rw [if_pos c6, if_pos c6]; rw [if_pos c6] at hT
    have := sim_tok h _ (hT _ rfl)
    unfold wordR at this
    rw [← wordV_shift, ← wordV_shift] at this
    exact this
  rw [if_neg c6, if_neg c6]; rw [if_neg c6] at hT
  by_cases c7 : c = 45 ∨ 48 ≤ c ∧ c ≤ 57
  · rw [if_pos c7, if_pos c7]; rw [if_pos c7] at hT
    have := sim_tok h _ (hT _ rfl)
    unfold numR at this
    rw [← numV_shift, ← numV_shift] at this
    exact this
  · rw [if_neg c7, if_neg c7]; exact sim_wrong h.1 h.1.pos (EndsAt.lt hp hp' h.1.pos)
theorem bodyF_start (s : VS) (c : Nat) : bodyF (startV s) c = bodyF s c := by unfold bodyF; rw [startV_stack]
theorem sim_text (h : Sim δ σ s s') (hp : s.pos < l.length) (hp' : s'.pos < l'.length) (hd : d ≤ s.stack.length ↔ d' ≤ s.stack.length) (c : Nat)
    (hT : ∀ F, bodyF s c = some F → TC δ l l' s.pos s'.pos F) : Sim δ σ (textV l d c s) (textV l' d' c s') := by
  unfold textV
  exact sim_body (sim_start h) (by rw [startV_pos]; exact hp) (by rw [startV_pos]; exact hp') (by rw [startV_stack]; exact hd) c (fun F hF => by rw [startV_pos, startV_pos]; rw [bodyF_start] at hF; exact hT F hF)
theorem sim_move (h : Sim δ σ s s') (hs : s.stack ≠ []) (k k' st : Nat) (hk : k' = k + δ) : Sim δ σ { s with pos := k, st := st } { s' with pos := k', st := st } :=
  ⟨hk, rfl, h.stack, fun _ => h.beg hs, h.spans, h.fault⟩
theorem braceV_sim (h : Sim δ σ s s') : braceV s' = braceV s := by unfold braceV; rw [h.stack]
theorem sim_step (h : Sim δ σ s s') (ho : s.stack = [] ↔ s.st ≤ 1) (hp : s.pos < l.length) (hp' : s'.pos < l'.length) (hd : d ≤ s.stack.length ↔ d' ≤ s.stack.length) (c : Nat)
    (hT : ∀ F, selF s c = some F → TC δ l l' s.pos s'.pos F) : Sim δ σ (stepV l d c s) (stepV l' d' c s') := by
  unfold selF at hT
  unfold stepV
  rw [h.st]
  have hw : Sim δ σ (wrongV l s.pos s) (wrongV l' s'.pos s') := sim_wrong h h.pos (EndsAt.lt hp hp' h.pos)
  by_cases c1 : s.st = 1
  · rw [if_pos c1, if_pos c1]; exact hw
  rw [if_neg c1, if_neg c1]; rw [if_neg c1] at hT
  by_cases c3 : s.st = 3
  · have hs : s.stack ≠ [] := fun e => by have := ho.1 e; omega
    rw [if_pos c3, if_pos c3]; rw [if_pos c3] at hT
    by_cases cc : c = 93
    · rw [if_pos cc, if_pos cc]; exact sim_shuts h hs
    · rw [if_neg cc, if_neg cc]; rw [if_neg cc] at hT; exact sim_text h hp hp' hd c hT
  rw [if_neg c3, if_neg c3]; rw [if_neg c3] at hT
  by_cases c0 : s.st = 0 ∨ s.st = 2
  · rw [if_pos c0, if_pos c0]; rw [if_pos c0] at hT; exact sim_text h hp hp' hd c hT
  rw [if_neg c0, if_neg c0]; rw [if_neg c0] at hT
  have hs : s.stack ≠ [] := fun e => by have := ho.1 e; omega
  by_cases c5 : s.st = 5 ∨ s.st = 4
  · rw [if_pos c5, if_pos c5]
    by_cases cc : c = 125 ∧ s.st = 5
    · rw [if_pos cc, if_pos cc]; exact sim_shuts h hs
    rw [if_neg cc, if_neg cc]
    by_cases cq : c = 34
    · rw [if_pos cq, if_pos cq]; rw [if_pos ⟨c5, cq⟩] at hT
      obtain ⟨h1, h2⟩ := hT _ rfl
      unfold keyV
      rw [quoV_shift, quoV_shift, h1]
      unfold shf
      by_cases hb : (quoR (l.drop s.pos)).2 = true
      · simp only []
        rw [if_pos hb, if_pos hb]; exact sim_move h hs _ _ 6 (by rw [h.pos]; omega)
      · simp only []
        rw [if_neg hb, if_neg hb]; exact sim_wrong h (by rw [h.pos]; omega) (h2 (by simpa using hb))
    · rw [if_neg cq, if_neg cq]; exact hw
  rw [if_neg c5, if_neg c5]
  by_cases c6 : s.st = 6
  · rw [if_pos c6, if_pos c6]
    by_cases cc : c = 58
    · rw [if_pos cc, if_pos cc]; exact sim_move h hs _ _ 2 (by rw [h.pos]; omega)
    · rw [if_neg cc, if_neg cc]; exact hw
  rw [if_neg c6, if_neg c6, braceV_sim h]
  unfold moreV
  by_cases cc : c = 44
  · rw [if_pos cc, if_pos cc]; exact sim_move h hs _ _ _ (by rw [h.pos]; omega)
  rw [if_neg cc, if_neg cc]
  by_cases cs : c = 125 ∧ braceV s = true ∨ c = 93 ∧ braceV s = false
  · rw [if_pos cs, if_pos cs]; exact sim_shuts h hs
  · rw [if_neg cs, if_neg cs]; exact hw
theorem sim_round (h : Sim δ σ s s') (ho : s.stack = [] ↔ s.st ≤ 1) (hp : s.pos < l.length) (hp' : s'.pos < l'.length) (hd : d ≤ s.stack.length ↔ d' ≤ s.stack.length) (hc : bt l' s'.pos = bt l s.pos)
    (hT : blankB (bt l s.pos) = false → ∀ F, selF s (bt l s.pos) = some F → TC δ l l' s.pos s'.pos F) : Sim δ σ (roundV l d s) (roundV l' d' s') := by
  unfold roundV
  rw [hc, h.st]
  by_cases hb : blankB (bt l s.pos) = true
  · rw [if_pos hb, if_pos hb]
    exact ⟨by show s'.pos + 1 = s.pos + 1 + δ; rw [h.pos]; omega, rfl, h.stack, h.beg, h.spans, h.fault⟩
  · rw [if_neg hb, if_neg hb]
    exact sim_step h ho hp hp' hd _ (hT (by simpa using hb))
end

end Go.Proofs.YtojapomkmfbciaaDoor

namespace Go.Proofs.YtojapomkmfbciaaDoor

def OutT (l : List UInt8) (s s' : VS) (u : Nat × Bool) : Prop :=
  (u.2 = true → s'.fault = none ∧ s'.pos = s.pos + u.1) ∧ (u.2 = false → s'.fault = some (if l.length ≤ s.pos + u.1 then (l.length, 2) else (s.pos + u.1, 1)))
theorem done_out (k : Nat) (s : VS) : (doneV k s).fault = s.fault ∧ (doneV k s).pos = k := by unfold doneV; split <;> exact ⟨rfl, rfl⟩
theorem out_tok (l : List UInt8) (s s0 : VS) (u : Nat × Bool) (hf : s.fault = none) : OutT l s0 (tokV l (shf s0.pos u) s) u := by
  unfold tokV shf
  refine ⟨fun h => ?_, fun h => ?_⟩
  · simp only []
    rw [if_pos h]
    have := done_out (s0.pos + u.1) s
    exact ⟨this.1.trans hf, this.2⟩
  · simp only []
    rw [if_neg (by rw [h]; decide)]; rfl
theorem out_body (l : List UInt8) (d c : Nat) (s s0 : VS) (hf : s.fault = none) (hp : s.pos = s0.pos) (F) (hF : bodyF s c = some F) : OutT l s0 (bodyV l d c s) (F (l.drop s0.pos)) := by
  unfold bodyF at hF
  unfold bodyV
  rw [hp]
  by_cases c3 : c = 34
  · rw [if_neg (by omega), if_neg (by omega), if_pos c3]; rw [if_pos c3] at hF; injection hF with hF; subst hF
    exact out_tok l s s0 _ hf
  rw [if_neg c3] at hF
  by_cases c4 : c = 110
  · rw [if_neg (by omega), if_neg (by omega), if_neg c3, if_pos c4]; rw [if_pos c4] at hF; injection hF with hF; subst hF
    have e := wordV_shift [110, 117, 108, 108] l s0.pos 0
    rw [Nat.add_zero] at e
    rw [e]; exact out_tok l s s0 _ hf
  rw [if_neg c4] at hF
  by_cases c5 : c = 116
  · rw [if_neg (by omega), if_neg (by omega), if_neg c3, if_neg c4, if_pos c5]; rw [if_pos c5] at hF; injection hF with hF; subst hF
    have e := wordV_shift [116, 114, 117, 101] l s0.pos 0
    rw [Nat.add_zero] at e
    rw [e]; exact out_tok l s s0 _ hf
  rw [if_neg c5] at hF
  by_cases c6 : c = 102
  · rw [if_neg (by omega), if_neg (by omega), if_neg c3, if_neg c4, if_neg c5, if_pos c6]; rw [if_pos c6] at hF; injection hF with hF; subst hF
    have e := wordV_shift [102, 97, 108, 115, 101] l s0.pos 0
    rw [Nat.add_zero] at e
    rw [e]; exact out_tok l s s0 _ hf
  rw [if_neg c6] at hF
  by_cases c7 : c = 45 ∨ 48 ≤ c ∧ c ≤ 57
  · rw [if_neg (by omega), if_neg (by omega), if_neg c3, if_neg c4, if_neg c5, if_neg c6, if_pos c7]; rw [if_pos c7] at hF; injection hF with hF; subst hF
    rw [numV_shift]; exact out_tok l s s0 _ hf
  · rw [if_neg c7] at hF; cases hF
theorem start_fault (s : VS) : (startV s).fault = s.fault := by unfold startV; split <;> rfl
/-- a round that reads a token -/
theorem round_tok (l : List UInt8) (d : Nat) (s : VS) (hb : blankB (bt l s.pos) = false) (hf : s.fault = none) (F) (hF : selF s (bt l s.pos) = some F) : OutT l s (roundV l d s) (F (l.drop s.pos)) := by
  have ht : ∀ c, bodyF s c = some F → OutT l s (textV l d c s) (F (l.drop s.pos)) := fun c h =>
    out_body l d c (startV s) s ((start_fault s).trans hf) (startV_pos s) F (by rw [bodyF_start]; exact h)
  unfold roundV
  rw [if_neg (by rw [hb]; decide)]
  generalize bt l s.pos = c at *
  unfold selF at hF
  unfold stepV
  by_cases c1 : s.st = 1
  · rw [if_pos c1] at hF; cases hF
  rw [if_neg c1] at hF ⊢
  by_cases c3 : s.st = 3
  · rw [if_pos c3] at hF ⊢
    by_cases cc : c = 93
    · rw [if_pos cc] at hF; cases hF
    · rw [if_neg cc] at hF ⊢; exact ht c hF
  rw [if_neg c3] at hF ⊢
  by_cases c0 : s.st = 0 ∨ s.st = 2
  · rw [if_pos c0] at hF ⊢; exact ht c hF
  rw [if_neg c0] at hF ⊢
  by_cases c5 : (s.st = 5 ∨ s.st = 4) ∧ c = 34
  · rw [if_pos c5] at hF
    injection hF with hF; subst hF
    rw [if_pos c5.1, if_neg (by omega), if_pos c5.2]
    unfold keyV
    rw [quoV_shift]
    unfold shf
    refine ⟨fun h => ?_, fun h => ?_⟩
    · simp only []
      rw [if_pos h]; exact ⟨hf, rfl⟩
    · simp only []
      rw [if_neg (by rw [h]; decide)]; rfl
  · rw [if_neg c5] at hF; cases hF
def OutN (s s' : VS) : Prop := (s'.fault = none → s'.pos = s.pos + 1) ∧ ∀ x, s'.fault = some x → x.1 = s.pos ∧ (x.2 = 1 ∨ x.2 = 3)
theorem out_wrong (l : List UInt8) (s s0 : VS) (hp : s0.pos < l.length) : OutN s0 (wrongV l s0.pos s) := by
  refine ⟨fun h => by simp [wrongV] at h, fun x h => ?_⟩
  have h : some (if l.length ≤ s0.pos then (l.length, 2) else (s0.pos, 1)) = some x := h
  rw [if_neg (by omega)] at h
  injection h with h; subst h; exact ⟨rfl, .inl rfl⟩
theorem out_shuts (s : VS) (hf : s.fault = none) : OutN s (shutsV s) := by
  have := done_out (s.pos + 1) { s with stack := s.stack.tail }
  exact ⟨fun _ => this.2, fun x h => by have h : (doneV (s.pos + 1) { s with stack := s.stack.tail }).fault = some x := h; rw [this.1] at h; rw [show ({ s with stack := s.stack.tail } : VS).fault = s.fault from rfl, hf] at h; cases h⟩
theorem out_move (s : VS) (hf : s.fault = none) (st : Nat) : OutN s { s with pos := s.pos + 1, st := st } := ⟨fun _ => rfl, fun x h => by have h : s.fault = some x := h; rw [hf] at h; cases h⟩
theorem out_opens (d : Nat) (x : Bool) (s s0 : VS) (hf : s.fault = none) (hp : s.pos = s0.pos) : OutN s0 (opensV d x s) := by
  unfold opensV
  split
  · exact ⟨fun h => by simp at h, fun y h => by simp only [Option.some.injEq] at h; subst h; exact ⟨hp, .inr rfl⟩⟩
  · exact ⟨fun _ => by show s.pos + 1 = _; rw [hp], fun y h => by have h : s.fault = some y := h; rw [hf] at h; cases h⟩
theorem out_bodyN (l : List UInt8) (d c : Nat) (s s0 : VS) (hf : s.fault = none) (hp : s.pos = s0.pos) (hl : s0.pos < l.length) (hF : bodyF s c = none) : OutN s0 (bodyV l d c s) := by
  unfold bodyF at hF
  unfold bodyV
  by_cases c1 : c = 91
  · rw [if_pos c1]; exact out_opens d _ s s0 hf hp
  by_cases c2 : c = 123
  · rw [if_neg c1, if_pos c2]; exact out_opens d _ s s0 hf hp
  by_cases c3 : c = 34
  · rw [if_pos c3] at hF; cases hF
  rw [if_neg c3] at hF
  by_cases c4 : c = 110
  · rw [if_pos c4] at hF; cases hF
  rw [if_neg c4] at hF
  by_cases c5 : c = 116
  · rw [if_pos c5] at hF; cases hF
  rw [if_neg c5] at hF
  by_cases c6 : c = 102
  · rw [if_pos c6] at hF; cases hF
  rw [if_neg c6] at hF
  by_cases c7 : c = 45 ∨ 48 ≤ c ∧ c ≤ 57
  · rw [if_pos c7] at hF; cases hF
  · rw [if_neg c1, if_neg c2, if_neg c3, if_neg c4, if_neg c5, if_neg c6, if_neg c7, hp]; exact out_wrong l s s0 hl
/-- a round that reads none -/
theorem round_non (l : List UInt8) (d : Nat) (s : VS) (hp : s.pos < l.length) (hf : s.fault = none) (hF : blankB (bt l s.pos) = false → selF s (bt l s.pos) = none) : OutN s (roundV l d s) := by
  unfold roundV
  by_cases hb : blankB (bt l s.pos) = true
  · rw [if_pos hb]; exact out_move s hf _
  have hF := hF (by simpa using hb)
  rw [if_neg hb]
  have hw := out_wrong l s s hp
  generalize bt l s.pos = c at *
  have ht : bodyF s c = none → OutN s (textV l d c s) := fun h =>
    out_bodyN l d c (startV s) s ((start_fault s).trans hf) (startV_pos s) hp (by rw [bodyF_start]; exact h)
  unfold selF at hF
  unfold stepV
  by_cases c1 : s.st = 1
  · rw [if_pos c1]; exact hw
  rw [if_neg c1] at hF ⊢
  by_cases c3 : s.st = 3
  · rw [if_pos c3] at hF ⊢
    by_cases cc : c = 93
    · rw [if_pos cc]; exact out_shuts s hf
    · rw [if_neg cc] at hF ⊢; exact ht hF
  rw [if_neg c3] at hF ⊢
  by_cases c0 : s.st = 0 ∨ s.st = 2
  · rw [if_pos c0] at hF ⊢; exact ht hF
  rw [if_neg c0] at hF ⊢
  by_cases c5 : s.st = 5 ∨ s.st = 4
  · rw [if_pos c5]
    by_cases cc : c = 125 ∧ s.st = 5
    · rw [if_pos cc]; exact out_shuts s hf
    rw [if_neg cc]
    by_cases cq : c = 34
    · rw [if_pos ⟨c5, cq⟩] at hF; cases hF
    · rw [if_neg cq]; exact hw
  rw [if_neg c5]
  by_cases c6 : s.st = 6
  · rw [if_pos c6]
    by_cases cc : c = 58
    · rw [if_pos cc]; exact out_move s hf _
    · rw [if_neg cc]; exact hw
  rw [if_neg c6]
  unfold moreV
  by_cases cc : c = 44
  · rw [if_pos cc]; exact out_move s hf _
  rw [if_neg cc]
  by_cases cs : c = 125 ∧ braceV s = true ∨ c = 93 ∧ braceV s = false
  · rw [if_pos cs]; exact out_shuts s hf
  · rw [if_neg cs]; exact hw

/-- how far a round looks -/
def reachV (s : VS) : Nat := match s.fault with | none => s.pos | some x => x.1
theorem reach_none {s : VS} (h : s.fault = none) : reachV s = s.pos := by unfold reachV; rw [h]
theorem reach_some {s : VS} {x : Nat × Nat} (h : s.fault = some x) : reachV s = x.1 := by unfold reachV; rw [h]

theorem bt_at {r r' : List UInt8} {i j : Nat} (h : r'[j]? = r[i]?) : bt r' j = bt r i := by unfold bt; rw [h]
theorem lt_at {r r' : List UInt8} {i j : Nat} (h : r'[j]? = r[i]?) : j < r'.length ↔ i < r.length := by
  have a := List.getElem?_eq_none_iff (l := r') (i := j)
  have b := List.getElem?_eq_none_iff (l := r) (i := i)
  rw [h] at a
  have c := a.symm.trans b
  omega
section
variable {δ : Nat} {σ : List (Nat × Nat)} {s s' : VS} {l l' : List UInt8} {d d' : Nat}
theorem get_drop_agree {k : Nat} (h : Sim δ σ s s') (hg : ∀ i, s.pos ≤ i → i ≤ s.pos + k → l'[i + δ]? = l[i]?) (i : Nat) (hi : i ≤ k) : (l'.drop s'.pos)[i]? = (l.drop s.pos)[i]? := by
  rw [List.getElem?_drop, List.getElem?_drop, h.pos, show s.pos + δ + i = s.pos + i + δ by omega]
  exact hg _ (by omega) (by omega)
/-- **alike as far as the round looks** -/
theorem round_loc (h : Sim δ σ s s') (ho : s.stack = [] ↔ s.st ≤ 1) (hf : s.fault = none) (hp : s.pos < l.length) (hd : d ≤ s.stack.length ↔ d' ≤ s.stack.length)
    (hg : ∀ i, s.pos ≤ i → i ≤ reachV (roundV l d s) → l'[i + δ]? = l[i]?) (hge : s.pos ≤ reachV (roundV l d s)) (hB : ∀ x, (roundV l d s).fault = some x → x.1 < l.length → bt l x.1 ≤ 127) :
    Sim δ σ (roundV l d s) (roundV l' d' s') := by
  have h0 := hg s.pos (Nat.le_refl _) hge
  rw [← h.pos] at h0
  have hp' : s'.pos < l'.length := (lt_at h0).2 hp
  refine sim_round h ho hp hp' hd (bt_at h0) (fun hb F hF => ?_)
  have hT := selF_tok s _ F hF
  obtain ⟨o1, o2⟩ := round_tok l d s hb hf F hF
  have hle := hT.le (l.drop s.pos)
  rw [List.length_drop] at hle
  generalize hu : F (l.drop s.pos) = u at *
  obtain ⟨k, b⟩ := u
  simp only [] at o1 o2 hle
  have hr : reachV (roundV l d s) = s.pos + k := by
    cases b with
    | true => rw [reach_none (o1 rfl).1]; exact (o1 rfl).2
    | false =>
      rw [reach_some (o2 rfl)]
      split
      · simp only []; omega
      · rfl
  rw [hr] at hg
  have hag := fun i hi => get_drop_agree (k := k) h hg i hi
  refine ⟨?_, fun hb0 => ?_⟩
  · have := hT.loc (l.drop s.pos) (l'.drop s'.pos) (by rw [hu]; exact hag) (by
      rw [hu]
      intro hb0 hlt
      rw [bt_drop]
      simp only [] at hb0 hlt ⊢
      subst hb0
      have hf2 := o2 rfl
      rw [List.length_drop] at hlt
      rw [if_neg (by omega)] at hf2
      exact hB _ hf2 (by show s.pos + k < l.length; omega))
    rw [this, hu]
  · rw [hu] at hb0 ⊢
    simp only [] at hb0 ⊢
    have hk := hg (s.pos + k) (by omega) (Nat.le_refl _)
    have hkl := lt_at hk
    refine ⟨by omega, fun hlk => ?_⟩
    have hk1 : 1 ≤ k := by omega
    have := lt_at (hg (s.pos + k - 1) (by omega) (by omega))
    omega
/-- **alike up to where the round ends, then an end or a blank** -/
theorem round_join (h : Sim δ σ s s') (ho : s.stack = [] ↔ s.st ≤ 1) (hf : s.fault = none) (hp : s.pos < l.length) (hd : d ≤ s.stack.length ↔ d' ≤ s.stack.length) (hn : (roundV l d s).fault = none)
    (hg : ∀ i, s.pos ≤ i → i < (roundV l d s).pos → l'[i + δ]? = l[i]?) (hgt : s.pos < (roundV l d s).pos) (hx : (roundV l d s).pos + δ < l'.length → blankB (bt l' ((roundV l d s).pos + δ)) = true) :
    Sim δ σ (roundV l d s) (roundV l' d' s') := by
  have h0 := hg s.pos (Nat.le_refl _) hgt
  rw [← h.pos] at h0
  refine sim_round h ho hp ((lt_at h0).2 hp) hd (bt_at h0) (fun hb F hF => ?_)
  have hT := selF_tok s _ F hF
  obtain ⟨o1, o2⟩ := round_tok l d s hb hf F hF
  generalize hu : F (l.drop s.pos) = u at *
  obtain ⟨k, b⟩ := u
  simp only [] at o1 o2
  obtain rfl : b = true := by
    cases b with
    | true => rfl
    | false => rw [o2 rfl] at hn; cases hn
  rw [(o1 rfl).2] at hg hx
  refine ⟨?_, fun hb0 => by rw [hu] at hb0; cases hb0⟩
  have := hT.join (l.drop s.pos) (l'.drop s'.pos) (by rw [hu]) (by
    rw [hu]
    intro i hi
    rw [List.getElem?_drop, List.getElem?_drop, h.pos, show s.pos + δ + i = s.pos + i + δ by omega]
    exact hg _ (by omega) (by simp only [] at hi; omega)) (by
    rw [hu]
    intro hlt
    simp only [] at hlt ⊢
    rw [List.length_drop, h.pos] at hlt
    rw [bt_drop, h.pos, show s.pos + δ + k = s.pos + k + δ by omega]
    exact hx (by omega))
  rw [this, hu]
/-- **cut where it goes wrong** -/
theorem round_cut (hf : s.fault = none) (hp : s.pos < l.length) (x : Nat × Nat) (hx : (roundV l d s).fault = some x) (hlt : s.pos < x.1) (hx1 : x.1 < l.length) :
    (roundV (l.take x.1) d s).fault = some (x.1, 2) ∨ (roundV (l.take x.1) d s).fault = none ∧ (roundV (l.take x.1) d s).pos = x.1 := by
  have hlen : (l.take x.1).length = x.1 := by rw [List.length_take]; omega
  have hc : bt (l.take x.1) s.pos = bt l s.pos := bt_take l x.1 s.pos hlt
  by_cases hn : blankB (bt l s.pos) = false → selF s (bt l s.pos) = none
  · have := (round_non l d s hp hf hn).2 x hx; omega
  · have hb : blankB (bt l s.pos) = false := Classical.byContradiction fun h => hn (fun h2 => absurd h2 h)
    cases hF : selF s (bt l s.pos) with
    | none => exact absurd (fun _ => hF) hn
    | some F =>
      have hT := selF_tok s _ F hF
      obtain ⟨o1, o2⟩ := round_tok l d s hb hf F hF
      have hle := hT.le (l.drop s.pos)
      rw [List.length_drop] at hle
      cases hb2 : (F (l.drop s.pos)).2 with
      | true => rw [(o1 hb2).1] at hx; cases hx
      | false =>
        rw [o2 hb2] at hx
        injection hx with hx
        have hk : x.1 = s.pos + (F (l.drop s.pos)).1 := by
          rw [← hx]
          split
          · simp only []; omega
          · rfl
        have hcut := hT.cut (l.drop s.pos) hb2
        have hdt : (l.take x.1).drop s.pos = (l.drop s.pos).take (F (l.drop s.pos)).1 := by rw [List.drop_take, hk]; congr 1; omega
        obtain ⟨p1, p2⟩ := round_tok (l.take x.1) d s (by rw [hc]; exact hb) hf F (by rw [hc]; exact hF)
        rw [hdt] at p1 p2
        generalize F ((l.drop s.pos).take (F (l.drop s.pos)).1) = v at *
        obtain ⟨k, b⟩ := v
        simp only [] at hcut p1 p2
        subst hcut
        cases b with
        | true => right; exact ⟨(p1 rfl).1, by rw [(p1 rfl).2, hk]⟩
        | false => left; rw [p2 rfl, if_pos (by rw [hlen, hk]; exact Nat.le_refl _), hlen]
end

end Go.Proofs.YtojapomkmfbciaaDoor

namespace Go.Proofs.YtojapomkmfbciaaDoor

/-- rounds -/
inductive Steps (l : List UInt8) (d : Nat) (s : VS) : VS → Prop
  | refl : Steps l d s s
  | step {s1 : VS} : Steps l d s s1 → goesV l s1 → Steps l d s (roundV l d s1)
theorem Steps.cons {l : List UInt8} {d : Nat} {s s2 : VS} (hg : goesV l s) (h : Steps l d (roundV l d s) s2) : Steps l d s s2 := by
  induction h with
  | refl => exact .step .refl hg
  | step _ g ih => exact .step ih g
theorem Steps.trans {l : List UInt8} {d : Nat} {s s1 s2 : VS} (h1 : Steps l d s s1) (h2 : Steps l d s1 s2) : Steps l d s s2 := by
  induction h2 with
  | refl => exact h1
  | step _ g ih => exact .step ih g
theorem steps_run (l : List UInt8) (d : Nat) : ∀ (f : Nat) (s : VS), Steps l d s (runV l d f s)
  | 0, s => .refl
  | f + 1, s => by
    by_cases hg : goesV l s
    · rw [run_go l d f s hg]; exact .cons hg (steps_run l d f _)
    · rw [run_stop l d (f + 1) s hg]; exact .refl
theorem run_of_steps {l : List UInt8} {d : Nat} {s e : VS} (h : Steps l d s e) : ∃ j, ∀ f, runV l d (j + f) s = runV l d f e := by
  induction h with
  | refl => exact ⟨0, fun f => by rw [Nat.zero_add]⟩
  | @step s1 _ g ih =>
    obtain ⟨j, hj⟩ := ih
    exact ⟨j + 1, fun f => by rw [show j + 1 + f = j + (f + 1) by omega, hj, run_go l d f _ g]⟩
theorem steps_kept {l : List UInt8} {d : Nat} {s e : VS} (h : Steps l d s e) (hk : KeptV l d s) : KeptV l d e := by
  induction h with
  | refl => exact hk
  | step _ g ih => exact (kept_round l d _ ih g).1
/-- the end of a run -/
theorem check_end_of {l : List UInt8} {d : Nat} {e : VS} (h : Steps l d startS e) (hn : ¬ goesV l e) : checkS l d = endV l e := by
  obtain ⟨j, hj⟩ := run_of_steps h
  have h1 := run_ends l d l.length startS (kept_start l d) (Nat.le_add_left _ _)
  have h2 := run_more l d l.length j startS h1.1
  have h3 := hj l.length
  rw [run_stop l d l.length e hn, Nat.add_comm, h2] at h3
  unfold checkS; rw [h3]
theorem check_run (l : List UInt8) (d : Nat) : ∃ e, Steps l d startS e ∧ ¬ goesV l e ∧ KeptV l d e ∧ checkS l d = endV l e :=
  ⟨_, steps_run l d l.length startS, (run_ends l d l.length startS (kept_start l d) (Nat.le_add_left _ _)).1, (run_ends l d l.length startS (kept_start l d) (Nat.le_add_left _ _)).2, rfl⟩

theorem end_cases (l : List UInt8) (e : VS) : (endV l e).spans = e.spans ∧ ((∃ x, e.fault = some x ∧ (endV l e).fault = some x) ∨ e.fault = none ∧ e.st ≤ 1 ∧ (endV l e).fault = some (l.length, 0) ∨ e.fault = none ∧ 1 < e.st ∧ (endV l e).fault = some (l.length, 2)) := by
  unfold endV
  cases hf : e.fault with
  | some x => rw [if_neg (by simp)]; exact ⟨rfl, .inl ⟨x, rfl, hf⟩⟩
  | none =>
    rw [if_pos rfl]
    by_cases hs : e.st = 0 ∨ e.st = 1
    · rw [if_pos hs]; exact ⟨rfl, .inr (.inl ⟨rfl, by omega, rfl⟩)⟩
    · rw [if_neg hs]
      refine ⟨rfl, .inr (.inr ⟨rfl, by omega, ?_⟩)⟩
      show some (if l.length ≤ l.length then (l.length, 2) else (l.length, 1)) = _
      rw [if_pos (Nat.le_refl _)]
theorem round_fault {l : List UInt8} {d : Nat} {s : VS} (hg : goesV l s) {x : Nat × Nat} (hx : (roundV l d s).fault = some x) : s.pos ≤ x.1 ∧ (x = (l.length, 2) ∨ x.1 < l.length ∧ (x.2 = 1 ∨ x.2 = 3)) := by
  by_cases hn : blankB (bt l s.pos) = false → selF s (bt l s.pos) = none
  · have := (round_non l d s hg.1 hg.2 hn).2 x hx
    exact ⟨by omega, .inr ⟨by rw [this.1]; exact hg.1, this.2⟩⟩
  · have hb : blankB (bt l s.pos) = false := Classical.byContradiction fun h => hn (fun h2 => absurd h2 h)
    cases hF : selF s (bt l s.pos) with
    | none => exact absurd (fun _ => hF) hn
    | some F =>
      obtain ⟨o1, o2⟩ := round_tok l d s hb hg.2 F hF
      cases hb2 : (F (l.drop s.pos)).2 with
      | true => rw [(o1 hb2).1] at hx; cases hx
      | false =>
        rw [o2 hb2] at hx
        injection hx with hx
        have hp := hg.1
        by_cases hl : l.length ≤ s.pos + (F (l.drop s.pos)).1
        · rw [if_pos hl] at hx; subst hx; exact ⟨by simp only []; omega, .inl rfl⟩
        · rw [if_neg hl] at hx; subst hx; exact ⟨by simp only []; omega, .inr ⟨by simp only []; omega, .inl rfl⟩⟩
/-- a run's last state: at the end, or by a fault -/
theorem last_cases {l : List UInt8} {d : Nat} {e : VS} (h : Steps l d startS e) (hn : ¬ goesV l e) (hk : KeptV l d e) :
    (e.fault = none ∧ e.pos = l.length) ∨ ∃ s1 x, Steps l d startS s1 ∧ goesV l s1 ∧ e = roundV l d s1 ∧ e.fault = some x := by
  cases hf : e.fault with
  | none =>
    refine .inl ⟨rfl, ?_⟩
    have h1 := hk.1.2.1
    by_cases h2 : e.pos < l.length
    · exact absurd ⟨h2, hf⟩ hn
    · omega
  | some x =>
    cases h with
    | refl => cases hf
    | @step s1 h1 g => exact .inr ⟨s1, x, h1, g, rfl, rfl⟩
theorem steps_mono {l : List UInt8} {d : Nat} {s e : VS} (h : Steps l d s e) (hk : KeptV l d s) : s.pos ≤ e.pos := by
  induction h with
  | refl => exact Nat.le_refl _
  | @step s1 h1 g ih =>
    have := (adv_round l d s1 (steps_kept h1 hk).1 g.1).2.2.2
    omega

section
variable {δ : Nat} {σ : List (Nat × Nat)} {l l' : List UInt8} {d : Nat}
theorem Sim.goes {s s' : VS} (h : Sim δ σ s s') (hf : s.fault = none) (hp : s'.pos < l'.length) : goesV l' s' := ⟨hp, by rw [h.fault, hf]; rfl⟩
/-- **rounds over another text** -/
theorem steps_sim {s0 s0' s : VS} (h0 : Sim δ σ s0 s0') (hk : KeptV l d s0) (h : Steps l d s0 s) (hf : s.fault = none) (hg : ∀ i, s0.pos ≤ i → i < s.pos → l'[i + δ]? = l[i]?)
    (hx : l'[s.pos + δ]? = l[s.pos]? ∨ (s.pos + δ < l'.length → blankB (bt l' (s.pos + δ)) = true)) : ∃ s', Steps l' d s0' s' ∧ Sim δ σ s s' := by
  induction h with
  | refl => exact ⟨s0', .refl, h0⟩
  | @step s1 h1 g ih =>
    have hk1 := steps_kept h1 hk
    have hgt := (kept_round l d s1 hk1 g).2 hf
    have hm := steps_mono h1 hk
    obtain ⟨s1', i1, i2⟩ := ih g.2 (fun i a b => hg i a (by omega)) (.inl (hg s1.pos hm hgt))
    have hp' : s1'.pos < l'.length := by
      have := hg s1.pos hm hgt
      rw [← i2.pos] at this
      exact (lt_at this).2 g.1
    refine ⟨_, .step i1 (i2.goes g.2 hp'), ?_⟩
    rcases hx with hx | hx
    · refine round_loc i2 hk1.1.2.2.2 g.2 g.1 Iff.rfl (fun i a b => ?_) (by rw [reach_none hf]; omega) (fun x hx => by rw [hf] at hx; cases hx)
      rw [reach_none hf] at b
      by_cases e : i = (roundV l d s1).pos
      · rw [e]; exact hx
      · exact hg i (by omega) (by omega)
    · exact round_join i2 hk1.1.2.2.2 g.2 g.1 Iff.rfl hf (fun i a b => hg i (by omega) b) hgt hx
/-- .. over the same rest -/
theorem steps_all {s0 s0' s : VS} (h0 : Sim δ σ s0 s0') (hk : KeptV l d s0) (h : Steps l d s0 s) (hl : l'.length = l.length + δ) (hg : ∀ i, l'[i + δ]? = l[i]?) : ∃ s', Steps l' d s0' s' ∧ Sim δ σ s s' := by
  induction h with
  | refl => exact ⟨s0', .refl, h0⟩
  | @step s1 h1 g ih =>
    have hk1 := steps_kept h1 hk
    obtain ⟨s1', i1, i2⟩ := ih
    have hp' : s1'.pos < l'.length := by rw [i2.pos, hl]; have := g.1; omega
    refine ⟨_, .step i1 (i2.goes g.2 hp'), ?_⟩
    have hd : l'.drop s1'.pos = l.drop s1.pos := by
      apply List.ext_getElem?
      intro i
      rw [List.getElem?_drop, List.getElem?_drop, i2.pos, show s1.pos + δ + i = s1.pos + i + δ by omega]
      exact hg _
    refine sim_round i2 hk1.1.2.2.2 g.1 hp' Iff.rfl (bt_at (by rw [i2.pos]; exact hg _)) (fun _ F _ => ⟨by rw [hd], fun _ => ⟨by omega, fun _ => hl⟩⟩)
theorem sim_end {s s' : VS} (h : Sim δ σ s s') (hl : l'.length = l.length + δ) : (endV l' s').spans = σ ++ (endV l s).spans.map (mv δ) ∧ (endV l' s').fault.getD (0, 0) = (((endV l s).fault.getD (0, 0)).1 + δ, ((endV l s).fault.getD (0, 0)).2) := by
  obtain ⟨a1, a2⟩ := end_cases l s
  obtain ⟨b1, b2⟩ := end_cases l' s'
  have hf := h.fault
  refine ⟨by rw [a1, b1, h.spans], ?_⟩
  rcases a2 with ⟨x, x1, x2⟩ | ⟨x1, x2, x3⟩ | ⟨x1, x2, x3⟩
  · rw [x1] at hf
    rcases b2 with ⟨y, y1, y2⟩ | ⟨y1, _⟩ | ⟨y1, _⟩
    · rw [hf] at y1; injection y1 with y1; subst y1; rw [x2, y2]; rfl
    · rw [hf] at y1; cases y1
    · rw [hf] at y1; cases y1
  · rw [x1] at hf
    rcases b2 with ⟨y, y1, y2⟩ | ⟨y1, y2, y3⟩ | ⟨y1, y2, y3⟩
    · rw [hf] at y1; cases y1
    · rw [x3, y3, hl]; rfl
    · rw [h.st] at y2; omega
  · rw [x1] at hf
    rcases b2 with ⟨y, y1, y2⟩ | ⟨y1, y2, y3⟩ | ⟨y1, y2, y3⟩
    · rw [hf] at y1; cases y1
    · rw [h.st] at y2; omega
    · rw [x3, y3, hl]; rfl
end

theorem sim_refl (s : VS) : Sim 0 [] s s := ⟨rfl, rfl, rfl, fun _ => rfl, by rw [List.nil_append]; exact (List.map_id s.spans).symm, by cases s.fault <;> rfl⟩

/-- **P9.3, first** -/
theorem check_prefix (l : List UInt8) (d : Nat) : (checkV l d).2.1 ≤ l.length ∧ ((checkV l d).2.2 = 0 ∨ (checkV l d).2.2 = 2 → (checkV l d).2.1 = l.length) ∧
    ((checkV (l.take (checkV l d).2.1) d).2.1 = (checkV l d).2.1 ∧ ((checkV (l.take (checkV l d).2.1) d).2.2 = 0 ∨ (checkV (l.take (checkV l d).2.1) d).2.2 = 2)) ∧
    ((checkV l d).2.2 ≠ 0 → (checkV l d).2.2 ≠ 2 → (checkV l d).2.1 < l.length ∧ (bt l (checkV l d).2.1 ≤ 127 → ∀ x, (checkV (l.take ((checkV l d).2.1 + 1) ++ x) d).2 = (checkV l d).2)) := by
  obtain ⟨e, h1, h2, h3, h4⟩ := check_run l d
  obtain ⟨c1, c2⟩ := end_cases l e
  have whole : (checkV l d).2.1 = l.length → ((checkV l d).2.2 = 0 ∨ (checkV l d).2.2 = 2) → (checkV l d).2.1 ≤ l.length ∧ ((checkV l d).2.2 = 0 ∨ (checkV l d).2.2 = 2 → (checkV l d).2.1 = l.length) ∧
    ((checkV (l.take (checkV l d).2.1) d).2.1 = (checkV l d).2.1 ∧ ((checkV (l.take (checkV l d).2.1) d).2.2 = 0 ∨ (checkV (l.take (checkV l d).2.1) d).2.2 = 2)) ∧
    ((checkV l d).2.2 ≠ 0 → (checkV l d).2.2 ≠ 2 → (checkV l d).2.1 < l.length ∧ (bt l (checkV l d).2.1 ≤ 127 → ∀ x, (checkV (l.take ((checkV l d).2.1 + 1) ++ x) d).2 = (checkV l d).2)) := fun ha hb => by
    have ht : l.take (checkV l d).2.1 = l := by rw [ha]; exact List.take_length
    refine ⟨Nat.le_of_eq ha, fun _ => ha, ?_, fun h0 h2 => by exact hb.elim (fun hb => absurd hb h0) (fun hb => absurd hb h2)⟩
    rw [ht]; exact ⟨rfl, hb⟩
  have hcv : (checkV l d).2 = (endV l e).fault.getD (0, 0) := by unfold checkV; rw [h4]
  rcases c2 with ⟨x, x1, x2⟩ | ⟨x1, x2, x3⟩ | ⟨x1, x2, x3⟩
  · rw [x2] at hcv
    have hcv : (checkV l d).2 = x := hcv
    rcases last_cases h1 h2 h3 with ⟨y1, _⟩ | ⟨s1, y, k1, k2, k3, k4⟩
    · rw [x1] at y1; cases y1
    · subst k3
      obtain ⟨r1, r2⟩ := round_fault k2 x1
      have hk := steps_kept k1 (kept_start l d)
      rcases r2 with r2 | ⟨r2, r3⟩
      · exact whole (by rw [hcv, r2]) (.inr (by rw [hcv, r2]))
      · rw [hcv]
        refine ⟨by omega, fun h => by omega, ?_, fun _ _ => ⟨r2, fun hb z => ?_⟩⟩
        · have hlen : (l.take x.1).length = x.1 := by rw [List.length_take]; omega
          obtain ⟨s1', i1, i2⟩ := steps_sim (l' := l.take x.1) (sim_refl startS) (kept_start l d) k1 k2.2 (fun i _ b => by rw [Nat.add_zero, List.getElem?_take, if_pos (by omega)]) (by
            by_cases e : s1.pos = x.1
            · exact .inr (fun h => by rw [hlen] at h; omega)
            · exact .inl (by rw [Nat.add_zero, List.getElem?_take, if_pos (by omega)]))
          have fin : ∀ e' : VS, Steps (l.take x.1) d startS e' → (e'.fault = some (x.1, 2) ∨ e'.fault = none ∧ e'.pos = x.1) → (checkV (l.take x.1) d).2.1 = x.1 ∧ ((checkV (l.take x.1) d).2.2 = 0 ∨ (checkV (l.take x.1) d).2.2 = 2) := fun e' he' hc => by
            have hng : ¬ goesV (l.take x.1) e' := fun g => by
              rcases hc with hc | hc
              · have := g.2; rw [hc] at this; cases this
              · have := g.1; rw [hlen] at this; omega
            have hce := check_end_of he' hng
            have hv : (checkV (l.take x.1) d).2 = (endV (l.take x.1) e').fault.getD (0, 0) := by unfold checkV; rw [hce]
            rw [hv]
            rcases (end_cases (l.take x.1) e').2 with ⟨y, y1, y2⟩ | ⟨y1, y2, y3⟩ | ⟨y1, y2, y3⟩
            · rcases hc with hc | hc
              · rw [hc] at y1; injection y1 with y1; subst y1; rw [y2]; exact ⟨rfl, .inr rfl⟩
              · rw [hc.1] at y1; cases y1
            · rw [y3, hlen]; exact ⟨rfl, .inl rfl⟩
            · rw [y3, hlen]; exact ⟨rfl, .inr rfl⟩
          by_cases e : s1.pos = x.1
          · exact fin s1' i1 (.inr ⟨by rw [i2.fault, k2.2]; rfl, by rw [i2.pos, e]; rfl⟩)
          · have hlt : s1.pos < x.1 := by omega
            have hp1 : s1.pos < (l.take x.1).length := by rw [hlen]; exact hlt
            have hp2 : s1'.pos < (l.take x.1).length := by rw [i2.pos]; exact hp1
            have hcut := round_cut (d := d) k2.2 k2.1 x x1 hlt r2
            have hs2 := sim_round (l := l.take x.1) (l' := l.take x.1) i2 hk.1.2.2.2 hp1 hp2 (Iff.rfl : d ≤ s1.stack.length ↔ d ≤ s1.stack.length) (by rw [i2.pos]; rfl) (fun _ F _ => ⟨by rw [i2.pos]; rfl, fun _ => ⟨Iff.rfl, fun _ => rfl⟩⟩)
            refine fin _ (.step i1 (i2.goes k2.2 hp2)) ?_
            rw [hs2.fault, hs2.pos]
            rcases hcut with hc | hc
            · rw [hc]; exact .inl rfl
            · rw [hc.1, hc.2]; exact .inr ⟨rfl, rfl⟩
        · have hin : ∀ i, i ≤ x.1 → (l.take (x.1 + 1) ++ z)[i + 0]? = l[i]? := fun i hi => by rw [Nat.add_zero]; exact get_take_app l z (x.1 + 1) i (by omega) (by omega)
          obtain ⟨s1', i1, i2⟩ := steps_sim (l' := l.take (x.1 + 1) ++ z) (sim_refl startS) (kept_start l d) k1 k2.2 (fun i _ b => hin i (by omega)) (.inl (hin _ r1))
          have hp2 : s1'.pos < (l.take (x.1 + 1) ++ z).length := by rw [i2.pos, List.length_append, List.length_take]; omega
          have hs2 := round_loc i2 hk.1.2.2.2 k2.2 k2.1 (Iff.rfl : d ≤ s1.stack.length ↔ d ≤ s1.stack.length) (fun i _ b => hin i (by rw [reach_some x1] at b; exact b)) (by rw [reach_some x1]; exact r1) (fun y hy _ => by rw [x1] at hy; injection hy with hy; subst hy; exact hb)
          have hf2 : (roundV (l.take (x.1 + 1) ++ z) d s1').fault = some x := by rw [hs2.fault, x1]; rfl
          have hce := check_end_of (.step i1 (i2.goes k2.2 hp2)) (fun g => by have := g.2; rw [hf2] at this; cases this)
          have hv : (checkV (l.take (x.1 + 1) ++ z) d).2 = (endV (l.take (x.1 + 1) ++ z) (roundV (l.take (x.1 + 1) ++ z) d s1')).fault.getD (0, 0) := by unfold checkV; rw [hce]
          rw [hv]
          rcases (end_cases (l.take (x.1 + 1) ++ z) (roundV (l.take (x.1 + 1) ++ z) d s1')).2 with ⟨y, y1, y2⟩ | ⟨y1, _⟩ | ⟨y1, _⟩
          · rw [hf2] at y1; injection y1 with y1; subst y1; rw [y2]; rfl
          · rw [hf2] at y1; cases y1
          · rw [hf2] at y1; cases y1
  · rw [x3] at hcv; exact whole (by rw [hcv]; rfl) (.inl (by rw [hcv]; rfl))
  · rw [x3] at hcv; exact whole (by rw [hcv]; rfl) (.inr (by rw [hcv]; rfl))

/-- **P9.3, two streams** -/
theorem check_joins (a b : List UInt8) (d : Nat) (h0 : (checkV a d).2.2 = 0) :
    (checkV (a ++ 32 :: b) d).1 = (checkV a d).1 ++ (checkV b d).1.map (mv (a.length + 1)) ∧ (checkV (a ++ 32 :: b) d).2 = ((checkV b d).2.1 + (a.length + 1), (checkV b d).2.2) := by
  obtain ⟨e, h1, h2, h3, h4⟩ := check_run a d
  obtain ⟨c1, c2⟩ := end_cases a e
  have hcv : (checkV a d).2 = (endV a e).fault.getD (0, 0) := by unfold checkV; rw [h4]
  have hsp : (checkV a d).1 = e.spans := by unfold checkV; rw [h4]; exact c1
  rw [hcv] at h0
  have hfin : e.fault = none ∧ e.st ≤ 1 := by
    rcases c2 with ⟨x, x1, x2⟩ | ⟨x1, x2, x3⟩ | ⟨x1, x2, x3⟩
    · exfalso
      rw [x2] at h0
      have h0 : x.2 = 0 := h0
      rcases last_cases h1 h2 h3 with ⟨y1, _⟩ | ⟨s1, y, k1, k2, k3, k4⟩
      · rw [x1] at y1; cases y1
      · subst k3
        obtain ⟨_, r2⟩ := round_fault k2 x1
        rcases r2 with r2 | ⟨_, r3⟩
        · rw [r2] at h0; cases h0
        · omega
    · exact ⟨x1, x2⟩
    · rw [x3] at h0; cases h0
  have hpos : e.pos = a.length := by
    rcases last_cases h1 h2 h3 with ⟨_, y2⟩ | ⟨s1, y, k1, k2, k3, k4⟩
    · exact y2
    · rw [hfin.1] at k4; cases k4
  have hlen : (a ++ 32 :: b).length = b.length + (a.length + 1) := by simp; omega
  have hat : (a ++ 32 :: b)[a.length]? = some 32 := by rw [List.getElem?_append_right (Nat.le_refl _), Nat.sub_self]; rfl
  have hb32 : bt (a ++ 32 :: b) a.length = 32 := by unfold bt; rw [hat]; rfl
  obtain ⟨s', i1, i2⟩ := steps_sim (l' := a ++ 32 :: b) (sim_refl startS) (kept_start a d) h1 hfin.1 (fun i _ c => by rw [Nat.add_zero, List.getElem?_append_left (by omega)]) (.inr (fun _ => by rw [Nat.add_zero, hpos, hb32]; rfl))
  have hsp' : s'.pos = a.length := by rw [i2.pos, hpos]; rfl
  have hgo : goesV (a ++ 32 :: b) s' := i2.goes hfin.1 (by rw [hsp', hlen]; omega)
  have hstk : e.stack = [] := h3.1.2.2.2.2 hfin.2
  have hrd : roundV (a ++ 32 :: b) d s' = { s' with pos := s'.pos + 1, st := if s'.st = 1 then 0 else s'.st } := by
    unfold roundV; rw [hsp', hb32, if_pos (show blankB 32 = true from rfl)]
  have hst0 : (if s'.st = 1 then 0 else s'.st) = 0 := by rw [i2.st]; have := hfin.2; split <;> omega
  have hsim : Sim (a.length + 1) e.spans startS (roundV (a ++ 32 :: b) d s') := by
    rw [hrd, hst0]
    refine ⟨by show s'.pos + 1 = 0 + (a.length + 1); omega, rfl, by show s'.stack = []; rw [i2.stack, hstk], fun h => absurd rfl h, ?_, ?_⟩
    · show s'.spans = e.spans ++ []
      rw [i2.spans, List.nil_append, List.append_nil]; exact List.map_id _
    · show s'.fault = none
      rw [i2.fault, hfin.1]; rfl
  obtain ⟨eb, b1, b2, b3, b4⟩ := check_run b d
  obtain ⟨e', j1, j2⟩ := steps_all hsim (kept_start b d) b1 hlen (fun i => by
    rw [List.getElem?_append_right (by omega), show i + (a.length + 1) - a.length = i + 1 by omega]; rfl)
  have hng : ¬ goesV (a ++ 32 :: b) e' := fun g => b2 ⟨by have := g.1; rw [j2.pos, hlen] at this; omega, by
    have := g.2; rw [j2.fault] at this
    cases hf : eb.fault with
    | none => rfl
    | some x => rw [hf] at this; cases this⟩
  have hce := check_end_of ((Steps.step i1 hgo).trans j1) hng
  obtain ⟨f1, f2⟩ := sim_end j2 hlen
  unfold checkV
  rw [hce, b4]
  refine ⟨?_, f2⟩
  have : (checkS a d).spans = e.spans := by have := hsp; unfold checkV at this; exact this
  simp only []
  rw [f1, this]

end Go.Proofs.YtojapomkmfbciaaDoor

namespace Go.Proofs.YtojapomkmfbciaaDoor

section
variable {l : List UInt8} {d d' : Nat}
theorem opens_deeper (hd : d ≤ d') (x : Bool) (s s0 : VS) (hp : s.pos = s0.pos) (hs : s.spans = s0.spans) : opensV d' x s = opensV d x s ∨ ((opensV d x s).fault = some (s0.pos, 3) ∧ (opensV d x s).spans = s0.spans) := by
  unfold opensV
  by_cases h : d ≤ s.stack.length
  · rw [if_pos h]; exact .inr ⟨by rw [← hp], hs⟩
  · rw [if_neg h, if_neg (by omega)]; exact .inl rfl
theorem body_deeper (hd : d ≤ d') (c : Nat) (s s0 : VS) (hp : s.pos = s0.pos) (hs : s.spans = s0.spans) : bodyV l d' c s = bodyV l d c s ∨ ((bodyV l d c s).fault = some (s0.pos, 3) ∧ (bodyV l d c s).spans = s0.spans) := by
  unfold bodyV
  by_cases c1 : c = 91
  · rw [if_pos c1, if_pos c1]; exact opens_deeper hd _ s s0 hp hs
  by_cases c2 : c = 123
  · rw [if_neg c1, if_neg c1, if_pos c2, if_pos c2]; exact opens_deeper hd _ s s0 hp hs
  · rw [if_neg c1, if_neg c1, if_neg c2, if_neg c2]; exact .inl rfl
theorem round_deeper (hd : d ≤ d') (s : VS) : roundV l d' s = roundV l d s ∨ ((roundV l d s).fault = some (s.pos, 3) ∧ (roundV l d s).spans = s.spans) := by
  unfold roundV
  by_cases hb : blankB (bt l s.pos) = true
  · rw [if_pos hb, if_pos hb]; exact .inl rfl
  rw [if_neg hb, if_neg hb]
  generalize bt l s.pos = c
  have ht := body_deeper (l := l) hd c (startV s) s (startV_pos s) (startV_spans s)
  unfold stepV textV
  by_cases c1 : s.st = 1
  · rw [if_pos c1, if_pos c1]; exact .inl rfl
  rw [if_neg c1, if_neg c1]
  by_cases c3 : s.st = 3
  · rw [if_pos c3, if_pos c3]
    by_cases cc : c = 93
    · rw [if_pos cc, if_pos cc]; exact .inl rfl
    · rw [if_neg cc, if_neg cc]; exact ht
  rw [if_neg c3, if_neg c3]
  by_cases c0 : s.st = 0 ∨ s.st = 2
  · rw [if_pos c0, if_pos c0]; exact ht
  · rw [if_neg c0, if_neg c0]; exact .inl rfl
/-- as long as it goes well, it goes alike, or it has gone wrong by its depth -/
theorem steps_deeper (hd : d ≤ d') {e : VS} (h : Steps l d startS e) : Steps l d' startS e ∨ ∃ s1, Steps l d startS s1 ∧ Steps l d' startS s1 ∧ goesV l s1 ∧ e = roundV l d s1 ∧ e.fault = some (s1.pos, 3) ∧ e.spans = s1.spans := by
  induction h with
  | refl => exact .inl .refl
  | @step s1 h1 g ih =>
    rcases ih with ih | ⟨s2, _, _, g2, _, k, _⟩
    · rcases round_deeper (l := l) hd s1 with hr | ⟨h2, h3⟩
      · left; rw [← hr]; exact .step ih g
      · exact .inr ⟨s1, h1, ih, g, rfl, h2, h3⟩
    · have := g.2; rw [k] at this; cases this
theorem steps_reach {s e : VS} (h : Steps l d s e) (hk : KeptV l d s) (hf : s.fault = none) : s.pos ≤ reachV e ∧ s.spans.length ≤ e.spans.length := by
  induction h with
  | refl => exact ⟨by rw [reach_none hf]; exact Nat.le_refl _, Nat.le_refl _⟩
  | @step s1 h1 g ih =>
    have hk1 := steps_kept h1 hk
    have hm := steps_mono h1 hk
    have ha := adv_round l d s1 hk1.1 g.1
    refine ⟨?_, ?_⟩
    · cases hx : (roundV l d s1).fault with
      | none => rw [reach_none hx]; have := ha.2.2.2; omega
      | some x => rw [reach_some hx]; have := (round_fault g hx).1; omega
    · exact Nat.le_trans ih.2 (spans_round l d s1)
where
  spans_done (k : Nat) (s : VS) : s.spans.length ≤ (doneV k s).spans.length := by
    unfold doneV; split
    · show _ ≤ (s.spans ++ _).length; rw [List.length_append]; omega
    · exact Nat.le_refl _
  spans_tok (l : List UInt8) (t : Nat × Bool) (s : VS) : s.spans.length ≤ (tokV l t s).spans.length := by
    unfold tokV; split
    · exact spans_done _ _
    · exact Nat.le_refl _
  spans_opens (d : Nat) (x : Bool) (s : VS) : s.spans.length ≤ (opensV d x s).spans.length := by
    unfold opensV; split <;> exact Nat.le_refl _
  spans_text (l : List UInt8) (d c : Nat) (s : VS) : s.spans.length ≤ (textV l d c s).spans.length := by
    unfold textV
    rw [← startV_spans s]
    generalize startV s = s
    unfold bodyV
    (repeat' split) <;> first | exact spans_opens _ _ _ | exact spans_tok _ _ _ | exact Nat.le_refl _
  spans_round (l : List UInt8) (d : Nat) (s : VS) : s.spans.length ≤ (roundV l d s).spans.length := by
    have hs : s.spans.length ≤ (shutsV s).spans.length := spans_done (s.pos + 1) { s with stack := s.stack.tail }
    unfold roundV stepV keyV moreV
    (repeat' split) <;> first | exact hs | exact spans_text _ _ _ _ | exact Nat.le_refl _
end

/-- **P9.1, deeper** -/
theorem check_deeper (l : List UInt8) (d d' : Nat) (hd : d ≤ d') : ((checkV l d).2.2 ≠ 3 → checkV l d' = checkV l d) ∧ ((checkV l d).2.2 = 3 → (checkV l d).2.1 ≤ (checkV l d').2.1 ∧ (checkV l d).1.length ≤ (checkV l d').1.length) := by
  obtain ⟨e, h1, h2, h3, h4⟩ := check_run l d
  obtain ⟨c1, c2⟩ := end_cases l e
  have hcv : (checkV l d).2 = (endV l e).fault.getD (0, 0) := by unfold checkV; rw [h4]
  have hsp : (checkV l d).1 = e.spans := by unfold checkV; rw [h4]; exact c1
  rcases steps_deeper hd h1 with hs | ⟨s1, k1, k2, k3, k4, k5, k6⟩
  · have hce := check_end_of hs h2
    have he : checkV l d' = checkV l d := by unfold checkV; rw [hce, h4]
    exact ⟨fun _ => he, fun _ => by rw [he]; exact ⟨Nat.le_refl _, Nat.le_refl _⟩⟩
  · have hf : (checkV l d).2 = (s1.pos, 3) := by
      rw [hcv]
      rcases c2 with ⟨x, x1, x2⟩ | ⟨x1, _⟩ | ⟨x1, _⟩
      · rw [k5] at x1; injection x1 with x1; subst x1; rw [x2]; rfl
      · rw [k5] at x1; cases x1
      · rw [k5] at x1; cases x1
    rw [hf, hsp, k6]
    refine ⟨fun h => absurd rfl h, fun _ => ?_⟩
    obtain ⟨e', g1, g2, g3, g4⟩ := check_run l d'
    have hkp := steps_kept k2 (kept_start l d')
    have hee : Steps l d' s1 e' := by
      have hr := steps_run l d' l.length s1
      have hn := (run_ends l d' l.length s1 hkp (Nat.le_add_left _ _)).1
      have e1 := check_end_of (k2.trans hr) hn
      obtain ⟨j, hj⟩ := run_of_steps (k2.trans hr)
      have h1 := run_ends l d' l.length startS (kept_start l d') (Nat.le_add_left _ _)
      have h2 := run_more l d' l.length j startS h1.1
      have h3 := hj l.length
      rw [run_stop l d' l.length _ hn, Nat.add_comm, h2] at h3
      obtain ⟨j2, hj2⟩ := run_of_steps g1
      have h5 := run_more l d' l.length j2 startS h1.1
      have h6 := hj2 l.length
      rw [run_stop l d' l.length _ g2, Nat.add_comm, h5, h3] at h6
      rw [← h6]; exact hr
    obtain ⟨r1, r2⟩ := steps_reach hee hkp k3.2
    obtain ⟨d1, d2⟩ := end_cases l e'
    have hcv' : (checkV l d').2 = (endV l e').fault.getD (0, 0) := by unfold checkV; rw [g4]
    have hsp' : (checkV l d').1 = e'.spans := by unfold checkV; rw [g4]; exact d1
    rw [hcv', hsp']
    refine ⟨?_, r2⟩
    rcases d2 with ⟨x, x1, x2⟩ | ⟨x1, x2, x3⟩ | ⟨x1, x2, x3⟩
    · rw [x2]; rw [reach_some x1] at r1; exact r1
    · rw [x3]; exact Nat.le_of_lt k3.1
    · rw [x3]; exact Nat.le_of_lt k3.1

end Go.Proofs.YtojapomkmfbciaaDoor

namespace Go.Proofs.YtojapomkmfbciaaDoor

section
variable {δ : Nat} {σ : List (Nat × Nat)} {s s' : VS} {l l' : List UInt8} {d d' : Nat}
/-- a round of the other one that goes well, looked at from here -/
theorem round_back (h : Sim δ σ s s') (ho : s.stack = [] ↔ s.st ≤ 1) (hf : s.fault = none) (hp' : s'.pos < l'.length) (hn : (roundV l' d s').fault = none) (hgt : s'.pos < (roundV l' d s').pos)
    (hg : ∀ i, s.pos ≤ i → i + δ < (roundV l' d s').pos → l[i]? = l'[i + δ]?)
    (hx : (∀ i, i + δ = (roundV l' d s').pos → l[i]? = l'[i + δ]?) ∨ (∀ i, i + δ = (roundV l' d s').pos → l.length ≤ i)) : Sim δ σ (roundV l d s) (roundV l' d s') := by
  have hpe := h.pos
  have h0 := hg s.pos (Nat.le_refl _) (by omega)
  have hp : s.pos < l.length := (lt_at h0).2 (by omega)
  have hc : bt l' s'.pos = bt l s.pos := by rw [hpe]; exact (bt_at h0).symm
  refine sim_round h ho hp hp' Iff.rfl hc (fun hb F hF => ?_)
  have hT := selF_tok s _ F hF
  have hF' : selF s' (bt l' s'.pos) = some F := by
    rw [hc]
    unfold selF bodyF at hF ⊢
    rw [h.st, h.stack]; exact hF
  obtain ⟨o1, o2⟩ := round_tok l' d s' (by rw [hc]; exact hb) (by rw [h.fault, hf]; rfl) F hF'
  generalize hu : F (l'.drop s'.pos) = u at *
  obtain ⟨k, b⟩ := u
  simp only [] at o1 o2
  obtain rfl : b = true := by
    cases b with
    | true => rfl
    | false => rw [o2 rfl] at hn; cases hn
  have hpos := (o1 rfl).2
  rw [hpos] at hg hx
  have key : F (l.drop s.pos) = (k, true) := by
    have hag : ∀ i, i < k → (l.drop s.pos)[i]? = (l'.drop s'.pos)[i]? := fun i hi => by
      rw [List.getElem?_drop, List.getElem?_drop, hpe, show s.pos + δ + i = s.pos + i + δ by omega]
      exact hg _ (by omega) (by omega)
    rcases hx with hx | hx
    · have := hT.loc (l'.drop s'.pos) (l.drop s.pos) (by
        rw [hu]
        intro i hi
        simp only [] at hi
        by_cases e : i = k
        · rw [List.getElem?_drop, List.getElem?_drop, hpe, show s.pos + δ + i = s.pos + i + δ by omega]
          exact hx _ (by omega)
        · exact hag i (by omega)) (by rw [hu]; intro h; cases h)
      rw [this, hu]
    · have := hT.join (l'.drop s'.pos) (l.drop s.pos) (by rw [hu]) (by rw [hu]; exact hag) (by
        rw [hu]
        intro hlt
        simp only [] at hlt
        rw [List.length_drop] at hlt
        have := hx (s.pos + k) (by omega)
        omega)
      rw [this, hu]
  exact ⟨by rw [hu, key], fun hb0 => by rw [key] at hb0; cases hb0⟩

/-- rounds of the other one, looked at from here -/
theorem steps_back {s0 s0' e : VS} (h0 : Sim δ σ s0 s0') (hk0 : KeptV l d s0) (hk : KeptV l' d s0') (h : Steps l' d s0' e) (hf : e.fault = none) (hl : e.pos = l.length + δ)
    (hg : ∀ i, i < l.length → l[i]? = l'[i + δ]?) : ∃ s, Steps l d s0 s ∧ Sim δ σ s e := by
  have main : ∀ {e1 : VS}, Steps l' d s0' e1 → e1.fault = none → e1.pos ≤ l.length + δ → ∃ s, Steps l d s0 s ∧ Sim δ σ s e1 := by
    intro e1 h1
    induction h1 with
    | refl => intro _ _; exact ⟨s0, .refl, h0⟩
    | @step s1 h1 g ih =>
      intro hf1 hp1
      have hk1 := steps_kept h1 hk
      have hgt := (kept_round l' d s1 hk1 g).2 hf1
      obtain ⟨s, i1, i2⟩ := ih g.2 (by omega)
      have hks := steps_kept i1 hk0
      have hfs : s.fault = none := by
        have := i2.fault; rw [g.2] at this
        cases hq : s.fault with
        | none => rfl
        | some x => rw [hq] at this; cases this
      have hsp := i2.pos
      have hgo : goesV l s := ⟨by omega, hfs⟩
      refine ⟨_, .step i1 hgo, round_back i2 hks.1.2.2.2 hfs g.1 hf1 hgt (fun i _ b => hg i (by omega)) ?_⟩
      by_cases e0 : (roundV l' d s1).pos = l.length + δ
      · exact .inr (fun i hi => by omega)
      · exact .inl (fun i hi => hg i (by omega))
  exact main h hf (Nat.le_of_eq hl)
end

/-- what a round does to the brackets and the texts -/
def ClassV (s s' : VS) : Prop :=
  (s.stack = [] ∧ s'.stack = [] ∧ s'.spans = s.spans ∧ s'.st = 0) ∨ (s.st = 0 ∧ s.stack = [] ∧ s'.stack ≠ [] ∧ s'.beg = s.pos ∧ s'.spans = s.spans) ∨
  (s.st = 0 ∧ s.stack = [] ∧ s'.stack = [] ∧ s'.st = 1 ∧ s'.spans = s.spans ++ [(s.pos, s'.pos)]) ∨ (s.stack ≠ [] ∧ s'.stack ≠ [] ∧ s'.beg = s.beg ∧ s'.spans = s.spans) ∨
  (s.stack ≠ [] ∧ s'.stack = [] ∧ s'.st = 1 ∧ s'.spans = s.spans ++ [(s.beg, s'.pos)])
def ClassW (s s' : VS) : Prop := (s'.fault = none → ClassV s s') ∧ (s'.fault ≠ none → s'.spans = s.spans)
theorem class_wrong (l : List UInt8) (i : Nat) (s s0 : VS) (h : s0.spans = s.spans) : ClassW s (wrongV l i s0) := ⟨fun h => by simp [wrongV] at h, fun _ => h⟩
theorem class_done (k : Nat) (s : VS) (hf : s.fault = none) (h0 : s.stack = [] → s.st = 0) : ClassW s (doneV k (startV s)) := by
  have hs := startV_stack s
  have hsp := startV_spans s
  have hff := (done_out k (startV s)).1.trans ((start_fault s).trans hf)
  refine ⟨fun _ => ?_, fun h => absurd hff h⟩
  unfold doneV
  rw [hs]
  by_cases he : s.stack = []
  · rw [if_pos he]
    refine .inr (.inr (.inl ⟨h0 he, he, ?_, rfl, ?_⟩))
    · exact he
    · show (startV s).spans ++ [((startV s).beg, k)] = s.spans ++ [(s.pos, k)]
      rw [hsp]; unfold startV; rw [if_pos he]
  · rw [if_neg he]
    refine .inr (.inr (.inr (.inl ⟨he, he, ?_, hsp⟩)))
    show (startV s).beg = s.beg
    unfold startV; rw [if_neg he]
theorem class_shuts (s : VS) (hf : s.fault = none) (hs : s.stack ≠ []) : ClassW s (shutsV s) := by
  have hff : (shutsV s).fault = none := (done_out (s.pos + 1) { s with stack := s.stack.tail }).1.trans hf
  refine ⟨fun _ => ?_, fun h => absurd hff h⟩
  unfold shutsV doneV
  by_cases he : s.stack.tail = []
  · rw [if_pos he]; exact .inr (.inr (.inr (.inr ⟨hs, he, rfl, rfl⟩)))
  · rw [if_neg he]; exact .inr (.inr (.inr (.inl ⟨hs, he, rfl, rfl⟩)))
theorem class_opens (d : Nat) (x : Bool) (s : VS) (h0 : s.stack = [] → s.st = 0) : ClassW s (opensV d x (startV s)) := by
  have hs := startV_stack s
  have hsp := startV_spans s
  unfold opensV
  rw [hs]
  by_cases hd : d ≤ s.stack.length
  · rw [if_pos hd]; exact ⟨fun h => by simp at h, fun _ => hsp⟩
  · rw [if_neg hd]
    refine ⟨fun _ => ?_, fun _ => hsp⟩
    by_cases he : s.stack = []
    · refine .inr (.inl ⟨h0 he, he, by simp, ?_, hsp⟩)
      show (startV s).beg = s.pos
      unfold startV; rw [if_pos he]
    · refine .inr (.inr (.inr (.inl ⟨he, by simp, ?_, hsp⟩)))
      show (startV s).beg = s.beg
      unfold startV; rw [if_neg he]
theorem class_text (l : List UInt8) (d c : Nat) (s : VS) (hf : s.fault = none) (h0 : s.stack = [] → s.st = 0) : ClassW s (textV l d c s) := by
  have ht : ∀ t, ClassW s (tokV l t (startV s)) := fun t => by
    unfold tokV; split
    · exact class_done _ s hf h0
    · exact class_wrong l _ s _ (startV_spans s)
  unfold textV bodyV
  (repeat' split) <;> first | exact class_opens d _ s h0 | exact ht _ | exact class_wrong l _ s _ (startV_spans s)
theorem class_move (s : VS) (k st : Nat) (hs : s.stack ≠ []) : ClassW s { s with pos := k, st := st } := ⟨fun _ => .inr (.inr (.inr (.inl ⟨hs, hs, rfl, rfl⟩))), fun _ => rfl⟩
theorem class_round (l : List UInt8) (d : Nat) (s : VS) (hf : s.fault = none) (ho : OkV l d s) : ClassW s (roundV l d s) := by
  obtain ⟨_, _, _, ho⟩ := ho
  have hw := class_wrong l s.pos s s rfl
  unfold roundV
  split
  · by_cases he : s.stack = []
    · have := ho.1 he
      refine ⟨fun _ => .inl ⟨he, he, rfl, ?_⟩, fun _ => rfl⟩
      show (if s.st = 1 then 0 else s.st) = 0
      split <;> omega
    · exact class_move s _ _ he
  generalize bt l s.pos = c
  unfold stepV
  split
  · exact hw
  rename_i c1
  have h0 : s.stack = [] → s.st = 0 := fun h => by have := ho.1 h; omega
  split
  · split
    · exact class_shuts s hf (fun h => by have := ho.1 h; omega)
    · exact class_text l d c s hf h0
  split
  · exact class_text l d c s hf h0
  rename_i c3 c02
  have hs : s.stack ≠ [] := fun h => by have := ho.1 h; omega
  split
  · split
    · exact class_shuts s hf hs
    split
    · unfold keyV; split
      · exact class_move s _ _ hs
      · exact class_wrong l _ s s rfl
    · exact hw
  split
  · split
    · exact class_move s _ _ hs
    · exact hw
  unfold moreV
  split
  · exact class_move s _ _ hs
  split
  · exact class_shuts s hf hs
  · exact hw

/-- one text -/
def cutL (l : List UInt8) (x y : Nat) : List UInt8 := (l.drop x).take (y - x)
/-- a text that was read is one -/
theorem one_of_steps {l : List UInt8} {d : Nat} (hd : d ≤ 200) {s s' : VS} (hk : KeptV l d s) (hs : s.stack = []) (hst : s.st = 0) (hf : s.fault = none) (h : Steps l d s s') (hf' : s'.fault = none) (hst' : s'.st = 1) (hsp : s'.spans = s.spans ++ [(s.pos, s'.pos)]) :
    oneV (cutL l s.pos s'.pos) = true := by
  have hm := steps_mono h hk
  have hle := (steps_kept h hk).1.2.1
  have hlen : (cutL l s.pos s'.pos).length = s'.pos - s.pos := by unfold cutL; rw [List.length_take, List.length_drop]; omega
  have h0 : Sim s.pos s.spans startS s := ⟨(Nat.zero_add _).symm, hst, hs, fun h => absurd rfl h, by show s.spans = s.spans ++ []; rw [List.append_nil], by rw [hf]; rfl⟩
  obtain ⟨e, i1, i2⟩ := steps_back (l := cutL l s.pos s'.pos) h0 (kept_start _ d) hk h hf' (by rw [hlen]; omega) (fun i hi => by
    rw [hlen] at hi
    unfold cutL
    rw [List.getElem?_take, if_pos hi, List.getElem?_drop, Nat.add_comm])
  have hep : e.pos = (cutL l s.pos s'.pos).length := by have := i2.pos; rw [hlen]; omega
  have hef : e.fault = none := by
    have := i2.fault; rw [hf'] at this
    cases hq : e.fault with
    | none => rfl
    | some x => rw [hq] at this; cases this
  have hest : e.st = 1 := by rw [← i2.st]; exact hst'
  have hce := check_end_of i1 (fun g => by have := g.1; omega)
  have hes : e.spans = [(0, (cutL l s.pos s'.pos).length)] := by
    have := i2.spans
    rw [hsp] at this
    have h2 := List.append_cancel_left this
    cases hq : e.spans with
    | nil => rw [hq] at h2; cases h2
    | cons a t =>
      rw [hq, List.map_cons] at h2
      injection h2 with h3 h4
      have ht : t = [] := by cases t with
        | nil => rfl
        | cons b t => cases h4
      subst ht
      unfold mv at h3
      injection h3 with h5 h6
      have : a = (0, (cutL l s.pos s'.pos).length) := Prod.ext (by show a.1 = 0; omega) (by show a.2 = _; rw [hlen]; omega)
      rw [this]
  have hcv : checkV (cutL l s.pos s'.pos) d = ([(0, (cutL l s.pos s'.pos).length)], ((cutL l s.pos s'.pos).length, 0)) := by
    unfold checkV
    rw [hce]
    obtain ⟨c1, c2⟩ := end_cases (cutL l s.pos s'.pos) e
    rw [c1, hes]
    rcases c2 with ⟨x, x1, _⟩ | ⟨_, _, x3⟩ | ⟨_, x2, _⟩
    · rw [hef] at x1; cases x1
    · rw [x3]; rfl
    · omega
  have h200 := (check_deeper (cutL l s.pos s'.pos) d 200 hd).1 (by rw [hcv]; show (0 : Nat) ≠ 3; decide)
  unfold oneV
  rw [h200, hcv]
  simp

/-- spans rise -/
def RisesV (l : List UInt8) : Int → List (Nat × Nat) → Prop
  | _, [] => True
  | z, p :: L => z < (p.1 : Int) ∧ p.1 < p.2 ∧ oneV (cutL l p.1 p.2) = true ∧ RisesV l (p.2 : Int) L
def lastV : Int → List (Nat × Nat) → Int
  | z, [] => z
  | _, p :: L => lastV (p.2 : Int) L
theorem last_snoc : ∀ (L : List (Nat × Nat)) (z : Int) (p : Nat × Nat), lastV z (L ++ [p]) = (p.2 : Int)
  | [], _, _ => rfl
  | q :: L, _, p => last_snoc L (q.2 : Int) p
theorem rises_snoc (l : List UInt8) : ∀ (L : List (Nat × Nat)) (z : Int) (p : Nat × Nat), RisesV l z L → lastV z L < (p.1 : Int) → p.1 < p.2 → oneV (cutL l p.1 p.2) = true → RisesV l z (L ++ [p])
  | [], _, _, _, h1, h2, h3 => ⟨h1, h2, h3, trivial⟩
  | q :: L, _, p, h, h1, h2, h3 => ⟨h.1, h.2.1, h.2.2.1, rises_snoc l L (q.2 : Int) p h.2.2.2 h1 h2 h3⟩
/-- what is so of the texts that have been read -/
def SpansV (l : List UInt8) (d : Nat) (s : VS) : Prop :=
  RisesV l (-1) s.spans ∧ (∀ p ∈ s.spans, p.2 ≤ reachV s) ∧ (s.fault = none → lastV (-1) s.spans ≤ (s.pos : Int) ∧ (s.st = 0 → lastV (-1) s.spans < (s.pos : Int)) ∧
    (s.stack ≠ [] → lastV (-1) s.spans < (s.beg : Int) ∧ s.beg < s.pos ∧ ∃ s0, KeptV l d s0 ∧ s0.pos = s.beg ∧ s0.st = 0 ∧ s0.stack = [] ∧ s0.fault = none ∧ s0.spans = s.spans ∧ Steps l d s0 s))
theorem spans_start (l : List UInt8) (d : Nat) : SpansV l d startS :=
  ⟨trivial, (fun p h => by cases h), fun _ => ⟨by show (-1 : Int) ≤ 0; omega, fun _ => by show (-1 : Int) < 0; omega, fun h => absurd rfl h⟩⟩
theorem spans_round (l : List UInt8) (d : Nat) (hd : d ≤ 200) (s : VS) (hk : KeptV l d s) (hg : goesV l s) (h : SpansV l d s) : SpansV l d (roundV l d s) := by
  obtain ⟨h1, h2, h3⟩ := h
  obtain ⟨a1, a2, a3⟩ := h3 hg.2
  rw [reach_none hg.2] at h2
  have hkr := kept_round l d s hk hg
  obtain ⟨w1, w2⟩ := class_round l d s hg.2 hk.1
  cases hf : (roundV l d s).fault with
  | some x =>
    have hsp := w2 (by rw [hf]; simp)
    have := (round_fault hg hf).1
    refine ⟨by rw [hsp]; exact h1, fun p hp => ?_, fun h => by rw [hf] at h; cases h⟩
    rw [hsp] at hp
    have := h2 p hp
    rw [reach_some hf]; omega
  | none =>
    have hgt := hkr.2 hf
    have hstep : Steps l d s (roundV l d s) := .step .refl hg
    have hold : ∀ p ∈ s.spans, p.2 ≤ reachV (roundV l d s) := fun p hp => by rw [reach_none hf]; have := h2 p hp; omega
    have hone := fun (s0 : VS) (k0 : KeptV l d s0) (e1 : s0.st = 0) (e2 : s0.stack = []) (e3 : s0.fault = none) (hs : Steps l d s0 (roundV l d s)) (e4 : (roundV l d s).st = 1) (e5 : (roundV l d s).spans = s0.spans ++ [(s0.pos, (roundV l d s).pos)]) =>
      one_of_steps hd k0 e2 e1 e3 hs hf e4 e5
    rcases w1 hf with ⟨b1, b2, b3, b4⟩ | ⟨b1, b2, b3, b4, b5⟩ | ⟨b1, b2, b3, b4, b5⟩ | ⟨b1, b2, b3, b4⟩ | ⟨b1, b2, b3, b4⟩
    · unfold SpansV
      rw [b3]
      exact ⟨h1, hold, fun _ => ⟨by omega, fun _ => by omega, fun h => absurd b2 h⟩⟩
    · unfold SpansV
      rw [b5]
      refine ⟨h1, hold, fun _ => ⟨by omega, fun _ => by omega, fun _ => ⟨by rw [b4]; exact a2 b1, by rw [b4]; exact hgt, s, hk, b4.symm, b1, b2, hg.2, rfl, hstep⟩⟩⟩
    · have ho := hone s hk b1 b2 hg.2 hstep b4 b5
      unfold SpansV
      rw [b5, last_snoc]
      refine ⟨rises_snoc l _ _ _ h1 (a2 b1) hgt ho, fun p hp => ?_, fun _ => ⟨Int.le_refl _, fun h => by omega, fun h => absurd b3 h⟩⟩
      rcases List.mem_append.1 hp with hp | hp
      · exact hold p hp
      · rw [List.mem_singleton.1 hp, reach_none hf]; exact Nat.le_refl _
    · obtain ⟨c1, c2, s0, c3, c4, c5, c6, c7, c8, c9⟩ := a3 b1
      unfold SpansV
      rw [b4]
      refine ⟨h1, hold, fun _ => ⟨by omega, fun _ => by omega, fun _ => ⟨by rw [b3]; exact c1, by rw [b3]; omega, s0, c3, by rw [b3]; exact c4, c5, c6, c7, c8, .step c9 hg⟩⟩⟩
    · obtain ⟨c1, c2, s0, c3, c4, c5, c6, c7, c8, c9⟩ := a3 b1
      have ho := hone s0 c3 c5 c6 c7 (.step c9 hg) b3 (by rw [b4, c8, c4])
      rw [c4] at ho
      unfold SpansV
      rw [b4, last_snoc]
      refine ⟨rises_snoc l _ _ _ h1 c1 (by show s.beg < _; omega) ho, fun p hp => ?_, fun _ => ⟨Int.le_refl _, fun h => by omega, fun h => absurd b2 h⟩⟩
      rcases List.mem_append.1 hp with hp | hp
      · exact hold p hp
      · rw [List.mem_singleton.1 hp, reach_none hf]; exact Nat.le_refl _
/-- **P9.3, the texts** -/
theorem check_spans (l : List UInt8) (d : Nat) (hd : d ≤ 200) : RisesV l (-1) (checkV l d).1 ∧ ∀ p ∈ (checkV l d).1, p.2 ≤ (checkV l d).2.1 := by
  obtain ⟨e, h1, h2, h3, h4⟩ := check_run l d
  obtain ⟨c1, c2⟩ := end_cases l e
  have hcv : (checkV l d).2 = (endV l e).fault.getD (0, 0) := by unfold checkV; rw [h4]
  have hsp : (checkV l d).1 = e.spans := by unfold checkV; rw [h4]; exact c1
  have hS : SpansV l d e := by
    clear h2 h3 h4 c1 c2 hcv hsp
    induction h1 with
    | refl => exact spans_start l d
    | @step s1 h1 g ih => exact spans_round l d hd s1 (steps_kept h1 (kept_start l d)) g ih
  rw [hsp, hcv]
  refine ⟨hS.1, fun p hp => ?_⟩
  have := hS.2.1 p hp
  rcases c2 with ⟨x, x1, x2⟩ | ⟨x1, x2, x3⟩ | ⟨x1, x2, x3⟩
  · rw [x2]; rw [reach_some x1] at this; exact this
  · rw [x3]; rw [reach_none x1] at this; exact Nat.le_trans this h3.1.2.1
  · rw [x3]; rw [reach_none x1] at this; exact Nat.le_trans this h3.1.2.1

end Go.Proofs.YtojapomkmfbciaaDoor
