/-
  Plain Lean: a text in quotes is read alike, whatever stands behind it; where none goes on, the bytes up to there end too early (chapter 5).
-/
import Derived.Test.YtnbfikfngekfoaaDoorQuoL
namespace Go.Proofs.YtnbfikfngekfoaaDoor

theorem bt_take (l : List UInt8) (k i : Nat) (h : i < k) : bt (l.take k) i = bt l i := by
  unfold bt; rw [List.getElem?_take, if_pos h]
theorem bt_app (a b : List UInt8) (i : Nat) (h : i < a.length) : bt (a ++ b) i = bt a i := by
  unfold bt; rw [List.getElem?_append_left h]

/-- four digits depend on what they read -/
theorem fourF_app : ∀ (f : Nat) (a b : List UInt8) (i h : Nat), i + f ≤ a.length → fourF f (a ++ b) i h = fourF f a i h
  | 0, _, _, _, _, _ => rfl
  | f + 1, a, b, i, h, hl => by
    unfold fourF
    rw [if_neg (by rw [List.length_append]; omega), if_neg (by omega), bt_app a b i (by omega)]
    cases hexV (bt a i) with
    | none => rfl
    | some d => exact fourF_app f a b (i + 1) (16 * h + d) (by omega)
theorem four_app (a b : List UInt8) (h : 4 ≤ a.length) : fourL (a ++ b) = fourL a := fourF_app 4 a b 0 0 (by omega)
/-- fewer digits than four are all that there are up to there -/
theorem fourF_take : ∀ (f : Nat) (l : List UInt8) (i h : Nat), (fourF f l i h).2 < i + f → fourF f (l.take (fourF f l i h).2) i h = fourF f l i h
  | 0, l, i, h, hl => absurd hl (by show ¬ i < i + 0; omega)
  | f + 1, l, i, h, hl => by
    have key : fourF (f + 1) l i h = if l.length ≤ i then (h, i) else match hexV (bt l i) with | none => (h, i) | some d => fourF f l (i + 1) (16 * h + d) := rfl
    by_cases h1 : l.length ≤ i
    · rw [if_pos h1] at key
      rw [key]
      show fourF (f + 1) (l.take i) i h = (h, i)
      rw [List.take_of_length_le h1]; exact key
    · rw [if_neg h1] at key
      cases hv : hexV (bt l i) with
      | none =>
        rw [hv] at key
        rw [key]
        show fourF (f + 1) (l.take i) i h = (h, i)
        unfold fourF
        rw [if_pos (by rw [List.length_take]; omega)]
      | some d =>
        rw [hv] at key
        simp only [] at key
        rw [key] at hl ⊢
        have hg := fourF_le' f l (i + 1) (16 * h + d)
        have ih := fourF_take f l (i + 1) (16 * h + d) (by omega)
        generalize (fourF f l (i + 1) (16 * h + d)).2 = k at hg ih
        have key2 : fourF (f + 1) (l.take k) i h = if (l.take k).length ≤ i then (h, i) else match hexV (bt (l.take k) i) with | none => (h, i) | some d => fourF f (l.take k) (i + 1) (16 * h + d) := rfl
        rw [key2, if_neg (by rw [List.length_take]; have := hg.2 (by omega); omega), bt_take _ _ _ (by omega), hv]
        exact ih
where fourF_le' : ∀ (f : Nat) (l : List UInt8) (i h : Nat), i ≤ (fourF f l i h).2 ∧ (i ≤ l.length → (fourF f l i h).2 ≤ l.length)
  | 0, _, _, _ => ⟨Nat.le_refl _, fun h => h⟩
  | f + 1, l, i, h => by
    unfold fourF
    split
    · exact ⟨Nat.le_refl _, fun h => h⟩
    · cases hexV (bt l i) with
      | none => exact ⟨Nat.le_refl _, fun h => h⟩
      | some d =>
        have := fourF_le' f l (i + 1) (16 * h + d)
        exact ⟨Nat.le_trans (Nat.le_succ _) this.1, fun _ => this.2 (by omega)⟩
theorem four_take (l : List UInt8) (h : (fourL l).2 < 4) : fourL (l.take (fourL l).2) = fourL l := fourF_take 4 l 0 0 (show (fourL l).2 < 0 + 4 by omega)

/-- does a second half begin here? -/
def lowP (m : List UInt8) : Bool := decide (6 ≤ m.length) && decide (bt m 0 = 92) && decide (bt m 1 = 117) && decide ((fourL (m.drop 2)).2 = 4) && decide (56320 ≤ (fourL (m.drop 2)).1) && decide ((fourL (m.drop 2)).1 ≤ 57343)
theorem numbered_low (l : List UInt8) (h6 : 6 ≤ l.length) : numberedP l =
    if (fourL (l.drop 2)).2 < 4 then faultP l (2 + (fourL (l.drop 2)).2)
    else if (fourL (l.drop 2)).1 < 55296 ∨ 57343 < (fourL (l.drop 2)).1 then ⟨(fourL (l.drop 2)).1, 6, 0⟩
    else if (fourL (l.drop 2)).1 < 56320 ∧ lowP (l.drop 6) = true then ⟨65536 + ((fourL (l.drop 2)).1 - 55296) * 1024 + (fourL (l.drop 8)).1 - 56320, 12, 0⟩
    else ⟨65533, 6, 0⟩ := by
  unfold numberedP
  have e : ((fourL (l.drop 2)).1 < 56320 ∧ 12 ≤ l.length ∧ bt l 6 = 92 ∧ bt l 7 = 117 ∧ (fourL (l.drop 8)).2 = 4 ∧ 56320 ≤ (fourL (l.drop 8)).1 ∧ (fourL (l.drop 8)).1 ≤ 57343) ↔ ((fourL (l.drop 2)).1 < 56320 ∧ lowP (l.drop 6) = true) := by
    unfold lowP
    simp only [Bool.and_eq_true, decide_eq_true_eq, List.length_drop, bt_drop, List.drop_drop, Nat.add_zero]
    constructor
    · rintro ⟨a, b, c, d, e, f, g⟩; exact ⟨a, ⟨⟨⟨⟨⟨by omega, c⟩, d⟩, e⟩, f⟩, g⟩⟩
    · rintro ⟨a, ⟨⟨⟨⟨⟨b, c⟩, d⟩, e⟩, f⟩, g⟩⟩; exact ⟨a, by omega, c, d, e, f, g⟩
  simp only [e]

theorem lowP_app (a b : List UInt8) (h : 6 ≤ a.length) : lowP (a ++ b) = lowP a := by
  unfold lowP
  have e : (a ++ b).drop 2 = a.drop 2 ++ b := List.drop_append_of_le_length (by omega)
  rw [e, four_app _ _ (by rw [List.length_drop]; omega), bt_app _ _ _ (by omega), bt_app _ _ _ (by omega), decide_eq_true h, decide_eq_true (by rw [List.length_append]; omega)]
theorem lowP_len (m : List UInt8) (h : lowP m = true) : 6 ≤ m.length := by
  unfold lowP at h
  simp only [Bool.and_eq_true, decide_eq_true_eq] at h
  exact h.1.1.1.1.1
theorem lowP_take (m : List UInt8) (k : Nat) (h : lowP m = false) : lowP (m.take k) = false := by
  cases hl : lowP (m.take k) with
  | false => rfl
  | true =>
    have h6 := lowP_len _ hl
    have : lowP m = lowP (m.take k) := by
      conv => lhs; rw [← List.take_append_drop k m]
      exact lowP_app _ _ h6
    rw [this, hl] at h; exact h
theorem fourF_stop : ∀ (f : Nat) (l : List UInt8) (i h j : Nat), i ≤ j → hexV (bt l j) = none → (fourF f l i h).2 ≤ j
  | 0, _, _, _, _, hij, _ => hij
  | f + 1, l, i, h, j, hij, hn => by
    unfold fourF
    split
    · exact hij
    · by_cases e : i = j
      · subst e; rw [hn]; exact Nat.le_refl _
      · cases hexV (bt l i) with
        | none => exact hij
        | some d => exact fourF_stop f l (i + 1) _ j (by omega) hn
theorem lowP_shut (m : List UInt8) (j : Nat) (hj : j < 6) (h : bt m j = 34) : lowP m = false := by
  cases hl : lowP m with
  | false => rfl
  | true =>
    unfold lowP at hl
    simp only [Bool.and_eq_true, decide_eq_true_eq] at hl
    obtain ⟨⟨⟨⟨⟨_, h0⟩, h1⟩, h4⟩, _⟩, _⟩ := hl
    exfalso
    by_cases e0 : j = 0
    · subst e0; omega
    by_cases e1 : j = 1
    · subst e1; omega
    have hb : bt (m.drop 2) (j - 2) = 34 := by rw [bt_drop, show 2 + (j - 2) = j by omega]; exact h
    have := fourF_stop 4 (m.drop 2) 0 0 (j - 2) (Nat.zero_le _) (by rw [hb]; rfl)
    have h4' : (fourF 4 (m.drop 2) 0 0).2 = 4 := h4
    omega

theorem nextP_eq' (l : List UInt8) (h : l.length ≠ 0) (h92 : bt l 0 = 92) : nextP l = escapedP l := by
  unfold nextP
  rw [if_neg h, if_neg (by omega), if_pos h92]

end Go.Proofs.YtnbfikfngekfoaaDoor
