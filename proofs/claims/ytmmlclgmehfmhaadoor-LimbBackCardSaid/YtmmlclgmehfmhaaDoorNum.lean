/-
  Plain Lean: numbers as lists of digits in a base, the lowest first. No program in sight.
-/
namespace Go.Proofs.YtmmlclgmehfmhaaDoor

/-- the worth of a list of digits, whatever they are -/
def val (b : Nat) : List Nat → Nat
  | [] => 0
  | x :: l => x + b * val b l

theorem val_append (b : Nat) (l m : List Nat) : val b (l ++ m) = val b l + b ^ l.length * val b m := by
  induction l with
  | nil => simp [val]
  | cons x l ih => simp only [List.cons_append, val, ih, List.length_cons, Nat.pow_succ, Nat.mul_add, ← Nat.mul_assoc]; rw [Nat.mul_comm b (b ^ l.length)]; omega
theorem val_snoc (b : Nat) (l : List Nat) (x : Nat) : val b (l ++ [x]) = val b l + b ^ l.length * x := by rw [val_append]; simp [val]

theorem val_lt (b : Nat) (l : List Nat) (h : ∀ x ∈ l, x < b) : val b l < b ^ l.length := by
  induction l with
  | nil => simp [val]
  | cons x l ih =>
    have h1 := h x (by simp)
    have h2 := ih (fun y hy => h y (by simp [hy]))
    simp only [val, List.length_cons, Nat.pow_succ]
    have h3 : b * (val b l + 1) ≤ b * b ^ l.length := Nat.mul_le_mul_left b h2
    rw [Nat.mul_add, Nat.mul_one] at h3
    rw [Nat.mul_comm (b ^ l.length) b]
    omega

/-- the plain digits of a number -/
def digsF : Nat → Nat → Nat → List Nat
  | 0, _, _ => []
  | f + 1, b, n => if n = 0 then [] else n % b :: digsF f b (n / b)
def digs (b n : Nat) : List Nat := digsF (n.log2 + 1) b n

theorem digsF_eq (b : Nat) (hb : 2 ≤ b) : ∀ (f g n : Nat), n < 2 ^ f → n < 2 ^ g → digsF f b n = digsF g b n := by
  intro f
  induction f with
  | zero =>
    intro g n hf _
    have : n = 0 := by simpa using hf
    subst this
    cases g <;> simp [digsF]
  | succ f ih =>
    intro g n hf hg
    cases g with
    | zero =>
      have : n = 0 := by simpa using hg
      subst this
      simp [digsF]
    | succ g =>
      simp only [digsF]
      split
      · rfl
      · have h1 : n / b < 2 ^ f := by
          rw [Nat.div_lt_iff_lt_mul (by omega)]
          rw [Nat.pow_succ] at hf
          exact Nat.lt_of_lt_of_le hf (Nat.mul_le_mul_left _ hb)
        have h2 : n / b < 2 ^ g := by
          rw [Nat.div_lt_iff_lt_mul (by omega)]
          rw [Nat.pow_succ] at hg
          exact Nat.lt_of_lt_of_le hg (Nat.mul_le_mul_left _ hb)
        rw [ih g (n / b) h1 h2]

theorem digs_zero (b : Nat) : digs b 0 = [] := by simp [digs, digsF]
theorem digs_pos (b n : Nat) (hb : 2 ≤ b) (hn : n ≠ 0) : digs b n = n % b :: digs b (n / b) := by
  unfold digs
  rw [digsF, if_neg hn]
  have h1 : n < 2 ^ (n.log2 + 1) := Nat.lt_log2_self
  have h2 : n / b < 2 ^ n.log2 := by
    rw [Nat.div_lt_iff_lt_mul (by omega)]
    rw [Nat.pow_succ] at h1
    exact Nat.lt_of_lt_of_le h1 (Nat.mul_le_mul_left _ hb)
  rw [digsF_eq b hb n.log2 ((n / b).log2 + 1) (n / b) h2 Nat.lt_log2_self]

theorem val_digs (b : Nat) (hb : 2 ≤ b) (n : Nat) : val b (digs b n) = n := by
  induction n using Nat.strongRecOn with
  | _ n ih =>
    by_cases hn : n = 0
    · subst hn; rw [digs_zero]; rfl
    · rw [digs_pos b n hb hn, val, ih (n / b) (Nat.div_lt_self (by omega) (by omega))]
      exact Nat.mod_add_div n b
theorem digs_lt (b : Nat) (hb : 2 ≤ b) (n : Nat) : ∀ x ∈ digs b n, x < b := by
  induction n using Nat.strongRecOn with
  | _ n ih =>
    by_cases hn : n = 0
    · subst hn; rw [digs_zero]; simp
    · rw [digs_pos b n hb hn]
      intro x hx
      rw [List.mem_cons] at hx
      rcases hx with rfl | hx
      · exact Nat.mod_lt _ (by omega)
      · exact ih (n / b) (Nat.div_lt_self (by omega) (by omega)) x hx
theorem digs_nil (b n : Nat) (hb : 2 ≤ b) : digs b n = [] ↔ n = 0 := by
  constructor
  · intro h; have := val_digs b hb n; rw [h] at this; exact this.symm
  · rintro rfl; exact digs_zero b

/-- without noughts at the end -/
def trimL : List Nat → List Nat
  | [] => []
  | x :: l => match trimL l with
    | [] => if x = 0 then [] else [x]
    | y :: m => x :: y :: m

theorem trimL_digs (b : Nat) (hb : 2 ≤ b) (l : List Nat) (h : ∀ x ∈ l, x < b) : trimL l = digs b (val b l) := by
  induction l with
  | nil => rw [val, digs_zero]; rfl
  | cons x l ih =>
    have hx := h x (by simp)
    have ih' := ih (fun y hy => h y (by simp [hy]))
    simp only [trimL, val]
    rw [ih']
    by_cases hv : val b l = 0
    · rw [hv, digs_zero, Nat.mul_zero, Nat.add_zero]
      simp only []
      by_cases h0 : x = 0
      · rw [if_pos h0, h0, digs_zero]
      · rw [if_neg h0, digs_pos b x hb h0, Nat.mod_eq_of_lt hx, Nat.div_eq_of_lt hx, digs_zero]
    · have hne : digs b (val b l) ≠ [] := fun e => hv ((digs_nil b _ hb).1 e)
      have hn : x + b * val b l ≠ 0 := by
        have : 0 < b * val b l := Nat.mul_pos (by omega) (by omega)
        omega
      rw [digs_pos b (x + b * val b l) hb hn]
      have e1 : (x + b * val b l) % b = x := by rw [Nat.add_mul_mod_self_left, Nat.mod_eq_of_lt hx]
      have e2 : (x + b * val b l) / b = val b l := by rw [Nat.add_mul_div_left _ _ (by omega), Nat.div_eq_of_lt hx, Nat.zero_add]
      rw [e1, e2]
      cases hd : digs b (val b l) with
      | nil => exact absurd hd hne
      | cons y m => rfl

theorem trimL_snoc_zero (l : List Nat) : trimL (l ++ [0]) = trimL l := by
  induction l with
  | nil => rfl
  | cons x l ih => simp only [List.cons_append, trimL, ih]
theorem trimL_snoc (l : List Nat) (x : Nat) (hx : x ≠ 0) : trimL (l ++ [x]) = l ++ [x] := by
  induction l with
  | nil => simp [trimL, hx]
  | cons y l ih =>
    simp only [List.cons_append, trimL, ih]
    cases hl : l ++ [x] with
    | nil => simp at hl
    | cons a m => rfl
theorem trimL_take (l : List Nat) : ∃ k, k ≤ l.length ∧ trimL l = l.take k := by
  induction l with
  | nil => exact ⟨0, by simp, rfl⟩
  | cons x l ih =>
    obtain ⟨k, hk, e⟩ := ih
    simp only [trimL]
    rw [e]
    cases h : l.take k with
    | nil =>
      by_cases hx : x = 0
      · exact ⟨0, by simp, by simp [hx]⟩
      · exact ⟨1, by simp, by simp [hx]⟩
    | cons y m => exact ⟨k + 1, by simp; omega, by simp [h]⟩

theorem val_trimL (b : Nat) (l : List Nat) : val b (trimL l) = val b l := by
  induction l with
  | nil => rfl
  | cons x l ih =>
    simp only [trimL, val]
    rw [← ih]
    cases h : trimL l with
    | nil =>
      simp only [val]
      by_cases hx : x = 0
      · simp [hx, val]
      · simp [hx, val]
    | cons y m => rfl

/-- the plain list of the worth of a plain list is it -/
theorem digs_val_digs (b : Nat) (hb : 2 ≤ b) (n : Nat) : digs b (val b (digs b n)) = digs b n := by rw [val_digs b hb]

theorem trimL_digs_self (b : Nat) (hb : 2 ≤ b) (n : Nat) : trimL (digs b n) = digs b n := by
  rw [trimL_digs b hb _ (digs_lt b hb n), val_digs b hb]

theorem digs_len (b : Nat) (hb : 2 ≤ b) (n : Nat) (k : Nat) : n < b ^ k ↔ (digs b n).length ≤ k := by
  induction k generalizing n with
  | zero =>
    simp only [Nat.pow_zero, Nat.le_zero, List.length_eq_zero_iff, digs_nil b n hb]
    omega
  | succ k ih =>
    by_cases hn : n = 0
    · subst hn; rw [digs_zero]; simp; exact Nat.pos_of_ne_zero (by simp; omega)
    · rw [digs_pos b n hb hn, List.length_cons, Nat.add_le_add_iff_right, ← ih (n / b), Nat.pow_succ, Nat.div_lt_iff_lt_mul (by omega)]

theorem digs_mono (b : Nat) (hb : 2 ≤ b) (m n : Nat) (h : m ≤ n) : (digs b m).length ≤ (digs b n).length := by
  rw [← digs_len b hb]
  exact Nat.lt_of_le_of_lt h ((digs_len b hb n _).2 (Nat.le_refl _))

end Go.Proofs.YtmmlclgmehfmhaaDoor
