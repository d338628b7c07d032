/-
  Plain Lean: long division, shifts, cuts; digits that are read and written.
-/
import Derived.Test.YtmmlclgmehfmhaaDoorNum3
namespace Go.Proofs.YtmmlclgmehfmhaaDoor

/-- the state of a long division from the highest digit: those from k up are done -/
def DivIn (B : Nat) (x : List Nat) (y k R : Nat) (q : List Nat) : Prop := (∀ z ∈ q, z < B) ∧ q.length = x.length ∧ val B (x.drop k) = y * val B (q.drop k) + R ∧ R < y

theorem DivIn.zero (B : Nat) (hB : 0 < B) (x : List Nat) (y : Nat) (hy : 0 < y) : DivIn B x y x.length 0 (List.replicate x.length 0) := by
  refine ⟨fun z hz => by rw [List.mem_replicate] at hz; omega, by simp, ?_, hy⟩
  rw [List.drop_of_length_le (Nat.le_refl _), List.drop_of_length_le (by simp)]
  simp [val]
theorem val_drop_step (B : Nat) (x : List Nat) (k : Nat) (h : k < x.length) : val B (x.drop k) = x.getD k 0 + B * val B (x.drop (k + 1)) := by
  rw [List.drop_eq_getElem_cons h, val, List.getD, List.getElem?_eq_getElem h]; rfl
theorem DivIn.low {B : Nat} {x : List Nat} {y k R : Nat} {q : List Nat} (h : DivIn B x y k R q) {t : Nat} (ht : t < B) : t + B * R < B * y := by
  have h1 : B * (R + 1) ≤ B * y := Nat.mul_le_mul_left _ h.2.2.2
  rw [Nat.mul_add] at h1; omega
theorem DivIn.digit {B : Nat} {x : List Nat} {y k R : Nat} {q : List Nat} (h : DivIn B x y k R q) {t : Nat} (ht : t < B) : (t + B * R) / y < B := by
  have hy : 0 < y := by have := h.2.2.2; omega
  rw [Nat.div_lt_iff_lt_mul hy]
  exact h.low ht
theorem DivIn.step {B : Nat} {x : List Nat} {y k R : Nat} {q : List Nat} (h : DivIn B x y (k + 1) R q) (hk : k < x.length) (ht : x.getD k 0 < B) :
    DivIn B x y k ((x.getD k 0 + B * R) % y) (q.set k ((x.getD k 0 + B * R) / y)) := by
  have hd := h.digit ht
  obtain ⟨h1, h2, h3, h4⟩ := h
  refine ⟨?_, by simp [h2], ?_, Nat.mod_lt _ (by omega)⟩
  · intro z hz
    rcases List.mem_or_eq_of_mem_set hz with hz | hz
    · exact h1 z hz
    · subst hz; exact hd
  · have e1 := val_drop_step B x k hk
    have e2 := val_drop_step B (q.set k ((x.getD k 0 + B * R) / y)) k (by simp [h2]; exact hk)
    have e3 : (q.set k ((x.getD k 0 + B * R) / y)).drop (k + 1) = q.drop (k + 1) := by rw [List.drop_set_of_lt (by omega)]
    have e4 : (q.set k ((x.getD k 0 + B * R) / y)).getD k 0 = (x.getD k 0 + B * R) / y := by
      rw [List.getD, List.getElem?_set_self (by omega)]; rfl
    rw [e1, e2, e3, e4, h3]
    generalize x.getD k 0 = t at *
    generalize val B (q.drop (k + 1)) = Q
    have e5 := Nat.div_add_mod (t + B * R) y
    rw [Nat.mul_add y, Nat.mul_add B]
    rw [Nat.mul_left_comm B y Q]
    omega
theorem DivIn.done {B : Nat} (hB : 2 ≤ B) {x : List Nat} {y R : Nat} {q : List Nat} (h : DivIn B x y 0 R q) : trimL q = digs B (val B x / y) ∧ R = val B x % y := by
  obtain ⟨h1, _, h3, h4⟩ := h
  rw [List.drop_zero, List.drop_zero] at h3
  rw [trimL_digs B hB q h1, h3]
  refine ⟨?_, ?_⟩
  · rw [Nat.mul_add_div (by omega), Nat.div_eq_of_lt h4, Nat.add_zero]
  · rw [Nat.mul_add_mod, Nat.mod_eq_of_lt h4]

/-- one limb ahead of a rest -/
theorem trimL_cons_digs (B : Nat) (hB : 2 ≤ B) (t R : Nat) (ht : t < B) : trimL (t :: digs B R) = digs B (t + B * R) := by
  rw [trimL_digs B hB]
  · rw [val, val_digs B hB]
  · intro z hz
    rw [List.mem_cons] at hz
    rcases hz with rfl | hz
    · exact ht
    · exact digs_lt B hB R z hz

theorem digs_up (B : Nat) (hB : 2 ≤ B) (k z : Nat) (hz : z ≠ 0) : digs B (B ^ k * z) = List.replicate k 0 ++ digs B z := by
  induction k with
  | zero => simp
  | succ k ih =>
    have hp : 0 < B ^ k := Nat.pow_pos (by omega)
    have hne : B ^ (k + 1) * z ≠ 0 := by
      rw [Nat.pow_succ]
      have : 0 < B ^ k * B * z := Nat.mul_pos (Nat.mul_pos hp (by omega)) (by omega)
      omega
    rw [digs_pos B _ hB hne, List.replicate_succ, List.cons_append, ← ih]
    have e : B ^ (k + 1) * z = B * (B ^ k * z) := by rw [Nat.pow_succ, Nat.mul_comm (B ^ k) B, Nat.mul_assoc]
    rw [e, Nat.mul_mod_right, Nat.mul_div_cancel_left _ (by omega)]

theorem pow9 (n : Nat) : 10 ^ n = 1000000000 ^ (n / 9) * 10 ^ (n % 9) := by
  rw [show (1000000000 : Nat) = 10 ^ 9 by rfl, ← Nat.pow_mul, ← Nat.pow_add, Nat.div_add_mod]

theorem shift_digs (X n : Nat) (hX : X ≠ 0) : digs 1000000000 (X * 10 ^ n) = List.replicate (n / 9) 0 ++ digs 1000000000 (X * 10 ^ (n % 9)) := by
  have hp : 0 < 10 ^ (n % 9) := Nat.pow_pos (by omega)
  have : 0 < X * 10 ^ (n % 9) := Nat.mul_pos (by omega) hp
  rw [← digs_up _ (by omega) _ _ (by omega), pow9 n, Nat.mul_left_comm]

/-- a plain list cut at a place -/
theorem digs_take_val (B : Nat) (hB : 2 ≤ B) (X w : Nat) : val B ((digs B X).take w) = X % B ^ w := by
  by_cases h : w ≤ (digs B X).length
  · have e := val_split B (digs B X) w
    rw [val_digs B hB, List.length_take, Nat.min_eq_left h] at e
    have h2 := val_lt B ((digs B X).take w) (fun z hz => digs_lt B hB X z (List.mem_of_mem_take hz))
    rw [List.length_take, Nat.min_eq_left h] at h2
    rw [e, Nat.add_mul_mod_self_left, Nat.mod_eq_of_lt h2]
    rw [← e]
  · rw [List.take_of_length_le (by omega), val_digs B hB, Nat.mod_eq_of_lt ((digs_len B hB X w).2 (by omega))]
theorem digs_drop_val (B : Nat) (hB : 2 ≤ B) (X w : Nat) : val B ((digs B X).drop w) = X / B ^ w := by
  have hp : 0 < B ^ w := Nat.pow_pos (by omega)
  by_cases h : w ≤ (digs B X).length
  · have e := val_split B (digs B X) w
    rw [val_digs B hB, List.length_take, Nat.min_eq_left h, digs_take_val B hB] at e
    have e2 := Nat.mod_add_div X (B ^ w)
    have e3 : B ^ w * val B ((digs B X).drop w) = B ^ w * (X / B ^ w) := by omega
    exact Nat.eq_of_mul_eq_mul_left hp e3
  · rw [List.drop_of_length_le (by omega), val, Nat.div_eq_of_lt ((digs_len B hB X w).2 (by omega))]
theorem digs_take (B : Nat) (hB : 2 ≤ B) (X w : Nat) : trimL ((digs B X).take w) = digs B (X % B ^ w) := by
  rw [trimL_digs B hB _ (fun z hz => digs_lt B hB X z (List.mem_of_mem_take hz)), digs_take_val B hB]
theorem digs_drop (B : Nat) (hB : 2 ≤ B) (X w : Nat) : (digs B X).drop w = digs B (X / B ^ w) := by
  induction w generalizing X with
  | zero => simp
  | succ w ih =>
    by_cases hX : X = 0
    · subst hX; rw [digs_zero, Nat.zero_div, digs_zero]; rfl
    · rw [digs_pos B X hB hX, List.drop_succ_cons, ih, Nat.div_div_eq_div_mul, Nat.pow_succ, Nat.mul_comm]

/-- Cut's answer where the place stands beyond the list -/
theorem cut_low (X n : Nat) (h : (digs 1000000000 X).length < n / 9) : X / 10 ^ n = 0 ∧ X % 10 ^ n = X := by
  have h1 := (digs_len 1000000000 (by omega) X (n / 9)).2 (by omega)
  have hp : 0 < 10 ^ (n % 9) := Nat.pow_pos (by omega)
  have h2 : 1000000000 ^ (n / 9) * 1 ≤ 10 ^ n := by rw [pow9 n]; exact Nat.mul_le_mul_left _ hp
  exact ⟨Nat.div_eq_of_lt (by omega), Nat.mod_eq_of_lt (by omega)⟩
/-- and where it stands within -/
theorem cut_quo (X n : Nat) : X / 10 ^ n = val 1000000000 ((digs 1000000000 X).drop (n / 9)) / 10 ^ (n % 9) := by
  rw [digs_drop_val _ (by omega), pow9 n, Nat.div_div_eq_div_mul]
theorem cut_rest (X n : Nat) (h : n / 9 ≤ (digs 1000000000 X).length) : trimL ((digs 1000000000 X).take (n / 9) ++ [val 1000000000 ((digs 1000000000 X).drop (n / 9)) % 10 ^ (n % 9)]) = digs 1000000000 (X % 10 ^ n) := by
  have hp : 0 < 10 ^ (n % 9) := Nat.pow_pos (by omega)
  have hr : val 1000000000 ((digs 1000000000 X).drop (n / 9)) % 10 ^ (n % 9) < 1000000000 := by
    have h1 := Nat.mod_lt (val 1000000000 ((digs 1000000000 X).drop (n / 9))) hp
    have h2 : 10 ^ (n % 9) ≤ 10 ^ 9 := Nat.pow_le_pow_right (by decide) (show n % 9 ≤ 9 by omega)
    omega
  rw [trimL_digs 1000000000 (by omega)]
  · congr 1
    rw [val_snoc, digs_take_val _ (by omega), digs_drop_val _ (by omega), List.length_take, Nat.min_eq_left h, pow9 n, Nat.mod_mul]
  · intro z hz
    rw [List.mem_append] at hz
    rcases hz with hz | hz
    · exact digs_lt _ (by omega) X z (List.mem_of_mem_take hz)
    · simp at hz; subst hz; exact hr

/-- the worth of decimal digits, the highest first -/
def dec (l : List Nat) : Nat := val 10 l.reverse
theorem dec_nil : dec [] = 0 := rfl
theorem dec_snoc (l : List Nat) (c : Nat) : dec (l ++ [c]) = 10 * dec l + c := by
  unfold dec; rw [List.reverse_append, List.reverse_singleton, List.singleton_append, val]; omega
theorem dec_append (l m : List Nat) : dec (l ++ m) = dec m + 10 ^ m.length * dec l := by
  unfold dec; rw [List.reverse_append, val_append, List.length_reverse]
theorem dec_lt (l : List Nat) (h : ∀ x ∈ l, x < 10) : dec l < 10 ^ l.length := by
  unfold dec
  have := val_lt 10 l.reverse (fun x hx => h x (by simpa using hx))
  rwa [List.length_reverse] at this

/-- the state of Parse: the limbs stand for the digits from the place m on -/
def ParIn (s : List Nat) (m : Nat) (out : List Nat) : Prop := (∀ z ∈ out, z < 1000000000) ∧ val 1000000000 out = dec (s.drop m)
theorem ParIn.zero (s : List Nat) : ParIn s s.length [] := ⟨by simp, by rw [List.drop_of_length_le (Nat.le_refl _)]; rfl⟩
theorem ParIn.step {s : List Nat} {m k : Nat} {out : List Nat} (h : ParIn s m out) (hs : ∀ x ∈ s, x < 10) (hk : out.length = k) (hm : m + 9 * k = s.length) (hm0 : 0 < m) (m' : Nat) (hm' : m' = m - 9) :
    ParIn s m' (out ++ [dec ((s.drop m').take (m - m'))]) := by
  obtain ⟨h1, h2⟩ := h
  have hlt : dec ((s.drop m').take (m - m')) < 1000000000 := by
    have h3 := dec_lt ((s.drop m').take (m - m')) (fun x hx => hs x (List.mem_of_mem_drop (List.mem_of_mem_take hx)))
    have h4 : ((s.drop m').take (m - m')).length ≤ 9 := by rw [List.length_take]; omega
    have h5 : 10 ^ ((s.drop m').take (m - m')).length ≤ 10 ^ 9 := Nat.pow_le_pow_right (by omega) h4
    omega
  refine ⟨?_, ?_⟩
  · intro z hz
    rw [List.mem_append] at hz
    rcases hz with hz | hz
    · exact h1 z hz
    · simp at hz; subst hz; exact hlt
  · have e : s.drop m' = (s.drop m').take (m - m') ++ s.drop m := by
      have := List.take_append_drop (m - m') (s.drop m')
      rw [List.drop_drop, show m' + (m - m') = m by omega] at this
      exact this.symm
    have e2 : dec (s.drop m') = dec (s.drop m) + 10 ^ (s.drop m).length * dec ((s.drop m').take (m - m')) := by
      conv => lhs; rw [e]
      exact dec_append _ _
    rw [e2, val_snoc, h2, hk, List.length_drop, show s.length - m = 9 * k by omega, Nat.pow_mul]
theorem ParIn.done {s out : List Nat} (h : ParIn s 0 out) : trimL out = digs 1000000000 (dec s) := by
  rw [trimL_digs _ (by omega) out h.1, h.2, List.drop_zero]

/-- a number's decimal text, as digits, the highest first -/
def txt (n : Nat) : List Nat := if n = 0 then [0] else (digs 10 n).reverse
theorem dec_txt (n : Nat) : dec (txt n) = n := by
  unfold txt dec
  by_cases h : n = 0
  · rw [if_pos h, h]; rfl
  · rw [if_neg h, List.reverse_reverse, val_digs _ (by omega)]
theorem txt_lt (n : Nat) : ∀ x ∈ txt n, x < 10 := by
  unfold txt
  by_cases h : n = 0
  · rw [if_pos h]; simp
  · rw [if_neg h]; intro x hx; exact digs_lt 10 (by omega) n x (by simpa using hx)

/-- the lowest digits, as many as are asked -/
def lows (k n : Nat) : List Nat := match k with
  | 0 => []
  | k + 1 => n % 10 :: lows k (n / 10)
theorem digs_lows (k lo hi : Nat) (hlo : lo < 10 ^ k) (hhi : hi ≠ 0) : digs 10 (lo + 10 ^ k * hi) = lows k lo ++ digs 10 hi := by
  induction k generalizing lo with
  | zero =>
    obtain rfl : lo = 0 := by simpa using hlo
    simp [lows]
  | succ k ih =>
    have hp : 0 < 10 ^ k := Nat.pow_pos (by omega)
    have hne : lo + 10 ^ (k + 1) * hi ≠ 0 := by
      have : 0 < 10 ^ (k + 1) * hi := Nat.mul_pos (Nat.pow_pos (by omega)) (by omega)
      omega
    rw [digs_pos 10 _ (by omega) hne, lows, List.cons_append]
    have e : lo + 10 ^ (k + 1) * hi = lo + 10 * (10 ^ k * hi) := by rw [Nat.pow_succ, Nat.mul_comm (10 ^ k) 10, Nat.mul_assoc]
    rw [e, Nat.add_mul_mod_self_left, Nat.add_mul_div_left _ _ (by omega), ih (lo / 10) (by rw [Nat.pow_succ] at hlo; omega)]
theorem lows_digs (k lo : Nat) (hlo : lo < 10 ^ k) : lows k lo = digs 10 lo ++ List.replicate (k - (digs 10 lo).length) 0 := by
  induction k generalizing lo with
  | zero =>
    obtain rfl : lo = 0 := by simpa using hlo
    rw [digs_zero]; rfl
  | succ k ih =>
    rw [lows, ih (lo / 10) (by rw [Nat.pow_succ] at hlo; omega)]
    by_cases h : lo = 0
    · subst h; simp [digs_zero, List.replicate_succ]
    · rw [digs_pos 10 lo (by omega) h, List.cons_append, List.length_cons, Nat.add_sub_add_right]
/-- a limb's text with noughts ahead -/
theorem pad_txt (lo : Nat) (hlo : lo < 1000000000) : (lows 9 lo).reverse = List.replicate (9 - (txt lo).length) 0 ++ txt lo := by
  rw [lows_digs 9 lo (by omega)]
  unfold txt
  by_cases h : lo = 0
  · subst h; rw [if_pos rfl, digs_zero]; rfl
  · rw [if_neg h, List.reverse_append, List.reverse_replicate, List.length_reverse]
theorem txt_len9 (lo : Nat) (hlo : lo < 1000000000) : (txt lo).length ≤ 9 ∧ 0 < (txt lo).length := by
  unfold txt
  by_cases h : lo = 0
  · rw [if_pos h]; decide
  · rw [if_neg h, List.length_reverse]
    refine ⟨(digs_len 10 (by omega) lo 9).1 (by omega), ?_⟩
    cases e : digs 10 lo with
    | nil => exact absurd ((digs_nil 10 lo (by omega)).1 e) h
    | cons => simp
/-- the state of Text: what is written stands for the limbs from k up -/
theorem txt_step (l : List Nat) (k : Nat) (hk : k < l.length) (hlt : l.getD k 0 < 1000000000) (h0 : val 1000000000 (l.drop (k + 1)) ≠ 0) :
    txt (val 1000000000 (l.drop k)) = txt (val 1000000000 (l.drop (k + 1))) ++ (List.replicate (9 - (txt (l.getD k 0)).length) 0 ++ txt (l.getD k 0)) := by
  rw [val_drop_step _ l k hk]
  generalize l.getD k 0 = lo at *
  generalize val 1000000000 (l.drop (k + 1)) = hi at *
  rw [← pad_txt lo hlt]
  have hne : lo + 1000000000 * hi ≠ 0 := by omega
  unfold txt
  rw [if_neg hne, if_neg h0, show (1000000000 : Nat) = 10 ^ 9 by rfl, digs_lows 9 lo hi (by omega) h0, List.reverse_append]
theorem digs10_len (l : List Nat) (k : Nat) (hl : ∀ x ∈ l, x < 1000000000) (hk : l.length = k + 1) (h0 : l.getD k 0 ≠ 0) : (digs 10 (val 1000000000 l)).length = 9 * k + (digs 10 (l.getD k 0)).length := by
  have e : l = l.take k ++ [l.getD k 0] := by
    have h1 := List.take_succ_eq_append_getElem (l := l) (i := k) (by omega)
    rw [List.take_of_length_le (by omega)] at h1
    have h2 : l.getD k 0 = l[k] := by rw [List.getD, List.getElem?_eq_getElem (by omega)]; rfl
    rw [h2]; exact h1
  have hv : val 1000000000 l = val 1000000000 (l.take k) + 10 ^ (9 * k) * l.getD k 0 := by
    conv => lhs; rw [e]
    rw [val_snoc, List.length_take, Nat.min_eq_left (by omega), Nat.pow_mul]
  have hb := val_lt 1000000000 (l.take k) (fun z hz => hl z (List.mem_of_mem_take hz))
  rw [List.length_take, Nat.min_eq_left (by omega), show (1000000000 : Nat) = 10 ^ 9 by rfl, ← Nat.pow_mul] at hb
  rw [hv, digs_lows (9 * k) _ _ hb h0, List.length_append]
  congr 1
  generalize val 1000000000 (l.take k) = z
  generalize 9 * k = m
  induction m generalizing z with
  | zero => rfl
  | succ m ih => rw [lows, List.length_cons, ih]

end Go.Proofs.YtmmlclgmehfmhaaDoor
