/-
  Plain Lean: sums of digits by place; the order of plain lists.
-/
import Derived.Test.YtmmlclgmehfmhaaDoorNum
namespace Go.Proofs.YtmmlclgmehfmhaaDoor

theorem val_take_succ (b : Nat) (l : List Nat) (k : Nat) : val b (l.take (k + 1)) = val b (l.take k) + b ^ k * l.getD k 0 := by
  by_cases h : k < l.length
  · rw [List.take_succ_eq_append_getElem h, val_append]
    simp only [List.length_take, Nat.min_eq_left (Nat.le_of_lt h), val, Nat.mul_zero, Nat.add_zero]
    rw [List.getD, List.getElem?_eq_getElem h]; rfl
  · rw [List.take_of_length_le (by omega), List.take_of_length_le (by omega), List.getD, List.getElem?_eq_none (by omega)]
    simp
theorem val_take_all (b : Nat) (l : List Nat) (k : Nat) (h : l.length ≤ k) : val b (l.take k) = val b l := by rw [List.take_of_length_le h]

/-- a sum by places -/
def sumTo (s : Nat → Nat) (b : Nat) : Nat → Nat
  | 0 => 0
  | n + 1 => sumTo s b n + b ^ n * s n

theorem sumTo_val (b : Nat) (l : List Nat) (n : Nat) : sumTo (fun i => l.getD i 0) b n = val b (l.take n) := by
  induction n with
  | zero => simp [sumTo, val]
  | succ n ih => rw [sumTo, ih, val_take_succ]
theorem sumTo_add (s t : Nat → Nat) (b n : Nat) : sumTo (fun i => s i + t i) b n = sumTo s b n + sumTo t b n := by
  induction n with
  | zero => rfl
  | succ n ih => simp only [sumTo, ih, Nat.mul_add]; omega
theorem sumTo_mul (s : Nat → Nat) (m b n : Nat) : sumTo (fun i => s i * m) b n = sumTo s b n * m := by
  induction n with
  | zero => simp [sumTo]
  | succ n ih => simp only [sumTo, ih, Nat.add_mul, Nat.mul_assoc]
theorem sumTo_congr (s t : Nat → Nat) (b n : Nat) (h : ∀ i, i < n → s i = t i) : sumTo s b n = sumTo t b n := by
  induction n with
  | zero => rfl
  | succ n ih => simp only [sumTo]; rw [ih (fun i hi => h i (by omega)), h n (by omega)]

/-- -1, 0, 1 -/
def cmpN (m n : Nat) : Int := if m < n then -1 else if n < m then 1 else 0

theorem val_split (b : Nat) (l : List Nat) (i : Nat) : val b l = val b (l.take i) + b ^ (l.take i).length * val b (l.drop i) := by
  rw [← val_append, List.take_append_drop]

/-- two lists of one length that are alike above a place are held against each other there -/
theorem cmp_at (b : Nat) (l m : List Nat) (i : Nat) (hl : ∀ x ∈ l, x < b) (hlen : l.length = m.length) (hi : i < l.length) (he : l.drop (i + 1) = m.drop (i + 1)) (h : l.getD i 0 < m.getD i 0) :
    val b l < val b m := by
  rw [val_split b l (i + 1), val_split b m (i + 1), he]
  have e1 : (l.take (i + 1)).length = i + 1 := by rw [List.length_take]; omega
  have e2 : (m.take (i + 1)).length = i + 1 := by rw [List.length_take]; omega
  rw [e1, e2, val_take_succ, val_take_succ]
  have h1 := val_lt b (l.take i) (fun x hx => hl x (List.mem_of_mem_take hx))
  have e3 : (l.take i).length = i := by rw [List.length_take]; omega
  rw [e3] at h1
  have h2 : b ^ i * (l.getD i 0 + 1) ≤ b ^ i * m.getD i 0 := Nat.mul_le_mul_left _ h
  rw [Nat.mul_add, Nat.mul_one] at h2
  omega

theorem drop_step (l m : List Nat) (i : Nat) (hl : i < l.length) (hm : i < m.length) (he : l.drop (i + 1) = m.drop (i + 1)) (h : l.getD i 0 = m.getD i 0) : l.drop i = m.drop i := by
  rw [List.drop_eq_getElem_cons hl, List.drop_eq_getElem_cons hm, he]
  rw [List.getD, List.getElem?_eq_getElem hl, List.getD, List.getElem?_eq_getElem hm] at h
  simp at h
  rw [h]

theorem cmpN_len (b : Nat) (hb : 2 ≤ b) (m n : Nat) (h : (digs b m).length < (digs b n).length) : m < n := by
  rcases Nat.lt_or_ge m n with h' | h'
  · exact h'
  · have := digs_mono b hb n m h'; omega

end Go.Proofs.YtmmlclgmehfmhaaDoor
