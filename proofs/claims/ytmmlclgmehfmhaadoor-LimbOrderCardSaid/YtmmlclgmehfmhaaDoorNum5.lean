/-
  Plain Lean: the document's way of reckoning, digit by digit, in any base.
-/
import Derived.Test.YtmmlclgmehfmhaaDoorNum4
namespace Go.Proofs.YtmmlclgmehfmhaaDoor

/-- the state of a sum that is carried -/
def CarB (B : Nat) (s : Nat → Nat) (k c : Nat) (acc : List Nat) : Prop := acc.length = k ∧ (∀ x ∈ acc, x < B) ∧ val B acc + B ^ k * c = sumTo s B k
theorem CarB.zero (B : Nat) (s : Nat → Nat) : CarB B s 0 0 [] := ⟨rfl, by simp, by simp [val, sumTo]⟩
theorem CarB.step {B : Nat} (hB : 0 < B) {s : Nat → Nat} {k c : Nat} {acc : List Nat} (h : CarB B s k c acc) : CarB B s (k + 1) ((c + s k) / B) (acc ++ [(c + s k) % B]) := by
  obtain ⟨h1, h2, h3⟩ := h
  refine ⟨by simp [h1], ?_, ?_⟩
  · intro x hx
    rw [List.mem_append] at hx
    rcases hx with hx | hx
    · exact h2 x hx
    · simp at hx; subst hx; exact Nat.mod_lt _ hB
  · rw [val_snoc, h1, sumTo, Nat.pow_succ, ← h3]
    have e1 : B ^ k * ((c + s k) % B) + B ^ k * B * ((c + s k) / B) = B ^ k * (c + s k) := by
      rw [Nat.mul_assoc, ← Nat.mul_add, Nat.mod_add_div]
    have e2 : B ^ k * (c + s k) = B ^ k * c + B ^ k * s k := Nat.mul_add ..
    omega
theorem CarB.sum {B : Nat} (hB : 2 ≤ B) {l m : List Nat} {k : Nat} {acc : List Nat} (h : CarB B (fun i => l.getD i 0 + m.getD i 0) k 0 acc) (hl : l.length ≤ k) (hm : m.length ≤ k) : trimL acc = digs B (val B l + val B m) := by
  have := h.2.2
  rw [Nat.mul_zero, Nat.add_zero, sumTo_add, sumTo_val, sumTo_val, List.take_of_length_le hl, List.take_of_length_le hm] at this
  rw [trimL_digs B hB acc h.2.1, this]
theorem CarB.flat {B : Nat} (hB : 2 ≤ B) {l : List Nat} {c : Nat} {acc : List Nat} (h : CarB B (fun i => l.getD i 0) l.length c acc) (hv : val B l < B ^ l.length) : trimL acc = digs B (val B l) := by
  obtain ⟨h1, h2, h3⟩ := h
  rw [sumTo_val, List.take_of_length_le (Nat.le_refl _)] at h3
  rcases Nat.eq_zero_or_pos c with h0 | h0
  · subst h0
    rw [trimL_digs B hB acc h2, ← h3, Nat.mul_zero, Nat.add_zero]
  · have : B ^ l.length * 1 ≤ B ^ l.length * c := Nat.mul_le_mul_left _ h0
    omega

/-- the state of a difference -/
def BorB (B : Nat) (l m : List Nat) (k b : Nat) (acc : List Nat) : Prop := acc.length = k ∧ (∀ x ∈ acc, x < B) ∧ val B acc + val B (m.take k) = val B (l.take k) + B ^ k * b
theorem BorB.zero (B : Nat) (l m : List Nat) : BorB B l m 0 0 [] := ⟨rfl, by simp, by simp [val]⟩
theorem BorB.step {B : Nat} {l m : List Nat} {k b : Nat} {acc : List Nat} (h : BorB B l m k b acc) (b2 d : Nat) (hd : d < B) (he : d + m.getD k 0 + b = l.getD k 0 + B * b2) : BorB B l m (k + 1) b2 (acc ++ [d]) := by
  obtain ⟨h1, h2, h3⟩ := h
  refine ⟨by simp [h1], ?_, ?_⟩
  · intro x hx
    rw [List.mem_append] at hx
    rcases hx with hx | hx
    · exact h2 x hx
    · simp at hx; subst hx; exact hd
  · rw [val_snoc, h1, val_take_succ, val_take_succ, Nat.pow_succ]
    have e : B ^ k * (d + m.getD k 0 + b) = B ^ k * (l.getD k 0 + B * b2) := by rw [he]
    rw [Nat.mul_add, Nat.mul_add, Nat.mul_add, ← Nat.mul_assoc] at e
    omega
theorem BorB.done {B : Nat} (hB : 2 ≤ B) {l m : List Nat} {b : Nat} {acc : List Nat} (h : BorB B l m l.length b acc) (hm : m.length ≤ l.length) (hle : val B m ≤ val B l) : trimL acc = digs B (val B l - val B m) := by
  obtain ⟨h1, h2, h3⟩ := h
  rw [List.take_of_length_le hm, List.take_of_length_le (Nat.le_refl _)] at h3
  have h4 := val_lt B acc h2
  rw [h1] at h4
  rw [trimL_digs B hB acc h2]
  congr 1
  rcases Nat.eq_zero_or_pos b with h0 | h0
  · subst h0; omega
  · have : B ^ l.length * 1 ≤ B ^ l.length * b := Nat.mul_le_mul_left _ h0
    omega

/-- the state of the sums of products -/
def SumIn (x y : List Nat) (i k : Nat) (L : List Nat) : Prop := (∀ z ∈ L, z ≤ 81 * (i * y.length + k)) ∧ val 10 L = val 10 (x.take i) * val 10 y + 10 ^ i * (x.getD i 0 * val 10 (y.take k))
theorem SumIn.zero (x y : List Nat) (n : Nat) : SumIn x y 0 0 (List.replicate n 0) := by
  refine ⟨fun z hz => by rw [List.mem_replicate] at hz; omega, ?_⟩
  have : val 10 (List.replicate n 0) = 0 := by
    induction n with
    | zero => rfl
    | succ n ih => rw [List.replicate_succ, val, ih]
  rw [this]; simp [val]
theorem SumIn.step {x y : List Nat} {i k : Nat} {L : List Nat} (h : SumIn x y i k L) (hx : x.getD i 0 < 10) (hy : y.getD k 0 < 10) (hj : i + k < L.length) : SumIn x y i (k + 1) (L.set (i + k) (L.getD (i + k) 0 + x.getD i 0 * y.getD k 0)) := by
  obtain ⟨h1, h2⟩ := h
  have hp : x.getD i 0 * y.getD k 0 ≤ 9 * 9 := Nat.mul_le_mul (by omega) (by omega)
  refine ⟨?_, ?_⟩
  · intro z hz
    rcases List.mem_or_eq_of_mem_set hz with hz | hz
    · have := h1 z hz; omega
    · have h3 := h1 (L.getD (i + k) 0) (by rw [List.getD, List.getElem?_eq_getElem hj]; exact List.getElem_mem _)
      subst hz; omega
  · have h3 := val_set 10 L (i + k) (L.getD (i + k) 0 + x.getD i 0 * y.getD k 0) hj
    rw [val_take_succ, Nat.mul_add (x.getD i 0), Nat.mul_add (10 ^ i)]
    rw [Nat.mul_add (10 ^ (i + k)), h2] at h3
    have e1 : 10 ^ i * (x.getD i 0 * (10 ^ k * y.getD k 0)) = 10 ^ (i + k) * (x.getD i 0 * y.getD k 0) := by
      rw [Nat.pow_add, Nat.mul_left_comm (x.getD i 0), ← Nat.mul_assoc]
    rw [e1]
    omega
theorem SumIn.next {x y : List Nat} {i : Nat} {L : List Nat} (h : SumIn x y i y.length L) : SumIn x y (i + 1) 0 L := by
  obtain ⟨h1, h2⟩ := h
  refine ⟨fun z hz => by have := h1 z hz; rw [Nat.add_mul, Nat.one_mul, Nat.add_zero]; exact this, ?_⟩
  rw [List.take_of_length_le (Nat.le_refl _)] at h2
  rw [h2, val_take_succ, Nat.add_mul, Nat.mul_assoc]
  simp [val]
theorem SumIn.done {x y : List Nat} {L : List Nat} (h : SumIn x y x.length 0 L) : val 10 L = val 10 x * val 10 y := by
  have := h.2
  rw [List.take_of_length_le (Nat.le_refl _)] at this
  simpa [val] using this
theorem mul_lt10 (x y L : List Nat) (hx : ∀ z ∈ x, z < 10) (hy : ∀ z ∈ y, z < 10) (hL : L.length = x.length + y.length + 1) (h : val 10 L = val 10 x * val 10 y) : val 10 L < 10 ^ L.length := by
  have b1 := val_lt 10 x hx
  have b2 := val_lt 10 y hy
  rw [h, hL, Nat.pow_succ, Nat.pow_add]
  have b3 : val 10 x * val 10 y < 10 ^ x.length * 10 ^ y.length := Nat.mul_lt_mul_of_lt_of_le b1 (Nat.le_of_lt b2) (Nat.pow_pos (by omega))
  omega

theorem digs_getD (B : Nat) (hB : 2 ≤ B) (x j : Nat) : (digs B x).getD j 0 = x / B ^ j % B := by
  have h := digs_drop B hB x j
  have e : (digs B x).getD j 0 = ((digs B x).drop j).getD 0 0 := by simp [List.getD, List.getElem?_drop]
  rw [e, h]
  generalize x / B ^ j = z
  by_cases hz : z = 0
  · subst hz; rw [digs_zero]; simp
  · rw [digs_pos B z hB hz]; rfl

/-- nine digits from the place i + k up, as one number -/
theorem nine_step (x i k : Nat) (hk : k < 9) : 10 * (x / 10 ^ (i + (k + 1)) % 10 ^ (9 - (k + 1))) + (digs 10 x).getD (i + k) 0 = x / 10 ^ (i + k) % 10 ^ (9 - k) := by
  rw [digs_getD 10 (by omega), show i + (k + 1) = (i + k) + 1 by omega, show 9 - k = (9 - (k + 1)) + 1 by omega, Nat.pow_succ, ← Nat.div_div_eq_div_mul, Nat.pow_succ 10 (9 - (k + 1)), Nat.mul_comm (10 ^ (9 - (k + 1))) 10, Nat.mod_mul]
  omega
theorem nine_done (x j : Nat) : x / 10 ^ (9 * j + 0) % 10 ^ (9 - 0) = (digs 1000000000 x).getD j 0 := by
  rw [digs_getD _ (by omega), Nat.add_zero, Nat.pow_mul]
theorem nine_lt (x i k : Nat) (hk : k ≤ 9) : x / 10 ^ (i + k) % 10 ^ (9 - k) < 1000000000 := by
  have h1 := Nat.mod_lt (x / 10 ^ (i + k)) (y := 10 ^ (9 - k)) (Nat.pow_pos (by omega))
  have h2 : 10 ^ (9 - k) ≤ 10 ^ 9 := Nat.pow_le_pow_right (by decide) (show 9 - k ≤ 9 by omega)
  omega
theorem to_more (x j : Nat) (h : 9 * j < (digs 10 x).length) : (digs 1000000000 x).take (j + 1) = (digs 1000000000 x).take j ++ [(digs 1000000000 x).getD j 0] := by
  have h1 : ¬ x < 10 ^ (9 * j) := fun h2 => by have := (digs_len 10 (by omega) x (9 * j)).1 h2; omega
  have h3 : j < (digs 1000000000 x).length := by
    rcases Nat.lt_or_ge j (digs 1000000000 x).length with h4 | h4
    · exact h4
    · exact absurd (by have := (digs_len 1000000000 (by omega) x j).2 h4; rw [Nat.pow_mul]; exact this) h1
  rw [List.take_succ_eq_append_getElem h3, List.getD, List.getElem?_eq_getElem h3]; rfl
theorem to_done (x j : Nat) (h : (digs 10 x).length ≤ 9 * j) : (digs 1000000000 x).take j = digs 1000000000 x := by
  have h1 := (digs_len 10 (by omega) x (9 * j)).2 h
  rw [Nat.pow_mul] at h1
  exact List.take_of_length_le ((digs_len 1000000000 (by omega) x j).1 h1)

/-- a quotient's digit that is counted -/
theorem quo_of (T y j : Nat) (h1 : y * j ≤ T) (h2 : T - y * j < y) : j = T / y ∧ T - y * j = T % y := by
  have e : T = y * j + (T - y * j) := by omega
  have e1 : T / y = j := by
    rw [e, Nat.mul_add_div (by omega), Nat.div_eq_of_lt h2, Nat.add_zero]
  refine ⟨e1.symm, ?_⟩
  have := Nat.div_add_mod T y
  rw [e1] at this
  omega

end Go.Proofs.YtmmlclgmehfmhaaDoor
