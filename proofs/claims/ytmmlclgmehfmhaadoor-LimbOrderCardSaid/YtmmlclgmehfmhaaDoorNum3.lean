/-
  Plain Lean: long multiplication.
-/
import Derived.Test.YtmmlclgmehfmhaaDoorNum2
namespace Go.Proofs.YtmmlclgmehfmhaaDoor

theorem val_set (b : Nat) (l : List Nat) (j z : Nat) (h : j < l.length) : val b (l.set j z) + b ^ j * l.getD j 0 = val b l + b ^ j * z := by
  induction l generalizing j with
  | nil => simp at h
  | cons x l ih =>
    cases j with
    | zero => simp [val]; omega
    | succ j =>
      have := ih j (by simpa using h)
      simp only [List.set_cons_succ, val, List.getD_cons_succ, Nat.pow_succ]
      generalize val b (l.set j z) = p at this
      generalize val b l = q at this
      generalize l.getD j 0 = r at this
      have h2 : b * (p + b ^ j * r) = b * (q + b ^ j * z) := by rw [this]
      rw [Nat.mul_add, Nat.mul_add, ← Nat.mul_assoc, ← Nat.mul_assoc, Nat.mul_comm b (b ^ j)] at h2
      omega

/-- the state of the inner loop of a long multiplication: the row's worth before it is V, the limb v stands at i -/
def MulIn (V i v : Nat) (y : List Nat) (k c : Nat) (L : List Nat) : Prop :=
  (∀ z ∈ L, z < 1000000000) ∧ val 1000000000 L + 1000000000 ^ (i + k) * c = V + 1000000000 ^ i * (v * val 1000000000 (y.take k))
theorem MulIn.step {V i v : Nat} {y : List Nat} {k c : Nat} {L : List Nat} (h : MulIn V i v y k c L) (hj : i + k < L.length) :
    MulIn V i v y (k + 1) ((c + (L.getD (i + k) 0 + v * y.getD k 0)) / 1000000000) (L.set (i + k) ((c + (L.getD (i + k) 0 + v * y.getD k 0)) % 1000000000)) := by
  obtain ⟨h1, h2⟩ := h
  refine ⟨?_, ?_⟩
  · intro z hz
    rcases List.mem_or_eq_of_mem_set hz with hz | hz
    · exact h1 z hz
    · subst hz; exact Nat.mod_lt _ (by omega)
  · have h3 := val_set 1000000000 L (i + k) ((c + (L.getD (i + k) 0 + v * y.getD k 0)) % 1000000000) hj
    rw [val_take_succ]
    generalize L.getD (i + k) 0 = a at *
    generalize y.getD k 0 = e at *
    generalize hs : c + (a + v * e) = s at *
    rw [Nat.mul_add v, Nat.mul_add (1000000000 ^ i), show i + (k + 1) = (i + k) + 1 by omega, Nat.pow_succ]
    have e1 : 1000000000 ^ i * (v * (1000000000 ^ k * e)) = 1000000000 ^ (i + k) * (v * e) := by
      rw [Nat.pow_add, Nat.mul_left_comm v, ← Nat.mul_assoc]
    rw [e1]
    generalize 1000000000 ^ (i + k) = q at *
    generalize v * e = ve at *
    have e2 : q * (s % 1000000000) + q * 1000000000 * (s / 1000000000) = q * s := by
      rw [Nat.mul_assoc, ← Nat.mul_add, Nat.mod_add_div]
    have e3 : q * s = q * c + q * a + q * ve := by rw [← hs, Nat.mul_add, Nat.mul_add]; omega
    omega
theorem MulIn.carry (c a v e : Nat) (hc : c < 1000000000) (ha : a < 1000000000) (hv : v < 1000000000) (he : e < 1000000000) : c + (a + v * e) < 1000000000 * 1000000000 := by
  have : v * e ≤ 999999999 * 999999999 := Nat.mul_le_mul (by omega) (by omega)
  omega

def MulOut (x : List Nat) (Y i : Nat) (L : List Nat) : Prop := (∀ z ∈ L, z < 1000000000) ∧ val 1000000000 L = val 1000000000 (x.take i) * Y
theorem MulOut.begin {x y : List Nat} {i : Nat} {L : List Nat} (h : MulOut x (val 1000000000 y) i L) (v : Nat) : MulIn (val 1000000000 (x.take i) * val 1000000000 y) i v y 0 0 L := ⟨h.1, by rw [h.2]; simp [val]⟩
theorem MulIn.done {x y : List Nat} {i c k : Nat} {L : List Nat} (hx : ∀ z ∈ x, z < 1000000000) (hy : ∀ z ∈ y, z < 1000000000) (hi : i < x.length) (hk : k = y.length + 1)
    (h : MulIn (val 1000000000 (x.take i) * val 1000000000 y) i (x.getD i 0) y k c L) : MulOut x (val 1000000000 y) (i + 1) L := by
  subst hk
  obtain ⟨h1, h2⟩ := h
  refine ⟨h1, ?_⟩
  rw [List.take_of_length_le (l := y) (by omega)] at h2
  have e : val 1000000000 (x.take (i + 1)) * val 1000000000 y = val 1000000000 (x.take i) * val 1000000000 y + 1000000000 ^ i * (x.getD i 0 * val 1000000000 y) := by
    rw [val_take_succ, Nat.add_mul, Nat.mul_assoc]
  rw [← e] at h2
  have b1 := val_lt 1000000000 (x.take (i + 1)) (fun z hz => hx z (List.mem_of_mem_take hz))
  have b2 := val_lt 1000000000 y hy
  rw [List.length_take, Nat.min_eq_left (by omega)] at b1
  rcases Nat.eq_zero_or_pos c with h0 | h0
  · subst h0; rw [Nat.mul_zero, Nat.add_zero] at h2; exact h2
  · exfalso
    have b3 : val 1000000000 (x.take (i + 1)) * val 1000000000 y < 1000000000 ^ (i + 1) * 1000000000 ^ y.length := by
      apply Nat.mul_lt_mul_of_lt_of_le b1 (Nat.le_of_lt b2)
      exact Nat.pos_of_ne_zero (by simp)
    rw [← Nat.pow_add, show i + 1 + y.length = i + (y.length + 1) by omega] at b3
    have b4 : 1000000000 ^ (i + (y.length + 1)) * 1 ≤ 1000000000 ^ (i + (y.length + 1)) * c := Nat.mul_le_mul_left _ h0
    rw [← h2] at b3
    generalize 1000000000 ^ (i + (y.length + 1)) * c = Q at b3 b4
    generalize 1000000000 ^ (i + (y.length + 1)) = R at b3 b4
    omega
theorem MulOut.done {x : List Nat} {Y i : Nat} {L : List Nat} (h : MulOut x Y i L) (hi : x.length ≤ i) : trimL L = digs 1000000000 (val 1000000000 x * Y) := by
  rw [trimL_digs 1000000000 (by omega) L h.1, h.2, List.take_of_length_le hi]
theorem MulOut.zero (x : List Nat) (Y n : Nat) : MulOut x Y 0 (List.replicate n 0) := by
  refine ⟨fun z hz => by rw [List.mem_replicate] at hz; omega, ?_⟩
  have : val 1000000000 (List.replicate n 0) = 0 := by
    induction n with
    | zero => rfl
    | succ n ih => rw [List.replicate_succ, val, ih]
  rw [this]; simp [val]

end Go.Proofs.YtmmlclgmehfmhaaDoor
