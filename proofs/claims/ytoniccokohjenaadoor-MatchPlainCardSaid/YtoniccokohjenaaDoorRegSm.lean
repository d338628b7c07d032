/-
  Plain Lean: a tree that was read has few parts at each place (chapter 18). No program in sight.
-/
import Derived.Test.YtoniccokohjenaaDoorRegSd
namespace Go.Proofs.YtoniccokohjenaaDoor

/-- at most m parts at each place -/
inductive Sm (m : Nat) : Rx → Prop where
  | mk {t : Rx} : t.kids.length ≤ m → (∀ k ∈ t.kids, Sm m k) → Sm m t
theorem Sm.len {m : Nat} {t : Rx} (h : Sm m t) : t.kids.length ≤ m := by cases h; assumption
theorem Sm.kid {m : Nat} {t : Rx} (h : Sm m t) : ∀ k ∈ t.kids, Sm m k := by cases h; assumption
theorem Sm.leaf {m : Nat} {t : Rx} (h : t.kids = []) : Sm m t := .mk (by rw [h]; exact Nat.zero_le _) (by rw [h]; intro k hk; cases hk)
theorem Sm.one {m : Nat} {t x : Rx} (hm : 1 ≤ m) (h : t.kids = [x]) (hx : Sm m x) : Sm m t := .mk (by rw [h]; exact hm) (by rw [h]; intro k hk; obtain rfl := List.mem_singleton.1 hk; exact hx)
def Sms (m : Nat) (xs : List Rx) : Prop := ∀ k ∈ xs, Sm m k
theorem Sms.nil (m : Nat) : Sms m [] := fun k hk => by cases hk
theorem Sms.cons {m : Nat} {x : Rx} {xs : List Rx} (h : Sm m x) (k : Sms m xs) : Sms m (x :: xs) := fun y hy => by
  rcases List.mem_cons.1 hy with rfl | hy
  · exact h
  · exact k y hy

variable {free : Bool} {l : List Int} {m : Nat}
theorem one_sm {s s' : PS} {v : Rx × Bool} (h : oneR l s = .ok v s') : Sm m v.1 := by
  unfold oneR at h
  simp only at h
  split at h
  · exact (failR_ok h).elim
  split at h
  · split at h
    · injection h with h1 _; subst h1; exact .leaf rfl
    · obtain ⟨c, s1, h1, h2⟩ := bind_ok h
      injection h2 with h3 _; subst h3; exact .leaf rfl
  · injection h with h1 _; subst h1; exact .leaf rfl
theorem item_sm {s s' : PS} {v : Rx} (h : itemR l s = .ok v s') : Sm m v := by
  unfold itemR at h
  obtain ⟨x, s1, h1, h2⟩ := bind_ok h
  split at h2
  · obtain ⟨y, s2, h3, h4⟩ := bind_ok h2
    split at h4
    · exact (failR_ok h4).elim
    · injection h4 with h5 _; subst h5
      exact .leaf rfl
  · injection h2 with h3 _; subst h3; exact one_sm h1
theorem items_sm : ∀ (f : Nat) (s s' : PS) (v : List Rx), itemsR l f s = .ok v s' → Sms m v ∧ v.length ≤ f
  | 0, s, s', v, h => by cases h
  | f + 1, s, s', v, h => by
    unfold itemsR at h
    obtain ⟨x, s1, h1, h2⟩ := bind_ok h
    split at h2
    · injection h2 with h3 _; subst h3; exact ⟨.cons (item_sm h1) (.nil m), by simp⟩
    · obtain ⟨xs, s2, h3, h4⟩ := bind_ok h2
      injection h4 with h5 _; subst h5
      have := items_sm f _ _ _ h3
      exact ⟨.cons (item_sm h1) this.1, by have := this.2; simp; omega⟩
theorem set_sm {s s' : PS} {v : Rx} (hm : l.length + 1 ≤ m) (h : setR l s = .ok v s') : Sm m v := by
  unfold setR at h
  split at h
  · obtain ⟨xs, s1, h1, h2⟩ := bind_ok h
    injection h2 with h3 _; subst h3
    have := items_sm (m := m) _ _ _ _ h1
    exact .mk (Nat.le_trans this.2 hm) this.1
  · obtain ⟨xs, s1, h1, h2⟩ := bind_ok h
    injection h2 with h3 _; subst h3
    have := items_sm (m := m) _ _ _ _ h1
    exact .mk (Nat.le_trans this.2 hm) this.1

section
variable {rec : PS → PR Rx} (hrec : ∀ s v s', rec s = .ok v s' → Sm m v) (hm : l.length + 2 ≤ m)
include hrec hm
theorem group_sm {s s' : PS} {v : Rx} (h : groupR l rec s = .ok v s') : Sm m v := by
  unfold groupR at h
  split at h
  · cases h
  obtain ⟨n, s1, h1, h2⟩ := bind_ok h
  unfold restR at h2
  obtain ⟨x, s2, h3, h4⟩ := bind_ok h2
  have hr := hrec _ _ _ h3
  split at h4
  · injection h4 with h5 h6
    subst h5 h6
    cases n with
    | none => exact hr
    | some k => exact .one (by omega) rfl hr
  · exact (failR_ok h4).elim
theorem atom_sm {s s' : PS} {v : Rx} (h : atomR l rec s = .ok v s') : Sm m v := by
  unfold atomR at h
  simp only at h
  split at h
  · exact (failR_ok h).elim
  split at h
  · exact group_sm hrec hm h
  split at h
  · exact set_sm (by omega) h
  split at h
  · injection h with h1 h2; subst h1 h2; exact .leaf rfl
  split at h
  · injection h with h1 h2; subst h1 h2; exact .leaf rfl
  split at h
  · injection h with h1 h2; subst h1 h2; exact .leaf rfl
  split at h
  · split at h
    · injection h with h1 h2; subst h1 h2; exact .leaf rfl
    · split at h
      · injection h with h1 h2; subst h1 h2; exact .leaf rfl
      · obtain ⟨c, s1, h1, h2⟩ := bind_ok h
        injection h2 with h3 h4; subst h3 h4
        exact .leaf rfl
  · injection h with h1 h2; subst h1 h2; exact .leaf rfl
theorem part_sm {s s' : PS} {v : Rx} (h : partR free l rec s = .ok v s') : Sm m v := by
  unfold partR at h
  obtain ⟨x, s1, h1, h2⟩ := bind_ok h
  have ha := atom_sm hrec hm h1
  simp only at h2
  have key : ∀ {p q : Int} {s2 : PS}, lazyR free l x p q s2 = .ok v s' → Sm m v := fun h3 => by
    unfold lazyR at h3
    simp only at h3
    split at h3 <;> (injection h3 with h4 h5; subst h4 h5; exact .one (by omega) rfl ha)
  split at h2
  · exact key h2
  split at h2
  · exact key h2
  split at h2
  · exact key h2
  split at h2
  · obtain ⟨q, s2, h3, h4⟩ := bind_ok h2
    exact key h4
  · injection h2 with h3 h4; subst h3 h4; exact ha
theorem parts_sm : ∀ (f : Nat) (s s' : PS) (v : List Rx), partsR free l rec f s = .ok v s' → Sms m v ∧ v.length ≤ f
  | 0, s, s', v, h => by cases h
  | f + 1, s, s', v, h => by
    unfold partsR at h
    split at h
    · obtain ⟨x, s1, h1, h2⟩ := bind_ok h
      obtain ⟨xs, s2, h3, h4⟩ := bind_ok h2
      injection h4 with h5 h6; subst h5 h6
      have h7 := parts_sm f _ _ _ h3
      exact ⟨.cons (part_sm hrec hm h1) h7.1, by have := h7.2; simp; omega⟩
    · injection h with h1 h2; subst h1 h2; exact ⟨.nil m, Nat.zero_le _⟩
theorem seq_sm {s s' : PS} {v : Rx} (h : seqR free l rec s = .ok v s') : Sm m v := by
  unfold seqR at h
  obtain ⟨xs, s1, h1, h2⟩ := bind_ok h
  injection h2 with h3 h4; subst h3 h4
  have h7 := parts_sm hrec hm _ _ _ _ h1
  match xs, h7 with
  | [], _ => exact .leaf rfl
  | [x], h7 => exact h7.1 x (List.mem_singleton.2 rfl)
  | x :: y :: r, h7 => exact .mk (Nat.le_trans h7.2 (by omega)) h7.1
theorem alts_sm : ∀ (f : Nat) (s s' : PS) (v : List Rx), altsR free l rec f s = .ok v s' → Sms m v ∧ v.length ≤ f
  | 0, s, s', v, h => by cases h
  | f + 1, s, s', v, h => by
    unfold altsR at h
    split at h
    · obtain ⟨x, s1, h1, h2⟩ := bind_ok h
      obtain ⟨xs, s2, h3, h4⟩ := bind_ok h2
      injection h4 with h5 h6; subst h5 h6
      have h7 := alts_sm f _ _ _ h3
      exact ⟨.cons (seq_sm hrec hm h1) h7.1, by have := h7.2; simp; omega⟩
    · injection h with h1 h2; subst h1 h2; exact ⟨.nil m, Nat.zero_le _⟩
theorem alt_sm {s s' : PS} {v : Rx} (h : altR free l rec s = .ok v s') : Sm m v := by
  unfold altR at h
  obtain ⟨x, s1, h1, h2⟩ := bind_ok h
  obtain ⟨xs, s2, h3, h4⟩ := bind_ok h2
  injection h4 with h5 h6; subst h5 h6
  have hx := seq_sm hrec hm h1
  have hxs := alts_sm hrec hm _ _ _ _ h3
  match xs, hxs with
  | [], _ => exact hx
  | y :: r, hxs => exact .mk (by have := hxs.2; show (x :: y :: r).length ≤ m; simp only [List.length_cons] at this ⊢; omega) (Sms.cons hx hxs.1)
end
theorem altF_sm (hm : l.length + 2 ≤ m) : ∀ (n : Nat) (s s' : PS) (v : Rx), altF free l n s = .ok v s' → Sm m v
  | 0, s, s', v, h => by cases h
  | n + 1, s, s', v, h => alt_sm (fun s v s' h => altF_sm hm n s s' v h) hm h
theorem parse_sm (x : Rx) (ns : List (List UInt8)) (a e : Nat) (h : parseL free l = (x, ns, a, e)) : Sm 1002 x ∧ ns.length ≤ 1000 := by
  unfold parseL at h
  split at h
  · injection h with h1 h2; injection h2 with h2 _; subst h1 h2; exact ⟨.leaf rfl, Nat.zero_le _⟩
  · rename_i hl
    split at h
    · injection h with h1 h2; injection h2 with h2 _; subst h1 h2; exact ⟨.leaf rfl, Nat.zero_le _⟩
    · rename_i y s hp
      split at h
      · injection h with h1 h2; injection h2 with h2 _; subst h1 h2; exact ⟨.leaf rfl, Nat.zero_le _⟩
      · injection h with h1 h2; injection h2 with h2 _; subst h1 h2
        refine ⟨altF_sm (by omega) _ _ _ _ hp, ?_⟩
        obtain ⟨t, ht, htl⟩ := (altF_adv 51 _ _ _ hp).names
        have hle := (altF_adv 51 _ _ _ hp).le (Nat.zero_le _)
        rw [ht]
        simp only [List.nil_append]
        have htl : t.length ≤ s.pos - 0 := htl
        omega
end Go.Proofs.YtoniccokohjenaaDoor
