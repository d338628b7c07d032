/-
  Plain Lean: a pattern with neither blanks nor notes, with blanks ahead and a note behind (chapter 18). No program in sight.
-/
import Derived.Test.YtoniccokohjenaaRegU
import Derived.Test.YtoniccokohjenaaRegSd
namespace Go.Proofs.Ytoniccokohjenaa

/-- neither blanks nor notes -/
def NoBl (l : List Int) : Prop := ∀ c ∈ l, blkI c = false ∧ c ≠ 35
section
variable {l : List Int} (hb : NoBl l)
include hb
theorem skip_nobl (s : PS) : skipS' true l s = s := by
  unfold skipS' skipP
  have h0 : skipL false (l.drop s.pos) = 0 := by
    rcases Nat.lt_or_ge s.pos l.length with hlt | hge
    · rw [List.drop_eq_getElem_cons hlt, skipL]
      have := hb _ (List.getElem_mem hlt)
      rw [this.1, if_neg (by simp), if_neg this.2]
    · rw [List.drop_eq_nil_of_le hge]; rfl
  simp only [if_true, h0, Nat.add_zero]
theorem lazy_free (x : Rx) (a b : Int) (s : PS) : lazyR true l x a b s = lazyR false l x a b s := by
  unfold lazyR; rw [skip_nobl hb]; rfl
theorem part_free (rec : PS → PR Rx) (s : PS) : partR true l rec s = partR false l rec s := by
  unfold partR
  congr 1
  funext x s1
  rw [skip_nobl hb]
  simp only [lazy_free hb]
  rfl
theorem parts_free (rec : PS → PR Rx) : ∀ (f : Nat) (s : PS), partsR true l rec f s = partsR false l rec f s
  | 0, s => rfl
  | f + 1, s => by
    rw [partsR, partsR, part_free hb]
    split
    · congr 1
      funext x s1
      rw [skip_nobl hb, parts_free rec f]; rfl
    · rfl
theorem seq_free (rec : PS → PR Rx) (s : PS) : seqR true l rec s = seqR false l rec s := by
  unfold seqR; rw [parts_free hb, skip_nobl hb]; rfl
theorem alts_free (rec : PS → PR Rx) : ∀ (f : Nat) (s : PS), altsR true l rec f s = altsR false l rec f s
  | 0, s => rfl
  | f + 1, s => by
    rw [altsR, altsR, seq_free hb]
    split
    · congr 1
      funext x s1
      rw [alts_free rec f]
    · rfl
theorem altF_free : ∀ (n : Nat) (s : PS), altF true l n s = altF false l n s
  | 0, s => rfl
  | n + 1, s => by
    have h : altF true l n = altF false l n := funext fun s => altF_free n s
    rw [altF_succ, altF_succ, h]
    unfold altR
    rw [seq_free hb]
    congr 1
    funext x s1
    rw [alts_free hb]
/-- read alike where blanks and notes may stand -/
theorem parse_free : parseL true l = parseL false l := by
  unfold parseL; rw [altF_free hb]
end

/-! ### blanks ahead and a note behind -/
theorem digL_end32 : ∀ (k : Nat) (x y : List Int) (n : Nat), digL k (x ++ 32 :: y) n = digL k x n
  | 0, x, y, n => by cases x <;> rfl
  | k + 1, [], y, n => by simp [digL, digI]
  | k + 1, c :: x, y, n => by rw [List.cons_append, digL, digL, digL_end32 k x y]
theorem nmL_stop : ∀ (k : Bool) (x y : List Int), nmL k (x ++ 32 :: y) = nmL k x
  | k, [], y => by simp [nmL, ltrI, digI]
  | k, c :: x, y => by rw [List.cons_append, nmL, nmL, nmL_stop true x y]

def noteL : List Int := [35, 32, 110, 111, 116, 101]
/-- the state two signs on -/
def sh (s : PS) : PS := { s with pos := s.pos + 2 }
section
variable (l : List Int)
def wrapL : List Int := 32 :: 10 :: (l ++ 32 :: noteL)
theorem wrap_drop (p : Nat) (hp : p ≤ l.length) : (wrapL l).drop (p + 2) = l.drop p ++ 32 :: noteL := by
  show ((l ++ 32 :: noteL)).drop p = _
  rw [List.drop_append_of_le_length hp]
theorem wrap_len : (wrapL l).length = l.length + 9 := by unfold wrapL noteL; simp
theorem wrap_due (p : Nat) (hp : p < l.length) : due (wrapL l) (p + 2) = due l p := by
  rw [due_at hp, due_at (by rw [wrap_len]; omega)]
  show (l ++ 32 :: noteL)[p]'_ = _
  rw [List.getElem_append_left hp]
theorem wrap_end : due (wrapL l) (l.length + 2) = 32 := by
  rw [due_at (by rw [wrap_len]; omega)]
  show (l ++ 32 :: noteL)[l.length]'_ = 32
  rw [List.getElem_append_right (Nat.le_refl _)]
  simp
variable {l}
theorem wrap_is {p : Nat} {c : Int} (h : due l p = c) (hc : c ≠ -1) : due (wrapL l) (p + 2) = c := by
  rw [wrap_due l p (due_lt h hc)]; exact h
theorem wrap_not {p : Nat} {c : Int} (hp : p ≤ l.length) (h : due l p ≠ c) (hc : c ≠ 32) : due (wrapL l) (p + 2) ≠ c := by
  rcases Nat.lt_or_ge p l.length with h1 | h1
  · rw [wrap_due l p h1]; exact h
  · obtain rfl : p = l.length := by omega
    rw [wrap_end]; exact fun e => hc e.symm

theorem number_sh {least : Nat} {s s1 : PS} {v : Nat} (hp : s.pos ≤ l.length) (h : numberR l least s = .ok v s1) : numberR (wrapL l) least (sh s) = .ok v (sh s1) := by
  unfold numberR at h ⊢
  rw [show (sh s).pos = s.pos + 2 from rfl, wrap_drop l _ hp, digL_end32]
  simp only at h ⊢
  split at h
  · exact (failR_ok h).elim
  rename_i h0
  rw [if_neg h0]
  split at h
  · exact (failR_ok h).elim
  rename_i h1
  rw [if_neg h1]
  injection h with h2 h3
  subst h2 h3
  unfold sh
  simp only
  congr 2; omega
theorem most_sh {least : Nat} {s s1 : PS} {v : Int} (hp : s.pos ≤ l.length) (h : mostR l least s = .ok v s1) : mostR (wrapL l) least (sh s) = .ok v (sh s1) := by
  unfold mostR at h ⊢
  rw [show (sh s).pos = s.pos + 2 from rfl]
  split at h
  · rename_i h44
    rw [if_pos (wrap_is h44 (by decide))]
    have hlt := due_lt h44 (by decide)
    rw [show s.pos + 2 + 1 = (s.pos + 1) + 2 by omega]
    split at h
    · rename_i h125
      rw [if_pos (wrap_is h125 (by decide))]
      injection h with h1 h2; subst h1 h2; rfl
    · rename_i h125
      rw [if_neg (wrap_not (by omega) h125 (by decide))]
      obtain ⟨n, s2, h1, h2⟩ := bind_ok h
      injection h2 with h3 h4; subst h3 h4
      have := number_sh (s := { s with pos := s.pos + 1 }) (by simp only; omega) h1
      rw [show ({ sh s with pos := s.pos + 1 + 2 } : PS) = sh { s with pos := s.pos + 1 } from rfl, this]
      rfl
  · rename_i h44
    rw [if_neg (wrap_not hp h44 (by decide))]
    injection h with h1 h2; subst h1 h2; rfl
theorem times_sh {s s1 : PS} {v : Nat × Int} (hp : s.pos ≤ l.length) (h : timesR l s = .ok v s1) : timesR (wrapL l) (sh s) = .ok v (sh s1) := by
  unfold timesR at h ⊢
  obtain ⟨a, s2, h1, h2⟩ := bind_ok h
  obtain ⟨b, s3, h3, h4⟩ := bind_ok h2
  have n1 := number_adv h1
  have hp2 := n1.1.le hp
  have m1 := most_adv n1.2.1 h3
  have hp3 := m1.1.le hp2
  rw [number_sh hp h1]
  simp only [PR.bind]
  rw [most_sh hp2 h3]
  simp only
  split at h4
  · rename_i h125
    rw [show (sh s3).pos = s3.pos + 2 from rfl, if_pos (wrap_is h125 (by decide))]
    injection h4 with h5 h6; subst h5 h6; rfl
  · exact (failR_ok h4).elim
theorem lit_sh {s s1 : PS} {v : Int} (hp : s.pos ≤ l.length) (h : litR l s = .ok v s1) : litR (wrapL l) (sh s) = .ok v (sh s1) := by
  have hlt : s.pos < l.length := by
    have := lit_adv h
    have h2 := this.1.le hp
    omega
  unfold litR at h ⊢
  rw [show (sh s).pos = s.pos + 2 from rfl, wrap_due l _ hlt]
  split at h
  · injection h with h1 h2; subst h1 h2; rename_i h0; rw [if_pos h0]; rfl
  rename_i h0; rw [if_neg h0]
  split at h
  · injection h with h1 h2; subst h1 h2; rename_i h0; rw [if_pos h0]; rfl
  rename_i h0; rw [if_neg h0]
  split at h
  · injection h with h1 h2; subst h1 h2; rename_i h0; rw [if_pos h0]; rfl
  rename_i h0; rw [if_neg h0]
  split at h
  · injection h with h1 h2; subst h1 h2; rename_i h0; rw [if_pos h0]; rfl
  · exact (failR_ok h).elim
theorem one_sh {s s1 : PS} {v : Rx × Bool} (hp : s.pos ≤ l.length) (h : oneR l s = .ok v s1) : oneR (wrapL l) (sh s) = .ok v (sh s1) := by
  have hlt : s.pos < l.length := by
    have := one_adv h
    have h2 := this.1.le hp
    omega
  unfold oneR at h ⊢
  rw [show (sh s).pos = s.pos + 2 from rfl, wrap_due l _ hlt]
  simp only at h ⊢
  split at h
  · exact (failR_ok h).elim
  rename_i h0; rw [if_neg h0]
  split at h
  · rename_i h92
    rw [if_pos h92, show s.pos + 2 + 1 = (s.pos + 1) + 2 by omega]
    split at h
    · rename_i r n hc
      have hc2 : classI (due (wrapL l) (s.pos + 1 + 2)) = some (r, n) := by
        rw [wrap_due l _ (due_lt rfl (classI_ne hc))]; exact hc
      rw [hc2]
      injection h with h1 h2; subst h1 h2; rfl
    · rename_i hc
      obtain ⟨c, s2, h1, h2⟩ := bind_ok h
      have hl1 := lit_adv h1
      have hlt2 : s.pos + 1 < l.length := by
        have h3 := hl1.1.le (by simp only; omega)
        have := hl1.2.1
        simp only at this
        omega
      have hc2 : classI (due (wrapL l) (s.pos + 1 + 2)) = none := by rw [wrap_due l _ hlt2]; exact hc
      rw [hc2]
      have := lit_sh (s := { s with pos := s.pos + 1 }) (by simp only; omega) h1
      simp only
      rw [show ({ sh s with pos := s.pos + 1 + 2 } : PS) = sh { s with pos := s.pos + 1 } from rfl, this]
      simp only [PR.bind]
      injection h2 with h3 h4; subst h3 h4; rfl
  · rename_i h92
    rw [if_neg h92]
    injection h with h1 h2; subst h1 h2; rfl
theorem item_sh {s s1 : PS} {v : Rx} (hp : s.pos ≤ l.length) (h : itemR l s = .ok v s1) (hcl : due l s1.pos = 93 ∨ s1.pos + 1 < l.length) : itemR (wrapL l) (sh s) = .ok v (sh s1) := by
  unfold itemR at h ⊢
  obtain ⟨x, s2, h1, h2⟩ := bind_ok h
  have hp2 := (one_adv h1).1.le hp
  rw [one_sh hp h1]
  simp only [PR.bind]
  have hpos : s2.pos ≤ s1.pos := by
    split at h2
    · obtain ⟨y, s3, h3, h4⟩ := bind_ok h2
      have := (one_adv h3).2.1
      split at h4
      · exact (failR_ok h4).elim
      · injection h4 with _ h5; subst h5; simp only at this; omega
    · injection h2 with _ h3; subst h3; exact Nat.le_refl _
  have hlt : s1.pos < l.length := by
    rcases hcl with h | h
    · exact due_lt h (by decide)
    · omega
  have hlt2 : s2.pos < l.length := by omega
  rw [show (sh s2).pos = s2.pos + 2 from rfl, wrap_due l _ hlt2, wrap_len]
  split at h2
  · rename_i hc
    have hd : due (wrapL l) (s2.pos + 2 + 1) = due l (s2.pos + 1) := by rw [show s2.pos + 2 + 1 = (s2.pos + 1) + 2 by omega, wrap_due l _ hc.2.2.1]
    rw [if_pos ⟨hc.1, hc.2.1, by omega, by rw [hd]; exact hc.2.2.2⟩]
    obtain ⟨y, s3, h3, h4⟩ := bind_ok h2
    rw [show ({ sh s2 with pos := s2.pos + 2 + 1 } : PS) = sh { s2 with pos := s2.pos + 1 } from rfl, one_sh (by simp only; omega) h3]
    simp only
    split at h4
    · exact (failR_ok h4).elim
    · rename_i hn
      rw [if_neg hn]
      injection h4 with h5 h6; subst h5 h6; rfl
  · rename_i hc
    injection h2 with h3 h4
    have hnc : ¬ (x.2 = true ∧ due l s2.pos = 45 ∧ s2.pos + 2 + 1 < l.length + 9 ∧ due (wrapL l) (s2.pos + 2 + 1) ≠ 93) := fun hh => by
      rw [← h4] at hcl
      rcases hcl with h | h
      · rw [h] at hh; exact absurd hh.2.1 (by decide)
      · refine hc ⟨hh.1, hh.2.1, h, ?_⟩
        rw [← wrap_due l _ h]; exact hh.2.2.2
    rw [if_neg hnc]
    subst h3 h4; rfl
theorem items_sh : ∀ (f f' : Nat) (s s1 : PS) (v : List Rx), f ≤ f' → s.pos ≤ l.length → itemsR l f s = .ok v s1 → itemsR (wrapL l) f' (sh s) = .ok v (sh s1)
  | 0, _, s, s1, v, _, _, h => by cases h
  | f + 1, f', s, s1, v, hf, hp, h => by
    obtain ⟨f', rfl⟩ : ∃ k, f' = k + 1 := ⟨f' - 1, by omega⟩
    rw [itemsR] at h ⊢
    obtain ⟨x, s2, h1, h2⟩ := bind_ok h
    have hp2 := (item_adv h1).1.le hp
    split at h2
    · rename_i h93
      rw [item_sh hp h1 (.inl h93)]
      simp only [PR.bind]
      rw [show (sh s2).pos = s2.pos + 2 from rfl, if_pos (wrap_is h93 (by decide))]
      injection h2 with h3 h4; subst h3 h4; rfl
    · rename_i h93
      obtain ⟨xs, s3, h3, h4⟩ := bind_ok h2
      have hlt : s2.pos + 1 < l.length := by
        cases f with
        | zero => cases h3
        | succ f =>
          rw [itemsR] at h3
          obtain ⟨y, s4, h5, h6⟩ := bind_ok h3
          have k1 := item_adv h5
          have k2 := k1.1.le hp2
          split at h6
          · rename_i h7
            have := due_lt h7 (by decide)
            omega
          · obtain ⟨ys, s5, h7, h8⟩ := bind_ok h6
            have k3 := items_adv _ _ _ _ h7
            have k4 := k3.1.le k2
            omega
      rw [item_sh hp h1 (.inr hlt)]
      simp only [PR.bind]
      rw [show (sh s2).pos = s2.pos + 2 from rfl, if_neg (wrap_not hp2 h93 (by decide)), items_sh f f' s2 s3 xs (by omega) hp2 h3]
      simp only
      injection h4 with h5 h6; subst h5 h6; rfl
theorem set_sh {s s1 : PS} {v : Rx} (hp : s.pos ≤ l.length) (h : setR l s = .ok v s1) : setR (wrapL l) (sh s) = .ok v (sh s1) := by
  unfold setR at h ⊢
  rw [show (sh s).pos = s.pos + 2 from rfl, wrap_len]
  split at h
  · rename_i h94
    have hlt := due_lt h94 (by decide)
    obtain ⟨xs, s2, h1, h2⟩ := bind_ok h
    rw [if_pos (wrap_is h94 (by decide)), show ({ sh s with pos := s.pos + 2 + 1 } : PS) = sh { s with pos := s.pos + 1 } from rfl, items_sh _ (l.length + 9 + 1) _ _ _ (by omega) (by simp only; omega) h1]
    injection h2 with h3 h4; subst h3 h4; rfl
  · rename_i h94
    obtain ⟨xs, s2, h1, h2⟩ := bind_ok h
    rw [if_neg (wrap_not hp h94 (by decide)), items_sh _ (l.length + 9 + 1) _ _ _ (by omega) hp h1]
    injection h2 with h3 h4; subst h3 h4; rfl
theorem name_sh {s s1 : PS} {v : List UInt8} (hp : s.pos ≤ l.length) (h : nameR l s = .ok v s1) : nameR (wrapL l) (sh s) = .ok v (sh s1) := by
  have ha := name_adv h
  have hle := ha.1.le hp
  unfold nameR at h ⊢
  rw [show (sh s).pos = s.pos + 2 from rfl, wrap_drop l _ hp, nmL_stop]
  simp only at h ⊢
  generalize nmL false (l.drop s.pos) = n at h ⊢
  split at h
  · exact (failR_ok h).elim
  rename_i h0
  have h62 : due l (s.pos + n.length) = 62 := Decidable.of_not_not fun e => h0 (.inr e)
  have hn : n ≠ [] := fun e => h0 (.inl e)
  have hd : due (wrapL l) (s.pos + 2 + n.length) = 62 := by
    rw [show s.pos + 2 + n.length = (s.pos + n.length) + 2 by omega]; exact wrap_is h62 (by decide)
  rw [if_neg (fun e => e.elim hn (fun e => e hd))]
  split at h
  · exact (failR_ok h).elim
  · rename_i h1
    rw [show (sh s).names = s.names from rfl, if_neg h1]
    injection h with h2 h3; subst h2 h3
    unfold sh
    simp only
    congr 2; omega
theorem head_sh {s s1 : PS} {v : Option (List UInt8)} (hp : s.pos ≤ l.length) (h : headR l s = .ok v s1) : headR (wrapL l) (sh s) = .ok v (sh s1) := by
  unfold headR at h ⊢
  rw [show (sh s).pos = s.pos + 2 from rfl]
  split at h
  · rename_i h63
    have hlt := due_lt h63 (by decide)
    rw [if_pos (wrap_is h63 (by decide)), show s.pos + 2 + 1 = (s.pos + 1) + 2 by omega]
    split at h
    · rename_i h58
      rw [if_pos (wrap_is h58 (by decide))]
      injection h with h1 h2; subst h1 h2; rfl
    rename_i h58
    rw [if_neg (wrap_not (by omega) h58 (by decide))]
    split at h
    · rename_i h60
      have hlt2 := due_lt h60 (by decide)
      rw [if_pos (wrap_is h60 (by decide))]
      obtain ⟨n, s2, h1, h2⟩ := bind_ok h
      rw [show ({ sh s with pos := s.pos + 2 + 2 } : PS) = sh { s with pos := s.pos + 2 } from rfl, name_sh (by simp only; omega) h1]
      simp only [PR.bind]
      injection h2 with h3 h4; subst h3 h4; rfl
    · exact (failR_ok h).elim
  · rename_i h63
    rw [if_neg (wrap_not hp h63 (by decide))]
    injection h with h1 h2; subst h1 h2; rfl

/-- within the pattern: two signs on; at its end: at the end -/
def RelS (l : List Int) (s s' : PS) : Prop := s'.deep = s.deep ∧ s'.names = s.names ∧ ((s.pos < l.length ∧ s'.pos = s.pos + 2) ∨ (s.pos = l.length ∧ s'.pos = (wrapL l).length))
theorem RelS.due {s s' : PS} (h : RelS l s s') : due (wrapL l) s'.pos = due l s.pos := by
  rcases h.2.2 with ⟨h1, h2⟩ | ⟨h1, h2⟩
  · rw [h2]; exact wrap_due l _ h1
  · rw [h2, due_past (Nat.le_refl _), due_past (by omega)]
theorem RelS.lt {s s' : PS} (h : RelS l s s') : s'.pos < (wrapL l).length ↔ s.pos < l.length := by
  have := wrap_len l
  rcases h.2.2 with ⟨h1, h2⟩ | ⟨h1, h2⟩ <;> omega
/-- a sign on -/
theorem RelS.on {s s' : PS} (h : RelS l s s') (hlt : s.pos < l.length) : ({ s' with pos := s'.pos + 1 } : PS) = sh { s with pos := s.pos + 1 } := by
  rcases h.2.2 with ⟨_, h2⟩ | ⟨h1, _⟩
  · obtain ⟨p, d, n⟩ := s'
    obtain ⟨h3, h4, _⟩ := h
    simp only at h2 h3 h4
    subst h2 h3 h4
    unfold sh
    rfl
  · omega
variable (hb : NoBl l)
include hb
theorem skip_sh {s : PS} (hp : s.pos ≤ l.length) : RelS l s (skipS' true (wrapL l) (sh s)) := by
  refine ⟨rfl, rfl, ?_⟩
  show _ ∨ (_ ∧ skipP true (wrapL l) (s.pos + 2) = _)
  unfold skipP
  simp only [if_true]
  rcases Nat.lt_or_ge s.pos l.length with hlt | hge
  · refine .inl ⟨hlt, ?_⟩
    show skipP true (wrapL l) (s.pos + 2) = _
    unfold skipP
    rw [wrap_drop l _ hp, List.drop_eq_getElem_cons hlt]
    have := hb _ (List.getElem_mem hlt)
    simp only [List.cons_append, skipL, this.1, if_true]
    rw [if_neg (by simp), if_neg this.2]
  · refine .inr ⟨by omega, ?_⟩
    rw [wrap_drop l _ hp, List.drop_eq_nil_of_le hge, wrap_len]
    have : skipL false ([] ++ 32 :: noteL) = 7 := by decide
    rw [this]; omega
omit hb in
theorem skip_end {s : PS} (h : s.pos = (wrapL l).length) : skipS' true (wrapL l) s = s := by
  unfold skipS' skipP
  simp only [if_true]
  rw [List.drop_eq_nil_of_le (by omega)]; rfl
omit hb in
theorem RelS.sh_of {s s' : PS} (h : RelS l s s') (hlt : s.pos < l.length) : s' = sh s := by
  rcases h.2.2 with ⟨_, h2⟩ | ⟨h1, _⟩
  · obtain ⟨p, d, n⟩ := s'
    obtain ⟨h3, h4, _⟩ := h
    simp only at h2 h3 h4
    subst h2 h3 h4
    rfl
  · omega
/-- two signs on, or as RelS -/
def RelP (l : List Int) (s s' : PS) : Prop := (s' = sh s ∧ s.pos ≤ l.length) ∨ RelS l s s'
theorem RelP.skip {s s' : PS} (h : RelP l s s') : RelS l s (skipS' true (wrapL l) s') := by
  rcases h with ⟨rfl, hp⟩ | h
  · exact skip_sh hb hp
  · rcases h.2.2 with ⟨h1, _⟩ | ⟨_, h2⟩
    · rw [h.sh_of h1]; exact skip_sh hb (by omega)
    · rw [skip_end h2]; exact h
theorem lazy_sh {s s1 : PS} {x v : Rx} {a b : Int} (hp : s.pos ≤ l.length) (h : lazyR false l x a b s = .ok v s1) : ∃ s1', lazyR true (wrapL l) x a b (sh s) = .ok v s1' ∧ RelP l s1 s1' := by
  have hr := skip_sh hb hp
  unfold lazyR at h ⊢
  simp only at h ⊢
  rw [show skipS' false l s = s from rfl] at h
  generalize skipS' true (wrapL l) (sh s) = s' at hr ⊢
  rw [hr.due]
  split at h
  · rename_i h63
    have hlt := due_lt h63 (by decide)
    rw [if_pos h63]
    injection h with h1 h2; subst h1 h2
    exact ⟨_, rfl, .inl ⟨hr.on hlt, by simp only; omega⟩⟩
  · rename_i h63
    rw [if_neg h63]
    injection h with h1 h2; subst h1 h2
    exact ⟨_, rfl, .inr hr⟩
section
variable {rec rec' : PS → PR Rx} (hadv : ∀ s v s', rec s = .ok v s' → Adv l s s') (hrec : ∀ s s1 v, s.pos ≤ l.length → rec s = .ok v s1 → ∃ s1', rec' (sh s) = .ok v s1' ∧ RelS l s1 s1')
include hadv hrec
omit hb hadv in
theorem group_sh {s s1 : PS} {v : Rx} (hlt : s.pos < l.length) (h : groupR l rec s = .ok v s1) : groupR (wrapL l) rec' (sh s) = .ok v (sh s1) := by
  unfold groupR at h ⊢
  rw [show (sh s).deep = s.deep from rfl, show (sh s).names = s.names from rfl]
  split at h
  · cases h
  rename_i h50
  rw [if_neg h50]
  obtain ⟨n, s2, h1, h2⟩ := bind_ok h
  have hh := head_adv h1
  have hp2 : s2.pos ≤ l.length := hh.2.1 (by simp only; omega)
  rw [show (⟨(sh s).pos + 1, s.deep + 1, s.names⟩ : PS) = sh ⟨s.pos + 1, s.deep + 1, s.names⟩ from rfl, head_sh (by simp only; omega) h1]
  simp only [PR.bind, restR] at h2 ⊢
  obtain ⟨x, s3, h3, h4⟩ := bind_ok h2
  obtain ⟨s3', h5, h6⟩ := hrec _ _ _ hp2 h3
  rw [h5]
  simp only [h6.due]
  split at h4
  · rename_i h41
    have hlt3 := due_lt h41 (by decide)
    rw [if_pos h41]
    injection h4 with h7 h8
    rw [← h7, ← h8, h6.sh_of hlt3]; rfl
  · exact (failR_ok h4).elim
omit hb hadv in
theorem atom_sh {s s1 : PS} {v : Rx} (hlt : s.pos < l.length) (h : atomR l rec s = .ok v s1) : atomR (wrapL l) rec' (sh s) = .ok v (sh s1) := by
  unfold atomR at h ⊢
  simp only at h ⊢
  rw [show (sh s).pos = s.pos + 2 from rfl, wrap_due l _ hlt]
  split at h
  · exact (failR_ok h).elim
  rename_i h0; rw [if_neg h0]
  split at h
  · rename_i h1; rw [if_pos h1]; exact group_sh hrec hlt h
  rename_i h1; rw [if_neg h1]
  split at h
  · rename_i h2; rw [if_pos h2]; exact set_sh (s := { s with pos := s.pos + 1 }) (by simp only; omega) h
  rename_i h2; rw [if_neg h2]
  split at h
  · rename_i h3; rw [if_pos h3]; injection h with h4 h5; subst h4 h5; rfl
  rename_i h3; rw [if_neg h3]
  split at h
  · rename_i h4; rw [if_pos h4]; injection h with h5 h6; subst h5 h6; rfl
  rename_i h4; rw [if_neg h4]
  split at h
  · rename_i h5; rw [if_pos h5]; injection h with h6 h7; subst h6 h7; rfl
  rename_i h5; rw [if_neg h5]
  split at h
  · rename_i h6; rw [if_pos h6, show s.pos + 2 + 1 = (s.pos + 1) + 2 by omega]
    split at h
    · rename_i r n hc
      have hc2 : classI (due (wrapL l) (s.pos + 1 + 2)) = some (r, n) := by
        rw [wrap_due l _ (due_lt rfl (classI_ne hc))]; exact hc
      rw [hc2]
      injection h with h1 h2; subst h1 h2; rfl
    · rename_i hc
      split at h
      · rename_i h98
        have hlt2 : s.pos + 1 < l.length := by
          rcases h98 with e | e
          · exact due_lt e (by decide)
          · exact due_lt e (by decide)
        have hd := wrap_due l _ hlt2
        rw [hd, hc]
        simp only
        rw [if_pos h98]
        injection h with h1 h2; subst h1 h2; rfl
      · rename_i h98
        obtain ⟨c, s2, h1, h2⟩ := bind_ok h
        have hl1 := lit_adv h1
        have hlt2 : s.pos + 1 < l.length := by
          have h3 := hl1.1.le (by simp only; omega)
          have := hl1.2.1
          simp only at this
          omega
        rw [wrap_due l _ hlt2, hc]
        simp only
        rw [if_neg h98]
        have := lit_sh (s := { s with pos := s.pos + 1 }) (by simp only; omega) h1
        rw [show ({ sh s with pos := s.pos + 1 + 2 } : PS) = sh { s with pos := s.pos + 1 } from rfl, this]
        simp only [PR.bind]
        injection h2 with h3 h4; subst h3 h4; rfl
  · rename_i h6; rw [if_neg h6]; injection h with h7 h8; subst h7 h8; rfl
theorem part_sh {s s1 : PS} {v : Rx} (hlt : s.pos < l.length) (h : partR false l rec s = .ok v s1) : ∃ s1', partR true (wrapL l) rec' (sh s) = .ok v s1' ∧ RelP l s1 s1' := by
  unfold partR at h ⊢
  obtain ⟨x, s2, h1, h2⟩ := bind_ok h
  have ha := atom_adv hadv hlt h1
  have hp2 := ha.1.le (by omega)
  rw [atom_sh hrec hlt h1]
  simp only [PR.bind]
  have hr := skip_sh hb hp2
  rw [show skipS' false l s2 = s2 from rfl] at h2
  generalize skipS' true (wrapL l) (sh s2) = s2' at hr ⊢
  simp only at h2
  rw [hr.due]
  split at h2
  · rename_i h3
    have hl3 := due_lt h3 (by decide)
    rw [if_pos h3, hr.on hl3]
    exact lazy_sh hb (by simp only; omega) h2
  rename_i h3; rw [if_neg h3]
  split at h2
  · rename_i h4
    have hl3 := due_lt h4 (by decide)
    rw [if_pos h4, hr.on hl3]
    exact lazy_sh hb (by simp only; omega) h2
  rename_i h4; rw [if_neg h4]
  split at h2
  · rename_i h5
    have hl3 := due_lt h5 (by decide)
    rw [if_pos h5, hr.on hl3]
    exact lazy_sh hb (by simp only; omega) h2
  rename_i h5; rw [if_neg h5]
  split at h2
  · rename_i h6
    have hl3 := due_lt h6 (by decide)
    rw [if_pos h6, hr.on hl3]
    obtain ⟨q, s3, h7, h8⟩ := bind_ok h2
    have ht := times_adv h7
    have hp3 := ht.1.le (by simp only; omega)
    rw [times_sh (by simp only; omega) h7]
    exact lazy_sh hb hp3 h8
  · rename_i h6
    rw [if_neg h6]
    injection h2 with h7 h8; subst h7 h8
    exact ⟨_, rfl, .inr hr⟩
theorem parts_sh : ∀ (f f' : Nat) (s s' s1 : PS) (v : List Rx), f ≤ f' → s.pos ≤ l.length → RelS l s s' → partsR false l rec f s = .ok v s1 → ∃ s1', partsR true (wrapL l) rec' f' s' = .ok v s1' ∧ RelS l s1 s1'
  | 0, _, s, s', s1, v, _, _, _, h => by cases h
  | f + 1, f', s, s', s1, v, hf, hp, hr, h => by
    obtain ⟨f', rfl⟩ : ∃ k, f' = k + 1 := ⟨f' - 1, by omega⟩
    rw [partsR] at h ⊢
    rw [hr.due]
    split at h
    · rename_i hc
      rw [if_pos ⟨hr.lt.2 hc.1, hc.2⟩]
      obtain ⟨x, s2, h1, h2⟩ := bind_ok h
      obtain ⟨xs, s3, h3, h4⟩ := bind_ok h2
      rw [show skipS' false l s2 = s2 from rfl] at h3
      have hp2 := (part_adv hadv hc.1 h1).1.le hp
      rw [hr.sh_of hc.1]
      obtain ⟨s2', h5, h6⟩ := part_sh hb hadv hrec hc.1 h1
      rw [h5]
      simp only [PR.bind]
      obtain ⟨s3', h7, h8⟩ := parts_sh f f' s2 _ s3 xs (by omega) hp2 (h6.skip hb) h3
      rw [h7]
      injection h4 with h9 h10; subst h9 h10
      exact ⟨_, rfl, h8⟩
    · rename_i hc
      rw [if_neg (fun h => hc ⟨hr.lt.1 h.1, h.2⟩)]
      injection h with h1 h2; subst h1 h2
      exact ⟨_, rfl, hr⟩
/-- a seq that begins two signs on, or at the blanks ahead -/
theorem seq_sh {s s1 t : PS} {v : Rx} (hp : s.pos ≤ l.length) (ht : skipS' true (wrapL l) t = skipS' true (wrapL l) (sh s)) (h : seqR false l rec s = .ok v s1) : ∃ s1', seqR true (wrapL l) rec' t = .ok v s1' ∧ RelS l s1 s1' := by
  unfold seqR at h ⊢
  rw [ht]
  obtain ⟨xs, s2, h1, h2⟩ := bind_ok h
  rw [show skipS' false l s = s from rfl] at h1
  obtain ⟨s2', h3, h4⟩ := parts_sh hb hadv hrec _ ((wrapL l).length + 1) _ _ _ _ (by rw [wrap_len]; omega) hp (skip_sh hb hp) h1
  rw [h3]
  injection h2 with h5 h6; subst h5 h6
  exact ⟨_, rfl, h4⟩
theorem alts_sh : ∀ (f f' : Nat) (s s' s1 : PS) (v : List Rx), f ≤ f' → RelS l s s' → altsR false l rec f s = .ok v s1 → ∃ s1', altsR true (wrapL l) rec' f' s' = .ok v s1' ∧ RelS l s1 s1'
  | 0, _, s, s', s1, v, _, _, h => by cases h
  | f + 1, f', s, s', s1, v, hf, hr, h => by
    obtain ⟨f', rfl⟩ : ∃ k, f' = k + 1 := ⟨f' - 1, by omega⟩
    rw [altsR] at h ⊢
    rw [hr.due]
    split at h
    · rename_i h124
      have hlt := due_lt h124 (by decide)
      rw [if_pos h124, hr.on hlt]
      obtain ⟨x, s2, h1, h2⟩ := bind_ok h
      obtain ⟨xs, s3, h3, h4⟩ := bind_ok h2
      obtain ⟨s2', h5, h6⟩ := seq_sh hb hadv hrec (s := { s with pos := s.pos + 1 }) (by simp only; omega) rfl h1
      rw [h5]
      simp only [PR.bind]
      obtain ⟨s3', h7, h8⟩ := alts_sh f f' s2 _ s3 xs (by omega) h6 h3
      rw [h7]
      injection h4 with h9 h10; subst h9 h10
      exact ⟨_, rfl, h8⟩
    · rename_i h124
      rw [if_neg h124]
      injection h with h1 h2; subst h1 h2
      exact ⟨_, rfl, hr⟩
theorem alt_sh {s s1 t : PS} {v : Rx} (hp : s.pos ≤ l.length) (ht : skipS' true (wrapL l) t = skipS' true (wrapL l) (sh s)) (h : altR false l rec s = .ok v s1) : ∃ s1', altR true (wrapL l) rec' t = .ok v s1' ∧ RelS l s1 s1' := by
  unfold altR at h ⊢
  obtain ⟨x, s2, h1, h2⟩ := bind_ok h
  obtain ⟨xs, s3, h3, h4⟩ := bind_ok h2
  obtain ⟨s2', h5, h6⟩ := seq_sh hb hadv hrec hp ht h1
  rw [h5]
  simp only [PR.bind]
  obtain ⟨s3', h7, h8⟩ := alts_sh hb hadv hrec _ ((wrapL l).length + 1) s2 _ s3 xs (by rw [wrap_len]; omega) h6 h3
  rw [h7]
  injection h4 with h9 h10; subst h9 h10
  exact ⟨_, rfl, h8⟩
end
theorem altF_sh : ∀ (n : Nat) (s s1 t : PS) (v : Rx), s.pos ≤ l.length → skipS' true (wrapL l) t = skipS' true (wrapL l) (sh s) → altF false l n s = .ok v s1 → ∃ s1', altF true (wrapL l) n t = .ok v s1' ∧ RelS l s1 s1'
  | 0, s, s1, t, v, _, _, h => by cases h
  | n + 1, s, s1, t, v, hp, ht, h => alt_sh hb (fun s v s' h => altF_adv n s s' v h) (fun s s1 v hp h => altF_sh n s s1 (sh s) v hp rfl h) hp ht h
omit hb in
theorem skip_head : skipS' true (wrapL l) ⟨0, 0, []⟩ = skipS' true (wrapL l) (sh ⟨0, 0, []⟩) := by
  unfold skipS' skipP sh
  simp only [if_true]
  have h2 : (wrapL l).drop (0 + 2) = l ++ 32 :: noteL := rfl
  have h0 : skipL false ((wrapL l).drop 0) = 2 + skipL false (l ++ 32 :: noteL) := by
    show skipL false (32 :: 10 :: (l ++ 32 :: noteL)) = _
    rw [skipL, if_pos (by decide), skipL, if_pos (by decide)]; omega
  rw [h0, h2]
  congr 1; omega
/-- read alike with blanks ahead and a note behind -/
theorem parse_wrap (hl : l.length ≤ 900) {x : Rx} {ns : List (List UInt8)} {a : Nat} (h : parseL false l = (x, ns, a, 0)) : parseL true (wrapL l) = (x, ns, 0, 0) := by
  unfold parseL at h ⊢
  rw [if_neg (by omega)] at h
  rw [if_neg (by rw [wrap_len]; omega)]
  cases hp : altF false l 51 ⟨0, 0, []⟩ with
  | bad a' e' =>
    rw [hp] at h
    injection h with _ h; injection h with _ h; injection h with _ h
    exact absurd h (altF_bad 50 _ _ _ rfl (Nat.zero_le _) hp).2.1
  | ok y s =>
    rw [hp] at h
    simp only at h
    have hle := (altF_adv 51 _ _ _ hp).le (Nat.zero_le _)
    split at h
    · injection h with _ h; injection h with _ h; injection h with _ h; cases h
    · rename_i hn
      obtain ⟨s1', h1, h2⟩ := altF_sh hb 51 _ _ _ _ (Nat.zero_le _) skip_head hp
      rw [h1]
      simp only
      rw [if_neg (fun h => hn (h2.lt.1 h)), h2.2.1]
      injection h with h3 h; injection h with h4 h
      rw [h3, h4]
end
end Go.Proofs.Ytoniccokohjenaa
