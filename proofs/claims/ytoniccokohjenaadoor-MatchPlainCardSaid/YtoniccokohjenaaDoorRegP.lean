/-
  Plain Lean: how far a pattern is read by each function (chapter 18). No program in sight.
-/
import Derived.Test.YtoniccokohjenaaDoorRegS
namespace Go.Proofs.YtoniccokohjenaaDoor

theorem bind_ok {α β : Type} {r : PR α} {f : α → PS → PR β} {v : β} {s : PS} (h : r.bind f = .ok v s) : ∃ u s1, r = .ok u s1 ∧ f u s1 = .ok v s := by
  cases r with
  | ok u s1 => exact ⟨u, s1, rfl, h⟩
  | bad a e => cases h
theorem failR_ok {α : Type} {l : List Int} {a : Nat} {v : α} {s : PS} (h : failR l a = .ok v s) : False := by
  unfold failR at h; split at h <;> cases h
theorem failR_bad {α : Type} {l : List Int} {a : Nat} : (failR l a : PR α) = .bad (if l.length ≤ a then l.length else a) (if l.length ≤ a then 5 else 2) := by
  unfold failR; split <;> rfl

/-- s' is behind s; no more names than places -/
structure Adv (l : List Int) (s s' : PS) : Prop where
  pos : s.pos ≤ s'.pos
  le : s.pos ≤ l.length → s'.pos ≤ l.length
  deep : s'.deep = s.deep
  names : ∃ t, s'.names = s.names ++ t ∧ t.length ≤ s'.pos - s.pos
theorem Adv.refl (l : List Int) (s : PS) : Adv l s s := ⟨Nat.le_refl _, fun h => h, rfl, [], by simp, Nat.zero_le _⟩
theorem Adv.trans {l : List Int} {a b c : PS} (h : Adv l a b) (k : Adv l b c) : Adv l a c := by
  obtain ⟨t, ht, htl⟩ := h.names
  obtain ⟨u, hu, hul⟩ := k.names
  have := h.pos
  have := k.pos
  exact ⟨by omega, fun e => k.le (h.le e), by rw [k.deep, h.deep], t ++ u, by rw [hu, ht, List.append_assoc], by rw [List.length_append]; omega⟩
theorem Adv.on {l : List Int} (s : PS) (p : Nat) (h1 : s.pos ≤ p) (h2 : s.pos ≤ l.length → p ≤ l.length) : Adv l s { s with pos := p } := ⟨h1, h2, rfl, [], by simp, Nat.zero_le _⟩

variable {free : Bool} {l : List Int}
theorem due_lt {p : Nat} {c : Int} (h : due l p = c) (hc : c ≠ -1) : p < l.length := by
  rcases Nat.lt_or_ge p l.length with h1 | h1
  · exact h1
  · unfold due at h
    rw [List.getD_eq_getElem?_getD, List.getElem?_eq_none h1] at h
    exact absurd h.symm hc
theorem due_at {p : Nat} (h : p < l.length) : due l p = l[p] := by
  unfold due; rw [List.getD_eq_getElem?_getD, List.getElem?_eq_getElem h]; rfl
theorem due_past {p : Nat} (h : l.length ≤ p) : due l p = -1 := by
  unfold due; rw [List.getD_eq_getElem?_getD, List.getElem?_eq_none h]; rfl
theorem Adv.step {s : PS} {c : Int} (h : due l s.pos = c) (hc : c ≠ -1) : Adv l s { s with pos := s.pos + 1 } :=
  .on s _ (Nat.le_succ _) (fun _ => due_lt h hc)
theorem skipL_le : ∀ (k : Bool) (x : List Int), skipL k x ≤ x.length
  | false, [] => Nat.le_refl _
  | true, [] => Nat.le_refl _
  | false, c :: r => by
    unfold skipL
    have h1 := skipL_le false r
    have h2 := skipL_le true r
    split
    · rw [List.length_cons]; omega
    · split
      · rw [List.length_cons]; omega
      · exact Nat.zero_le _
  | true, c :: r => by
    unfold skipL
    have h1 := skipL_le false r
    have h2 := skipL_le true r
    split <;> (rw [List.length_cons]; omega)
theorem skip_adv (s : PS) : Adv l s (skipS' free l s) := by
  have := skipL_le false (l.drop s.pos)
  rw [List.length_drop] at this
  refine .on s _ ?_ (fun h => ?_)
  · unfold skipP; split <;> omega
  · unfold skipP; split <;> omega
theorem digL_le : ∀ (k : Nat) (x : List Int) (n : Nat), (digL k x n).2 ≤ x.length ∧ (digL k x n).2 ≤ k ∧ (digL k x n).1 ≤ 10 ^ k * (n + 1)
  | 0, x, n => ⟨Nat.zero_le _, Nat.zero_le _, by simp [digL]⟩
  | k + 1, [], n => ⟨Nat.zero_le _, Nat.zero_le _, by
    show n ≤ _
    have h1 : 1 * (n + 1) ≤ 10 ^ (k + 1) * (n + 1) := Nat.mul_le_mul_right _ (Nat.pos_of_ne_zero (by simp))
    omega⟩
  | k + 1, c :: r, n => by
    unfold digL
    by_cases hd : digI c = true
    · rw [if_pos hd]
      have hd' : 48 ≤ c ∧ c ≤ 57 := by simpa [digI] using hd
      obtain ⟨h1, h2, h3⟩ := digL_le k r (10 * n + (c - 48).toNat)
      refine ⟨by simp only [List.length_cons]; omega, by simp only; omega, ?_⟩
      simp only
      have h4 : 10 ^ k * (10 * n + (c - 48).toNat + 1) ≤ 10 ^ k * (10 * (n + 1)) := Nat.mul_le_mul_left _ (by omega)
      have h5 : 10 ^ (k + 1) * (n + 1) = 10 ^ k * (10 * (n + 1)) := by rw [Nat.pow_succ, Nat.mul_assoc]
      omega
    · rw [if_neg hd]
      refine ⟨Nat.zero_le _, Nat.zero_le _, ?_⟩
      simp only
      have h1 : 1 * (n + 1) ≤ 10 ^ (k + 1) * (n + 1) := Nat.mul_le_mul_right _ (Nat.pos_of_ne_zero (by simp))
      omega
theorem number_adv {least : Nat} {s s' : PS} {v : Nat} (h : numberR l least s = .ok v s') : Adv l s s' ∧ v ≤ 255 ∧ least ≤ v ∧ s.pos < s'.pos := by
  unfold numberR at h
  simp only at h
  split at h
  · exact (failR_ok h).elim
  split at h
  · exact (failR_ok h).elim
  injection h with h1 h2
  have := (digL_le 3 (l.drop s.pos) 0).1
  rw [List.length_drop] at this
  subst h1 h2
  refine ⟨.on s _ (Nat.le_add_right ..) (fun _ => by omega), by omega, by omega, by simp only; omega⟩
theorem most_adv {least : Nat} {s s' : PS} {v : Int} (hl : least ≤ 255) (h : mostR l least s = .ok v s') : Adv l s s' ∧ v ≤ 255 ∧ (v = -1 ∨ (least : Int) ≤ v) := by
  unfold mostR at h
  split at h
  · rename_i hc
    have hs := Adv.step hc (by decide)
    split at h
    · injection h with h1 h2; subst h1 h2; exact ⟨hs, by decide, .inl rfl⟩
    · obtain ⟨n, s1, h1, h2⟩ := bind_ok h
      injection h2 with h3 h4
      subst h3 h4
      have := number_adv h1
      exact ⟨hs.trans this.1, by omega, .inr (by omega)⟩
  · injection h with h1 h2; subst h1 h2; exact ⟨.refl l s, by omega, .inr (Int.le_refl _)⟩
theorem times_adv {s s' : PS} {v : Nat × Int} (h : timesR l s = .ok v s') : Adv l s s' ∧ v.1 ≤ 255 ∧ v.2 ≤ 255 ∧ (v.2 = -1 ∨ (v.1 : Int) ≤ v.2) := by
  unfold timesR at h
  obtain ⟨a, s1, h1, h2⟩ := bind_ok h
  obtain ⟨b, s2, h3, h4⟩ := bind_ok h2
  have ha := number_adv h1
  have hb := most_adv ha.2.1 h3
  split at h4
  · rename_i hc
    injection h4 with h5 h6
    subst h5 h6
    exact ⟨(ha.1.trans hb.1).trans (.step hc (by decide)), ha.2.1, hb.2.1, hb.2.2⟩
  · exact (failR_ok h4).elim
theorem signI_pos {c : Int} (h : signI c = true) : 33 ≤ c ∧ c ≤ 126 := by
  unfold signI at h; simp only [Bool.and_eq_true, decide_eq_true_eq] at h; exact ⟨h.1.1.1, h.1.1.2⟩
theorem classI_ne {c : Int} {q : Int × Bool} (h : classI c = some q) : c ≠ -1 := by
  unfold classI at h
  split at h
  · omega
  · split at h
    · omega
    · cases h
theorem lit_adv {s s' : PS} {v : Int} (h : litR l s = .ok v s') : Adv l s s' ∧ s.pos < s'.pos ∧ s'.names = s.names := by
  unfold litR at h
  split at h
  · rename_i hc; injection h with _ h2; subst h2; exact ⟨.step hc (by decide), Nat.lt_succ_self _, rfl⟩
  split at h
  · rename_i hc; injection h with _ h2; subst h2; exact ⟨.step hc (by decide), Nat.lt_succ_self _, rfl⟩
  split at h
  · rename_i hc; injection h with _ h2; subst h2; exact ⟨.step hc (by decide), Nat.lt_succ_self _, rfl⟩
  split at h
  · rename_i hc; injection h with _ h2; subst h2; exact ⟨.step rfl (by have := signI_pos hc; omega), Nat.lt_succ_self _, rfl⟩
  · exact (failR_ok h).elim
theorem Adv.two {s : PS} {c d : Int} (_ : due l s.pos = c) (h2 : due l (s.pos + 1) = d) (hd : d ≠ -1) : Adv l s { s with pos := s.pos + 2 } :=
  .on s _ (by omega) (fun _ => due_lt h2 hd)
theorem one_adv {s s' : PS} {v : Rx × Bool} (h : oneR l s = .ok v s') : Adv l s s' ∧ s.pos < s'.pos ∧ s'.names = s.names := by
  unfold oneR at h
  simp only at h
  split at h
  · exact (failR_ok h).elim
  split at h
  · rename_i hn hc
    split at h
    · rename_i r n hcl
      injection h with _ h2; subst h2
      exact ⟨.two hc rfl (classI_ne hcl), by simp only; omega, rfl⟩
    · obtain ⟨c, s1, h1, h2⟩ := bind_ok h
      injection h2 with _ h3; subst h3
      have := lit_adv h1
      exact ⟨(Adv.step hc (by decide)).trans this.1, by have := this.2.1; simp only at this; omega, this.2.2⟩
  · rename_i hn hc
    injection h with _ h2; subst h2
    exact ⟨.step rfl (fun e => hn (.inl e)), Nat.lt_succ_self _, rfl⟩
theorem item_adv {s s' : PS} {v : Rx} (h : itemR l s = .ok v s') : Adv l s s' ∧ s.pos < s'.pos ∧ s'.names = s.names := by
  unfold itemR at h
  obtain ⟨x, s1, h1, h2⟩ := bind_ok h
  have hx := one_adv h1
  split at h2
  · rename_i hc
    obtain ⟨y, s2, h3, h4⟩ := bind_ok h2
    have hy := one_adv h3
    split at h4
    · exact (failR_ok h4).elim
    · injection h4 with _ h5; subst h5
      exact ⟨(hx.1.trans (.step hc.2.1 (by decide))).trans hy.1, by have := hx.2.1; have := hy.2.1; simp only at this; omega, by rw [hy.2.2]; exact hx.2.2⟩
  · injection h2 with _ h5; subst h5; exact hx
theorem items_adv : ∀ (f : Nat) (s s' : PS) (v : List Rx), itemsR l f s = .ok v s' → Adv l s s' ∧ s.pos < s'.pos ∧ s'.names = s.names
  | 0, s, s', v, h => by cases h
  | f + 1, s, s', v, h => by
    unfold itemsR at h
    obtain ⟨x, s1, h1, h2⟩ := bind_ok h
    have hx := item_adv h1
    split at h2
    · rename_i hc
      injection h2 with _ h3; subst h3
      exact ⟨hx.1.trans (.step hc (by decide)), by have := hx.2.1; simp only; omega, hx.2.2⟩
    · obtain ⟨xs, s2, h3, h4⟩ := bind_ok h2
      injection h4 with _ h5; subst h5
      have hy := items_adv f _ _ _ h3
      exact ⟨hx.1.trans hy.1, by have := hx.2.1; have := hy.2.1; omega, by rw [hy.2.2, hx.2.2]⟩
theorem set_adv {s s' : PS} {v : Rx} (h : setR l s = .ok v s') : Adv l s s' ∧ s'.names = s.names := by
  unfold setR at h
  split at h
  · rename_i hc
    obtain ⟨xs, s1, h1, h2⟩ := bind_ok h
    injection h2 with _ h3; subst h3
    have := items_adv _ _ _ _ h1
    exact ⟨(Adv.step hc (by decide)).trans this.1, this.2.2⟩
  · obtain ⟨xs, s1, h1, h2⟩ := bind_ok h
    injection h2 with _ h3; subst h3
    have := items_adv _ _ _ _ h1
    exact ⟨this.1, this.2.2⟩
theorem nmL_le : ∀ (k : Bool) (x : List Int), (nmL k x).length ≤ x.length
  | _, [] => by simp [nmL]
  | k, c :: r => by
    unfold nmL
    have := nmL_le true r
    split
    · simp only [List.length_cons]; omega
    · simp
theorem name_adv {s s' : PS} {v : List UInt8} (h : nameR l s = .ok v s') : Adv l s s' ∧ s.pos + 2 ≤ s'.pos ∧ s'.names = s.names ∧ v ≠ [] ∧ v ∉ s.names := by
  unfold nameR at h
  simp only at h
  split at h
  · exact (failR_ok h).elim
  split at h
  · exact (failR_ok h).elim
  rename_i hn hm
  injection h with h1 h2; subst h1 h2
  have hn0 : nmL false (l.drop s.pos) ≠ [] := fun e => hn (.inl e)
  have hd : due l (s.pos + (nmL false (l.drop s.pos)).length) = 62 := Decidable.of_not_not (fun e => hn (.inr e))
  have := due_lt hd (by decide)
  have hl := List.length_pos_iff.2 hn0
  exact ⟨.on s _ (by omega) (fun _ => by omega), by simp only; omega, rfl, hn0, hm⟩

section
variable {rec : PS → PR Rx} (hrec : ∀ s v s', rec s = .ok v s' → Adv l s s')
theorem head_adv {s s' : PS} {v : Option (List UInt8)} (h : headR l s = .ok v s') : s.pos ≤ s'.pos ∧ (s.pos ≤ l.length → s'.pos ≤ l.length) ∧ s'.deep = s.deep ∧ (v = none → s'.names = s.names) ∧ (∀ n, v = some n → s'.names = s.names ++ [n] ∧ n ∉ s.names ∨ n = [] ∧ s'.names = s.names ++ [[]]) := by
  unfold headR at h
  split at h
  · rename_i hc
    split at h
    · rename_i hd
      injection h with h1 h2; subst h1 h2
      have := due_lt hd (by decide)
      exact ⟨by simp only; omega, fun _ => by simp only; omega, rfl, fun _ => rfl, fun n e => by cases e⟩
    · split at h
      · rename_i hd
        obtain ⟨n, s1, h1, h2⟩ := bind_ok h
        injection h2 with h3 h4; subst h3 h4
        have hn := name_adv h1
        have := due_lt hd (by decide)
        refine ⟨by have := hn.1.pos; simp only at this ⊢; omega, fun _ => hn.1.le (by simp only; omega), hn.1.deep, (fun e => by cases e), fun m e => ?_⟩
        injection e with e; subst e
        exact .inl ⟨by simp only; rw [hn.2.2.1], hn.2.2.2.2⟩
      · exact (failR_ok h).elim
  · injection h with h1 h2; subst h1 h2
    exact ⟨Nat.le_refl _, fun h => h, rfl, (fun e => by cases e), (fun n e => by injection e with e; subst e; exact .inr ⟨rfl, rfl⟩)⟩
include hrec
theorem group_adv {s s' : PS} {v : Rx} (h0 : due l s.pos = 40) (h : groupR l rec s = .ok v s') : Adv l s s' := by
  unfold groupR at h
  split at h
  · cases h
  obtain ⟨n, s1, h1, h2⟩ := bind_ok h
  unfold restR at h2
  obtain ⟨x, s2, h3, h4⟩ := bind_ok h2
  have hh := head_adv h1
  have hr := hrec _ _ _ h3
  have hlt := due_lt h0 (by decide)
  simp only at hh
  split at h4
  · rename_i hc
    injection h4 with h5 h6
    subst h5 h6
    have hq := due_lt hc (by decide)
    have hp := hr.pos
    obtain ⟨t, ht, htl⟩ := hr.names
    refine ⟨by simp only; omega, fun _ => hq, by simp only; rw [hr.deep, hh.2.2.1]; omega, ?_⟩
    simp only
    rw [ht]
    cases n with
    | none => exact ⟨t, by rw [hh.2.2.2.1 rfl], by omega⟩
    | some m =>
      have hm : s1.names = s.names ++ [m] := by
        rcases hh.2.2.2.2 m rfl with ⟨e, _⟩ | ⟨rfl, e⟩ <;> exact e
      exact ⟨[m] ++ t, by rw [hm, List.append_assoc], by simp; omega⟩
  · exact (failR_ok h4).elim
theorem atom_adv {s s' : PS} {v : Rx} (hlt : s.pos < l.length) (h : atomR l rec s = .ok v s') : Adv l s s' ∧ s.pos < s'.pos := by
  unfold atomR at h
  simp only at h
  have one : Adv l s { s with pos := s.pos + 1 } := .on s _ (Nat.le_succ _) (fun _ => hlt)
  split at h
  · exact (failR_ok h).elim
  split at h
  · rename_i hc
    refine ⟨group_adv hrec hc h, ?_⟩
    unfold groupR at h
    split at h
    · cases h
    obtain ⟨n, s1, h1, h2⟩ := bind_ok h
    unfold restR at h2
    obtain ⟨x, s2, h3, h4⟩ := bind_ok h2
    have hh := head_adv h1
    have hr := (hrec _ _ _ h3).pos
    simp only at hh
    split at h4
    · injection h4 with _ h6; subst h6; simp only; omega
    · exact (failR_ok h4).elim
  split at h
  · have := set_adv h
    exact ⟨one.trans this.1, by have := this.1.pos; simp only at this; omega⟩
  split at h
  · injection h with _ h2; subst h2; exact ⟨one, Nat.lt_succ_self _⟩
  split at h
  · injection h with _ h2; subst h2; exact ⟨one, Nat.lt_succ_self _⟩
  split at h
  · injection h with _ h2; subst h2; exact ⟨one, Nat.lt_succ_self _⟩
  split at h
  · rename_i hc
    split at h
    · rename_i r n hcl
      injection h with _ h2; subst h2
      exact ⟨.two hc rfl (classI_ne hcl), by simp only; omega⟩
    · split at h
      · rename_i hb
        injection h with _ h2; subst h2
        exact ⟨.two hc rfl (by omega), by simp only; omega⟩
      · obtain ⟨c, s1, h1, h2⟩ := bind_ok h
        injection h2 with _ h3; subst h3
        have := lit_adv h1
        exact ⟨one.trans this.1, by have := this.2.1; simp only at this; omega⟩
  · injection h with _ h2; subst h2; exact ⟨one, Nat.lt_succ_self _⟩
omit hrec in
theorem lazy_adv {s s' : PS} {x v : Rx} {a b : Int} (h : lazyR free l x a b s = .ok v s') : Adv l s s' := by
  unfold lazyR at h
  simp only at h
  split at h
  · rename_i hc
    injection h with _ h2; subst h2
    exact (skip_adv s).trans (.step hc (by decide))
  · injection h with _ h2; subst h2; exact skip_adv s
theorem part_adv {s s' : PS} {v : Rx} (hlt : s.pos < l.length) (h : partR free l rec s = .ok v s') : Adv l s s' ∧ s.pos < s'.pos := by
  unfold partR at h
  obtain ⟨x, s1, h1, h2⟩ := bind_ok h
  have ha := atom_adv hrec hlt h1
  simp only at h2
  have hs := skip_adv (free := free) (l := l) s1
  have key : ∀ s2 s3, Adv l (skipS' free l s1) s2 → Adv l s2 s3 → Adv l s s3 ∧ s.pos < s3.pos := fun s2 s3 h3 h4 =>
    ⟨((ha.1.trans hs).trans h3).trans h4, by have := hs.pos; have := h3.pos; have := h4.pos; have := ha.2; omega⟩
  split at h2
  · rename_i hc; exact key _ _ (.step hc (by decide)) (lazy_adv h2)
  split at h2
  · rename_i hc; exact key _ _ (.step hc (by decide)) (lazy_adv h2)
  split at h2
  · rename_i hc; exact key _ _ (.step hc (by decide)) (lazy_adv h2)
  split at h2
  · rename_i hc
    obtain ⟨q, s2, h3, h4⟩ := bind_ok h2
    exact key _ _ ((Adv.step hc (by decide)).trans (times_adv h3).1) (lazy_adv h4)
  · injection h2 with _ h3; subst h3; exact key _ _ (.refl l _) (.refl l _)
theorem parts_adv : ∀ (f : Nat) (s s' : PS) (v : List Rx), partsR free l rec f s = .ok v s' → Adv l s s'
  | 0, s, s', v, h => by cases h
  | f + 1, s, s', v, h => by
    unfold partsR at h
    split at h
    · rename_i hc
      obtain ⟨x, s1, h1, h2⟩ := bind_ok h
      obtain ⟨xs, s2, h3, h4⟩ := bind_ok h2
      injection h4 with _ h5; subst h5
      exact ((part_adv hrec hc.1 h1).1.trans (skip_adv s1)).trans (parts_adv f _ _ _ h3)
    · injection h with _ h2; subst h2; exact .refl l s
theorem seq_adv {s s' : PS} {v : Rx} (h : seqR free l rec s = .ok v s') : Adv l s s' := by
  unfold seqR at h
  obtain ⟨xs, s1, h1, h2⟩ := bind_ok h
  injection h2 with _ h3; subst h3
  exact (skip_adv s).trans (parts_adv hrec _ _ _ _ h1)
theorem alts_adv : ∀ (f : Nat) (s s' : PS) (v : List Rx), altsR free l rec f s = .ok v s' → Adv l s s'
  | 0, s, s', v, h => by cases h
  | f + 1, s, s', v, h => by
    unfold altsR at h
    split at h
    · rename_i hc
      obtain ⟨x, s1, h1, h2⟩ := bind_ok h
      obtain ⟨xs, s2, h3, h4⟩ := bind_ok h2
      injection h4 with _ h5; subst h5
      exact ((Adv.step hc (by decide)).trans (seq_adv hrec h1)).trans (alts_adv f _ _ _ h3)
    · injection h with _ h2; subst h2; exact .refl l s
theorem alt_adv {s s' : PS} {v : Rx} (h : altR free l rec s = .ok v s') : Adv l s s' := by
  unfold altR at h
  obtain ⟨x, s1, h1, h2⟩ := bind_ok h
  obtain ⟨xs, s2, h3, h4⟩ := bind_ok h2
  injection h4 with _ h5; subst h5
  exact (seq_adv hrec h1).trans (alts_adv hrec _ _ _ _ h3)
end
theorem altF_adv : ∀ (n : Nat) (s s' : PS) (v : Rx), altF free l n s = .ok v s' → Adv l s s'
  | 0, s, s', v, h => by cases h
  | n + 1, s, s', v, h => alt_adv (fun s v s' h => altF_adv n s s' v h) h

end Go.Proofs.YtoniccokohjenaaDoor
