/-
  Plain Lean: a tree that was read is sound (chapter 18). No program in sight.
-/
import Derived.Test.YtoniccokohjenaaDoorRegP
namespace Go.Proofs.YtoniccokohjenaaDoor

mutual
/-- the law's sound: are kinds, repeats and signs right? k: the next group's number -/
def soundR : Rx → Nat → Bool × Nat
  | .mk kind rune to kids min max _ _ group _, k =>
    if 12 < kind ∨ (kind = 8 ∧ (kids.length ≠ 1 ∨ min < 0 ∨ max < -1 ∨ (0 ≤ max ∧ max < min))) ∨ (kind = 4 ∧ to < rune) then (false, k)
    else if kind = 9 then (if group ≠ k ∨ kids.length ≠ 1 then (false, k) else soundsR kids (k + 1))
    else soundsR kids k
def soundsR : List Rx → Nat → Bool × Nat
  | [], k => (true, k)
  | x :: xs, k => if (soundR x k).1 then soundsR xs (soundR x k).2 else (false, (soundR x k).2)
end

/-- sound, from one number to another -/
def Snd (x : Rx) (k k' : Nat) : Prop := soundR x k = (true, k')
def Snds (xs : List Rx) (k k' : Nat) : Prop := soundsR xs k = (true, k')
theorem Snds.nil (k : Nat) : Snds [] k k := rfl
theorem Snds.cons {x : Rx} {xs : List Rx} {a b c : Nat} (h : Snd x a b) (k : Snds xs b c) : Snds (x :: xs) a c := by
  unfold Snds; rw [soundsR]; rw [show soundR x a = (true, b) from h]; exact k
theorem Snds.one {x : Rx} {a b : Nat} (h : Snd x a b) : Snds [x] a b := .cons h (.nil b)
/-- a part that is neither a repeat, nor a range, nor a group -/
theorem Snd.plain {kind : Nat} {rune to min max : Int} {kids : List Rx} {z n : Bool} {g : Nat} {nm : List UInt8} {a b : Nat} (hk : kind ≤ 12) (h8 : kind ≠ 8) (h4 : kind ≠ 4) (h9 : kind ≠ 9) (h : Snds kids a b) : Snd (.mk kind rune to kids min max z n g nm) a b := by
  unfold Snd; rw [soundR, if_neg (by omega), if_neg h9]; exact h
theorem Snd.repeat {x : Rx} {a b : Nat} {p q : Int} {z : Bool} (h : Snd x a b) (hp : 0 ≤ p) (hq : q = -1 ∨ p ≤ q) : Snd (rxRepeat x p q z) a b := by
  unfold Snd rxRepeat; rw [soundR, if_neg (by simp only [List.length_singleton]; omega), if_neg (by omega)]; exact Snds.one h
theorem Snd.group {x : Rx} {a b : Nat} {nm : List UInt8} (h : Snd x (a + 1) b) : Snd (rxGroup x a nm) a b := by
  unfold Snd rxGroup; rw [soundR, if_neg (by omega), if_pos rfl, if_neg (by simp)]; exact Snds.one h
theorem Snd.range {p q : Int} (h : p ≤ q) (a : Nat) : Snd (rxRange p q) a a := by
  unfold Snd rxRange; rw [soundR, if_neg (by omega), if_neg (by omega)]; exact Snds.nil a
theorem Snd.rune (c : Int) (a : Nat) : Snd (rxRune c) a a := .plain (by omega) (by omega) (by omega) (by omega) (.nil a)
theorem Snd.class (c : Int) (n : Bool) (a : Nat) : Snd (rxClass c n) a a := .plain (by omega) (by omega) (by omega) (by omega) (.nil a)
theorem Snd.word (n : Bool) (a : Nat) : Snd (rxWord n) a a := .plain (by omega) (by omega) (by omega) (by omega) (.nil a)
theorem Snd.none (a : Nat) : Snd rxNone a a := .plain (by omega) (by omega) (by omega) (by omega) (.nil a)

variable {free : Bool} {l : List Int}
theorem one_snd {s s' : PS} {v : Rx × Bool} (h : oneR l s = .ok v s') (a : Nat) : Snd v.1 a a := by
  unfold oneR at h
  simp only at h
  split at h
  · exact (failR_ok h).elim
  split at h
  · split at h
    · injection h with h1 _; subst h1; exact .class ..
    · obtain ⟨c, s1, h1, h2⟩ := bind_ok h
      injection h2 with h3 _; subst h3; exact .rune ..
  · injection h with h1 _; subst h1; exact .rune ..
theorem item_snd {s s' : PS} {v : Rx} (h : itemR l s = .ok v s') (a : Nat) : Snd v a a := by
  unfold itemR at h
  obtain ⟨x, s1, h1, h2⟩ := bind_ok h
  split at h2
  · obtain ⟨y, s2, h3, h4⟩ := bind_ok h2
    split at h4
    · exact (failR_ok h4).elim
    · rename_i hn
      injection h4 with h5 _; subst h5
      exact .range (by omega) a
  · injection h2 with h3 _; subst h3; exact one_snd h1 a
theorem items_snd : ∀ (f : Nat) (s s' : PS) (v : List Rx), itemsR l f s = .ok v s' → ∀ a, Snds v a a
  | 0, s, s', v, h, a => by cases h
  | f + 1, s, s', v, h, a => by
    unfold itemsR at h
    obtain ⟨x, s1, h1, h2⟩ := bind_ok h
    split at h2
    · injection h2 with h3 _; subst h3; exact .one (item_snd h1 a)
    · obtain ⟨xs, s2, h3, h4⟩ := bind_ok h2
      injection h4 with h5 _; subst h5
      exact .cons (item_snd h1 a) (items_snd f _ _ _ h3 a)
theorem set_snd {s s' : PS} {v : Rx} (h : setR l s = .ok v s') (a : Nat) : Snd v a a := by
  unfold setR at h
  split at h
  · obtain ⟨xs, s1, h1, h2⟩ := bind_ok h
    injection h2 with h3 _; subst h3
    exact .plain (by omega) (by omega) (by omega) (by omega) (items_snd _ _ _ _ h1 a)
  · obtain ⟨xs, s1, h1, h2⟩ := bind_ok h
    injection h2 with h3 _; subst h3
    exact .plain (by omega) (by omega) (by omega) (by omega) (items_snd _ _ _ _ h1 a)
/-- from the names that were to the names that are -/
def SndS (x : Rx) (s s' : PS) : Prop := Snd x (s.names.length + 1) (s'.names.length + 1)
def SndsS (x : List Rx) (s s' : PS) : Prop := Snds x (s.names.length + 1) (s'.names.length + 1)
theorem SndS.same {x : Rx} {s s' : PS} (h : ∀ a, Snd x a a) (hn : s'.names = s.names) : SndS x s s' := by unfold SndS; rw [hn]; exact h _

section
variable {rec : PS → PR Rx} (hrec : ∀ s v s', rec s = .ok v s' → SndS v s s')
include hrec
theorem group_snd {s s' : PS} {v : Rx} (h : groupR l rec s = .ok v s') : SndS v s s' := by
  unfold groupR at h
  split at h
  · cases h
  obtain ⟨n, s1, h1, h2⟩ := bind_ok h
  unfold restR at h2
  obtain ⟨x, s2, h3, h4⟩ := bind_ok h2
  have hh := head_adv h1
  have hr := hrec _ _ _ h3
  simp only at hh
  split at h4
  · injection h4 with h5 h6
    subst h5 h6
    cases n with
    | none =>
      have hn : s1.names = s.names := hh.2.2.2.1 rfl
      unfold SndS at hr ⊢
      rw [hn] at hr; exact hr
    | some m =>
      have hm : s1.names = s.names ++ [m] := by
        rcases hh.2.2.2.2 m rfl with ⟨e, _⟩ | ⟨rfl, e⟩ <;> exact e
      unfold SndS at hr ⊢
      rw [hm, List.length_append] at hr
      exact .group hr
  · exact (failR_ok h4).elim
theorem atom_snd {s s' : PS} {v : Rx} (h : atomR l rec s = .ok v s') : SndS v s s' := by
  unfold atomR at h
  simp only at h
  split at h
  · exact (failR_ok h).elim
  split at h
  · exact group_snd hrec h
  split at h
  · exact .same (set_snd h) (set_adv h).2
  split at h
  · injection h with h1 h2; subst h1 h2; exact .same (fun a => .plain (by omega) (by omega) (by omega) (by omega) (.nil a)) rfl
  split at h
  · injection h with h1 h2; subst h1 h2; exact .same (fun a => .plain (by omega) (by omega) (by omega) (by omega) (.nil a)) rfl
  split at h
  · injection h with h1 h2; subst h1 h2; exact .same (fun a => .plain (by omega) (by omega) (by omega) (by omega) (.nil a)) rfl
  split at h
  · split at h
    · injection h with h1 h2; subst h1 h2; exact .same (.class _ _) rfl
    · split at h
      · injection h with h1 h2; subst h1 h2; exact .same (.word _) rfl
      · obtain ⟨c, s1, h1, h2⟩ := bind_ok h
        injection h2 with h3 h4; subst h3 h4
        exact .same (.rune _) (lit_adv h1).2.2
  · injection h with h1 h2; subst h1 h2; exact .same (.rune _) rfl
omit hrec in
theorem skip_names (s : PS) : (skipS' free l s).names = s.names := rfl
omit hrec in
theorem lazy_snd {s s' : PS} {x v : Rx} {p q : Int} (h : lazyR free l x p q s = .ok v s') (hp : 0 ≤ p) (hq : q = -1 ∨ p ≤ q) {a b : Nat} (hx : Snd x a b) : Snd v a b ∧ s'.names = s.names := by
  unfold lazyR at h
  simp only at h
  split at h <;> (injection h with h1 h2; subst h1 h2; exact ⟨.repeat hx hp hq, rfl⟩)
omit hrec in
theorem number_names {least : Nat} {s s' : PS} {v : Nat} (h : numberR l least s = .ok v s') : s'.names = s.names := by
  unfold numberR at h
  simp only at h
  split at h
  · exact (failR_ok h).elim
  split at h
  · exact (failR_ok h).elim
  injection h with h1 h2; subst h2; rfl
omit hrec in
theorem most_names {least : Nat} {s s' : PS} {v : Int} (h : mostR l least s = .ok v s') : s'.names = s.names := by
  unfold mostR at h
  split at h
  · split at h
    · injection h with _ h2; subst h2; rfl
    · obtain ⟨n, s1, h1, h2⟩ := bind_ok h
      injection h2 with _ h4; subst h4
      have := number_names h1
      exact this
  · injection h with _ h2; subst h2; rfl
omit hrec in
theorem times_names {s s' : PS} {v : Nat × Int} (h : timesR l s = .ok v s') : s'.names = s.names := by
  unfold timesR at h
  obtain ⟨a, s1, h1, h2⟩ := bind_ok h
  obtain ⟨b, s2, h3, h4⟩ := bind_ok h2
  split at h4
  · injection h4 with _ h6; subst h6
    show s2.names = s.names
    rw [most_names h3, number_names h1]
  · exact (failR_ok h4).elim
theorem part_snd {s s' : PS} {v : Rx} (h : partR free l rec s = .ok v s') : SndS v s s' := by
  unfold partR at h
  obtain ⟨x, s1, h1, h2⟩ := bind_ok h
  have ha := atom_snd hrec h1
  simp only at h2
  have key : ∀ {p q : Int} {s2 : PS}, lazyR free l x p q s2 = .ok v s' → s2.names = s1.names → 0 ≤ p → (q = -1 ∨ p ≤ q) → SndS v s s' := fun h3 hn hp hq => by
    have := lazy_snd h3 hp hq ha
    unfold SndS
    rw [this.2, hn]; exact this.1
  split at h2
  · exact key h2 rfl (by omega) (by omega)
  split at h2
  · exact key h2 rfl (by omega) (by omega)
  split at h2
  · exact key h2 rfl (by omega) (by omega)
  split at h2
  · obtain ⟨q, s2, h3, h4⟩ := bind_ok h2
    have ht := times_adv h3
    have hn := times_names h3
    exact key h4 hn (by omega) ht.2.2.2
  · injection h2 with h3 h4; subst h3 h4; exact ha
theorem parts_snd : ∀ (f : Nat) (s s' : PS) (v : List Rx), partsR free l rec f s = .ok v s' → SndsS v s s'
  | 0, s, s', v, h => by cases h
  | f + 1, s, s', v, h => by
    unfold partsR at h
    split at h
    · obtain ⟨x, s1, h1, h2⟩ := bind_ok h
      obtain ⟨xs, s2, h3, h4⟩ := bind_ok h2
      injection h4 with h5 h6; subst h5 h6
      have h7 := parts_snd f _ _ _ h3
      exact .cons (part_snd hrec h1) h7
    · injection h with h1 h2; subst h1 h2; exact .nil _
omit hrec in
theorem seqOf_snd {xs : List Rx} {a b : Nat} (h : Snds xs a b) : Snd (seqOf xs) a b := by
  match xs, h with
  | [], h => cases h; exact .none a
  | [x], h =>
    unfold Snds at h; rw [soundsR] at h
    split at h
    · rename_i h1
      rw [soundsR] at h; injection h with _ h2
      exact Prod.ext h1 h2
    · injection h with h1; cases h1
  | x :: y :: r, h => exact .plain (by omega) (by omega) (by omega) (by omega) h
theorem seq_snd {s s' : PS} {v : Rx} (h : seqR free l rec s = .ok v s') : SndS v s s' := by
  unfold seqR at h
  obtain ⟨xs, s1, h1, h2⟩ := bind_ok h
  injection h2 with h3 h4; subst h3 h4
  have h7 := parts_snd hrec _ _ _ _ h1
  exact seqOf_snd h7
theorem alts_snd : ∀ (f : Nat) (s s' : PS) (v : List Rx), altsR free l rec f s = .ok v s' → SndsS v s s'
  | 0, s, s', v, h => by cases h
  | f + 1, s, s', v, h => by
    unfold altsR at h
    split at h
    · obtain ⟨x, s1, h1, h2⟩ := bind_ok h
      obtain ⟨xs, s2, h3, h4⟩ := bind_ok h2
      injection h4 with h5 h6; subst h5 h6
      have h7 := seq_snd hrec h1
      exact .cons h7 (alts_snd f _ _ _ h3)
    · injection h with h1 h2; subst h1 h2; exact .nil _
theorem alt_snd {s s' : PS} {v : Rx} (h : altR free l rec s = .ok v s') : SndS v s s' := by
  unfold altR at h
  obtain ⟨x, s1, h1, h2⟩ := bind_ok h
  obtain ⟨xs, s2, h3, h4⟩ := bind_ok h2
  injection h4 with h5 h6; subst h5 h6
  have hx := seq_snd hrec h1
  have hxs := alts_snd hrec _ _ _ _ h3
  match xs, hxs with
  | [], hxs => injection hxs with _ h9; unfold SndS at hx ⊢; rw [← h9]; exact hx
  | y :: r, hxs => exact .plain (by omega) (by omega) (by omega) (by omega) (.cons hx hxs)
end
theorem altF_snd : ∀ (n : Nat) (s s' : PS) (v : Rx), altF free l n s = .ok v s' → SndS v s s'
  | 0, s, s', v, h => by cases h
  | n + 1, s, s', v, h => alt_snd (fun s v s' h => altF_snd n s s' v h) h

/-- every place that is told stands within the pattern; too short: at its end -/
def BadIn (l : List Int) (a e : Nat) : Prop := a ≤ l.length ∧ e ≠ 0 ∧ (e = 5 → a = l.length) ∧ e ≤ 10
theorem bind_bad {α β : Type} {r : PR α} {f : α → PS → PR β} {a e : Nat} (h : r.bind f = .bad a e) : r = .bad a e ∨ ∃ u s1, r = .ok u s1 ∧ f u s1 = .bad a e := by
  cases r with
  | ok u s1 => exact .inr ⟨u, s1, rfl, h⟩
  | bad a' e' => injection h with h1 h2; subst h1 h2; exact .inl rfl
theorem failR_in {α : Type} {l : List Int} {p a e : Nat} (h : (failR l p : PR α) = .bad a e) : BadIn l a e := by
  unfold failR at h
  split at h
  · injection h with h1 h2; subst h1 h2; exact ⟨Nat.le_refl _, by decide, fun _ => rfl, by decide⟩
  · injection h with h1 h2; subst h1 h2; exact ⟨by omega, by decide, (fun h => absurd h (by decide)), by decide⟩
theorem number_bad {least : Nat} {s : PS} {a e : Nat} (h : numberR l least s = .bad a e) : BadIn l a e := by
  unfold numberR at h
  simp only at h
  split at h
  · exact failR_in h
  split at h
  · exact failR_in h
  · cases h
theorem most_bad {least : Nat} {s : PS} {a e : Nat} (h : mostR l least s = .bad a e) : BadIn l a e := by
  unfold mostR at h
  split at h
  · split at h
    · cases h
    · rcases bind_bad h with h | ⟨u, s1, _, h⟩
      · exact number_bad h
      · cases h
  · cases h
theorem times_bad {s : PS} {a e : Nat} (h : timesR l s = .bad a e) : BadIn l a e := by
  unfold timesR at h
  rcases bind_bad h with h | ⟨u, s1, _, h⟩
  · exact number_bad h
  rcases bind_bad h with h | ⟨u, s1, _, h⟩
  · exact most_bad h
  split at h
  · cases h
  · exact failR_in h
theorem lit_bad {s : PS} {a e : Nat} (h : litR l s = .bad a e) : BadIn l a e := by
  unfold litR at h
  split at h
  · cases h
  split at h
  · cases h
  split at h
  · cases h
  split at h
  · cases h
  · exact failR_in h
theorem one_bad {s : PS} {a e : Nat} (h : oneR l s = .bad a e) : BadIn l a e := by
  unfold oneR at h
  simp only at h
  split at h
  · exact failR_in h
  split at h
  · split at h
    · cases h
    · rcases bind_bad h with h | ⟨u, s1, _, h⟩
      · exact lit_bad h
      · cases h
  · cases h
theorem item_bad {s : PS} {a e : Nat} (h : itemR l s = .bad a e) : BadIn l a e := by
  unfold itemR at h
  rcases bind_bad h with h | ⟨u, s1, _, h⟩
  · exact one_bad h
  split at h
  · rcases bind_bad h with h | ⟨u, s1, _, h⟩
    · exact one_bad h
    · split at h
      · exact failR_in h
      · cases h
  · cases h
theorem items_bad : ∀ (f : Nat) (s : PS) (a e : Nat), l.length < f + s.pos → s.pos ≤ l.length → itemsR l f s = .bad a e → BadIn l a e
  | 0, s, a, e, h1, h2, _ => by omega
  | f + 1, s, a, e, h1, h2, h => by
    unfold itemsR at h
    rcases bind_bad h with h | ⟨x, s1, hx, h⟩
    · exact item_bad h
    have ha := item_adv hx
    split at h
    · cases h
    · rcases bind_bad h with h | ⟨u, s1, _, h⟩
      · exact items_bad f s1 a e (by have := ha.2.1; omega) (ha.1.le h2) h
      · cases h
theorem set_bad {s : PS} {a e : Nat} (hs : s.pos ≤ l.length) (h : setR l s = .bad a e) : BadIn l a e := by
  unfold setR at h
  split at h
  · rename_i hc
    have := due_lt hc (by decide)
    rcases bind_bad h with h | ⟨u, s1, _, h⟩
    · exact items_bad _ _ _ _ (by simp only; omega) (by simp only; omega) h
    · cases h
  · rcases bind_bad h with h | ⟨u, s1, _, h⟩
    · exact items_bad _ _ _ _ (by omega) hs h
    · cases h
theorem name_bad {s : PS} {a e : Nat} (h : nameR l s = .bad a e) : BadIn l a e := by
  unfold nameR at h
  simp only at h
  split at h
  · exact failR_in h
  split at h
  · exact failR_in h
  · cases h
theorem head_bad {s : PS} {a e : Nat} (h : headR l s = .bad a e) : BadIn l a e := by
  unfold headR at h
  split at h
  · split at h
    · cases h
    · split at h
      · rcases bind_bad h with h | ⟨u, s1, _, h⟩
        · exact name_bad h
        · cases h
      · exact failR_in h
  · cases h

section
variable {rec : PS → PR Rx} {d : Nat} (hrec : ∀ s v s', rec s = .ok v s' → Adv l s s') (hb : d < 50 → ∀ s a e, s.pos ≤ l.length → s.deep = d + 1 → rec s = .bad a e → BadIn l a e)
include hb
theorem group_bad {s : PS} {a e : Nat} (hd : s.deep = d) (hd50 : d ≤ 50) (hlt : due l s.pos = 40) (h : groupR l rec s = .bad a e) : BadIn l a e := by
  have hlt := due_lt hlt (by decide)
  unfold groupR at h
  split at h
  · injection h with h1 h2; subst h1 h2; exact ⟨by omega, by decide, (fun h => absurd h (by decide)), by decide⟩
  rcases bind_bad h with h | ⟨u, s1, hu, h⟩
  · exact head_bad h
  have hh := head_adv hu
  simp only at hh
  unfold restR at h
  rcases bind_bad h with h | ⟨u, s2, _, h⟩
  · exact hb (by omega) s1 a e (hh.2.1 (by omega)) (by rw [hh.2.2.1, hd]) h
  split at h
  · cases h
  · exact failR_in h
theorem atom_bad {s : PS} {a e : Nat} (hd : s.deep = d) (hd50 : d ≤ 50) (hlt : s.pos < l.length) (h : atomR l rec s = .bad a e) : BadIn l a e := by
  unfold atomR at h
  simp only at h
  split at h
  · exact failR_in h
  split at h
  · rename_i hc; exact group_bad hb hd hd50 hc h
  split at h
  · exact set_bad (by simp only; omega) h
  split at h
  · cases h
  split at h
  · cases h
  split at h
  · cases h
  split at h
  · split at h
    · cases h
    · split at h
      · cases h
      · rcases bind_bad h with h | ⟨u, s1, _, h⟩
        · exact lit_bad h
        · cases h
  · cases h
omit hb in
theorem lazy_bad {s : PS} {x : Rx} {p q : Int} {a e : Nat} (h : lazyR free l x p q s = .bad a e) : False := by
  unfold lazyR at h
  simp only at h
  split at h <;> cases h
theorem part_bad {s : PS} {a e : Nat} (hd : s.deep = d) (hd50 : d ≤ 50) (hlt : s.pos < l.length) (h : partR free l rec s = .bad a e) : BadIn l a e := by
  unfold partR at h
  rcases bind_bad h with h | ⟨u, s1, _, h⟩
  · exact atom_bad hb hd hd50 hlt h
  simp only at h
  split at h
  · exact (lazy_bad h).elim
  split at h
  · exact (lazy_bad h).elim
  split at h
  · exact (lazy_bad h).elim
  split at h
  · rcases bind_bad h with h | ⟨u, s1, _, h⟩
    · exact times_bad h
    · exact (lazy_bad h).elim
  · cases h
include hrec
theorem parts_badS : ∀ (f : Nat) (s : PS) (a e : Nat), s.deep = d → d ≤ 50 → l.length < f + s.pos → s.pos ≤ l.length → partsR free l rec f s = .bad a e → BadIn l a e
  | 0, s, a, e, _, _, h1, h2, _ => by omega
  | f + 1, s, a, e, hd, hd50, h1, h2, h => by
    unfold partsR at h
    split at h
    · rename_i hc
      rcases bind_bad h with h | ⟨x, s1, hx, h⟩
      · exact part_bad hb hd hd50 hc.1 h
      have ha := part_adv hrec hc.1 hx
      have hs := skip_adv (free := free) (l := l) s1
      rcases bind_bad h with h | ⟨u, s2, _, h⟩
      · exact parts_badS f (skipS' free l s1) a e (by rw [hs.deep, ha.1.deep, hd]) hd50 (by have := ha.2; have := hs.pos; omega) (hs.le (ha.1.le h2)) h
      · cases h
    · cases h
theorem seq_bad {s : PS} {a e : Nat} (hd : s.deep = d) (hd50 : d ≤ 50) (hs : s.pos ≤ l.length) (h : seqR free l rec s = .bad a e) : BadIn l a e := by
  unfold seqR at h
  have hk := skip_adv (free := free) (l := l) s
  rcases bind_bad h with h | ⟨u, s1, _, h⟩
  · exact parts_badS hrec hb _ _ a e (by rw [hk.deep, hd]) hd50 (by omega) (hk.le hs) h
  · cases h
theorem alts_badS : ∀ (f : Nat) (s : PS) (a e : Nat), s.deep = d → d ≤ 50 → l.length < f + s.pos → s.pos ≤ l.length → altsR free l rec f s = .bad a e → BadIn l a e
  | 0, s, a, e, _, _, h1, h2, _ => by omega
  | f + 1, s, a, e, hd, hd50, h1, h2, h => by
    unfold altsR at h
    split at h
    · rename_i hc
      have hlt := due_lt hc (by decide)
      rcases bind_bad h with h | ⟨x, s1, hx, h⟩
      · exact seq_bad (s := { s with pos := s.pos + 1 }) hrec hb hd hd50 hlt h
      have ha := seq_adv hrec hx
      rcases bind_bad h with h | ⟨u, s2, _, h⟩
      · exact alts_badS f s1 a e (by rw [ha.deep]; exact hd) hd50 (by have h9 : s.pos + 1 ≤ s1.pos := ha.pos; omega) (ha.le hlt) h
      · cases h
    · cases h
theorem alt_bad {s : PS} {a e : Nat} (hd : s.deep = d) (hd50 : d ≤ 50) (hs : s.pos ≤ l.length) (h : altR free l rec s = .bad a e) : BadIn l a e := by
  unfold altR at h
  rcases bind_bad h with h | ⟨x, s1, hx, h⟩
  · exact seq_bad hrec hb hd hd50 hs h
  have ha := seq_adv hrec hx
  rcases bind_bad h with h | ⟨u, s2, _, h⟩
  · exact alts_badS hrec hb _ _ a e (by rw [ha.deep, hd]) hd50 (by omega) (ha.le hs) h
  · cases h
end
theorem altF_bad : ∀ (n : Nat) (s : PS) (a e : Nat), s.deep + n = 50 → s.pos ≤ l.length → altF free l (n + 1) s = .bad a e → BadIn l a e
  | 0, s, a, e, hd, hs, h => alt_bad (d := s.deep) (fun s v s' h => altF_adv 0 s s' v h) (fun h => by omega) rfl (by omega) hs h
  | n + 1, s, a, e, hd, hs, h => alt_bad (d := s.deep) (fun s v s' h => altF_adv (n + 1) s s' v h) (fun _ s1 a e h1 h2 h3 => altF_bad n s1 a e (by omega) h1 h3) rfl (by omega) hs h
/-- RegexSound, plainly -/
theorem parse_sound {x : Rx} {ns : List (List UInt8)} {a e : Nat} (h : parseL free l = (x, ns, a, e)) :
    (e ≠ 0 → x = rxNone ∧ ns = [] ∧ a ≤ l.length ∧ (e = 5 → a = l.length)) ∧ (e = 0 → Snd x 1 (ns.length + 1) ∧ a = 0) ∧ e ≤ 10 := by
  unfold parseL at h
  split at h
  · injection h with h1 h; injection h with h2 h; injection h with h3 h4
    subst h1 h2 h3 h4
    exact ⟨fun _ => ⟨rfl, rfl, Nat.zero_le _, (fun h => absurd h (by decide))⟩, (fun h => absurd h (by decide)), by decide⟩
  · split at h
    · rename_i a' e' hp
      have := altF_bad 50 _ _ _ rfl (Nat.zero_le _) hp
      injection h with h1 h; injection h with h2 h; injection h with h3 h4
      subst h1 h2 h3 h4
      exact ⟨fun _ => ⟨rfl, rfl, this.1, this.2.2.1⟩, fun h => absurd h this.2.1, this.2.2.2⟩
    · rename_i y s hp
      split at h
      · rename_i hlt
        injection h with h1 h; injection h with h2 h; injection h with h3 h4
        subst h1 h2 h3 h4
        exact ⟨fun _ => ⟨rfl, rfl, by omega, (fun h => absurd h (by decide))⟩, (fun h => absurd h (by decide)), by decide⟩
      · injection h with h1 h; injection h with h2 h; injection h with h3 h4
        subst h1 h2 h3 h4
        exact ⟨fun h => absurd rfl h, fun _ => ⟨altF_snd 51 _ _ _ hp, rfl⟩, by decide⟩
end Go.Proofs.YtoniccokohjenaaDoor
