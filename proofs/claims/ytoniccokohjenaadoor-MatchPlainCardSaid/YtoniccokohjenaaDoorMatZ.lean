/-
  Plain Lean: of which kinds the parts of a tree are that was read (chapters 18, 19). No program in sight.
  Plain Lean: a tree's steps: how many, where they lead, which groups they mark (chapter 19). No program in sight.
  Plain Lean: a tree has as many steps as its size tells, if these are not too many (chapter 19). No program in sight.
  Plain Lean: all matches of a pattern's steps; they rise, and what a group caught stands within the match (chapter 19). No program in sight.
  Plain Lean: which tests a pattern's steps make; fuel for all matches (chapter 19). No program in sight.
  Plain Lean: steps laid one behind the other, and forks whose ways come later (chapter 19). No program in sight.
-/
import Derived.Test.YtoniccokohjenaaDoorRegSm
import Derived.Test.YtoniccokohjenaaDoorMatP
namespace Go.Proofs.YtoniccokohjenaaDoor

/-- one of a set -/
def LfS (x : Rx) : Prop := x.kids = [] ∧ (x.kind = 1 ∨ x.kind = 4 ∨ x.kind = 5)
/-- kinds as the grammar has them -/
inductive Gd : Rx → Prop where
  | leaf {x : Rx} : x.kids = [] → (x.kind = 0 ∨ x.kind = 1 ∨ x.kind = 2 ∨ x.kind = 4 ∨ x.kind = 5 ∨ x.kind = 10 ∨ x.kind = 11 ∨ x.kind = 12) → Gd x
  | set {x : Rx} : x.kind = 3 → (∀ k ∈ x.kids, LfS k) → Gd x
  | seq {x : Rx} : x.kind = 6 → (∀ k ∈ x.kids, Gd k) → Gd x
  | alt {x : Rx} : x.kind = 7 → x.kids ≠ [] → (∀ k ∈ x.kids, Gd k) → Gd x
  | rep {x k : Rx} : x.kind = 8 → x.kids = [k] → Gd k → 0 ≤ x.min ∧ x.min ≤ 255 → x.max = -1 ∨ (x.min ≤ x.max ∧ x.max ≤ 255) → Gd x
  | grp {x k : Rx} : x.kind = 9 → x.kids = [k] → Gd k → Gd x
def Gds (xs : List Rx) : Prop := ∀ k ∈ xs, Gd k
theorem Gds.nil : Gds [] := fun k hk => by cases hk
theorem Gds.cons {x : Rx} {xs : List Rx} (h : Gd x) (k : Gds xs) : Gds (x :: xs) := fun y hy => by
  rcases List.mem_cons.1 hy with rfl | hy
  · exact h
  · exact k y hy

variable {free : Bool} {l : List Int}
theorem one_gd {s s' : PS} {v : Rx × Bool} (h : oneR l s = .ok v s') : LfS v.1 := by
  unfold oneR at h
  simp only at h
  split at h
  · exact (failR_ok h).elim
  split at h
  · split at h
    · injection h with h1 _; subst h1; exact ⟨rfl, .inr (.inr rfl)⟩
    · obtain ⟨c, s1, h1, h2⟩ := bind_ok h
      injection h2 with h3 _; subst h3; exact ⟨rfl, .inl rfl⟩
  · injection h with h1 _; subst h1; exact ⟨rfl, .inl rfl⟩
theorem item_gd {s s' : PS} {v : Rx} (h : itemR l s = .ok v s') : LfS v := by
  unfold itemR at h
  obtain ⟨x, s1, h1, h2⟩ := bind_ok h
  split at h2
  · obtain ⟨y, s2, h3, h4⟩ := bind_ok h2
    split at h4
    · exact (failR_ok h4).elim
    · injection h4 with h5 _; subst h5
      exact ⟨rfl, .inr (.inl rfl)⟩
  · injection h2 with h3 _; subst h3; exact one_gd h1
theorem items_gd : ∀ (f : Nat) (s s' : PS) (v : List Rx), itemsR l f s = .ok v s' → ∀ k ∈ v, LfS k
  | 0, s, s', v, h => by cases h
  | f + 1, s, s', v, h => by
    unfold itemsR at h
    obtain ⟨x, s1, h1, h2⟩ := bind_ok h
    split at h2
    · injection h2 with h3 _; subst h3
      intro k hk
      obtain rfl := List.mem_singleton.1 hk
      exact item_gd h1
    · obtain ⟨xs, s2, h3, h4⟩ := bind_ok h2
      injection h4 with h5 _; subst h5
      have := items_gd f _ _ _ h3
      intro k hk
      rcases List.mem_cons.1 hk with rfl | hk
      · exact item_gd h1
      · exact this k hk
theorem set_gd {s s' : PS} {v : Rx} (h : setR l s = .ok v s') : Gd v := by
  unfold setR at h
  split at h
  · obtain ⟨xs, s1, h1, h2⟩ := bind_ok h
    injection h2 with h3 _; subst h3
    exact .set rfl (items_gd _ _ _ _ h1)
  · obtain ⟨xs, s1, h1, h2⟩ := bind_ok h
    injection h2 with h3 _; subst h3
    exact .set rfl (items_gd _ _ _ _ h1)

section
variable {rec : PS → PR Rx} (hrec : ∀ s v s', rec s = .ok v s' → Gd v)
include hrec
theorem group_gd {s s' : PS} {v : Rx} (h : groupR l rec s = .ok v s') : Gd v := by
  unfold groupR at h
  split at h
  · cases h
  obtain ⟨n, s1, h1, h2⟩ := bind_ok h
  unfold restR at h2
  obtain ⟨x, s2, h3, h4⟩ := bind_ok h2
  have hr := hrec _ _ _ h3
  split at h4
  · injection h4 with h5 h6
    subst h5 h6
    cases n with
    | none => exact hr
    | some k => exact .grp rfl rfl hr
  · exact (failR_ok h4).elim
theorem atom_gd {s s' : PS} {v : Rx} (h : atomR l rec s = .ok v s') : Gd v := by
  unfold atomR at h
  simp only at h
  split at h
  · exact (failR_ok h).elim
  split at h
  · exact group_gd hrec h
  split at h
  · exact set_gd h
  split at h
  · injection h with h1 h2; subst h1 h2; exact .leaf rfl (by simp [rxKind, Rx.kind])
  split at h
  · injection h with h1 h2; subst h1 h2; exact .leaf rfl (by simp [rxKind, Rx.kind])
  split at h
  · injection h with h1 h2; subst h1 h2; exact .leaf rfl (by simp [rxKind, Rx.kind])
  split at h
  · split at h
    · injection h with h1 h2; subst h1 h2; exact .leaf rfl (by simp [rxClass, Rx.kind])
    · split at h
      · injection h with h1 h2; subst h1 h2; exact .leaf rfl (by simp [rxWord, Rx.kind])
      · obtain ⟨c, s1, h1, h2⟩ := bind_ok h
        injection h2 with h3 h4; subst h3 h4
        exact .leaf rfl (by simp [rxRune, Rx.kind])
  · injection h with h1 h2; subst h1 h2; exact .leaf rfl (by simp [rxRune, Rx.kind])
theorem part_gd {s s' : PS} {v : Rx} (h : partR free l rec s = .ok v s') : Gd v := by
  unfold partR at h
  obtain ⟨x, s1, h1, h2⟩ := bind_ok h
  have ha := atom_gd hrec h1
  simp only at h2
  have key : ∀ {p q : Int} {s2 : PS}, 0 ≤ p ∧ p ≤ 255 → q = -1 ∨ (p ≤ q ∧ q ≤ 255) → lazyR free l x p q s2 = .ok v s' → Gd v := fun hp hq h3 => by
    unfold lazyR at h3
    simp only at h3
    split at h3 <;> (injection h3 with h4 h5; subst h4 h5; exact .rep rfl rfl ha hp hq)
  split at h2
  · exact key (by omega) (.inl rfl) h2
  split at h2
  · exact key (by omega) (.inl rfl) h2
  split at h2
  · exact key (by omega) (.inr (by omega)) h2
  split at h2
  · obtain ⟨q, s2, h3, h4⟩ := bind_ok h2
    obtain ⟨_, h6, h7, h8⟩ := times_adv h3
    exact key (by omega) (by omega) h4
  · injection h2 with h3 h4; subst h3 h4; exact ha
theorem parts_gd : ∀ (f : Nat) (s s' : PS) (v : List Rx), partsR free l rec f s = .ok v s' → Gds v
  | 0, s, s', v, h => by cases h
  | f + 1, s, s', v, h => by
    unfold partsR at h
    split at h
    · obtain ⟨x, s1, h1, h2⟩ := bind_ok h
      obtain ⟨xs, s2, h3, h4⟩ := bind_ok h2
      injection h4 with h5 h6; subst h5 h6
      exact .cons (part_gd hrec h1) (parts_gd f _ _ _ h3)
    · injection h with h1 h2; subst h1 h2; exact .nil
theorem seq_gd {s s' : PS} {v : Rx} (h : seqR free l rec s = .ok v s') : Gd v := by
  unfold seqR at h
  obtain ⟨xs, s1, h1, h2⟩ := bind_ok h
  injection h2 with h3 h4; subst h3 h4
  have h7 := parts_gd hrec _ _ _ _ h1
  match xs, h7 with
  | [], _ => exact .leaf rfl (.inl rfl)
  | [x], h7 => exact h7 x (List.mem_singleton.2 rfl)
  | x :: y :: r, h7 => exact .seq rfl h7
theorem alts_gd : ∀ (f : Nat) (s s' : PS) (v : List Rx), altsR free l rec f s = .ok v s' → Gds v
  | 0, s, s', v, h => by cases h
  | f + 1, s, s', v, h => by
    unfold altsR at h
    split at h
    · obtain ⟨x, s1, h1, h2⟩ := bind_ok h
      obtain ⟨xs, s2, h3, h4⟩ := bind_ok h2
      injection h4 with h5 h6; subst h5 h6
      exact .cons (seq_gd hrec h1) (alts_gd f _ _ _ h3)
    · injection h with h1 h2; subst h1 h2; exact .nil
theorem alt_gd {s s' : PS} {v : Rx} (h : altR free l rec s = .ok v s') : Gd v := by
  unfold altR at h
  obtain ⟨x, s1, h1, h2⟩ := bind_ok h
  obtain ⟨xs, s2, h3, h4⟩ := bind_ok h2
  injection h4 with h5 h6; subst h5 h6
  have hx := seq_gd hrec h1
  have hxs := alts_gd hrec _ _ _ _ h3
  match xs, hxs with
  | [], _ => exact hx
  | y :: r, hxs => exact .alt rfl (by simp [altOf, rxAlt, Rx.kids]) (Gds.cons hx hxs)
end
theorem altF_gd : ∀ (n : Nat) (s s' : PS) (v : Rx), altF free l n s = .ok v s' → Gd v
  | 0, s, s', v, h => by cases h
  | n + 1, s, s', v, h => alt_gd (fun s v s' h => altF_gd n s s' v h) h
theorem parse_gd (x : Rx) (ns : List (List UInt8)) (a e : Nat) (h : parseL free l = (x, ns, a, e)) : Gd x := by
  unfold parseL at h
  split at h
  · injection h with h1 h2; subst h1; exact .leaf rfl (.inl rfl)
  · split at h
    · injection h with h1 h2; subst h1; exact .leaf rfl (.inl rfl)
    · rename_i y s hp
      split at h
      · injection h with h1 h2; subst h1; exact .leaf rfl (.inl rfl)
      · injection h with h1 h2; subst h1
        exact altF_gd _ _ _ _ hp

end Go.Proofs.YtoniccokohjenaaDoor

namespace Go.Proofs.YtoniccokohjenaaDoor

section
variable {f : Nat → List Stp} {c : Nat}
theorem copies_len (hf : ∀ p, (f p).length = c) : ∀ (n p : Nat), (copiesL f n p).length = n * c
  | 0, p => by simp [copiesL]
  | n + 1, p => by rw [copiesL, List.length_append, copies_len hf n, hf, Nat.succ_mul, Nat.add_comm]
theorem star_len (hf : ∀ p, (f p).length = c) (z : Bool) (p : Nat) : (starL f z p).length = c + 2 := by
  unfold starL; simp [hf]
theorem opts_len (hf : ∀ p, (f p).length = c) (z : Bool) (e : Nat) : ∀ (n p : Nat), (optsL f z e n p).length = n * (c + 1)
  | 0, p => by simp [optsL]
  | n + 1, p => by
    rw [optsL, List.length_cons, List.length_append, opts_len hf z e n, hf, Nat.succ_mul]
    omega
theorem rep_len (hf : ∀ p, (f p).length = c) (mn mx : Int) (z : Bool) (p : Nat) : (repL f mn mx z p).length = mn.toNat * c + (if mx < 0 then c + 2 else (mx - mn).toNat * (c + 1)) := by
  unfold repL
  simp only [List.length_append, copies_len hf]
  split
  · rw [star_len hf]
  · rw [opts_len hf]
end
mutual
/-- a tree has as many steps wherever they lie -/
theorem lay_len : ∀ (x : Rx) (p : Nat), (layR x p).length = (layR x 0).length
  | .mk kind rune to kids mn mx z n g nm, p => by
    have h1 := seq_len kids
    have h2 := altL_len kids
    have h3 := head_len kids
    unfold layR
    split
    · rfl
    split
    · exact h1 p
    split
    · exact h2 p
    split
    · simp only [List.length_cons, List.length_append]
      rw [h3 (p + 1), h3 (0 + 1)]
    split
    · rw [rep_len (c := (layHead kids 0).length) h3, rep_len (c := (layHead kids 0).length) h3]
    · rfl
theorem head_len : ∀ (ks : List Rx) (p : Nat), (layHead ks p).length = (layHead ks 0).length
  | [], _ => rfl
  | k :: _, p => by rw [layHead, layHead]; exact lay_len k p
theorem seq_len : ∀ (ks : List Rx) (p : Nat), (laySeq ks p).length = (laySeq ks 0).length
  | [], _ => rfl
  | k :: ks, p => by
    have h1 := lay_len k
    have h2 := seq_len ks
    rw [laySeq, laySeq, List.length_append, List.length_append, h1 p, h2, h2 (0 + _)]
theorem altL_len : ∀ (ks : List Rx) (p : Nat), (layAlt ks p).length = (layAlt ks 0).length
  | [], _ => rfl
  | k :: ks, p => by
    have h1 := lay_len k
    have h2 := altL_len ks
    rw [layAlt, layAlt]
    split
    · exact h1 p
    · simp only [List.length_cons, List.length_append]
      rw [h1 (p + 1), h1 (0 + 1), h2, h2 (0 + 1 + _ + 1)]
end

/-- what a step leads to: not beyond e; G: the groups that may be marked -/
def Tg (e G : Nat) (s : Stp) : Prop := s.kind ≤ 4 ∧ (s.kind = 1 → s.a ≤ e ∧ s.b ≤ e) ∧ (s.kind = 2 → s.a ≤ e) ∧ (s.kind = 3 ∨ s.kind = 4 → 1 ≤ s.a ∧ s.a ≤ G)
def Tgs (e G : Nat) (ss : List Stp) : Prop := ∀ s ∈ ss, Tg e G s
theorem Tg.mono {e e' G : Nat} {s : Stp} (h : Tg e G s) (he : e ≤ e') : Tg e' G s :=
  ⟨h.1, fun k => ⟨Nat.le_trans (h.2.1 k).1 he, Nat.le_trans (h.2.1 k).2 he⟩, fun k => Nat.le_trans (h.2.2.1 k) he, h.2.2.2⟩
theorem Tgs.mono {e e' G : Nat} {ss : List Stp} (h : Tgs e G ss) (he : e ≤ e') : Tgs e' G ss := fun s hs => (h s hs).mono he
theorem Tgs.nil (e G : Nat) : Tgs e G [] := fun s hs => by cases hs
theorem Tgs.cons {e G : Nat} {s : Stp} {ss : List Stp} (h : Tg e G s) (k : Tgs e G ss) : Tgs e G (s :: ss) := fun y hy => by
  rcases List.mem_cons.1 hy with rfl | hy
  · exact h
  · exact k y hy
theorem Tgs.append {e G : Nat} {ss tt : List Stp} (h : Tgs e G ss) (k : Tgs e G tt) : Tgs e G (ss ++ tt) := fun y hy => by
  rcases List.mem_append.1 hy with hy | hy
  · exact h y hy
  · exact k y hy
theorem Tg.test (e G : Nat) (x : Rx) : Tg e G (sTest x) := ⟨by simp [sTest], by simp [sTest], by simp [sTest], by simp [sTest]⟩
theorem Tg.fork {e G : Nat} (z : Bool) {a b : Nat} (ha : a ≤ e) (hb : b ≤ e) : Tg e G (sFork z a b) := by
  unfold sFork; split <;> exact ⟨by simp, fun _ => ⟨by assumption, by assumption⟩, by simp, by simp⟩
theorem Tg.jump {e G a : Nat} (ha : a ≤ e) : Tg e G (sJump a) := ⟨by simp [sJump], by simp [sJump], fun _ => ha, by simp [sJump]⟩
theorem Tg.opn {e G g : Nat} (h1 : 1 ≤ g) (h2 : g ≤ G) : Tg e G (sOpen g) := ⟨by simp [sOpen], by simp [sOpen], by simp [sOpen], fun _ => ⟨h1, h2⟩⟩
theorem Tg.shut {e G g : Nat} (h1 : 1 ≤ g) (h2 : g ≤ G) : Tg e G (sShut g) := ⟨by simp [sShut], by simp [sShut], by simp [sShut], fun _ => ⟨h1, h2⟩⟩

section
variable {f : Nat → List Stp} {c G : Nat}
theorem copies_tg (hf : ∀ p, (f p).length = c) (ht : ∀ p, Tgs (p + c) G (f p)) : ∀ (n p : Nat), Tgs (p + n * c) G (copiesL f n p)
  | 0, p => .nil _ _
  | n + 1, p => by
    rw [copiesL, hf]
    have h1 : p + c ≤ p + (n + 1) * c := by rw [Nat.succ_mul]; omega
    have h2 : p + c + n * c = p + (n + 1) * c := by rw [Nat.succ_mul]; omega
    exact ((ht p).mono h1).append (h2 ▸ copies_tg hf ht n (p + c))
theorem star_tg (hf : ∀ p, (f p).length = c) (ht : ∀ p, Tgs (p + c) G (f p)) (z : Bool) (p : Nat) : Tgs (p + (c + 2)) G (starL f z p) := by
  unfold starL
  rw [hf]
  exact .cons (.fork z (by omega) (by omega)) (((ht (p + 1)).mono (by omega)).append (.cons (.jump (by omega)) (.nil _ _)))
theorem opts_tg (hf : ∀ p, (f p).length = c) (ht : ∀ p, Tgs (p + c) G (f p)) (z : Bool) (e : Nat) : ∀ (n p : Nat), p + n * (c + 1) ≤ e → Tgs e G (optsL f z e n p)
  | 0, p, _ => .nil _ _
  | n + 1, p, he => by
    rw [Nat.succ_mul] at he
    rw [optsL, hf]
    have h3 : p + 1 + c + n * (c + 1) ≤ e := by omega
    have h4 : p + 1 + c ≤ e := by omega
    exact .cons (.fork z (by omega) (Nat.le_refl _)) (((ht (p + 1)).mono h4).append (opts_tg hf ht z e n _ h3))
theorem rep_tg (hf : ∀ p, (f p).length = c) (ht : ∀ p, Tgs (p + c) G (f p)) (mn mx : Int) (z : Bool) (p : Nat) : Tgs (p + (repL f mn mx z p).length) G (repL f mn mx z p) := by
  rw [rep_len hf]
  unfold repL
  simp only [copies_len hf]
  refine Tgs.append ((copies_tg hf ht _ _).mono (by omega)) ?_
  split
  · exact (star_tg hf ht z _).mono (by omega)
  · rw [hf 0]
    exact (opts_tg hf ht z _ _ _ (Nat.le_refl _)).mono (by omega)
end
mutual
theorem lay_tg : ∀ (x : Rx) (a b G p : Nat), 1 ≤ a → Snd x a b → b ≤ G + 1 → Tgs (p + (layR x p).length) G (layR x p) ∧ a ≤ b
  | .mk kind rune to kids mn mx z n g nm, a, b, G, p, ha, hs, hb => by
    have hl := lay_len (.mk kind rune to kids mn mx z n g nm) p
    unfold Snd at hs
    rw [soundR] at hs
    split at hs
    · injection hs with h _; cases h
    rename_i hc
    by_cases h9 : kind = 9
    · rw [if_pos h9] at hs
      split at hs
      · injection hs with h _; cases h
      rename_i hg
      have hg : g = a ∧ kids.length = 1 := by omega
      obtain ⟨rfl, hk⟩ := hg
      have h3 := fun p => head_tg kids (g + 1) b G p (by omega) hs hb
      rw [layR, if_neg (by omega), if_neg (by omega), if_neg (by omega), if_pos h9]
      refine ⟨?_, by have := (h3 0).2; omega⟩
      have hle := (h3 0).2
      refine .cons (.opn ha (by omega)) (.append ?_ (.cons (.shut ha (by omega)) (.nil _ _)))
      exact ((h3 (p + 1)).1).mono (by simp only [List.length_cons, List.length_append]; omega)
    rw [if_neg h9] at hs
    rw [layR]
    have hab := snds_le kids a b hs
    by_cases h0 : kind = 0
    · rw [if_pos h0]; exact ⟨.nil _ _, hab⟩
    rw [if_neg h0]
    by_cases h6 : kind = 6
    · rw [if_pos h6]; exact ⟨seq_tg kids a b G p ha hs hb, hab⟩
    rw [if_neg h6]
    by_cases h7 : kind = 7
    · rw [if_pos h7]; exact ⟨alt_tg kids a b G p ha hs hb, hab⟩
    rw [if_neg h7, if_neg h9]
    by_cases h8 : kind = 8
    · rw [if_pos h8]
      have h3 := fun p => (head_tg kids a b G p ha hs hb).1
      exact ⟨rep_tg (c := (layHead kids 0).length) (head_len kids) (fun p => by have := h3 p; rw [head_len kids p] at this; exact this) mn mx z p, hab⟩
    · rw [if_neg h8]
      exact ⟨.cons (.test _ _ _) (.nil _ _), hab⟩
theorem snds_le : ∀ (ks : List Rx) (a b : Nat), soundsR ks a = (true, b) → a ≤ b
  | [], a, b, h => by rw [soundsR] at h; injection h with _ h; omega
  | k :: ks, a, b, h => by
    rw [soundsR] at h
    split at h
    · rename_i h1
      have h2 := snd_le k a (soundR k a).2 (by rw [← h1])
      have h3 := snds_le ks _ _ h
      omega
    · injection h with h _; cases h
theorem snd_le : ∀ (x : Rx) (a b : Nat), soundR x a = (true, b) → a ≤ b
  | .mk kind rune to kids mn mx z n g nm, a, b, h => by
    rw [soundR] at h
    split at h
    · injection h with h _; cases h
    split at h
    · split at h
      · injection h with h _; cases h
      · have := snds_le kids _ _ h; omega
    · exact snds_le kids _ _ h
theorem head_tg : ∀ (ks : List Rx) (a b G p : Nat), 1 ≤ a → soundsR ks a = (true, b) → b ≤ G + 1 → Tgs (p + (layHead ks p).length) G (layHead ks p) ∧ a ≤ b
  | [], a, b, G, p, _, h, _ => by rw [soundsR] at h; injection h with _ h; exact ⟨.nil _ _, by omega⟩
  | k :: ks, a, b, G, p, ha, h, hb => by
    rw [soundsR] at h
    split at h
    · rename_i h1
      have h3 := snds_le ks _ _ h
      have h4 := lay_tg k a (soundR k a).2 G p ha (by unfold Snd; rw [← h1]) (by omega)
      rw [layHead]
      exact ⟨h4.1, by omega⟩
    · injection h with h _; cases h
theorem seq_tg : ∀ (ks : List Rx) (a b G p : Nat), 1 ≤ a → soundsR ks a = (true, b) → b ≤ G + 1 → Tgs (p + (laySeq ks p).length) G (laySeq ks p)
  | [], a, b, G, p, _, h, _ => .nil _ _
  | k :: ks, a, b, G, p, ha, h, hb => by
    rw [soundsR] at h
    split at h
    · rename_i h1
      have h3 := snds_le ks _ _ h
      have h4 := lay_tg k a (soundR k a).2 G p ha (by unfold Snd; rw [← h1]) (by omega)
      have h5 := seq_tg ks _ b G (p + (layR k p).length) (by omega) h hb
      rw [laySeq]
      rw [List.length_append]
      exact (h4.1.mono (by omega)).append (h5.mono (by omega))
    · injection h with h _; cases h
theorem alt_tg : ∀ (ks : List Rx) (a b G p : Nat), 1 ≤ a → soundsR ks a = (true, b) → b ≤ G + 1 → Tgs (p + (layAlt ks p).length) G (layAlt ks p)
  | [], a, b, G, p, _, h, _ => .nil _ _
  | k :: ks, a, b, G, p, ha, h, hb => by
    rw [soundsR] at h
    split at h
    · rename_i h1
      have h3 := snds_le ks _ _ h
      have h4 := fun p => (lay_tg k a (soundR k a).2 G p ha (by unfold Snd; rw [← h1]) (by omega)).1
      have h5 := fun p => alt_tg ks _ b G p (by have := (lay_tg k a (soundR k a).2 G p ha (by unfold Snd; rw [← h1]) (by omega)).2; omega) h hb
      rw [layAlt]
      split
      · exact h4 p
      · have hq := h4 (p + 1)
        have hr := h5 (p + 1 + (layR k (p + 1)).length + 1)
        dsimp only
        generalize hA : layR k (p + 1) = A at *
        generalize hB : layAlt ks (p + 1 + A.length + 1) = B at *
        have key : ∀ e, p + 1 + A.length + 1 + B.length ≤ e → Tgs e G (sFork false (p + 1) (p + 1 + A.length + 1) :: (A ++ sJump (p + 1 + A.length + 1 + B.length) :: B)) := fun e he =>
          Tgs.cons (Tg.fork _ (by omega) (by omega)) (Tgs.append (hq.mono (by omega)) (Tgs.cons (Tg.jump (by omega)) (hr.mono (by omega))))
        refine key _ ?_
        simp only [List.length_cons, List.length_append]; omega
    · injection h with h _; cases h
end
/-- a pattern's steps, and the end of all -/
def stepsOf (x : Rx) : List Stp := layR x 0 ++ [sDone]
theorem steps_wf {x : Rx} {b G : Nat} (hs : Snd x 1 b) (hb : b ≤ G + 1) : WfP (stepsOf x) := by
  have ht := (lay_tg x 1 b G 0 (Nat.le_refl _) hs hb).1
  rw [Nat.zero_add] at ht
  have hl : (stepsOf x).length = (layR x 0).length + 1 := by simp [stepsOf]
  have key : ∀ (pc : Nat) (s : Stp), (stepsOf x)[pc]? = some s → (pc < (layR x 0).length ∧ Tg (layR x 0).length G s) ∨ s = sDone := fun pc s h => by
    unfold stepsOf at h
    by_cases hp : pc < (layR x 0).length
    · rw [List.getElem?_append_left hp] at h
      exact .inl ⟨hp, ht s (List.mem_of_getElem? h)⟩
    · rw [List.getElem?_append_right (by omega)] at h
      have : pc - (layR x 0).length = 0 := by
        have := (List.getElem?_eq_some_iff.1 h).1
        simp at this; omega
      rw [this] at h
      injection h with h
      exact .inr h.symm
  refine ⟨fun pc s h hk => ?_, fun pc s h hk => ?_, fun pc s h hk => ?_, fun pc s h => ?_⟩
  · rcases key pc s h with ⟨h1, _⟩ | rfl
    · omega
    · simp [sDone] at hk
  · rcases key pc s h with ⟨h1, h2⟩ | rfl
    · have := h2.2.1 hk; omega
    · simp [sDone] at hk
  · rcases key pc s h with ⟨h1, h2⟩ | rfl
    · have := h2.2.2.1 hk; omega
    · simp [sDone] at hk
  · rcases key pc s h with ⟨h1, h2⟩ | rfl
    · have := h2.1; omega
    · simp [sDone]
/-- the groups that are marked -/
theorem steps_groups {x : Rx} {b G : Nat} (hs : Snd x 1 b) (hb : b ≤ G + 1) (s : Stp) (h : s ∈ stepsOf x) (hk : s.kind = 3 ∨ s.kind = 4) : 1 ≤ s.a ∧ s.a ≤ G := by
  have ht := (lay_tg x 1 b G 0 (Nat.le_refl _) hs hb).1
  unfold stepsOf at h
  rcases List.mem_append.1 h with h | h
  · exact (ht s h).2.2.2 hk
  · obtain rfl := List.mem_singleton.1 h
    simp [sDone] at hk

end Go.Proofs.YtoniccokohjenaaDoor

namespace Go.Proofs.YtoniccokohjenaaDoor

def capS (v : Int) : Int := if 20001 < v then 20001 else v
theorem capS_le {v : Int} (h : capS v ≤ 20000) : capS v = v ∧ v ≤ 20000 := by
  unfold capS at *
  split at h
  · omega
  · rw [if_neg (by assumption)]; exact ⟨rfl, h⟩
theorem capS_nonneg {v : Int} (h : 0 ≤ v) : 0 ≤ capS v := by unfold capS; split <;> omega
theorem size_eq (kind : Nat) (rune to : Int) (kids : List Rx) (mn mx : Int) (z n : Bool) (g : Nat) (nm : List UInt8) : sizeR (.mk kind rune to kids mn mx z n g nm) =
    capS (if kind = 0 ∨ kind = 6 then sizesR kids else if kind = 7 then sizesR kids + 2 * ((kids.length : Int) - 1) else if kind = 9 then sizesR kids + 2 else if kind = 8 then (if mx < 0 then (mn + 1) * sizesR kids + 2 else mx * sizesR kids + mx - mn) else 1) := by rw [sizeR]; rfl

theorem mul_mono_one {a n : Int} (ha : 1 ≤ a) (hn : 0 ≤ n) : n ≤ a * n := by
  have := Int.mul_le_mul_of_nonneg_right ha hn
  rwa [Int.one_mul] at this

/-- a tree's size, and its steps -/
def SzOk (x : Rx) : Prop := 0 ≤ sizeR x ∧ (sizeR x ≤ 20000 → ∀ p, ((layR x p).length : Int) = sizeR x)
theorem sz_kids : ∀ (ks : List Rx), (∀ k ∈ ks, SzOk k) → 0 ≤ sizesR ks ∧ (sizesR ks ≤ 20000 → (∀ p, ((laySeq ks p).length : Int) = sizesR ks) ∧ (ks ≠ [] → ∀ p, ((layAlt ks p).length : Int) = sizesR ks + 2 * ((ks.length : Int) - 1)))
  | [], _ => ⟨by rw [sizesR]; omega, fun _ => ⟨fun p => by rw [laySeq, sizesR]; rfl, fun h => absurd rfl h⟩⟩
  | k :: ks, h => by
    have h1 := h k (by simp)
    have h2 := sz_kids ks (fun k hk => h k (List.mem_cons_of_mem _ hk))
    rw [sizesR]
    refine ⟨by have := h1.1; have := h2.1; omega, fun hle => ?_⟩
    have ha := h1.2 (by have := h2.1; omega)
    have hb := h2.2 (by have := h1.1; omega)
    refine ⟨fun p => ?_, fun _ p => ?_⟩
    · rw [laySeq, List.length_append]
      have e1 := ha p
      have e2 := hb.1 (p + (layR k p).length)
      omega
    · rw [layAlt]
      cases hks : ks with
      | nil =>
        have e1 := ha p
        simp only [List.isEmpty_nil, if_true]
        rw [show sizesR [] = 0 by rw [sizesR]]
        simp only [List.length_singleton]
        omega
      | cons k2 ks2 =>
        have e1 := ha (p + 1)
        have e2 := hb.2 (by rw [hks]; simp) (p + 1 + (layR k (p + 1)).length + 1)
        rw [← hks]
        have hne : ks.isEmpty = false := by rw [hks]; rfl
        rw [hne]
        simp only [Bool.false_eq_true, if_false, List.length_cons, List.length_append]
        have : ks.length = ks2.length + 1 := by rw [hks]; rfl
        omega
theorem lay_size {x : Rx} (h : Gd x) : SzOk x := by
  induction h with
  | @leaf x hk hkind =>
    obtain ⟨kind, rune, to, kids, mn, mx, z, n, g, nm⟩ := x
    simp only [Rx.kids, Rx.kind] at hk hkind
    subst hk
    unfold SzOk
    rw [size_eq]
    simp only [sizesR, capS]
    rcases hkind with rfl | rfl | rfl | rfl | rfl | rfl | rfl | rfl <;> refine ⟨by simp, fun _ p => ?_⟩ <;> rw [layR] <;> simp
  | @set x hkind hk =>
    obtain ⟨kind, rune, to, kids, mn, mx, z, n, g, nm⟩ := x
    simp only [Rx.kind] at hkind
    subst hkind
    unfold SzOk
    rw [size_eq]
    refine ⟨by simp [capS], fun _ p => ?_⟩
    rw [layR]; simp [capS]
  | @seq x hkind hk ih =>
    obtain ⟨kind, rune, to, kids, mn, mx, z, n, g, nm⟩ := x
    simp only [Rx.kind] at hkind
    subst hkind
    have hz := sz_kids kids ih
    unfold SzOk
    rw [size_eq]
    rw [if_pos (.inr rfl)]
    refine ⟨capS_nonneg hz.1, fun hle p => ?_⟩
    obtain ⟨he, hs⟩ := capS_le hle
    rw [he, layR, if_neg (by decide), if_pos rfl]
    exact (hz.2 hs).1 p
  | @alt x hkind hne hk ih =>
    obtain ⟨kind, rune, to, kids, mn, mx, z, n, g, nm⟩ := x
    simp only [Rx.kind, Rx.kids] at hkind hne
    subst hkind
    have hz := sz_kids kids ih
    have hl : 1 ≤ kids.length := List.length_pos_iff.2 hne
    unfold SzOk
    rw [size_eq]
    rw [if_neg (by omega), if_pos rfl]
    refine ⟨capS_nonneg (by have := hz.1; omega), fun hle p => ?_⟩
    obtain ⟨he, hs⟩ := capS_le hle
    have hs : sizesR kids ≤ 20000 := by omega
    rw [he, layR, if_neg (by decide), if_neg (by decide), if_pos rfl]
    exact (hz.2 hs).2 hne p
  | @grp x k hkind hks hk ih =>
    obtain ⟨kind, rune, to, kids, mn, mx, z, n, g, nm⟩ := x
    simp only [Rx.kind, Rx.kids] at hkind hks
    subst hkind hks
    have e : sizesR [k] = sizeR k := by rw [sizesR, sizesR]; omega
    unfold SzOk
    rw [size_eq, e]
    rw [if_neg (by omega), if_neg (by omega), if_pos rfl]
    refine ⟨capS_nonneg (by have := ih.1; omega), fun hle p => ?_⟩
    obtain ⟨he, hs⟩ := capS_le hle
    have hs : sizeR k ≤ 20000 := by omega
    rw [he, layR, if_neg (by decide), if_neg (by decide), if_neg (by decide), if_pos rfl, layHead]
    have := ih.2 hs (p + 1)
    simp only [List.length_cons, List.length_append, List.length_nil]
    omega
  | @rep x k hkind hks hk hmn hmx ih =>
    obtain ⟨kind, rune, to, kids, mn, mx, z, n, g, nm⟩ := x
    simp only [Rx.kind, Rx.kids, Rx.min, Rx.max] at hkind hks hmn hmx
    subst hkind hks
    have e : sizesR [k] = sizeR k := by rw [sizesR, sizesR]; omega
    have hf : ∀ p, (layHead [k] p).length = (layHead [k] 0).length := head_len [k]
    have e2 : (layHead [k] 0).length = (layR k 0).length := by rw [layHead]
    have hl : ∀ p, (layR (.mk 8 rune to [k] mn mx z n g nm) p).length = mn.toNat * (layR k 0).length + (if mx < 0 then (layR k 0).length + 2 else (mx - mn).toNat * ((layR k 0).length + 1)) := fun p => by
      rw [layR, if_neg (by decide), if_neg (by decide), if_neg (by decide), if_neg (by decide), if_pos rfl, rep_len hf, e2]
    have hk0 := ih.1
    have h2 := ih.2
    obtain ⟨a, rfl⟩ : ∃ a : Nat, mn = a := ⟨mn.toNat, by omega⟩
    unfold SzOk
    rw [size_eq, e]
    rw [if_neg (by omega), if_neg (by omega), if_neg (by omega), if_pos rfl]
    simp only [hl]
    generalize sizeR k = S at *
    by_cases hneg : mx < 0
    · simp only [hneg, if_true]
      have h3 : S ≤ ((a : Int) + 1) * S := mul_mono_one (by omega) hk0
      refine ⟨capS_nonneg (by omega), fun hle p => ?_⟩
      obtain ⟨he, hle'⟩ := capS_le hle
      rw [he]
      have e3 := h2 (by omega) 0
      rw [← e3]
      simp only [Int.toNat_natCast]
      push_cast
      rw [Int.add_mul]
      omega
    · simp only [hneg, if_false]
      have hmx' : (a : Int) ≤ mx ∧ mx ≤ 255 := by omega
      obtain ⟨b, rfl⟩ : ∃ b : Nat, mx = b := ⟨mx.toNat, by omega⟩
      have hab : a ≤ b := by omega
      have h4 : 0 ≤ (b : Int) * S := Int.mul_nonneg (by omega) hk0
      refine ⟨capS_nonneg (by omega), fun hle p => ?_⟩
      obtain ⟨he, hle'⟩ := capS_le hle
      rw [he]
      have hbm : ((b : Int) - (a : Int)).toNat = b - a := by omega
      simp only [Int.toNat_natCast, hbm]
      rcases Nat.eq_zero_or_pos b with rfl | hb
      · obtain rfl : a = 0 := by omega
        simp
      · have h3 : S ≤ (b : Int) * S := mul_mono_one (by omega) hk0
        have e3 := h2 (by omega) 0
        rw [← e3]
        obtain ⟨d, rfl⟩ : ∃ d, b = a + d := ⟨b - a, by omega⟩
        rw [Nat.add_sub_cancel_left]
        push_cast
        rw [Int.add_mul, Int.mul_add]
        omega

end Go.Proofs.YtoniccokohjenaaDoor

namespace Go.Proofs.YtoniccokohjenaaDoor

/-- a match, with its groups' marks -/
structure Mh where
  a : Nat
  b : Nat
  M : List Int
section
variable (m : Md) (l : List Int) (P : List Stp) (G : Nat)
/-- a run from a place -/
def runAt (i : Nat) (T : Nat → Bool) : Option (Nat × List Int) × (Nat → Bool) := dfs m l P (P.length * (l.length + 1) + 1) 0 i (List.replicate (2 * G) (-1)) T
/-- all matches from a place on -/
def allF : Nat → Nat → (Nat → Bool) → List Mh
  | 0, _, _ => []
  | f + 1, i, T =>
    if l.length < i then []
    else match runAt m l P G i T with
      | (none, T') => allF f (i + 1) T'
      | (some (e, M), _) =>
        if i < e ∨ m.some = false then ⟨i, e, M⟩ :: (if m.all then allF f (max e (i + 1)) (fun _ => false) else [])
        else allF f (max e (i + 1)) (fun _ => false)
end

/-! ### the flag g -/
theorem test_all (m : Md) (b : Bool) (l : List Int) (x : Rx) (i : Nat) : testR { m with all := b } l x i = testR m l x i := rfl
theorem dfs_all (m : Md) (b : Bool) (l : List Int) (P : List Stp) : ∀ (f pc i : Nat) (M : List Int) (T : Nat → Bool), dfs { m with all := b } l P f pc i M T = dfs m l P f pc i M T
  | 0, _, _, _, _ => rfl
  | f + 1, pc, i, M, T => by
    have ih := dfs_all m b l P f
    rw [dfs, dfs]
    simp only [ih, test_all]
theorem run_all (m : Md) (b : Bool) (l : List Int) (P : List Stp) (G i : Nat) (T : Nat → Bool) : runAt { m with all := b } l P G i T = runAt m l P G i T := dfs_all m b l P _ _ _ _ _
theorem all_g (m : Md) (l : List Int) (P : List Stp) (G : Nat) : ∀ (f i : Nat) (T : Nat → Bool), allF m l P G f i T = if m.all then allF { m with all := true } l P G f i T else (allF { m with all := true } l P G f i T).take 1
  | 0, _, _ => by unfold allF; simp
  | f + 1, i, T => by
    have ih := all_g m l P G f
    have hra := run_all m true l P G i T
    obtain ⟨m', hm'⟩ : ∃ m', m' = { m with all := true } := ⟨_, rfl⟩
    have h1 : m'.all = true := by rw [hm']
    have h2 : m'.some = m.some := by rw [hm']
    rw [← hm'] at hra ih ⊢
    rw [allF, allF, hra, h1, h2]
    by_cases h : l.length < i
    · rw [if_pos h, if_pos h]; simp
    rw [if_neg h, if_neg h]
    cases hr : runAt m l P G i T with
    | mk r T' =>
      cases r with
      | none => simp only; exact ih _ _
      | some q =>
        obtain ⟨e, M⟩ := q
        simp only
        by_cases hc : i < e ∨ m.some = false
        · rw [if_pos hc, if_pos hc]
          by_cases hm : m.all = true
          · have := ih (max e (i + 1)) (fun _ => false)
            rw [if_pos hm] at this
            rw [if_pos hm, if_pos hm, if_pos trivial, this]
          · rw [if_neg hm, if_neg hm]; simp
        · rw [if_neg hc, if_neg hc]; exact ih _ _

/-! ### which groups stand open at a step -/
def repA {α : Type} : Nat → List α → List α
  | 0, _ => []
  | n + 1, A => A ++ repA n A
theorem repA_len {α : Type} : ∀ (n : Nat) (A : List α), (repA n A).length = n * A.length
  | 0, A => by simp [repA]
  | n + 1, A => by rw [repA, List.length_append, repA_len n A, Nat.succ_mul, Nat.add_comm]
def annRep (A : List (List Nat)) (mn mx : Int) (o : List Nat) : List (List Nat) := repA mn.toNat A ++ (if mx < 0 then o :: (A ++ [o]) else repA (mx - mn).toNat (o :: A))
mutual
def annR : Rx → List Nat → List (List Nat)
  | .mk kind _ _ kids mn mx _ _ g _, o =>
    if kind = 0 then []
    else if kind = 6 then annSeq kids o
    else if kind = 7 then annAlt kids o
    else if kind = 9 then o :: (annHead kids (g :: o) ++ [g :: o])
    else if kind = 8 then annRep (annHead kids o) mn mx o
    else [o]
def annHead : List Rx → List Nat → List (List Nat)
  | [], _ => []
  | k :: _, o => annR k o
def annSeq : List Rx → List Nat → List (List Nat)
  | [], _ => []
  | k :: ks, o => annR k o ++ annSeq ks o
def annAlt : List Rx → List Nat → List (List Nat)
  | [], _ => []
  | k :: ks, o => if ks.isEmpty then annR k o else o :: (annR k o ++ o :: annAlt ks o)
end
/-- a step keeps what is open -/
def Tr (ann : Nat → List Nat) (pc : Nat) (s : Stp) : Prop :=
  (s.kind = 0 → ann (pc + 1) = ann pc) ∧ (s.kind = 1 → ann s.a = ann pc ∧ ann s.b = ann pc) ∧ (s.kind = 2 → ann s.a = ann pc) ∧ (s.kind = 3 → ann (pc + 1) = s.a :: ann pc) ∧ (s.kind = 4 → ann pc = s.a :: ann (pc + 1))
def Trs (ann : Nat → List Nat) (p : Nat) (S : List Stp) : Prop := ∀ k s, S[k]? = some s → Tr ann (p + k) s
def Fit (ann : Nat → List Nat) (p : Nat) (A : List (List Nat)) : Prop := ∀ k v, A[k]? = some v → ann (p + k) = v
theorem Fit.left {ann : Nat → List Nat} {p : Nat} {A B : List (List Nat)} (h : Fit ann p (A ++ B)) : Fit ann p A := fun k v hk => h k v (by rw [List.getElem?_append_left (List.getElem?_eq_some_iff.1 hk).1]; exact hk)
theorem Fit.right {ann : Nat → List Nat} {p : Nat} {A B : List (List Nat)} (h : Fit ann p (A ++ B)) : Fit ann (p + A.length) B := fun k v hk => by
  rw [Nat.add_assoc]; exact h _ v (by rw [List.getElem?_append_right (Nat.le_add_right _ _), Nat.add_sub_cancel_left]; exact hk)
theorem Fit.head {ann : Nat → List Nat} {p : Nat} {o : List Nat} {A : List (List Nat)} (h : Fit ann p (o :: A)) : ann p = o := h 0 o rfl
theorem Fit.tail {ann : Nat → List Nat} {p : Nat} {o : List Nat} {A : List (List Nat)} (h : Fit ann p (o :: A)) : Fit ann (p + 1) A := fun k v hk => by
  rw [Nat.add_assoc, Nat.add_comm 1 k]; exact h (k + 1) v (by simpa using hk)
theorem Trs.nil (ann : Nat → List Nat) (p : Nat) : Trs ann p [] := fun k s h => by simp at h
theorem Trs.cons {ann : Nat → List Nat} {p : Nat} {s : Stp} {S : List Stp} (h : Tr ann p s) (k : Trs ann (p + 1) S) : Trs ann p (s :: S) := fun j t ht => by
  cases j with
  | zero => obtain rfl : s = t := by simpa using ht
            exact h
  | succ j => rw [Nat.add_comm j 1, ← Nat.add_assoc]; exact k j t (by simpa using ht)
theorem Trs.append {ann : Nat → List Nat} {p : Nat} {S S' : List Stp} (h : Trs ann p S) (k : Trs ann (p + S.length) S') : Trs ann p (S ++ S') := fun j t ht => by
  by_cases hj : j < S.length
  · rw [List.getElem?_append_left hj] at ht; exact h j t ht
  · rw [List.getElem?_append_right (by omega)] at ht
    have := k _ t ht
    rw [show p + S.length + (j - S.length) = p + j by omega] at this
    exact this
theorem Tr.test {ann : Nat → List Nat} {p : Nat} (x : Rx) (h : ann (p + 1) = ann p) : Tr ann p (sTest x) := ⟨fun _ => h, by simp [sTest], by simp [sTest], by simp [sTest], by simp [sTest]⟩
theorem Tr.fork {ann : Nat → List Nat} {p : Nat} (z : Bool) {a b : Nat} (ha : ann a = ann p) (hb : ann b = ann p) : Tr ann p (sFork z a b) := by
  unfold sFork; split <;> exact ⟨by simp, fun _ => ⟨by assumption, by assumption⟩, by simp, by simp, by simp⟩
theorem Tr.jump {ann : Nat → List Nat} {p a : Nat} (h : ann a = ann p) : Tr ann p (sJump a) := ⟨by simp [sJump], by simp [sJump], fun _ => h, by simp [sJump], by simp [sJump]⟩
theorem Tr.opn {ann : Nat → List Nat} {p g : Nat} (h : ann (p + 1) = g :: ann p) : Tr ann p (sOpen g) := ⟨by simp [sOpen], by simp [sOpen], by simp [sOpen], fun _ => h, by simp [sOpen]⟩
theorem Tr.shut {ann : Nat → List Nat} {p g : Nat} (h : ann p = g :: ann (p + 1)) : Tr ann p (sShut g) := ⟨by simp [sShut], by simp [sShut], by simp [sShut], by simp [sShut], fun _ => h⟩

/-- steps that begin and end with o open -/
def SegOk (f : Nat → List Stp) (A : List (List Nat)) (o : List Nat) : Prop :=
  ∀ p ann, (f p).length = A.length ∧ (Fit ann p A → ann (p + A.length) = o → ann p = o ∧ Trs ann p (f p))
section
variable {f : Nat → List Stp} {A : List (List Nat)} {o : List Nat}
theorem copies_seg (h : SegOk f A o) : ∀ n, SegOk (copiesL f n) (repA n A) o
  | 0, p, ann => ⟨rfl, fun _ e => ⟨e, .nil _ _⟩⟩
  | n + 1, p, ann => by
    have h1 := h p ann
    have h2 := copies_seg h n (p + (f p).length) ann
    rw [copiesL, repA]
    refine ⟨by rw [List.length_append, List.length_append, h2.1, h1.1], fun hf e => ?_⟩
    rw [List.length_append, ← Nat.add_assoc] at e
    rw [h1.1] at h2
    have h3 := h2.2 hf.right e
    have h4 := h1.2 hf.left h3.1
    rw [h1.1]
    exact ⟨h4.1, h4.2.append (by rw [h1.1]; exact h3.2)⟩
theorem star_seg (h : SegOk f A o) (z : Bool) : SegOk (starL f z) (o :: (A ++ [o])) o := fun p ann => by
  have h1 := h (p + 1) ann
  unfold starL
  refine ⟨by simp [h1.1], fun hf e => ?_⟩
  have e0 := hf.head
  have e1 := hf.tail.right.head
  have h2 := h1.2 hf.tail.left e1
  have e2 : ann (p + 1 + A.length + 1) = o := (congrArg ann (by simp; omega)).trans e
  rw [h1.1]
  exact ⟨e0, .cons (.fork z (h2.1.trans e0.symm) (e2.trans e0.symm)) (h2.2.append (.cons (.jump (by rw [e0, h1.1, e1])) (.nil _ _)))⟩
theorem opts_seg (h : SegOk f A o) (z : Bool) (e : Nat) : ∀ (n p : Nat) (ann : Nat → List Nat), (optsL f z e n p).length = (repA n (o :: A)).length ∧ (Fit ann p (repA n (o :: A)) → ann (p + (repA n (o :: A)).length) = o → ann e = o → ann p = o ∧ Trs ann p (optsL f z e n p))
  | 0, p, ann => ⟨rfl, fun _ e _ => ⟨e, .nil _ _⟩⟩
  | n + 1, p, ann => by
    have h1 := h (p + 1) ann
    have h2 := opts_seg h z e n (p + 1 + (f (p + 1)).length) ann
    rw [optsL, repA]
    refine ⟨by rw [List.length_cons, List.length_append, h2.1, h1.1, List.length_append, List.length_cons]; omega, fun hf e2 ee => ?_⟩
    have hc : (o :: A ++ repA n (o :: A)) = o :: (A ++ repA n (o :: A)) := rfl
    rw [hc] at hf e2
    have e0 := hf.head
    rw [List.length_cons, List.length_append] at e2
    rw [h1.1] at h2
    have h3 := h2.2 hf.tail.right ((congrArg ann (by omega)).trans e2) ee
    have h4 := h1.2 hf.tail.left h3.1
    rw [h1.1]
    exact ⟨e0, .cons (.fork z (h4.1.trans e0.symm) (ee.trans e0.symm)) (h4.2.append (by rw [h1.1]; exact h3.2))⟩
theorem rep_seg (h : SegOk f A o) (mn mx : Int) (z : Bool) : SegOk (repL f mn mx z) (annRep A mn mx o) o := fun p ann => by
  have hc := copies_seg h mn.toNat p ann
  have hl0 : (f 0).length = A.length := (h 0 ann).1
  unfold repL annRep
  simp only
  by_cases hm : mx < 0
  · rw [if_pos hm, if_pos hm]
    have hs := star_seg h z (p + (copiesL f mn.toNat p).length) ann
    refine ⟨by rw [List.length_append, List.length_append, hs.1, hc.1], fun hf e => ?_⟩
    rw [List.length_append, ← Nat.add_assoc] at e
    rw [hc.1] at hs
    have h3 := hs.2 hf.right e
    have h4 := hc.2 hf.left h3.1
    rw [hc.1]
    exact ⟨h4.1, h4.2.append (by rw [hc.1]; exact h3.2)⟩
  · rw [if_neg hm, if_neg hm]
    have hs := opts_seg h z (p + (copiesL f mn.toNat p).length + (mx - mn).toNat * ((f 0).length + 1)) (mx - mn).toNat (p + (copiesL f mn.toNat p).length) ann
    refine ⟨by rw [List.length_append, List.length_append, hs.1, hc.1], fun hf e => ?_⟩
    rw [List.length_append, ← Nat.add_assoc] at e
    rw [hc.1] at hs
    have h3 := hs.2 hf.right e ((congrArg ann (by rw [hl0, repA_len (mx - mn).toNat]; rfl)).trans e)
    have h4 := hc.2 hf.left h3.1
    rw [hc.1]
    exact ⟨h4.1, h4.2.append (by rw [hc.1]; exact h3.2)⟩
end
mutual
theorem lay_seg : ∀ (x : Rx) (o : List Nat), SegOk (layR x) (annR x o) o
  | .mk kind rune to kids mn mx z n g nm, o => fun p ann => by
    have h3 := head_seg kids
    have h6 := seq_seg kids
    have h7 := alt_seg kids
    rw [layR, annR]
    split
    · exact ⟨rfl, fun _ e => ⟨e, .nil _ _⟩⟩
    split
    · exact h6 o p ann
    split
    · exact h7 o p ann
    split
    · have h1 := h3 (g :: o) (p + 1) ann
      refine ⟨by simp [h1.1], fun hf e => ?_⟩
      have e0 := hf.head
      have e1 := hf.tail.right.head
      have h2 := h1.2 hf.tail.left e1
      have e2 : ann (p + 1 + (annHead kids (g :: o)).length + 1) = o := (congrArg ann (by simp; omega)).trans e
      exact ⟨e0, .cons (.opn (by rw [h2.1, e0])) (h2.2.append (.cons (.shut (by rw [h1.1, e1, e2])) (.nil _ _)))⟩
    split
    · exact rep_seg (h3 o) mn mx z p ann
    · refine ⟨rfl, fun hf e => ?_⟩
      have e0 := hf.head
      exact ⟨e0, .cons (.test _ (e.trans e0.symm)) (.nil _ _)⟩
theorem head_seg : ∀ (ks : List Rx) (o : List Nat), SegOk (layHead ks) (annHead ks o) o
  | [], o => fun p ann => ⟨rfl, fun _ e => ⟨e, .nil _ _⟩⟩
  | k :: _, o => fun p ann => by rw [layHead, annHead]; exact lay_seg k o p ann
theorem seq_seg : ∀ (ks : List Rx) (o : List Nat), SegOk (laySeq ks) (annSeq ks o) o
  | [], o => fun p ann => ⟨rfl, fun _ e => ⟨e, .nil _ _⟩⟩
  | k :: ks, o => fun p ann => by
    have h1 := lay_seg k o p ann
    have h2 := seq_seg ks o (p + (layR k p).length) ann
    rw [laySeq, annSeq]
    refine ⟨by rw [List.length_append, List.length_append, h2.1, h1.1], fun hf e => ?_⟩
    rw [List.length_append, ← Nat.add_assoc] at e
    rw [h1.1] at h2
    have h3 := h2.2 hf.right e
    have h4 := h1.2 hf.left h3.1
    rw [h1.1]
    exact ⟨h4.1, h4.2.append (by rw [h1.1]; exact h3.2)⟩
theorem alt_seg : ∀ (ks : List Rx) (o : List Nat), SegOk (layAlt ks) (annAlt ks o) o
  | [], o => fun p ann => ⟨rfl, fun _ e => ⟨e, .nil _ _⟩⟩
  | k :: ks, o => fun p ann => by
    rw [layAlt, annAlt]
    split
    · exact lay_seg k o p ann
    · have h1 := lay_seg k o (p + 1) ann
      have h2 := alt_seg ks o (p + 1 + (layR k (p + 1)).length + 1) ann
      simp only
      refine ⟨by simp only [List.length_append, List.length_cons]; rw [h2.1, h1.1], fun hf e => ?_⟩
      have e0 := hf.head
      have e1 := hf.tail.right.head
      rw [h1.1] at h2
      have e2 : ann (p + 1 + (annR k o).length + 1 + (annAlt ks o).length) = o := (congrArg ann (by simp; omega)).trans e
      have h3 := h2.2 hf.tail.right.tail e2
      have h4 := h1.2 hf.tail.left e1
      rw [h1.1]
      refine ⟨e0, .cons (.fork _ (h4.1.trans e0.symm) (h3.1.trans e0.symm)) (h4.2.append (.cons (.jump ?_) ?_))⟩
      · rw [h2.1, h1.1, e2, e1]
      · rw [h1.1]; exact h3.2
end
/-- what is open at a pattern's steps -/
def annOf (x : Rx) : Nat → List Nat := fun k => (annR x []).getD k []
theorem ann_steps {x : Rx} {b G : Nat} (hs1 : Snd x 1 b) (hb : b ≤ G + 1) : annOf x 0 = [] ∧ ∀ pc s, (stepsOf x)[pc]? = some s → Tr (annOf x) pc s ∧ (s.kind = 5 → annOf x pc = []) := by
  have h := lay_seg x [] 0 (annOf x)
  have hf : Fit (annOf x) 0 (annR x []) := fun k v hk => by unfold annOf; rw [Nat.zero_add, List.getD_eq_getElem?_getD, hk]; rfl
  have he : annOf x (0 + (annR x []).length) = [] := by unfold annOf; rw [Nat.zero_add, List.getD_eq_getElem?_getD, List.getElem?_eq_none (Nat.le_refl _)]; rfl
  have h2 := h.2 hf he
  refine ⟨h2.1, fun pc s hs => ?_⟩
  unfold stepsOf at hs
  by_cases hp : pc < (layR x 0).length
  · rw [List.getElem?_append_left hp] at hs
    have h3 := h2.2 pc s hs
    rw [Nat.zero_add] at h3
    refine ⟨h3, fun h5 => ?_⟩
    exfalso
    have := ((lay_tg x 1 b G 0 (Nat.le_refl _) hs1 hb).1 s (List.mem_of_getElem? hs)).1
    omega
  · rw [List.getElem?_append_right (by omega)] at hs
    have e : pc - (layR x 0).length = 0 := by
      have := (List.getElem?_eq_some_iff.1 hs).1
      simp at this; omega
    rw [e] at hs
    injection hs with hs
    subst hs
    refine ⟨⟨by simp [sDone], by simp [sDone], by simp [sDone], by simp [sDone], by simp [sDone]⟩, fun _ => ?_⟩
    rw [show pc = 0 + (annR x []).length by rw [← h.1]; omega]
    exact he

/-! ### what groups caught -/
theorem getD_setI {M : List Int} {k j : Nat} {v : Int} (hk : k < M.length) : (M.set k v).getD j 0 = if j = k then v else M.getD j 0 := by
  rw [List.getD_eq_getElem?_getD, List.getD_eq_getElem?_getD, List.getElem?_set]
  by_cases h : k = j
  · subst h; rw [if_pos rfl, if_pos rfl, if_pos hk]; rfl
  · rw [if_neg h, if_neg (fun e => h e.symm)]
/-- the marks, where o is open -/
structure InvM (i0 G : Nat) (o : List Nat) (i : Nat) (M : List Int) : Prop where
  len : M.length = 2 * G
  opn : ∀ g, 1 ≤ g → g ≤ G → g ∈ o → (i0 : Int) ≤ M.getD (2 * (g - 1)) 0 ∧ M.getD (2 * (g - 1)) 0 ≤ (i : Int)
  shut : ∀ g, 1 ≤ g → g ≤ G → g ∉ o → M.getD (2 * (g - 1) + 1) 0 = -1 ∨ ((i0 : Int) ≤ M.getD (2 * (g - 1)) 0 ∧ M.getD (2 * (g - 1)) 0 ≤ M.getD (2 * (g - 1) + 1) 0 ∧ M.getD (2 * (g - 1) + 1) 0 ≤ (i : Int))
theorem InvM.mono {i0 G i j : Nat} {o : List Nat} {M : List Int} (h : InvM i0 G o i M) (hij : i ≤ j) : InvM i0 G o j M :=
  ⟨h.len, fun g h1 h2 h3 => by have := h.opn g h1 h2 h3; omega, fun g h1 h2 h3 => by have := h.shut g h1 h2 h3; omega⟩
theorem InvM.start (i0 G : Nat) : InvM i0 G [] i0 (List.replicate (2 * G) (-1)) :=
  ⟨by simp, fun g _ _ h => (by cases h), fun g h1 h2 _ => .inl (by rw [List.getD_eq_getElem?_getD, List.getElem?_replicate, if_pos (by omega)]; rfl)⟩
theorem InvM.opened {i0 G i g : Nat} {o : List Nat} {M : List Int} (h : InvM i0 G o i M) (h0 : i0 ≤ i) (hg1 : 1 ≤ g) (hgG : g ≤ G) : InvM i0 G (g :: o) i (M.set (2 * (g - 1)) (i : Int)) := by
  have hl := h.len
  have hk : 2 * (g - 1) < M.length := by omega
  refine ⟨by rw [List.length_set]; exact hl, fun g' h1 h2 h3 => ?_, fun g' h1 h2 h3 => ?_⟩
  · rw [getD_setI hk]
    split
    · omega
    · rename_i hne
      rcases List.mem_cons.1 h3 with rfl | h3
      · exact absurd rfl hne
      · exact h.opn g' h1 h2 h3
  · have hne : g' ≠ g := fun e => h3 (by rw [e]; exact List.mem_cons_self)
    have hno : g' ∉ o := fun e => h3 (List.mem_cons_of_mem _ e)
    rw [getD_setI hk, getD_setI hk, if_neg (by omega), if_neg (by omega)]
    exact h.shut g' h1 h2 hno
theorem InvM.closed {i0 G i g : Nat} {o : List Nat} {M : List Int} (h : InvM i0 G (g :: o) i M) (hg1 : 1 ≤ g) (hgG : g ≤ G) : InvM i0 G o i (M.set (2 * (g - 1) + 1) (i : Int)) := by
  have hl := h.len
  have hk : 2 * (g - 1) + 1 < M.length := by omega
  refine ⟨by rw [List.length_set]; exact hl, fun g' h1 h2 h3 => ?_, fun g' h1 h2 h3 => ?_⟩
  · rw [getD_setI hk, if_neg (by omega)]
    exact h.opn g' h1 h2 (List.mem_cons_of_mem _ h3)
  · rw [getD_setI hk, getD_setI hk, if_neg (show ¬ 2 * (g' - 1) = 2 * (g - 1) + 1 by omega)]
    by_cases e : g' = g
    · subst e
      rw [if_pos rfl]
      have := h.opn g' h1 h2 List.mem_cons_self
      omega
    · rw [if_neg (by omega)]
      exact h.shut g' h1 h2 (fun hm => (List.mem_cons.1 hm).elim e h3)
theorem testR_ge {m : Md} {l : List Int} {x : Rx} {i j : Nat} (h : testR m l x i = some j) : i ≤ j := by
  unfold testR at h
  split at h
  · split at h
    · injection h with h; omega
    · cases h
  split at h
  · split at h
    · injection h with h; omega
    · cases h
  split at h
  · split at h
    · injection h with h; omega
    · cases h
  split at h
  · injection h with h; omega
  · cases h
theorem dfs_inv {m : Md} {l : List Int} {x : Rx} {b G i0 : Nat} (hs1 : Snd x 1 b) (hb : b ≤ G + 1) : ∀ (f pc i : Nat) (M : List Int) (T T' : Nat → Bool) (r : Nat × List Int), dfs m l (stepsOf x) f pc i M T = (some r, T') → pc < (stepsOf x).length → i ≤ l.length → i0 ≤ i → InvM i0 G (annOf x pc) i M →
    InvM i0 G [] r.1 r.2 ∧ i ≤ r.1 ∧ r.1 ≤ l.length
  | 0, _, _, _, _, _, _, h, _, _, _, _ => by cases h
  | f + 1, pc, i, M, T, T', r, h, hp, hi, h0, hI => by
    have hw := steps_wf hs1 hb
    obtain ⟨s, hs⟩ : ∃ s, (stepsOf x)[pc]? = some s := ⟨_, List.getElem?_eq_getElem hp⟩
    have hsd : (stepsOf x).getD pc sDone = s := by rw [List.getD_eq_getElem?_getD, hs]; rfl
    obtain ⟨htr, hdn⟩ := (ann_steps hs1 hb).2 pc s hs
    rw [dfs] at h
    split at h
    · cases h
    simp only [hsd] at h
    by_cases k0 : s.kind = 0
    · rw [if_pos k0] at h
      cases ht : testR m l s.x i with
      | none => rw [ht] at h; cases h
      | some j =>
        rw [ht] at h
        simp only at h
        have hge := testR_ge ht
        have := dfs_inv (i0 := i0) hs1 hb f _ _ _ _ _ _ h (hw.next pc s hs (.inl k0)) (testR_le hi ht) (by omega) (by rw [htr.1 k0]; exact hI.mono hge)
        exact ⟨this.1, by omega, this.2.2⟩
    rw [if_neg k0] at h
    by_cases k1 : s.kind = 1
    · rw [if_pos k1] at h
      have hn := hw.fork pc s hs k1
      cases hd : dfs m l (stepsOf x) f s.a i M (setT T (bitAt l pc i)) with
      | mk q T2 =>
        rw [hd] at h
        cases q with
        | some q =>
          simp only at h
          injection h with h1 h2
          injection h1 with h1
          subst h1
          exact dfs_inv (i0 := i0) hs1 hb f _ _ _ _ _ _ hd hn.1 hi h0 (by rw [(htr.2.1 k1).1]; exact hI)
        | none =>
          simp only at h
          exact dfs_inv (i0 := i0) hs1 hb f _ _ _ _ _ _ h hn.2 hi h0 (by rw [(htr.2.1 k1).2]; exact hI)
    rw [if_neg k1] at h
    by_cases k2 : s.kind = 2
    · rw [if_pos k2] at h
      exact dfs_inv (i0 := i0) hs1 hb f _ _ _ _ _ _ h (hw.jump pc s hs k2) hi h0 (by rw [htr.2.2.1 k2]; exact hI)
    rw [if_neg k2] at h
    by_cases k5 : s.kind = 5
    · rw [if_pos k5] at h
      injection h with h1 h2
      injection h1 with h1
      subst h1
      exact ⟨by have := hdn k5; rw [← this]; exact hI, Nat.le_refl _, hi⟩
    rw [if_neg k5] at h
    have hk := hw.kind pc s hs
    have hk34 : s.kind = 3 ∨ s.kind = 4 := by omega
    have hn := hw.next pc s hs (.inr hk34)
    have hg := steps_groups hs1 hb s (List.mem_of_getElem? hs) hk34
    rcases hk34 with k3 | k4
    · have hm : markAt s = 2 * (s.a - 1) := by unfold markAt; rw [if_neg (by omega)]; rfl
      rw [hm] at h
      exact dfs_inv (i0 := i0) hs1 hb f _ _ _ _ _ _ h hn hi h0 (by rw [htr.2.2.2.1 k3]; exact hI.opened h0 hg.1 hg.2)
    · have hm : markAt s = 2 * (s.a - 1) + 1 := by unfold markAt; rw [if_pos k4]
      rw [hm] at h
      have e := htr.2.2.2.2 k4
      rw [e] at hI
      exact dfs_inv (i0 := i0) hs1 hb f _ _ _ _ _ _ h hn hi h0 (hI.closed hg.1 hg.2)

/-- a match that stands within the text, its groups within it -/
structure MhOk (n G : Nat) (h : Mh) : Prop where
  ab : h.a ≤ h.b
  bn : h.b ≤ n
  inv : InvM h.a G [] h.b h.M
/-- matches rise from lo on -/
def RiseL (n G : Nat) : Nat → List Mh → Prop
  | _, [] => True
  | lo, h :: r => lo ≤ h.a ∧ MhOk n G h ∧ RiseL n G (max h.b (h.a + 1)) r
theorem RiseL.mono {n G lo lo' : Nat} : ∀ {r : List Mh}, RiseL n G lo r → lo' ≤ lo → RiseL n G lo' r
  | [], _, _ => trivial
  | _ :: _, h, hl => ⟨Nat.le_trans hl h.1, h.2.1, h.2.2⟩
theorem all_rise {m : Md} {l : List Int} {x : Rx} {b G : Nat} (hs1 : Snd x 1 b) (hb : b ≤ G + 1) : ∀ (f i : Nat) (T : Nat → Bool), RiseL l.length G i (allF m l (stepsOf x) G f i T)
  | 0, _, _ => trivial
  | f + 1, i, T => by
    have ih := all_rise (m := m) (l := l) hs1 hb f
    rw [allF]
    by_cases h : l.length < i
    · rw [if_pos h]; trivial
    rw [if_neg h]
    cases hr : runAt m l (stepsOf x) G i T with
    | mk r T' =>
      cases r with
      | none => simp only; exact (ih _ _).mono (by omega)
      | some q =>
        obtain ⟨e, M⟩ := q
        have hP : 0 < (stepsOf x).length := by simp [stepsOf]
        have hi := dfs_inv (i0 := i) hs1 hb _ _ _ _ _ _ _ hr hP (by omega) (Nat.le_refl _) (by rw [(ann_steps hs1 hb).1]; exact InvM.start i G)
        simp only at hi ⊢
        split
        · refine ⟨Nat.le_refl _, ⟨hi.2.1, hi.2.2, hi.1⟩, ?_⟩
          split
          · exact ih _ _
          · trivial
        · exact (ih _ _).mono (by omega)

end Go.Proofs.YtoniccokohjenaaDoor

namespace Go.Proofs.YtoniccokohjenaaDoor

/-- a test over one sign, or a place -/
def TsOk (s : Stp) : Prop := s.kind = 0 → (s.x.kids = [] ∧ (s.x.kind = 1 ∨ s.x.kind = 2 ∨ s.x.kind = 4 ∨ s.x.kind = 5 ∨ s.x.kind = 10 ∨ s.x.kind = 11 ∨ s.x.kind = 12)) ∨ (s.x.kind = 3 ∧ (∀ k ∈ s.x.kids, LfS k) ∧ s.x.kids.length ≤ 1000000)
def TsAll (l : List Stp) : Prop := ∀ s ∈ l, TsOk s
theorem TsAll.nil : TsAll [] := fun s h => by cases h
theorem TsAll.cons {s : Stp} {l : List Stp} (h : TsOk s) (k : TsAll l) : TsAll (s :: l) := fun y hy => by
  rcases List.mem_cons.1 hy with rfl | hy
  · exact h
  · exact k y hy
theorem TsAll.append {a b : List Stp} (h : TsAll a) (k : TsAll b) : TsAll (a ++ b) := fun y hy => by
  rcases List.mem_append.1 hy with hy | hy
  · exact h y hy
  · exact k y hy
theorem TsOk.fork (z : Bool) (a b : Nat) : TsOk (sFork z a b) := by unfold sFork; split <;> exact fun h => absurd h (by simp)
theorem TsOk.jump (a : Nat) : TsOk (sJump a) := fun h => absurd h (by simp [sJump])
theorem TsOk.opn (a : Nat) : TsOk (sOpen a) := fun h => absurd h (by simp [sOpen])
theorem TsOk.shut (a : Nat) : TsOk (sShut a) := fun h => absurd h (by simp [sShut])
theorem copies_ts {f : Nat → List Stp} (h : ∀ p, TsAll (f p)) : ∀ (n p : Nat), TsAll (copiesL f n p)
  | 0, _ => .nil
  | n + 1, p => by rw [copiesL]; exact (h p).append (copies_ts h n _)
theorem opts_ts {f : Nat → List Stp} (h : ∀ p, TsAll (f p)) (z : Bool) (e : Nat) : ∀ (n p : Nat), TsAll (optsL f z e n p)
  | 0, _ => .nil
  | n + 1, p => by rw [optsL]; exact .cons (.fork _ _ _) ((h _).append (opts_ts h z e n _))
theorem rep_ts {f : Nat → List Stp} (h : ∀ p, TsAll (f p)) (mn mx : Int) (z : Bool) (p : Nat) : TsAll (repL f mn mx z p) := by
  unfold repL
  simp only
  refine (copies_ts h _ _).append ?_
  split
  · unfold starL; exact .cons (.fork _ _ _) ((h _).append (.cons (.jump _) .nil))
  · exact opts_ts h _ _ _ _
theorem seq_ts : ∀ (ks : List Rx), (∀ k ∈ ks, ∀ p, TsAll (layR k p)) → ∀ p, TsAll (laySeq ks p)
  | [], _, _ => .nil
  | k :: ks, h, p => by rw [laySeq]; exact (h k List.mem_cons_self p).append (seq_ts ks (fun y hy => h y (List.mem_cons_of_mem _ hy)) _)
theorem alt_ts : ∀ (ks : List Rx), (∀ k ∈ ks, ∀ p, TsAll (layR k p)) → ∀ p, TsAll (layAlt ks p)
  | [], _, _ => .nil
  | k :: ks, h, p => by
    rw [layAlt]
    split
    · exact h k List.mem_cons_self p
    · exact .cons (.fork _ _ _) ((h k List.mem_cons_self _).append (.cons (.jump _) (alt_ts ks (fun y hy => h y (List.mem_cons_of_mem _ hy)) _)))
theorem lay_ts {x : Rx} (h : Gd x) : Sm 1002 x → ∀ p, TsAll (layR x p) := by
  induction h with
  | @leaf x hk hkind =>
    intro _ p
    obtain ⟨kind, rune, tt, kids, mn, mx, z, n, g, nm⟩ := x
    simp only [Rx.kids, Rx.kind] at hk hkind
    rw [layR]
    by_cases h0 : kind = 0
    · rw [if_pos h0]; exact .nil
    · rw [if_neg h0, if_neg (by omega), if_neg (by omega), if_neg (by omega), if_neg (by omega)]
      exact .cons (fun _ => .inl ⟨hk, by simp only [sTest, Rx.kind]; omega⟩) .nil
  | @set x hkind hk =>
    intro hs p
    obtain ⟨kind, rune, tt, kids, mn, mx, z, n, g, nm⟩ := x
    cases hs with
    | mk hl hsk =>
      simp only [Rx.kids, Rx.kind] at hk hkind hl
      rw [layR, if_neg (by omega), if_neg (by omega), if_neg (by omega), if_neg (by omega), if_neg (by omega)]
      exact .cons (fun _ => .inr ⟨by simp only [sTest, Rx.kind]; exact hkind, hk, by simp only [sTest, Rx.kids]; omega⟩) .nil
  | @seq x hkind _ ih =>
    intro hs p
    obtain ⟨kind, rune, tt, kids, mn, mx, z, n, g, nm⟩ := x
    cases hs with
    | mk hl hsk =>
      simp only [Rx.kids, Rx.kind] at ih hkind hsk
      rw [layR, if_neg (by omega), if_pos hkind]
      exact seq_ts kids (fun k hk => ih k hk (hsk k hk)) p
  | @alt x hkind hne _ ih =>
    intro hs p
    obtain ⟨kind, rune, tt, kids, mn, mx, z, n, g, nm⟩ := x
    cases hs with
    | mk hl hsk =>
      simp only [Rx.kids, Rx.kind] at ih hkind hsk
      rw [layR, if_neg (by omega), if_neg (by omega), if_pos hkind]
      exact alt_ts kids (fun k hk => ih k hk (hsk k hk)) p
  | @rep x k hkind hk _ _ _ ih =>
    intro hs p
    obtain ⟨kind, rune, tt, kids, mn, mx, z, n, g, nm⟩ := x
    cases hs with
    | mk hl hsk =>
      simp only [Rx.kids, Rx.kind] at hk hkind hsk
      rw [layR, if_neg (by omega), if_neg (by omega), if_neg (by omega), if_neg (by omega), if_pos hkind]
      have : layHead kids = layR k := by rw [hk]; funext p; rw [layHead]
      rw [this]
      exact rep_ts (ih (hsk k (by rw [hk]; simp))) _ _ _ _
  | @grp x k hkind hk _ ih =>
    intro hs p
    obtain ⟨kind, rune, tt, kids, mn, mx, z, n, g, nm⟩ := x
    cases hs with
    | mk hl hsk =>
      simp only [Rx.kids, Rx.kind] at hk hkind hsk
      rw [layR, if_neg (by omega), if_neg (by omega), if_neg (by omega), if_pos hkind, hk, layHead]
      exact .cons (.opn _) ((ih (hsk k (by rw [hk]; simp)) _).append (.cons (.shut _) .nil))
theorem steps_ts {x : Rx} (h : Gd x) (hs : Sm 1002 x) : TsAll (stepsOf x) := (lay_ts h hs 0).append (.cons (fun h => absurd h (by simp [sDone])) .nil)
/-- fuel enough changes nothing -/
theorem all_fuel (m : Md) (l : List Int) (P : List Stp) (G : Nat) : ∀ (f g i : Nat) (T : Nat → Bool), l.length + 1 ≤ i + f → l.length + 1 ≤ i + g → allF m l P G f i T = allF m l P G g i T
  | 0, 0, _, _, _, _ => rfl
  | 0, g + 1, i, T, h, _ => by rw [allF, allF, if_pos (by omega)]
  | f + 1, 0, i, T, _, h => by rw [allF, allF, if_pos (by omega)]
  | f + 1, g + 1, i, T, h1, h2 => by
    have ih := fun i T => all_fuel m l P G f g i T
    rw [allF, allF]
    split
    · rfl
    split
    · exact ih _ _ (by omega) (by omega)
    · rw [ih _ _ (by omega) (by omega)]

end Go.Proofs.YtoniccokohjenaaDoor

namespace Go.Proofs.YtoniccokohjenaaDoor

section
variable {f : Nat → List Stp} {c : Nat}
theorem copies_snoc (hf : ∀ p, (f p).length = c) : ∀ (n p : Nat), copiesL f (n + 1) p = copiesL f n p ++ f (p + n * c)
  | 0, p => by simp [copiesL]
  | n + 1, p => by
    have h := copies_snoc hf n (p + c)
    rw [copiesL, hf, h]
    conv => rhs; rw [copiesL, hf]
    rw [List.append_assoc, show p + c + n * c = p + (n + 1) * c by rw [Nat.succ_mul]; omega]
theorem opts_snoc (hf : ∀ p, (f p).length = c) (z : Bool) (e : Nat) : ∀ (n p : Nat), optsL f z e (n + 1) p = optsL f z e n p ++ (sFork z (p + n * (c + 1) + 1) e :: f (p + n * (c + 1) + 1))
  | 0, p => by simp [optsL]
  | n + 1, p => by
    have h := opts_snoc hf z e n (p + 1 + c)
    rw [optsL, hf, h]
    conv => rhs; rw [optsL, hf]
    rw [show p + 1 + c + n * (c + 1) + 1 = p + (n + 1) * (c + 1) + 1 by rw [Nat.succ_mul]; omega]
    simp
/-- forks whose ways are not laid yet -/
def rawL (f : Nat → List Stp) : Nat → Nat → List Stp
  | 0, _ => []
  | n + 1, p => ⟨1, rxNone, 0, 0⟩ :: (f (p + 1) ++ rawL f n (p + 1 + (f (p + 1)).length))
theorem raw_snoc (hf : ∀ p, (f p).length = c) : ∀ (n p : Nat), rawL f (n + 1) p = rawL f n p ++ (⟨1, rxNone, 0, 0⟩ :: f (p + n * (c + 1) + 1))
  | 0, p => by simp [rawL]
  | n + 1, p => by
    have h := raw_snoc hf n (p + 1 + c)
    rw [rawL, hf, h]
    conv => rhs; rw [rawL, hf]
    rw [show p + 1 + c + n * (c + 1) + 1 = p + (n + 1) * (c + 1) + 1 by rw [Nat.succ_mul]; omega]
    simp
theorem raw_len (hf : ∀ p, (f p).length = c) : ∀ (n p : Nat), (rawL f n p).length = n * (c + 1)
  | 0, p => by simp [rawL]
  | n + 1, p => by
    rw [rawL, List.length_cons, List.length_append, hf, raw_len hf n, Nat.succ_mul]; omega
/-- the first fork's ways are laid -/
theorem opts_patch (hf : ∀ p, (f p).length = c) (z : Bool) (e i n q : Nat) (pre : List Stp) : (pre ++ optsL f z e i q ++ rawL f (n + 1) (q + i * (c + 1))).set (pre.length + i * (c + 1)) (sFork z (q + i * (c + 1) + 1) e) =
    pre ++ optsL f z e (i + 1) q ++ rawL f n (q + (i + 1) * (c + 1)) := by
  have hl : (pre ++ optsL f z e i q).length = pre.length + i * (c + 1) := by rw [List.length_append, opts_len hf]
  rw [List.set_append_right _ _ (by omega), hl, Nat.sub_self, rawL, List.set_cons_zero, opts_snoc hf, hf, show q + i * (c + 1) + 1 + c = q + (i + 1) * (c + 1) by rw [Nat.succ_mul]; omega]
  simp
theorem raw_at (hf : ∀ p, (f p).length = c) (z : Bool) (e i n q : Nat) (pre : List Stp) : (pre ++ optsL f z e i q ++ rawL f (n + 1) (q + i * (c + 1)))[pre.length + i * (c + 1)]? = some ⟨1, rxNone, 0, 0⟩ := by
  have hl : (pre ++ optsL f z e i q).length = pre.length + i * (c + 1) := by rw [List.length_append, opts_len hf]
  rw [List.getElem?_append_right (by omega), hl, Nat.sub_self, rawL]; rfl
end
theorem seq_snoc : ∀ (ks : List Rx) (k : Rx) (p : Nat), laySeq (ks ++ [k]) p = laySeq ks p ++ layR k (p + (laySeq ks p).length)
  | [], k, p => by simp [laySeq]
  | y :: ks, k, p => by
    rw [List.cons_append, laySeq, seq_snoc ks k, laySeq, List.append_assoc, List.length_append]
    congr 2
    rw [Nat.add_assoc]

end Go.Proofs.YtoniccokohjenaaDoor
