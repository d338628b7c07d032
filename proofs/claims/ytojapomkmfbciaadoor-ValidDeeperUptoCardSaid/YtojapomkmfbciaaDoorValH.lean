/-
  Plain Lean: a round of the reader keeps what is always so, and goes on (chapter 9).
-/
import Derived.Test.YtojapomkmfbciaaDoorValWc
namespace Go.Proofs.YtojapomkmfbciaaDoor

theorem wordV_le (ws : List Nat) (hz : ∀ c ∈ ws, c ≠ 0) : ∀ (l : List UInt8) (a : Nat), a ≤ l.length → (wordV ws l a).1 ≤ l.length ∧ a ≤ (wordV ws l a).1 ∧ ((wordV ws l a).2 = true → (wordV ws l a).1 = a + ws.length) := by
  induction ws with
  | nil => intro l a h; exact ⟨h, Nat.le_refl _, fun _ => rfl⟩
  | cons c ws ih =>
    intro l a h
    unfold wordV
    split
    · rename_i h2
      have := ih (fun x hx => hz x (List.mem_cons_of_mem _ hx)) l (a + 1) (by omega)
      rw [List.length_cons]
      exact ⟨this.1, by omega, fun h3 => by have := this.2.2 h3; omega⟩
    · exact ⟨h, Nat.le_refl _, fun h => by simp at h⟩
theorem intV_gt (l : List UInt8) (a : Nat) (h : (intV l a).2 = true) : a < (intV l a).1 := by
  revert h
  unfold intV
  by_cases h45 : bt l a = 45
  · rw [if_pos h45]
    simp only []
    split
    · intro _; simp only []; omega
    · split
      · intro h; cases h
      · intro _
        simp only []
        have : a + 1 ≤ digE l (a + 1) := Nat.le_add_right _ _
        omega
  · rw [if_neg h45]
    simp only []
    split
    · intro _; simp only []; omega
    · split
      · intro h; cases h
      · intro _
        simp only []
        have : a ≤ digE l a := Nat.le_add_right _ _
        omega
theorem numV_le (top : Bool) (l : List UInt8) (a : Nat) (ha : a ≤ l.length) : (numV top l a).1 ≤ l.length ∧ a ≤ (numV top l a).1 ∧ ((numV top l a).2 = true → a < (numV top l a).1) := by
  unfold numV
  cases h1 : intV l a with
  | mk i bi =>
    have g1 := intV_le l a ha
    rw [h1] at g1
    cases bi with
    | false => rw [thenV_no _ _ i (thenV_no _ _ i (thenV_no _ _ i rfl))]; exact ⟨g1.1, g1.2, fun h => by cases h⟩
    | true =>
      have g2 := intV_gt l a (by rw [h1])
      rw [h1] at g2
      rw [thenV_ok _ _ i rfl]
      cases h3 : fracV l i with
      | mk j bj =>
        have g3 := fracV_le l i g1.1
        rw [h3] at g3
        cases bj with
        | false => rw [thenV_no _ _ j (thenV_no _ _ j rfl)]; exact ⟨g3.1, by omega, fun h => by cases h⟩
        | true =>
          rw [thenV_ok _ _ j rfl]
          cases h4 : expV l j with
          | mk k bk =>
            have g4 := expV_le l j g3.1
            rw [h4] at g4
            cases bk with
            | false => rw [thenV_no _ _ k rfl]; exact ⟨g4.1, by omega, fun h => by cases h⟩
            | true =>
              rw [thenV_ok _ _ k rfl, tailV_le]
              exact ⟨g4.1, by omega, fun _ => by omega⟩
theorem quoV_gt (l : List UInt8) (a : Nat) (h : (quoV l a).2 = true) : a < (quoV l a).1 := by
  unfold quoV at h ⊢
  simp only [] at h ⊢
  have h0 := eq_of_beq h
  have : 0 < (readP (l.drop a)).2.1 := by
    unfold readP at h0 ⊢
    split
    · rename_i hq; rw [if_pos hq] at h0; exact absurd h0 (faultP_err _ _)
    · rename_i hq
      rw [if_neg hq] at h0
      split
      · simp only []; omega
      · simp only []; omega
  omega

/-- a round's outcome -/
def Adv (l : List UInt8) (d : Nat) (s s' : VS) : Prop := OkV l d s' ∧ s'.spans.length ≤ s.spans.length + 1 ∧ (s'.fault = none → s.pos < s'.pos) ∧ s.pos ≤ s'.pos

theorem adv_wrong (l : List UInt8) (d i : Nat) (s : VS) (h : OkV l d s) : Adv l d s (wrongV l i s) := ⟨h, Nat.le_succ _, fun e => by simp [wrongV] at e, Nat.le_refl _⟩
theorem adv_done (l : List UInt8) (d k : Nat) (s0 s : VS) (h : s.stack.length ≤ d) (hto : k ≤ l.length) (hp : s0.pos < k) (hs : s.spans = s0.spans) : Adv l d s0 (doneV k s) := by
  unfold doneV
  split
  · rename_i he
    refine ⟨⟨h, hto, by show 1 ≤ 7; omega, ⟨fun _ => Nat.le_refl _, fun _ => he⟩⟩, ?_, fun _ => hp, Nat.le_of_lt hp⟩
    show (s.spans ++ [_]).length ≤ _
    rw [List.length_append, hs]; exact Nat.le_refl _
  · rename_i he
    refine ⟨⟨h, hto, Nat.le_refl _, ⟨fun h => absurd h he, fun h => ?_⟩⟩, ?_, fun _ => hp, Nat.le_of_lt hp⟩
    · have h : 7 ≤ 1 := h
      omega
    · show s.spans.length ≤ _
      rw [hs]; exact Nat.le_succ _
theorem adv_tok (l : List UInt8) (d : Nat) (t : Nat × Bool) (s : VS) (h : OkV l d s) (hle : t.1 ≤ l.length) (hgt : t.2 = true → s.pos < t.1) : Adv l d s (tokV l t s) := by
  unfold tokV
  split
  · rename_i ht; exact adv_done l d _ s s h.1 hle (hgt ht) rfl
  · exact adv_wrong l d _ s h
theorem adv_opens (l : List UInt8) (d : Nat) (x : Bool) (s : VS) (h : OkV l d s) (hp : s.pos < l.length) : Adv l d s (opensV d x s) := by
  unfold opensV
  split
  · exact ⟨h, Nat.le_succ _, fun e => by simp at e, Nat.le_refl _⟩
  · rename_i hd
    refine ⟨⟨by show s.stack.length + 1 ≤ d; omega, hp, ?_, ?_⟩, Nat.le_succ _, fun _ => Nat.lt_succ_self _, Nat.le_succ _⟩
    · show (if x = true then 5 else 3) ≤ 7
      split <;> omega
    · refine ⟨fun e => by simp at e, fun e => ?_⟩
      exfalso
      have e : (if x = true then 5 else 3) ≤ 1 := e
      split at e <;> omega
theorem adv_shuts (l : List UInt8) (d : Nat) (s : VS) (h : OkV l d s) (hp : s.pos < l.length) : Adv l d s (shutsV s) :=
  adv_done l d _ s _ (by show s.stack.tail.length ≤ d; rw [List.length_tail]; have := h.1; omega) hp (Nat.lt_succ_self _) rfl
theorem adv_body (l : List UInt8) (d c : Nat) (s : VS) (h : OkV l d s) (hp : s.pos < l.length) : Adv l d s (bodyV l d c s) := by
  have hw : ∀ ws : List Nat, (∀ c ∈ ws, c ≠ 0) → 0 < ws.length → Adv l d s (tokV l (wordV ws l s.pos) s) := fun ws hz hl => by
    have := wordV_le ws hz l s.pos h.2.1
    exact adv_tok l d _ s h this.1 (fun e => by have := this.2.2 e; omega)
  unfold bodyV
  split
  · exact adv_opens l d _ s h hp
  split
  · exact adv_opens l d _ s h hp
  split
  · exact adv_tok l d _ s h (quoV_le l s.pos h.2.1).1 (quoV_gt l s.pos)
  split
  · exact hw _ (by decide) (by decide)
  split
  · exact hw _ (by decide) (by decide)
  split
  · exact hw _ (by decide) (by decide)
  split
  · have := numV_le (s.stack == []) l s.pos h.2.1
    exact adv_tok l d _ s h this.1 this.2.2
  · exact adv_wrong l d _ s h
theorem ok_start (l : List UInt8) (d : Nat) (s : VS) (h : OkV l d s) : OkV l d (startV s) := by
  unfold startV; split <;> exact h
theorem adv_text (l : List UInt8) (d c : Nat) (s : VS) (h : OkV l d s) (hp : s.pos < l.length) : Adv l d s (textV l d c s) := by
  have := adv_body l d c (startV s) (ok_start l d s h) (by rw [startV_pos]; exact hp)
  unfold Adv at this
  rw [startV_pos, startV_spans] at this
  exact this
theorem adv_move (l : List UInt8) (d : Nat) (s : VS) (k st : Nat) (h : OkV l d s) (hk : s.pos < k) (hk2 : k ≤ l.length) (h1 : 1 < s.st) (h2 : 1 < st) (h7 : st ≤ 7) : Adv l d s { s with pos := k, st := st } := by
  have hne : s.stack ≠ [] := fun e => by have := h.2.2.2.1 e; omega
  exact ⟨⟨h.1, hk2, h7, ⟨fun e => absurd e hne, fun e => by have e : st ≤ 1 := e; omega⟩⟩, Nat.le_succ _, fun _ => hk, Nat.le_of_lt hk⟩
theorem adv_step (l : List UInt8) (d c : Nat) (s : VS) (h : OkV l d s) (hp : s.pos < l.length) : Adv l d s (stepV l d c s) := by
  unfold stepV
  split
  · exact adv_wrong l d _ s h
  split
  · split
    · exact adv_shuts l d s h hp
    · exact adv_text l d c s h hp
  split
  · exact adv_text l d c s h hp
  rename_i h1 h3 h02
  have hst : 1 < s.st := by omega
  split
  · split
    · exact adv_shuts l d s h hp
    split
    · unfold keyV
      split
      · rename_i hq; exact adv_move l d s _ 6 h (quoV_gt l s.pos hq) (quoV_le l s.pos h.2.1).1 hst (by omega) (by omega)
      · exact adv_wrong l d _ s h
    · exact adv_wrong l d _ s h
  split
  · split
    · exact adv_move l d s _ 2 h (Nat.lt_succ_self _) hp hst (by omega) (by omega)
    · exact adv_wrong l d _ s h
  unfold moreV
  split
  · exact adv_move l d s _ _ h (Nat.lt_succ_self _) hp hst (by split <;> omega) (by split <;> omega)
  split
  · exact adv_shuts l d s h hp
  · exact adv_wrong l d _ s h
theorem adv_round (l : List UInt8) (d : Nat) (s : VS) (h : OkV l d s) (hp : s.pos < l.length) : Adv l d s (roundV l d s) := by
  unfold roundV
  split
  · by_cases h1 : s.st = 1
    · rw [if_pos h1]
      refine ⟨⟨h.1, hp, by show 0 ≤ 7; omega, ⟨fun _ => Nat.zero_le _, fun _ => h.2.2.2.2 (by omega)⟩⟩, Nat.le_succ _, fun _ => Nat.lt_succ_self _, Nat.le_succ _⟩
    · rw [if_neg h1]
      exact ⟨⟨h.1, hp, h.2.2⟩, Nat.le_succ _, fun _ => Nat.lt_succ_self _, Nat.le_succ _⟩
  · exact adv_step l d _ s h hp

/-- what the reader's loop keeps -/
def KeptV (l : List UInt8) (d : Nat) (s : VS) : Prop := OkV l d s ∧ s.spans.length ≤ s.pos + (if s.fault = none then 0 else 1)
theorem kept_round (l : List UInt8) (d : Nat) (s : VS) (h : KeptV l d s) (hg : goesV l s) : KeptV l d (roundV l d s) ∧ ((roundV l d s).fault = none → s.pos < (roundV l d s).pos) := by
  obtain ⟨h1, h2⟩ := h
  rw [if_pos hg.2] at h2
  obtain ⟨a, b, c, e⟩ := adv_round l d s h1 hg.1
  refine ⟨⟨a, ?_⟩, c⟩
  split
  · rename_i hf; have := c hf; omega
  · omega
theorem kept_start (l : List UInt8) (d : Nat) : KeptV l d startS := ⟨⟨Nat.zero_le _, Nat.zero_le _, Nat.zero_le _, ⟨fun _ => Nat.zero_le _, fun _ => rfl⟩⟩, Nat.le_refl _⟩
/-- the loop ends -/
theorem run_ends (l : List UInt8) (d : Nat) : ∀ (f : Nat) (s : VS), KeptV l d s → l.length ≤ s.pos + f → ¬ goesV l (runV l d f s) ∧ KeptV l d (runV l d f s)
  | 0, s, h, hf => ⟨fun g => by have := g.1; show False; have : (runV l d 0 s).pos = s.pos := rfl; omega, h⟩
  | f + 1, s, h, hf => by
    unfold runV
    by_cases hg : goesV l s
    · rw [if_pos hg]
      obtain ⟨k1, k2⟩ := kept_round l d s h hg
      by_cases hn : (roundV l d s).fault = none
      · have := k2 hn
        exact run_ends l d f _ k1 (by omega)
      · have : ∀ (f : Nat), runV l d f (roundV l d s) = roundV l d s := fun f => by
          cases f with
          | zero => rfl
          | succ f => unfold runV; rw [if_neg (fun g => hn g.2)]
        rw [this]
        exact ⟨fun g => hn g.2, k1⟩
    · rw [if_neg hg]; exact ⟨hg, h⟩
theorem run_stop (l : List UInt8) (d f : Nat) (s : VS) (h : ¬ goesV l s) : runV l d f s = s := by
  cases f with
  | zero => rfl
  | succ f => unfold runV; exact if_neg h
theorem run_go (l : List UInt8) (d f : Nat) (s : VS) (h : goesV l s) : runV l d (f + 1) s = runV l d f (roundV l d s) := by
  show (if goesV l s then _ else _) = _
  exact if_pos h
/-- more rounds change nothing -/
theorem run_more (l : List UInt8) (d : Nat) : ∀ (f k : Nat) (s : VS), ¬ goesV l (runV l d f s) → runV l d (f + k) s = runV l d f s
  | 0, k, s, h => by
    cases k with
    | zero => rfl
    | succ k => show runV l d (0 + k + 1) s = s; unfold runV; exact if_neg h
  | f + 1, k, s, h => by
    rw [show f + 1 + k = (f + k) + 1 by omega]
    unfold runV at h ⊢
    by_cases hg : goesV l s
    · rw [if_pos hg] at h ⊢; rw [if_pos hg]; exact run_more l d f k _ h
    · rw [if_neg hg, if_neg hg]

end Go.Proofs.YtojapomkmfbciaaDoor
