/-
  Plain Lean: LexBlanks (chapter 14): tokens written with blanks and notes between them are read again. No program in sight.
-/
import Derived.Test.YtnbfikfngekfoaaDoorLexQ
namespace Go.Proofs.YtnbfikfngekfoaaDoor

/-- a token as it would be written -/
def writtenT (k : Tk) : List UInt8 := if k.kind = 3 then 46 :: k.text else if k.kind = 4 then 36 :: k.text else k.text

def signs : List (List UInt8) := signs2 ++ signs1.map fun c => [c]

/-- what a token without a text in it is -/
def BackT (k : Tk) : Prop :=
  (k.kind = 1 ∧ digB (bt k.text 0) = true ∧ numN k.text = k.text.length) ∨
  (k.kind = 2 ∧ letB (bt k.text 0) = true ∧ nameN k.text = k.text.length) ∨
  ((k.kind = 3 ∨ k.kind = 4) ∧ letB (bt k.text 0) = true ∧ nameN k.text = k.text.length) ∨
  (k.kind = 5 ∧ ∃ r, k.text = 64 :: r ∧ letB (bt r 0) = true ∧ nameN r = r.length) ∨
  (k.kind = 6 ∧ k.text ∈ signs)

/-! what a word is, it is alone -/
theorem nameF_take : ∀ (k : Bool) (l : List UInt8), nameF k (l.take (nameF k l)) = nameF k l
  | _, [] => rfl
  | k, c :: r => by
    have ih := nameF_take true r
    have e : nameF k (c :: r) = if letB c.toNat || (k && digB c.toNat) then 1 + nameF true r else 0 := rfl
    rw [e]
    split
    · rename_i h
      rw [Nat.add_comm, List.take_succ_cons]
      show (if letB c.toNat || (k && digB c.toNat) then 1 + nameF true (r.take (nameF true r)) else 0) = _
      rw [if_pos h, ih]; omega
    · rfl
theorem digN_take : ∀ (l : List UInt8) (n : Nat), digN l ≤ n → digN (l.take n) = digN l
  | [], n, _ => by simp
  | c :: r, n, h => by
    unfold digN at h ⊢
    cases n with
    | zero =>
      split at h
      · omega
      · rename_i h1; rw [if_neg h1]; simp
    | succ n =>
      rw [List.take_succ_cons]
      simp only
      split
      · rename_i h1; rw [if_pos h1] at h; rw [digN_take r n (by omega)]
      · rfl
theorem bt_cut (l : List UInt8) (n k : Nat) (h : n ≤ k) : bt (l.take n) k = 0 := bt_past _ _ (by rw [List.length_take]; omega)
theorem fracN_take (l : List UInt8) (n N : Nat) (h : fracN l n ≤ N) : fracN (l.take N) n = fracN l n := by
  unfold fracN at h ⊢
  rw [List.drop_take]
  by_cases c : bt l n = 46 ∧ 0 < digN (l.drop (n + 1))
  · rw [if_pos c] at h ⊢
    have e1 : digN ((l.drop (n + 1)).take (N - (n + 1))) = digN (l.drop (n + 1)) := digN_take _ _ (by omega)
    rw [e1, if_pos ⟨by rw [bt_take _ _ _ (by omega)]; exact c.1, c.2⟩]
  · rw [if_neg c] at h ⊢
    rw [if_neg (fun c2 => ?_)]
    rcases Nat.lt_or_ge n N with h1 | h1
    · rw [bt_take _ _ _ h1] at c2
      refine c ⟨c2.1, ?_⟩
      rcases Nat.eq_zero_or_pos (digN (l.drop (n + 1))) with h2 | h2
      · have e1 : digN ((l.drop (n + 1)).take (N - (n + 1))) = digN (l.drop (n + 1)) := digN_take _ _ (by omega)
        rw [e1] at c2; omega
      · exact h2
    · rw [bt_cut _ _ _ h1] at c2; exact absurd c2.1 (by decide)
theorem expoN_take (l : List UInt8) (n : Nat) : expoN (l.take (expoN l n)) n = expoN l n := by
  by_cases c : (bt l n = 101 ∨ bt l n = 69) ∧ 0 < digN (l.drop (expoAt l n))
  · have e0 : expoN l n = expoAt l n + digN (l.drop (expoAt l n)) := by unfold expoN; rw [if_pos c]
    have ha := expoAt_le l n
    rw [e0]
    generalize hN : expoAt l n + digN (l.drop (expoAt l n)) = N
    have e1 : bt (l.take N) n = bt l n := bt_take _ _ _ (by omega)
    have e2 : bt (l.take N) (n + 1) = bt l (n + 1) := bt_take _ _ _ (by omega)
    have e3 : expoAt (l.take N) n = expoAt l n := by unfold expoAt; rw [e2]
    unfold expoN
    rw [e1, e3, List.drop_take, digN_take _ _ (by omega), if_pos c, hN]
  · have e0 : expoN l n = n := by unfold expoN; rw [if_neg c]
    rw [e0]
    unfold expoN
    rw [bt_cut _ _ _ (Nat.le_refl _), if_neg (fun h => by omega)]
theorem numN_take (l : List UInt8) : numN (l.take (numN l)) = numN l := by
  have h1 := numN_le l
  have h2 := fracN_le l _ (digN_le l)
  have h3 := expoN_le l _ h2.2
  have e : numN l = expoN l (fracN l (digN l)) := rfl
  have e2 : numN (l.take (numN l)) = expoN (l.take (numN l)) (fracN (l.take (numN l)) (digN (l.take (numN l)))) := rfl
  rw [e2, digN_take _ _ h1.1, fracN_take _ _ _ (by omega), e, expoN_take]

/-! a word's bytes are below 128 -/
theorem digN_low : ∀ (l : List UInt8) (i : Nat), i < digN l → bt l i < 128
  | [], i, h => absurd h (Nat.not_lt_zero _)
  | c :: r, i, h => by
    unfold digN at h
    split at h
    · rename_i h1
      cases i with
      | zero => rw [bt_cons0]; have := digB_pos h1; omega
      | succ i => rw [bt_cons]; exact digN_low r i (by omega)
    · omega
theorem nameF_low : ∀ (k : Bool) (l : List UInt8) (i : Nat), i < nameF k l → bt l i < 128
  | _, [], i, h => absurd h (Nat.not_lt_zero _)
  | k, c :: r, i, h => by
    unfold nameF at h
    split at h
    · rename_i h1
      cases i with
      | zero =>
        rw [bt_cons0]
        rcases Bool.or_eq_true _ _ ▸ h1 with h2 | h2
        · have := letB_pos h2; omega
        · have := digB_pos ((Bool.and_eq_true _ _ ▸ h2).2); omega
      | succ i => rw [bt_cons]; exact nameF_low true r i (by omega)
    · omega
theorem numN_low (l : List UInt8) (i : Nat) (h : i < numN l) : bt l i < 128 := by
  have hd := digN_low l i
  have key : ∀ a, a ≤ i → i < a + digN (l.drop a) → bt l i < 128 := fun a h1 h2 => by
    have := digN_low (l.drop a) (i - a) (by omega)
    rw [bt_drop, show a + (i - a) = i by omega] at this
    exact this
  have hf : i < fracN l (digN l) → bt l i < 128 := fun h1 => by
    unfold fracN at h1
    split at h1
    · rename_i c
      rcases Nat.lt_or_ge i (digN l) with h2 | h2
      · exact hd h2
      rcases Nat.eq_or_lt_of_le h2 with h3 | h3
      · rw [← h3]; omega
      · exact key _ (by omega) h1
    · exact hd h1
  unfold numN expoN at h
  split at h
  · rename_i c
    have ha := expoAt_le l (fracN l (digN l))
    rcases Nat.lt_or_ge i (fracN l (digN l)) with h2 | h2
    · exact hf h2
    rcases Nat.eq_or_lt_of_le h2 with h3 | h3
    · rw [← h3]; omega
    rcases Nat.lt_or_ge i (expoAt l (fracN l (digN l))) with h4 | h4
    · have h5 : i = fracN l (digN l) + 1 := by omega
      unfold expoAt at h4
      split at h4
      · rename_i c2; rw [h5]; omega
      · omega
    · exact key _ h4 h
  · exact hf h

/-! what the reader lays down can be read back -/
def BackS (s : LS) : Prop := ∀ k ∈ s.toks, k.kind ≤ 6 → BackT k
theorem BackS.put {s : LS} (h : BackS s) (k : Nat) (t : List UInt8) (n : Nat) (hk : k ≤ 6 → BackT ⟨k, t, s.pos⟩) : BackS (putS s k t n) := fun q hq h6 => by
  rcases List.mem_append.1 hq with h1 | h1
  · exact h q h1 h6
  · rw [List.mem_singleton] at h1; subst h1; exact hk h6
theorem BackS.texts {s : LS} (h : BackS s) (x : List Nat) : BackS { s with texts := x } := h
theorem BackS.fail {s : LS} (h : BackS s) (a e : Nat) : BackS (failS s a e) := h
theorem BackS.flush {s : LS} (h : BackS s) (n : Nat) (o : List UInt8) : BackS (flushS s n o) := by
  unfold flushS
  split
  · exact h.put 8 o n (fun h => absurd h (by decide))
  · exact h
theorem BackS.text {s : LS} (h : BackS s) (l : List UInt8) : BackS (textS l s) := by
  unfold textS
  simp only
  split
  · exact ((h.flush _ _).put 11 [] 1 (fun h => absurd h (by decide))).texts _
  split
  · exact (h.flush _ _).put 9 [] 2 (fun h => absurd h (by decide))
  split
  · exact h.fail _ _
  · exact h.fail _ _
theorem name_back (l : List UInt8) (h : nameN l ≠ 0) : letB (bt (l.take (nameN l)) 0) = true ∧ nameN (l.take (nameN l)) = (l.take (nameN l)).length := by
  have h1 := (nameN_pos l).1 (Nat.pos_of_ne_zero h)
  refine ⟨by rw [bt_take _ _ _ (Nat.pos_of_ne_zero h)]; exact h1, ?_⟩
  have := nameN_le l
  rw [List.length_take, Nat.min_eq_left this]
  exact nameF_take false l
theorem BackS.mark {s : LS} (h : BackS s) (l : List UInt8) (k : Nat) (keep : List UInt8) (hk : (k = 3 ∨ k = 4) ∧ keep = [] ∨ k = 5 ∧ keep = [64]) : BackS (markS l s k keep) := by
  unfold markS
  split
  · exact h.fail _ _
  · rename_i h0
    have hb := name_back _ h0
    refine h.put _ _ _ (fun _ => ?_)
    rcases hk with ⟨h1, rfl⟩ | ⟨rfl, rfl⟩
    · exact .inr (.inr (.inl ⟨h1, hb⟩))
    · exact .inr (.inr (.inr (.inl ⟨rfl, _, rfl, hb⟩)))
theorem BackS.sign {s : LS} (h : BackS s) (l t : List UInt8) (ht : t ≠ [] → t ∈ signs) : BackS (signS l s t) := by
  unfold signS
  by_cases h0 : t = []
  · rw [if_pos h0]; exact h.fail _ _
  rw [if_neg h0]
  have hb : ∀ p, BackT ⟨6, t, p⟩ := fun p => .inr (.inr (.inr (.inr ⟨rfl, ht h0⟩)))
  cases s.texts with
  | nil => exact h.put _ _ _ (fun _ => hb _)
  | cons x ts =>
    simp only
    split
    · exact (h.texts _).put _ _ _ (fun _ => hb _)
    split
    · split
      · exact (h.put 10 [] 1 (fun h => absurd h (by decide))).text l
      · exact (h.texts _).put _ _ _ (fun _ => hb _)
    · exact h.put _ _ _ (fun _ => hb _)
theorem sign_in (l : List UInt8) (h : signL l ≠ []) : signL l ∈ signs := by
  unfold signs
  rcases signL_form l h with h1 | ⟨c, h1, h2⟩
  · exact List.mem_append_left _ h1
  · exact List.mem_append_right _ (List.mem_map.2 ⟨c, h2, h1.symm⟩)
theorem BackS.token {s : LS} (h : BackS s) (l : List UInt8) : BackS (tokenS l s) := by
  unfold tokenS
  simp only
  have hn := nameN_pos (l.drop s.pos)
  have hm := digN_pos (l.drop s.pos)
  have hm2 := numN_le (l.drop s.pos)
  split
  · split
    · exact h.fail _ _
    · exact ((h.put 7 [] 1 (fun h => absurd h (by decide))).texts _).text l
  split
  · rename_i hd
    have h0 := hm.2 hd
    refine h.put _ _ _ (fun _ => .inl ⟨rfl, by simp only; rw [bt_take _ _ _ (by omega)]; exact hd, ?_⟩)
    simp only
    rw [List.length_take, Nat.min_eq_left hm2.2]
    exact numN_take _
  split
  · rename_i hd
    have h0 := hn.2 hd
    exact h.put _ _ _ (fun _ => .inr (.inl ⟨rfl, name_back _ (by omega)⟩))
  split
  · exact h.mark l _ _ (.inl ⟨.inr rfl, rfl⟩)
  split
  · exact h.mark l _ _ (.inr ⟨rfl, rfl⟩)
  split
  · exact h.mark l _ _ (.inl ⟨.inl rfl, rfl⟩)
  · exact h.sign l _ (sign_in _)
theorem BackS.run : ∀ (f : Nat) (l : List UInt8) (s : LS), BackS s → BackS (runF f l s)
  | 0, _, _, h => h
  | f + 1, l, s, h => by
    have h1 : BackS (skipS l s) := h
    unfold runF
    split
    · exact h1
    split
    · exact h1.token l
    · exact BackS.run f l _ (h1.token l)

/-! it is read back -/
theorem letB_not {c : Nat} (h : letB c = true) : digB c = false ∧ c ≠ 34 ∧ c ≠ 36 ∧ c ≠ 64 ∧ c ≠ 46 := by
  have h1 := letB_pos h
  refine ⟨?_, by omega, by omega, by omega, by omega⟩
  cases hd : digB c with
  | false => rfl
  | true => have := digB_pos hd; omega
theorem sign_heads : ∀ x ∈ signs, x ≠ [] ∧ bt x 0 ≠ 34 ∧ digB (bt x 0) = false ∧ letB (bt x 0) = false ∧ bt x 0 ≠ 36 ∧ bt x 0 ≠ 64 ∧ letB (bt (x ++ [32]) 1) = false ∧ signL x = x := by decide +kernel
theorem token_back (k : Tk) (y : List UInt8) (h : BackT k) (l : List UInt8) (s : LS) (hx : s.texts = []) (hd : l.drop s.pos = writtenT k ++ 32 :: y) : tokenS l s = putS s k.kind k.text (writtenT k).length := by
  have hne : ∀ x : List UInt8, letB (bt x 0) = true → x ≠ [] := fun x h e => by subst e; exact absurd h (by decide)
  have hmark : ∀ (c : UInt8) (r : List UInt8), writtenT k = c :: r → letB (bt r 0) = true → nameN r = r.length → ∀ kd keep, markS l s kd keep = putS s kd (keep ++ r) (1 + r.length) := fun c r hw hl hn kd keep => by
    have e1 : l.drop (s.pos + 1) = r ++ 32 :: y := by rw [← List.drop_drop, hd, hw]; rfl
    unfold markS
    rw [e1, nameN_end y (.inr rfl), hn, if_neg (fun e => hne r hl (List.length_eq_zero_iff.1 e)), List.take_left']
    rfl
  have hb0 : ∀ x : List UInt8, x ≠ [] → bt (x ++ 32 :: y) 0 = bt x 0 := fun x hx => bt_app _ _ _ (List.length_pos_iff.2 hx)
  rcases h with ⟨h1, h2, h3⟩ | ⟨h1, h2, h3⟩ | ⟨h1, h2, h3⟩ | ⟨h1, r, h0, h2, h3⟩ | ⟨h1, h2⟩
  · have hw : writtenT k = k.text := by unfold writtenT; rw [if_neg (by omega), if_neg (by omega)]
    have hxn : k.text ≠ [] := fun e => by rw [e] at h2; exact absurd h2 (by decide)
    have hp := digB_pos h2
    unfold tokenS
    simp only
    rw [hd, hw, hb0 _ hxn, if_neg (by omega), if_pos h2, numN_end y (.inr rfl), h3, List.take_left' rfl, h1]
  · have hw : writtenT k = k.text := by unfold writtenT; rw [if_neg (by omega), if_neg (by omega)]
    have hl := letB_not h2
    unfold tokenS
    simp only
    rw [hd, hw, hb0 _ (hne _ h2), if_neg hl.2.1, if_neg (by rw [hl.1]; decide), if_pos h2, nameN_end y (.inr rfl), h3, List.take_left' rfl, h1]
  · rcases h1 with h1 | h1
    · have hw : writtenT k = 46 :: k.text := by unfold writtenT; rw [if_pos h1]
      have e1 : bt (46 :: k.text ++ 32 :: y) 1 = bt k.text 0 := hb0 _ (hne _ h2)
      have e0 : bt (46 :: k.text ++ 32 :: y) 0 = 46 := rfl
      unfold tokenS
      simp only
      rw [hd, hw, e0, e1, if_neg (by decide), if_neg (by decide), if_neg (by decide), if_neg (by decide), if_neg (by decide), if_pos ⟨rfl, h2⟩, hmark _ _ hw h2 h3, h1, List.length_cons, Nat.add_comm]
      rfl
    · have hw : writtenT k = 36 :: k.text := by unfold writtenT; rw [if_neg (by omega), if_pos h1]
      have e0 : bt (36 :: k.text ++ 32 :: y) 0 = 36 := rfl
      unfold tokenS
      simp only
      rw [hd, hw, e0, if_neg (by decide), if_neg (by decide), if_neg (by decide), if_pos rfl, hmark _ _ hw h2 h3, h1, List.length_cons, Nat.add_comm]
      rfl
  · have hw : writtenT k = 64 :: r := by unfold writtenT; rw [if_neg (by omega), if_neg (by omega), h0]
    have e0 : bt (64 :: r ++ 32 :: y) 0 = 64 := rfl
    unfold tokenS
    simp only
    rw [hd, hw, e0, if_neg (by decide), if_neg (by decide), if_neg (by decide), if_neg (by decide), if_pos rfl, hmark _ _ hw h2 h3, h1, h0, List.length_cons, Nat.add_comm]
    rfl
  · have hw : writtenT k = k.text := by unfold writtenT; rw [if_neg (by omega), if_neg (by omega)]
    obtain ⟨g0, g1, g2, g3, g4, g5, g6, g7⟩ := sign_heads _ h2
    have e1 : bt (k.text ++ 32 :: y) 1 = bt (k.text ++ [32]) 1 := by
      have : k.text ++ 32 :: y = (k.text ++ [32]) ++ y := by simp
      rw [this]
      exact bt_app _ _ _ (by have := List.length_pos_iff.2 g0; simp; omega)
    unfold tokenS
    simp only
    rw [hd, hw, hb0 _ g0, e1, if_neg g1, if_neg (by rw [g2]; decide), if_neg (by rw [g3]; decide), if_neg g4, if_neg g5, if_neg (fun c => by rw [g6] at c; exact absurd c.2 (by decide)), signL_end y (.inr rfl) _ g0, g7]
    unfold signS
    rw [if_neg g0, hx, h1]

/-- its head is no blank, and its bytes are below 128 -/
theorem back_head (k : Tk) (h : BackT k) : ∃ c r, writtenT k = c :: r ∧ ¬ (c = 32 ∨ c = 9 ∨ c = 10 ∨ c = 13) ∧ c ≠ 35 := by
  have key : ∀ x : List UInt8, (48 ≤ bt x 0 ∨ bt x 0 = 36 ∨ bt x 0 = 37 ∨ bt x 0 = 33 ∨ (40 ≤ bt x 0)) → ∃ c r, x = c :: r ∧ ¬ (c = 32 ∨ c = 9 ∨ c = 10 ∨ c = 13) ∧ c ≠ 35 := fun x hx => by
    cases x with
    | nil => exact absurd hx (by decide)
    | cons c r =>
      rw [bt_cons0] at hx
      refine ⟨c, r, rfl, fun h2 => ?_, fun h2 => ?_⟩
      · rcases h2 with rfl | rfl | rfl | rfl <;> exact absurd hx (by decide)
      · subst h2; exact absurd hx (by decide)
  rcases h with ⟨h1, h2, h3⟩ | ⟨h1, h2, h3⟩ | ⟨h1, h2, h3⟩ | ⟨h1, r, h0, h2, h3⟩ | ⟨h1, h2⟩
  · have hw : writtenT k = k.text := by unfold writtenT; rw [if_neg (by omega), if_neg (by omega)]
    have := digB_pos h2
    rw [hw]; exact key _ (by omega)
  · have hw : writtenT k = k.text := by unfold writtenT; rw [if_neg (by omega), if_neg (by omega)]
    have := letB_pos h2
    rw [hw]; exact key _ (by omega)
  · rcases h1 with h1 | h1
    · have hw : writtenT k = 46 :: k.text := by unfold writtenT; rw [if_pos h1]
      rw [hw]; exact key _ (by rw [bt_cons0]; decide)
    · have hw : writtenT k = 36 :: k.text := by unfold writtenT; rw [if_neg (by omega), if_pos h1]
      rw [hw]; exact key _ (by rw [bt_cons0]; decide)
  · have hw : writtenT k = 64 :: r := by unfold writtenT; rw [if_neg (by omega), if_neg (by omega), h0]
    rw [hw]; exact key _ (by rw [bt_cons0]; decide)
  · have hw : writtenT k = k.text := by unfold writtenT; rw [if_neg (by omega), if_neg (by omega)]
    rw [hw]
    have : ∀ x ∈ signs, (48 ≤ bt x 0 ∨ bt x 0 = 36 ∨ bt x 0 = 37 ∨ bt x 0 = 33 ∨ (40 ≤ bt x 0)) := by decide +kernel
    exact key _ (this _ h2)
def AscL (l : List UInt8) : Prop := ∀ b ∈ l, b.toNat < 128
theorem asc_of_bt (l : List UInt8) (h : ∀ i, i < l.length → bt l i < 128) : AscL l := fun b hb => by
  obtain ⟨i, hi, rfl⟩ := List.mem_iff_getElem.1 hb
  have := h i hi
  unfold bt at this
  rw [List.getElem?_eq_getElem hi] at this
  exact this
theorem back_low (k : Tk) (h : BackT k) : AscL (writtenT k) := by
  have hc : ∀ (c : UInt8) (l : List UInt8), c.toNat < 128 → AscL l → AscL (c :: l) := fun c l hc hl b hb => by
    rcases List.mem_cons.1 hb with rfl | h
    · exact hc
    · exact hl b h
  have hn : ∀ l : List UInt8, nameN l = l.length → AscL l := fun l hl => asc_of_bt l (fun i hi => nameF_low false l i (by show i < nameN l; omega))
  rcases h with ⟨h1, h2, h3⟩ | ⟨h1, h2, h3⟩ | ⟨h1, h2, h3⟩ | ⟨h1, r, h0, h2, h3⟩ | ⟨h1, h2⟩
  · have hw : writtenT k = k.text := by unfold writtenT; rw [if_neg (by omega), if_neg (by omega)]
    rw [hw]; exact asc_of_bt _ (fun i hi => numN_low _ i (by omega))
  · have hw : writtenT k = k.text := by unfold writtenT; rw [if_neg (by omega), if_neg (by omega)]
    rw [hw]; exact hn _ h3
  · rcases h1 with h1 | h1
    · have hw : writtenT k = 46 :: k.text := by unfold writtenT; rw [if_pos h1]
      rw [hw]; exact hc _ _ (by decide) (hn _ h3)
    · have hw : writtenT k = 36 :: k.text := by unfold writtenT; rw [if_neg (by omega), if_pos h1]
      rw [hw]; exact hc _ _ (by decide) (hn _ h3)
  · have hw : writtenT k = 64 :: r := by unfold writtenT; rw [if_neg (by omega), if_neg (by omega), h0]
    rw [hw]; exact hc _ _ (by decide) (hn _ h3)
  · have hw : writtenT k = k.text := by unfold writtenT; rw [if_neg (by omega), if_neg (by omega)]
    rw [hw]
    have : ∀ x ∈ signs, ∀ b ∈ x, b.toNat < 128 := by decide +kernel
    exact this _ h2
theorem valid_asc : ∀ (l : List UInt8), AscL l → valid l = l.length
  | [], _ => valid_nil [] rfl
  | c :: r, h => by
    have hb : bt (c :: r) 0 < 128 := by rw [bt_cons0]; exact h c List.mem_cons_self
    have e := ref_one (c :: r) (by simp) hb
    rw [valid_step _ (by simp) (by unfold decOk; rw [e]; simpa using hb), e]
    show 1 + valid r = _
    rw [valid_asc r (fun b hb => h b (List.mem_cons_of_mem _ hb)), List.length_cons]; omega

/-- a row of tokens as it is written -/
def bodyT (note : List UInt8) (ks : List Tk) : List UInt8 := ks.flatMap fun k => writtenT k ++ 32 :: 35 :: (note ++ [10])
theorem bodyT_cons (note : List UInt8) (k : Tk) (ks : List Tk) : bodyT note (k :: ks) = writtenT k ++ 32 :: 35 :: (note ++ 10 :: bodyT note ks) := by
  unfold bodyT; rw [List.flatMap_cons]; simp
theorem bodyT_skip (note : List UInt8) (ks : List Tk) (h : ∀ k ∈ ks, BackT k) : skipN (bodyT note ks) = 0 := by
  cases ks with
  | nil => rfl
  | cons k ks =>
    obtain ⟨c, r, hw, h1, h2⟩ := back_head k (h k List.mem_cons_self)
    rw [bodyT_cons, hw]
    show skipF false (c :: (r ++ _)) = 0
    unfold skipF
    rw [if_neg h1, if_neg h2]
theorem skip_note (z : List UInt8) : ∀ (note : List UInt8), (10 : UInt8) ∉ note → skipF true (note ++ 10 :: z) = note.length + 1 + skipF false z
  | [], _ => by show skipF true (10 :: z) = _; rw [skipF]; simp
  | c :: r, h => by
    show skipF true (c :: (r ++ 10 :: z)) = _
    rw [skipF, if_neg (fun e => h (by rw [e]; exact List.mem_cons_self)), skip_note z r (fun h2 => h (List.mem_cons_of_mem _ h2)), List.length_cons]
    omega
theorem skip_sep (note z : List UInt8) (h : (10 : UInt8) ∉ note) : skipN (32 :: 35 :: (note ++ 10 :: z)) = note.length + 3 + skipN z := by
  unfold skipN
  rw [skipF, if_pos (.inl rfl), skipF, if_neg (by decide), if_pos rfl, skip_note z note h]; omega

theorem runF_step' (f : Nat) (l : List UInt8) (s : LS) : runF (f + 1) l s = if l.length ≤ (skipS l s).pos then skipS l s else if (tokenS l (skipS l s)).err ≠ 0 then tokenS l (skipS l s) else runF f l (tokenS l (skipS l s)) := rfl
def sameK (a b : List Tk) : Prop := a.map (fun k => (k.kind, k.text)) = b.map fun k => (k.kind, k.text)
theorem run_back (note : List UInt8) (hn : (10 : UInt8) ∉ note) (l : List UInt8) : ∀ (ks : List Tk), (∀ k ∈ ks, BackT k) → ∀ (f : Nat) (s : LS), s.texts = [] → s.err = 0 → s.pos ≤ l.length → l.length < f + s.pos → l.drop (skipS l s).pos = bodyT note ks →
    ∃ ks', sameK ks' ks ∧ (runF f l s).toks = s.toks ++ ks' ∧ (runF f l s).texts = [] ∧ (runF f l s).err = 0
  | _, _, 0, s, _, _, hp, hf, _ => by omega
  | [], _, f + 1, s, hx, he, hp, hf, hd => by
    have h0 : l.length ≤ (skipS l s).pos := by
      have : (l.drop (skipS l s).pos).length = 0 := by rw [hd]; rfl
      rw [List.length_drop] at this; omega
    rw [runF_step', if_pos h0]
    exact ⟨[], rfl, by rw [List.append_nil]; rfl, hx, he⟩
  | k :: ks, hk, f + 1, s, hx, he, hp, hf, hd => by
    have hb := hk k List.mem_cons_self
    have hs := skipS_pos l s hp
    have hlen : (l.drop (skipS l s).pos).length = (bodyT note (k :: ks)).length := by rw [hd]
    rw [bodyT_cons] at hlen hd
    rw [List.length_drop] at hlen
    simp only [List.length_append, List.length_cons] at hlen
    obtain ⟨c, r, hw, _⟩ := back_head k hb
    have hwl : 0 < (writtenT k).length := by rw [hw]; simp
    have ht := token_back k _ hb l (skipS l s) hx hd
    rw [runF_step', if_neg (by omega), ht, if_neg (fun h => h he)]
    have hd1 : l.drop ((skipS l s).pos + (writtenT k).length) = 32 :: 35 :: (note ++ 10 :: bodyT note ks) := by rw [← List.drop_drop, hd]; simp
    have e2 : (skipS l (putS (skipS l s) k.kind k.text (writtenT k).length)).pos = (skipS l s).pos + (writtenT k).length + (note.length + 3) := by
      show (skipS l s).pos + (writtenT k).length + skipN (l.drop ((skipS l s).pos + (writtenT k).length)) = _
      rw [hd1, skip_sep _ _ hn, bodyT_skip note ks (fun q hq => hk q (List.mem_cons_of_mem _ hq))]
    obtain ⟨ks', a, b, c2, d⟩ := run_back note hn l ks (fun q hq => hk q (List.mem_cons_of_mem _ hq)) f (putS (skipS l s) k.kind k.text (writtenT k).length) hx he (by unfold putS; simp only; omega) (by unfold putS; simp only; omega)
      (by rw [e2, ← List.drop_drop, hd1]; show (note ++ 10 :: bodyT note ks).drop (note.length + 1) = _; rw [List.drop_append]; simp)
    refine ⟨⟨k.kind, k.text, (skipS l s).pos⟩ :: ks', ?_, ?_, c2, d⟩
    · unfold sameK at a ⊢
      rw [List.map_cons, List.map_cons, a]
    · rw [b]
      show (s.toks ++ [_]) ++ ks' = _
      rw [List.append_assoc]; rfl

/-- LexBlanks, as it is said of tokensV -/
theorem tokens_blanks (l note : List UInt8) (h : (tokensV l).2.2 = 0) (hk : ∀ k ∈ (tokensV l).1, k.kind ≤ 6) (hn : ∀ b ∈ note, b ≠ 10 ∧ b.toNat ≤ 127) (hlen : (9 :: bodyT note (tokensV l).1).length ≤ 100000) :
    (tokensV (9 :: bodyT note (tokensV l).1)).2.2 = 0 ∧ sameK (tokensV (9 :: bodyT note (tokensV l).1)).1 (tokensV l).1 := by
  have hB : ∀ k ∈ (tokensV l).1, BackT k := fun k hq => by
    have h6 := hk k hq
    have e : (tokensV l).1 = (runS l).toks := by
      unfold tokensV at h ⊢
      by_cases c0 : 100000 < l.length
      · rw [if_pos c0] at h; exact absurd h (by simp)
      rw [if_neg c0] at h ⊢
      by_cases c1 : valid l < l.length
      · rw [if_pos c1] at h; exact absurd h (by simp)
      rw [if_neg c1] at h ⊢
      by_cases c2 : (runS l).err ≠ 0
      · rw [if_pos c2] at h; exact absurd h c2
      rw [if_neg c2] at h ⊢
      by_cases c3 : (runS l).texts ≠ []
      · rw [if_pos c3] at h; exact absurd h (by simp)
      rw [if_neg c3]
    rw [e] at hq
    exact BackS.run (l.length + 1) l ⟨0, [], [], 0⟩ (fun q hq => absurd hq (by simp)) k hq h6
  generalize (tokensV l).1 = ks at hB hlen ⊢
  have h10 : (10 : UInt8) ∉ note := fun h2 => (hn _ h2).1 rfl
  have hasc : AscL (9 :: bodyT note ks) := fun b hb => by
    rcases List.mem_cons.1 hb with rfl | hb
    · decide
    · unfold bodyT at hb
      obtain ⟨k, hk2, hb⟩ := List.mem_flatMap.1 hb
      rcases List.mem_append.1 hb with h1 | h1
      · exact back_low k (hB k hk2) b h1
      · simp only [List.mem_cons, List.mem_append, List.not_mem_nil, or_false] at h1
        rcases h1 with rfl | rfl | h1 | rfl
        · decide
        · decide
        · have := (hn b h1).2; omega
        · decide
  have hv := valid_asc _ hasc
  have hsk : (skipS (9 :: bodyT note ks) ⟨0, [], [], 0⟩).pos = 1 := by
    show 0 + skipF false (9 :: bodyT note ks) = 1
    have := bodyT_skip note ks hB
    unfold skipN at this
    rw [skipF, if_pos (.inr (.inl rfl)), this]
  obtain ⟨ks', a, b, c, d⟩ := run_back note h10 (9 :: bodyT note ks) ks hB ((9 :: bodyT note ks).length + 1) ⟨0, [], [], 0⟩ rfl rfl (Nat.zero_le _) (by simp only; omega) (by rw [hsk]; rfl)
  have e : runF ((9 :: bodyT note ks).length + 1) (9 :: bodyT note ks) ⟨0, [], [], 0⟩ = runS (9 :: bodyT note ks) := rfl
  rw [e] at b c d
  unfold tokensV
  rw [if_neg (by omega), if_neg (by omega), if_neg (fun h2 => h2 d), if_neg (fun h2 => h2 c), b]
  exact ⟨rfl, a⟩

end Go.Proofs.YtnbfikfngekfoaaDoor
