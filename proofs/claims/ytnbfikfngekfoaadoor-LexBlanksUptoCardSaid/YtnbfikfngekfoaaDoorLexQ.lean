/-
  Plain Lean: two texts with a line's end between are read as the tokens of both (chapter 14). No program in sight.
  Plain Lean: LexJoins (chapter 14). No program in sight.
-/
import Derived.Test.YtnbfikfngekfoaaDoorLexP
namespace Go.Proofs.YtnbfikfngekfoaaDoor

/-! the second text: the same, further on -/
def shK (d : Nat) (k : Tk) : Tk := { k with pos := k.pos + d }
def shS (d : Nat) (T : List Tk) (s : LS) : LS := ⟨s.pos + d, T ++ s.toks.map (shK d), s.texts, s.err⟩

theorem putS_sh (d : Nat) (T : List Tk) (s : LS) (k : Nat) (t : List UInt8) (n : Nat) : putS (shS d T s) k t n = shS d T (putS s k t n) := by
  unfold putS shS
  simp only [List.map_append, List.map_cons, List.map_nil, List.append_assoc, LS.mk.injEq, and_true]
  exact ⟨by omega, rfl⟩
theorem failS_sh (d : Nat) (T : List Tk) (s : LS) (a b e : Nat) (h : b = a + d) : failS (shS d T s) b e = shS d T (failS s a e) := by
  subst h; rfl
theorem flushS_sh (d : Nat) (T : List Tk) (s : LS) (n : Nat) (o : List UInt8) : flushS (shS d T s) n o = shS d T (flushS s n o) := by
  unfold flushS
  split
  · unfold shS
    simp only [List.map_append, List.map_cons, List.map_nil, List.append_assoc, LS.mk.injEq, and_true]
    exact ⟨by omega, rfl⟩
  · rfl
theorem texts_sh (d : Nat) (T : List Tk) (s : LS) (x : List Nat) : { shS d T s with texts := x } = shS d T { s with texts := x } := rfl

section
variable {L t : List UInt8} {d : Nat} (hL : L.drop d = t) (hn : L.length = t.length + d)
include hL
theorem drop_sh (k : Nat) : L.drop (k + d) = t.drop k := by rw [← hL, List.drop_drop, Nat.add_comm]
theorem drop_sh1 (k : Nat) : L.drop (k + d + 1) = t.drop (k + 1) := by rw [← drop_sh hL (k + 1)]; congr 1; omega
theorem markS_sh (T : List Tk) (s : LS) (k : Nat) (keep : List UInt8) : markS L (shS d T s) k keep = shS d T (markS t s k keep) := by
  unfold markS
  have e : (shS d T s).pos = s.pos + d := rfl
  rw [e, drop_sh1 hL]
  split
  · exact failS_sh d T s _ _ _ rfl
  · exact putS_sh d T s _ _ _
include hn
theorem textS_sh (T : List Tk) (s : LS) : textS L (shS d T s) = shS d T (textS t s) := by
  unfold textS
  have e : (shS d T s).pos = s.pos + d := rfl
  have e2 : (shS d T s).texts = s.texts := rfl
  simp only
  rw [e, e2, drop_sh hL, flushS_sh, putS_sh, putS_sh]
  split
  · rfl
  split
  · rfl
  split
  · exact failS_sh d T s _ _ _ hn
  · exact failS_sh d T s _ _ _ (by omega)
theorem signS_sh (T : List Tk) (s : LS) (x : List UInt8) : signS L (shS d T s) x = shS d T (signS t s x) := by
  unfold signS
  have e2 : (shS d T s).texts = s.texts := rfl
  rw [e2]
  by_cases h0 : x = []
  · rw [if_pos h0, if_pos h0]; rfl
  rw [if_neg h0, if_neg h0]
  cases s.texts with
  | nil => simp only; exact putS_sh d T s _ _ _
  | cons y ts =>
    simp only
    split
    · rw [texts_sh, putS_sh]
    split
    · split
      · rw [putS_sh, textS_sh hL hn]
      · rw [texts_sh, putS_sh]
    · exact putS_sh d T s _ _ _
theorem tokenS_sh (T : List Tk) (s : LS) : tokenS L (shS d T s) = shS d T (tokenS t s) := by
  unfold tokenS
  have e : (shS d T s).pos = s.pos + d := rfl
  have e2 : (shS d T s).texts = s.texts := rfl
  simp only
  rw [e, e2, drop_sh hL]
  split
  · split
    · exact failS_sh d T s _ _ _ rfl
    · rw [putS_sh, texts_sh, textS_sh hL hn]
  split
  · exact putS_sh d T s _ _ _
  split
  · exact putS_sh d T s _ _ _
  split
  · exact markS_sh hL T s _ _
  split
  · exact markS_sh hL T s _ _
  split
  · exact markS_sh hL T s _ _
  · exact signS_sh hL hn T s _
omit hn in
theorem skipS_sh (T : List Tk) (s : LS) : skipS L (shS d T s) = shS d T (skipS t s) := by
  unfold skipS
  have e : (shS d T s).pos = s.pos + d := rfl
  rw [e, drop_sh hL]
  unfold shS
  simp only [LS.mk.injEq, and_true]
  omega
theorem runF_sh : ∀ (f : Nat) (T : List Tk) (s : LS), runF f L (shS d T s) = shS d T (runF f t s)
  | 0, _, _ => rfl
  | f + 1, T, s => by
    unfold runF
    rw [skipS_sh hL, tokenS_sh hL hn]
    have e : (shS d T (skipS t s)).pos = (skipS t s).pos + d := rfl
    have e2 : (shS d T (tokenS t (skipS t s))).err = (tokenS t (skipS t s)).err := rfl
    rw [e, e2, runF_sh f]
    by_cases h0 : t.length ≤ (skipS t s).pos
    · rw [if_pos h0, if_pos (by omega)]
    rw [if_neg h0, if_neg (by omega)]
    split <;> rfl
end

/-! the first text: a line's end behind it changes nothing -/
section
variable (t : List UInt8)
/-- a byte that ends a word: a line's end, a blank -/
def EndB (e : UInt8) : Prop := e = 10 ∨ e = 32
theorem EndB.letB {e : UInt8} (h : EndB e) : letB e.toNat = false := by rcases h with rfl | rfl <;> decide
theorem EndB.digB {e : UInt8} (h : EndB e) : digB e.toNat = false := by rcases h with rfl | rfl <;> decide
variable {e : UInt8} (he : EndB e)
include he
theorem nameF_end : ∀ (k : Bool) (x : List UInt8), nameF k (x ++ e :: t) = nameF k x
  | k, [] => by
    show nameF k (e :: t) = 0
    unfold nameF
    rw [he.letB, he.digB, Bool.and_false]; rfl
  | k, c :: r => by
    show nameF k (c :: (r ++ e :: t)) = _
    unfold nameF
    rw [nameF_end true r]
theorem nameN_end (x : List UInt8) : nameN (x ++ e :: t) = nameN x := nameF_end t he false x
theorem digN_end : ∀ (x : List UInt8), digN (x ++ e :: t) = digN x
  | [] => by
    show digN (e :: t) = 0
    unfold digN
    rw [he.digB]; rfl
  | c :: r => by
    show digN (c :: (r ++ e :: t)) = _
    unfold digN
    rw [digN_end r]
omit he in
theorem bt_len (x : List UInt8) : bt (x ++ e :: t) x.length = e.toNat := by unfold bt; simp
theorem bt_end (x : List UInt8) (n c : Nat) (hn : n ≤ x.length) (h0 : c ≠ 0) (h1 : c ≠ 10 ∧ c ≠ 32) : (bt (x ++ e :: t) n = c) = (bt x n = c) := by
  apply propext
  rcases Nat.lt_or_ge n x.length with h | h
  · rw [bt_app _ _ _ h]
  · obtain rfl : n = x.length := by omega
    rw [bt_len, bt_past x _ (Nat.le_refl _)]
    have e0 : e.toNat = 10 ∨ e.toNat = 32 := by rcases he with rfl | rfl <;> decide
    constructor <;> intro h2 <;> omega
omit he in
theorem drop_end (x : List UInt8) (n : Nat) (hn : n ≤ x.length) : (x ++ e :: t).drop n = x.drop n ++ e :: t := List.drop_append_of_le_length hn
theorem fracN_end (x : List UInt8) (n : Nat) (hn : n ≤ x.length) : fracN (x ++ e :: t) n = fracN x n := by
  unfold fracN
  simp only [bt_end t he x n 46 hn (by decide) (by decide)]
  by_cases h : bt x n = 46
  · have := len_of_bt (l := x) (k := n) (by omega)
    rw [drop_end t x _ (by omega), digN_end t he]
  · rw [if_neg (fun h2 => h h2.1), if_neg (fun h2 => h h2.1)]
theorem expoN_end (x : List UInt8) (n : Nat) (hn : n ≤ x.length) : expoN (x ++ e :: t) n = expoN x n := by
  unfold expoN
  simp only [bt_end t he x n 101 hn (by decide) (by decide), bt_end t he x n 69 hn (by decide) (by decide)]
  by_cases h : bt x n = 101 ∨ bt x n = 69
  · have hl := len_of_bt (l := x) (k := n) (by omega)
    have e2 : expoAt (x ++ e :: t) n = expoAt x n := by
      unfold expoAt
      simp only [bt_end t he x (n + 1) 43 (by omega) (by decide) (by decide), bt_end t he x (n + 1) 45 (by omega) (by decide) (by decide)]
    have h2 : expoAt x n ≤ x.length := by
      unfold expoAt
      split
      · have := len_of_bt (l := x) (k := n + 1) (by omega); omega
      · omega
    rw [e2, drop_end t x _ h2, digN_end t he]
  · rw [if_neg (fun h2 => h h2.1), if_neg (fun h2 => h h2.1)]
theorem numN_end (x : List UInt8) : numN (x ++ e :: t) = numN x := by
  unfold numN
  rw [digN_end t he, fracN_end t he x _ (digN_le x), expoN_end t he x _ (fracN_le x _ (digN_le x)).2]
omit he in
theorem prefix_end : ∀ (p x : List UInt8), e ∉ p → p.isPrefixOf (x ++ e :: t) = p.isPrefixOf x
  | [], _, _ => by simp
  | a :: p, [], h => by
    have : e ≠ a := fun h2 => h (by rw [h2]; exact List.mem_cons_self)
    simp [List.isPrefixOf, this.symm]
  | a :: p, c :: r, h => by
    show (a :: p).isPrefixOf (c :: (r ++ e :: t)) = _
    unfold List.isPrefixOf
    rw [prefix_end p r (fun h2 => h (List.mem_cons_of_mem _ h2))]
theorem signL_end (x : List UInt8) (hx : x ≠ []) : signL (x ++ e :: t) = signL x := by
  unfold signL
  have e2 : signs2.find? (fun p => p.isPrefixOf (x ++ e :: t)) = signs2.find? (fun p => p.isPrefixOf x) := by
    have h10 : ∀ p ∈ signs2, e ∉ p := by rcases he with rfl | rfl <;> decide
    generalize signs2 = S at h10
    induction S with
    | nil => rfl
    | cons a S ih =>
      rw [List.find?_cons, List.find?_cons, prefix_end t a x (h10 a List.mem_cons_self), ih (fun p hp => h10 p (List.mem_cons_of_mem _ hp))]
  rw [e2]
  cases x with
  | nil => exact absurd rfl hx
  | cons c r => rfl
omit he
theorem decodeN_same (n m b0 b1 b2 b3 c1 c2 c3 : Nat) (h1 : (1 < n ∧ b1 / 64 = 2) ↔ (1 < m ∧ c1 / 64 = 2)) (e1 : 1 < m → b1 = c1) (h2 : 1 < m → ((2 < n ∧ b2 / 64 = 2) ↔ (2 < m ∧ c2 / 64 = 2))) (e2 : 2 < m → b2 = c2)
    (h3 : 2 < m → ((3 < n ∧ b3 / 64 = 2) ↔ (3 < m ∧ c3 / 64 = 2))) (e3 : 3 < m → b3 = c3) : Lib.decodeN n b0 b1 b2 b3 = Lib.decodeN m b0 c1 c2 c3 := by
  unfold Lib.decodeN
  simp only [h1]
  by_cases A1 : 1 < m ∧ c1 / 64 = 2
  · have E1 := e1 A1.1
    subst E1
    simp only [h2 A1.1]
    by_cases A2 : 2 < m ∧ c2 / 64 = 2
    · have E2 := e2 A2.1
      subst E2
      simp only [h3 A2.1]
      by_cases A3 : 3 < m ∧ c3 / 64 = 2
      · have E3 := e3 A3.1
        subst E3
        rfl
      · simp only [A3, and_false, if_false]
    · simp only [A2, false_and, and_false, if_false]
  · simp only [A1, false_and, and_false, if_false]
theorem dec_end (x : List UInt8) (hx : x.length ≠ 0) : dec (x ++ 10 :: t) = dec x := by
  unfold dec
  rw [if_neg hx, if_neg (by simp), bt_app _ _ 0 (by omega)]
  have hl : (x ++ 10 :: t).length = x.length + (t.length + 1) := by simp
  have key : ∀ k, k ≤ x.length → ((k < (x ++ 10 :: t).length ∧ bt (x ++ 10 :: t) k / 64 = 2) ↔ (k < x.length ∧ bt x k / 64 = 2)) := fun k hk => by
    rcases Nat.lt_or_ge k x.length with h | h
    · rw [bt_app _ _ _ h]
      exact ⟨fun h2 => ⟨h, h2.2⟩, fun h2 => ⟨by omega, h2.2⟩⟩
    · obtain rfl : k = x.length := by omega
      rw [bt_len, show (10 : UInt8).toNat = 10 from rfl]
      exact ⟨fun h2 => absurd h2.2 (by decide), fun h2 => absurd h2.1 (Nat.lt_irrefl _)⟩
  exact decodeN_same _ _ _ _ _ _ _ _ _ (key 1 (by omega)) (fun h => bt_app _ _ _ h) (fun h => key 2 h) (fun h => bt_app _ _ _ h) (fun h => key 3 h) (fun h => bt_app _ _ _ h)
theorem skip_past : ∀ (k : Bool) (x : List UInt8), skipF k x = x.length → skipF k (x ++ 10 :: t) = x.length + 1 + skipF false t
  | false, [], _ => by show skipF false (10 :: t) = _; rw [skipF]; simp
  | true, [], _ => by show skipF true (10 :: t) = _; rw [skipF]; simp
  | false, c :: r, h => by
    show skipF false (c :: (r ++ 10 :: t)) = _
    rw [skipF] at h ⊢
    simp only [List.length_cons] at h ⊢
    split
    · rename_i h1; rw [if_pos h1] at h; rw [skip_past false r (by omega)]; omega
    · rename_i h1; rw [if_neg h1] at h
      split
      · rename_i h2; rw [if_pos h2] at h; rw [skip_past true r (by omega)]; omega
      · rename_i h2; rw [if_neg h2] at h; omega
  | true, c :: r, h => by
    show skipF true (c :: (r ++ 10 :: t)) = _
    rw [skipF] at h ⊢
    simp only [List.length_cons] at h ⊢
    split
    · rename_i h1; rw [if_pos h1] at h; rw [skip_past false r (by omega)]; omega
    · rename_i h1; rw [if_neg h1] at h; rw [skip_past true r (by omega)]; omega
theorem skip_within : ∀ (k : Bool) (x : List UInt8), skipF k x < x.length → skipF k (x ++ 10 :: t) = skipF k x
  | _, [], h => absurd h (Nat.not_lt_zero _)
  | false, c :: r, h => by
    show skipF false (c :: (r ++ 10 :: t)) = _
    rw [skipF] at h ⊢
    rw [skipF]
    simp only [List.length_cons] at h
    split
    · rename_i h1; rw [if_pos h1] at h; rw [skip_within false r (by omega)]
    · rename_i h1; rw [if_neg h1] at h
      split
      · rename_i h2; rw [if_pos h2] at h; rw [skip_within true r (by omega)]
      · rfl
  | true, c :: r, h => by
    show skipF true (c :: (r ++ 10 :: t)) = _
    rw [skipF] at h ⊢
    rw [skipF]
    simp only [List.length_cons] at h
    split
    · rename_i h1; rw [if_pos h1] at h; rw [skip_within false r (by omega)]
    · rename_i h1; rw [if_neg h1] at h; rw [skip_within true r (by omega)]
end
end Go.Proofs.YtnbfikfngekfoaaDoor

namespace Go.Proofs.YtnbfikfngekfoaaDoor

section
variable (t : List UInt8)
theorem lowP_line (m : List UInt8) (hj : m.length < 6) : lowP (m ++ 10 :: t) = false := by
  have h : bt (m ++ 10 :: t) m.length = 10 := bt_len t (e := 10) m
  generalize m.length = j at hj h
  cases hl : lowP (m ++ 10 :: t) with
  | false => rfl
  | true =>
    unfold lowP at hl
    simp only [Bool.and_eq_true, decide_eq_true_eq] at hl
    obtain ⟨⟨⟨⟨⟨_, h0⟩, h1⟩, h4⟩, _⟩, _⟩ := hl
    exfalso
    by_cases e0 : j = 0
    · subst e0; omega
    by_cases e1 : j = 1
    · subst e1; omega
    have hb : bt ((m ++ 10 :: t).drop 2) (j - 2) = 10 := by rw [bt_drop, show 2 + (j - 2) = j by omega]; exact h
    have := fourF_stop 4 ((m ++ 10 :: t).drop 2) 0 0 (j - 2) (Nat.zero_le _) (by rw [hb]; rfl)
    have h4' : (fourF 4 ((m ++ 10 :: t).drop 2) 0 0).2 = 4 := h4
    omega
theorem numbered_end (x : List UInt8) (h : (numberedP x).err = 0) : numberedP (x ++ 10 :: t) = numberedP x := by
  have hs := numberedP_size x h
  have h6 : 6 ≤ x.length := by omega
  rw [numbered_low _ h6, numbered_low _ (by rw [List.length_append]; omega)] at *
  rw [drop_end t x 2 (by omega), drop_end t x 6 h6, four_app _ _ (by rw [List.length_drop]; omega)]
  by_cases c1 : (fourL (x.drop 2)).2 < 4
  · rw [if_pos c1] at h
    exact absurd h (faultP_err _ _)
  rw [if_neg c1, if_neg c1]
  by_cases c2 : (fourL (x.drop 2)).1 < 55296 ∨ 57343 < (fourL (x.drop 2)).1
  · rw [if_pos c2, if_pos c2]
  rw [if_neg c2, if_neg c2]
  have el : lowP (x.drop 6 ++ 10 :: t) = lowP (x.drop 6) := by
    rcases Nat.lt_or_ge (x.drop 6).length 6 with hlt | hge
    · rw [lowP_line t _ hlt]
      cases hl : lowP (x.drop 6) with
      | false => rfl
      | true => have := lowP_len _ hl; omega
    · exact lowP_app _ _ hge
  rw [el]
  by_cases c3 : (fourL (x.drop 2)).1 < 56320 ∧ lowP (x.drop 6) = true
  · have hl := lowP_len _ c3.2
    rw [List.length_drop] at hl
    rw [if_pos c3, if_pos c3, drop_end t x 8 (by omega), four_app _ _ (by rw [List.length_drop]; omega)]
  · rw [if_neg c3, if_neg c3]
theorem escaped_end (x : List UInt8) (h : (escapedP x).err = 0) : escapedP (x ++ 10 :: t) = escapedP x := by
  have hs := escapedP_size x h
  have h2 : 2 ≤ x.length := by omega
  have hb : bt (x ++ 10 :: t) 1 = bt x 1 := bt_app _ _ _ (by omega)
  have A : ¬ (x ++ 10 :: t).length < 2 := by rw [List.length_append]; omega
  have B : ¬ x.length < 2 := by omega
  clear hs
  unfold escapedP at h ⊢
  rw [if_neg B] at h
  rw [if_neg A, if_neg B, hb]
  by_cases a : bt x 1 = 34 ∨ bt x 1 = 92 ∨ bt x 1 = 47
  · rw [if_pos a, if_pos a]
  rw [if_neg a] at h
  rw [if_neg a, if_neg a]
  clear a
  by_cases a : bt x 1 = 98
  · rw [if_pos a, if_pos a]
  rw [if_neg a] at h
  rw [if_neg a, if_neg a]
  clear a
  by_cases a : bt x 1 = 102
  · rw [if_pos a, if_pos a]
  rw [if_neg a] at h
  rw [if_neg a, if_neg a]
  clear a
  by_cases a : bt x 1 = 110
  · rw [if_pos a, if_pos a]
  rw [if_neg a] at h
  rw [if_neg a, if_neg a]
  clear a
  by_cases a : bt x 1 = 114
  · rw [if_pos a, if_pos a]
  rw [if_neg a] at h
  rw [if_neg a, if_neg a]
  clear a
  by_cases a : bt x 1 = 116
  · rw [if_pos a, if_pos a]
  rw [if_neg a] at h
  rw [if_neg a, if_neg a]
  clear a
  by_cases a : bt x 1 = 117
  · rw [if_pos a] at h
    rw [if_pos a, if_pos a]
    exact numbered_end t x h
  · rw [if_neg a] at h
    exact absurd h (faultP_err _ _)
theorem piece_end (x : List UInt8) (h : (pieceP x).2 ≠ 0) : pieceP (x ++ 10 :: t) = pieceP x := by
  have he : (escapedP x).err = 0 := by
    unfold pieceP at h
    by_cases he : (escapedP x).err = 0
    · exact he
    · rw [if_neg he] at h; exact absurd rfl h
  unfold pieceP
  rw [escaped_end t x he]

theorem scan_end : ∀ (n : Nat) (x : List UInt8), x.length ≤ n → (scanT x).1 ≤ 1 → scanT (x ++ 10 :: t) = scanT x
  | 0, x, hn, h => by rw [scanT_eq, if_pos (by omega)] at h; exact absurd h (by simp)
  | n + 1, x, hn, h => by
    rw [scanT_eq x] at h ⊢
    rw [scanT_eq (x ++ 10 :: t)]
    by_cases h0 : x.length = 0
    · rw [if_pos h0] at h; exact absurd h (by simp)
    have e0 : bt (x ++ 10 :: t) 0 = bt x 0 := bt_app _ _ _ (by omega)
    rw [if_neg h0] at h ⊢
    rw [if_neg (by rw [List.length_append, List.length_cons]; omega), e0]
    by_cases h1 : bt x 0 = 34
    · rw [if_pos h1, if_pos h1]
    rw [if_neg h1] at h ⊢
    rw [if_neg h1]
    simp only [bt_end t (.inl rfl) x 1 40 (by omega) (by decide) (by decide)]
    by_cases h2 : bt x 0 = 92 ∧ bt x 1 = 40
    · rw [if_pos h2, if_pos h2]
    rw [if_neg h2] at h ⊢
    rw [if_neg h2]
    by_cases h3 : bt x 0 = 92
    · rw [if_pos h3] at h ⊢
      rw [if_pos h3]
      by_cases h4 : (pieceP x).2 = 0
      · rw [if_pos h4] at h
        simp only at h
        split at h <;> omega
      · rw [if_neg h4] at h ⊢
        have hs := pieceP_size x h4
        rw [piece_end t x h4, if_neg h4, drop_end t x _ hs.2.1, scan_end n _ (by rw [List.length_drop]; omega) h]
    · rw [if_neg h3] at h ⊢
      have hd := dec_n x h0
      rw [if_neg h3, dec_end t x h0, drop_end t x _ hd.2.2, scan_end n _ (by rw [List.length_drop]; omega) h, List.take_append_of_le_length hd.2.2]

theorem failS_err (s : LS) (a e : Nat) : (failS s a e).err = e := rfl
theorem textS_end (x : List UInt8) (s : LS) (hp : s.pos ≤ x.length) (h : (textS x s).err = 0) : textS (x ++ 10 :: t) s = textS x s := by
  unfold textS at h ⊢
  simp only at h ⊢
  have hk : (scanT (x.drop s.pos)).1 ≤ 1 := by
    rcases Nat.lt_or_ge (scanT (x.drop s.pos)).1 2 with h1 | h1
    · omega
    · exfalso
      rw [if_neg (by omega), if_neg (by omega)] at h
      split at h <;> exact absurd h (by rw [failS_err]; decide)
  rw [drop_end t x _ hp, scan_end t _ _ (Nat.le_refl _) hk]
  by_cases h0 : (scanT (x.drop s.pos)).1 = 0
  · rw [if_pos h0, if_pos h0]
  · rw [if_neg h0, if_neg h0, if_pos (by omega), if_pos (by omega)]
theorem markS_end (x : List UInt8) (s : LS) (k : Nat) (keep : List UInt8) (hp : s.pos < x.length) : markS (x ++ 10 :: t) s k keep = markS x s k keep := by
  unfold markS
  rw [drop_end t x _ (by omega), nameN_end t (.inl rfl), List.take_append_of_le_length (nameN_le _)]
theorem signS_end (x : List UInt8) (s : LS) (y : List UInt8) (hp : s.pos < x.length) (h : (signS x s y).err = 0) : signS (x ++ 10 :: t) s y = signS x s y := by
  unfold signS at h ⊢
  by_cases h0 : y = []
  · rw [if_pos h0, if_pos h0]
  rw [if_neg h0] at h ⊢
  rw [if_neg h0]
  cases hx : s.texts with
  | nil => rfl
  | cons a ts =>
    rw [hx] at h
    simp only at h ⊢
    by_cases h1 : y = [40]
    · rw [if_pos h1, if_pos h1]
    rw [if_neg h1] at h ⊢
    rw [if_neg h1]
    by_cases h2 : y = [41]
    · rw [if_pos h2] at h ⊢
      rw [if_pos h2]
      by_cases h3 : a = 0
      · rw [if_pos h3] at h ⊢
        rw [if_pos h3]
        exact textS_end t x _ (by unfold putS; simp only; omega) h
      · rw [if_neg h3, if_neg h3]
    · rw [if_neg h2, if_neg h2]
theorem tokenS_end (x : List UInt8) (s : LS) (hp : s.pos < x.length) (h : (tokenS x s).err = 0) : tokenS (x ++ 10 :: t) s = tokenS x s := by
  have hl : (x.drop s.pos).length ≠ 0 := by rw [List.length_drop]; omega
  have e0 : bt (x.drop s.pos ++ 10 :: t) 0 = bt (x.drop s.pos) 0 := bt_app _ _ _ (by omega)
  have el : letB (bt (x.drop s.pos ++ 10 :: t) 1) = letB (bt (x.drop s.pos) 1) := by
    rcases Nat.lt_or_ge 1 (x.drop s.pos).length with h1 | h1
    · rw [bt_app _ _ _ h1]
    · have h2 : (x.drop s.pos).length = 1 := by omega
      have : bt (x.drop s.pos ++ 10 :: t) (x.drop s.pos).length = 10 := bt_len t (e := 10) (x.drop s.pos)
      rw [h2] at this
      rw [this, bt_past _ _ h1]; decide
  unfold tokenS at h ⊢
  simp only at h ⊢
  rw [drop_end t x _ (by omega), e0, el, numN_end t (.inl rfl), nameN_end t (.inl rfl), signL_end t (.inl rfl) _ (fun e => hl (by rw [e]; rfl)), List.take_append_of_le_length (numN_le _).2, List.take_append_of_le_length (nameN_le _)]
  by_cases h1 : bt (x.drop s.pos) 0 = 34
  · rw [if_pos h1] at h ⊢
    rw [if_pos h1]
    by_cases h2 : 50 ≤ s.texts.length
    · rw [if_pos h2, if_pos h2]
    · rw [if_neg h2] at h ⊢
      rw [if_neg h2]
      exact textS_end t x _ (by unfold putS; simp only; omega) h
  rw [if_neg h1] at h ⊢
  rw [if_neg h1, markS_end t x s _ _ hp, markS_end t x s _ _ hp, markS_end t x s _ _ hp]
  by_cases h2 : digB (bt (x.drop s.pos) 0) = true
  · rw [if_pos h2, if_pos h2]
  rw [if_neg h2] at h ⊢
  rw [if_neg h2]
  by_cases h3 : letB (bt (x.drop s.pos) 0) = true
  · rw [if_pos h3, if_pos h3]
  rw [if_neg h3] at h ⊢
  rw [if_neg h3]
  by_cases h4 : bt (x.drop s.pos) 0 = 36
  · rw [if_pos h4, if_pos h4]
  rw [if_neg h4] at h ⊢
  rw [if_neg h4]
  by_cases h5 : bt (x.drop s.pos) 0 = 64
  · rw [if_pos h5, if_pos h5]
  rw [if_neg h5] at h ⊢
  rw [if_neg h5]
  by_cases h6 : bt (x.drop s.pos) 0 = 46 ∧ letB (bt (x.drop s.pos) 1) = true
  · rw [if_pos h6, if_pos h6]
  rw [if_neg h6] at h ⊢
  rw [if_neg h6]
  exact signS_end t x s _ hp h

theorem runF_step (f : Nat) (l : List UInt8) (s : LS) : runF (f + 1) l s = if l.length ≤ (skipS l s).pos then skipS l s else if (tokenS l (skipS l s)).err ≠ 0 then tokenS l (skipS l s) else runF f l (tokenS l (skipS l s)) := rfl
/-- behind the first text the reader stands at the second one -/
theorem runF_end : ∀ (f : Nat) (x : List UInt8) (s : LS) (g : Nat), s.pos ≤ x.length → s.err = 0 → x.length < f + s.pos → (x ++ 10 :: t).length < g + s.pos → (runF f x s).err = 0 →
    runF g (x ++ 10 :: t) s = runF (t.length + 1) (x ++ 10 :: t) ⟨x.length + 1, (runF f x s).toks, (runF f x s).texts, 0⟩
  | 0, x, s, g, hp, he, hf, hg, h => by omega
  | f + 1, x, s, 0, hp, he, hf, hg, h => by rw [List.length_append] at hg; omega
  | f + 1, x, s, g + 1, hp, he, hf, hg, h => by
    have hL : (x ++ 10 :: t).length = x.length + 1 + t.length := by rw [List.length_append, List.length_cons]; omega
    have hk := skipN_le (x.drop s.pos)
    rw [List.length_drop] at hk
    by_cases hc : x.length ≤ (skipS x s).pos
    · have hc2 : skipN (x.drop s.pos) = (x.drop s.pos).length := by unfold skipS at hc; simp only at hc; rw [List.length_drop]; omega
      have e1 : runF (f + 1) x s = skipS x s := by rw [runF_step, if_pos hc]
      have e2 : skipS (x ++ 10 :: t) s = skipS (x ++ 10 :: t) ⟨x.length + 1, s.toks, s.texts, 0⟩ := by
        have ed : (x ++ 10 :: t).drop (x.length + 1) = t := by rw [List.drop_append]; simp
        unfold skipS
        simp only
        rw [drop_end t x _ hp, ed]
        unfold skipN
        rw [skip_past t false _ hc2, List.length_drop, ← he]
        congr 1
        omega
      rw [e1]
      have e3 : runF (g + 1) (x ++ 10 :: t) s = runF (g + 1) (x ++ 10 :: t) ⟨x.length + 1, s.toks, s.texts, 0⟩ := by rw [runF_step, runF_step, e2]
      rw [e3]
      exact runF_more _ _ _ _ (by simp only; omega) rfl (by simp only; omega) (by simp only; omega)
    · have e2 : skipS (x ++ 10 :: t) s = skipS x s := by
        unfold skipS at hc ⊢
        simp only at hc
        rw [drop_end t x _ hp]
        unfold skipN at hc ⊢
        rw [skip_within t false _ (by rw [List.length_drop]; omega)]
      have hs := skipS_pos x s hp
      rw [runF_step f x s, if_neg hc] at h
      rw [runF_step g (x ++ 10 :: t) s, runF_step f x s, e2, if_neg (by omega), if_neg hc]
      have ht := tokenS_pos x (skipS x s) (by omega)
      by_cases h1 : (tokenS x (skipS x s)).err ≠ 0
      · rw [if_pos h1] at h; exact absurd h h1
      have h2 : (tokenS x (skipS x s)).err = 0 := Decidable.of_not_not h1
      have h3 := ht.2 h2
      rw [if_neg h1] at h ⊢
      rw [tokenS_end t x _ (by omega) h2, if_neg h1]
      exact runF_end f x _ g ht.1 h2 (by omega) (by omega) h

theorem valid_end : ∀ (n : Nat) (x : List UInt8), x.length ≤ n → valid x = x.length → valid (x ++ 10 :: t) = x.length + 1 + valid t
  | n, x, hn, h => by
    by_cases h0 : x.length = 0
    · obtain rfl : x = [] := List.length_eq_zero_iff.1 h0
      have e : dec (10 :: t) = (10, 1) := ref_one _ (by simp) (by rw [bt_cons0]; decide)
      show valid (10 :: t) = 0 + 1 + valid t
      rw [valid_step _ (by simp) (by unfold decOk; rw [e]; decide), e]
      simp
    · have hok : decOk x = true := by
        cases hd : decOk x with
        | true => rfl
        | false => rw [valid_stop x hd] at h; omega
      have hd := dec_n x h0
      cases n with
      | zero => omega
      | succ n =>
        rw [valid_step x h0 hok] at h
        have ih := valid_end n (x.drop (dec x).2) (by rw [List.length_drop]; omega) (by rw [List.length_drop]; omega)
        rw [valid_step _ (by simp) (by unfold decOk at hok ⊢; rw [dec_end t x h0]; exact hok), dec_end t x h0, drop_end t x _ hd.2.2, ih, List.length_drop]
        omega
end

/-- LexJoins, as it is said of tokensV -/
theorem tokens_joins (x t : List UInt8) (hx : x.length ≤ 3000) (ht : t.length ≤ 3000) (h : (tokensV x).2.2 = 0) :
    ((tokensV t).2.2 ≠ 0 → tokensV (x ++ 10 :: t) = ([], (tokensV t).2.1 + x.length + 1, (tokensV t).2.2)) ∧
    ((tokensV t).2.2 = 0 → tokensV (x ++ 10 :: t) = ((tokensV x).1 ++ (tokensV t).1.map (shK (x.length + 1)), 0, 0)) := by
  have hL : (x ++ 10 :: t).length = t.length + (x.length + 1) := by rw [List.length_append, List.length_cons]; omega
  have hdL : (x ++ 10 :: t).drop (x.length + 1) = t := by rw [List.drop_append]; simp
  unfold tokensV at h
  rw [if_neg (by omega)] at h
  have hv : valid x = x.length := by
    have := valid_le x
    by_cases hv : valid x < x.length
    · rw [if_pos hv] at h; exact absurd h (by simp)
    · omega
  rw [if_neg (by omega)] at h
  have hr : (runS x).err = 0 := by
    by_cases hr : (runS x).err = 0
    · exact hr
    · rw [if_pos hr] at h; exact absurd h hr
  rw [if_neg (fun h2 => h2 hr)] at h
  have htx : (runS x).texts = [] := by
    by_cases htx : (runS x).texts = []
    · exact htx
    · rw [if_pos htx] at h; exact absurd h (by simp)
  have hvx : (tokensV x).1 = (runS x).toks := by
    unfold tokensV
    rw [if_neg (by omega), if_neg (by omega), if_neg (fun h2 => h2 hr), if_neg (fun h2 => h2 htx)]
  have hrun : runS (x ++ 10 :: t) = shS (x.length + 1) (runS x).toks (runS t) := by
    have h1 := runF_end t (x.length + 1) x ⟨0, [], [], 0⟩ ((x ++ 10 :: t).length + 1) (Nat.zero_le _) rfl (by simp only; omega) (by simp only; omega) hr
    have h2 : runF (x.length + 1) x ⟨0, [], [], 0⟩ = runS x := rfl
    rw [h2, htx] at h1
    have h3 : (⟨x.length + 1, (runS x).toks, [], 0⟩ : LS) = shS (x.length + 1) (runS x).toks ⟨0, [], [], 0⟩ := by
      unfold shS
      simp
    rw [h3, runF_sh hdL hL] at h1
    exact h1
  have hvv := valid_end t x.length x (Nat.le_refl _) hv
  rw [hvx]
  have A : ¬ 100000 < t.length := by omega
  have B : ¬ 100000 < (x ++ 10 :: t).length := by omega
  unfold tokensV
  rw [if_neg A, if_neg B, hvv, hrun]
  have he : (shS (x.length + 1) (runS x).toks (runS t)).err = (runS t).err := rfl
  have hp : (shS (x.length + 1) (runS x).toks (runS t)).pos = (runS t).pos + (x.length + 1) := rfl
  have hte : (shS (x.length + 1) (runS x).toks (runS t)).texts = (runS t).texts := rfl
  rw [he, hp, hte]
  have hvt := valid_le t
  by_cases c1 : valid t < t.length
  · rw [if_pos c1, if_pos (by omega)]
    exact ⟨fun _ => by simp only [Prod.mk.injEq, and_true, true_and]; omega, fun h2 => absurd h2 (by simp)⟩
  have c1' : ¬ x.length + 1 + valid t < (x ++ 10 :: t).length := by omega
  rw [if_neg c1, if_neg c1']
  by_cases c2 : (runS t).err ≠ 0
  · rw [if_pos c2, if_pos c2]
    exact ⟨fun _ => by simp only [Prod.mk.injEq, and_true, true_and]; omega, fun h2 => absurd h2 c2⟩
  rw [if_neg c2, if_neg c2]
  by_cases c3 : (runS t).texts ≠ []
  · rw [if_pos c3, if_pos c3]
    exact ⟨fun _ => by simp only [Prod.mk.injEq, and_true, true_and]; omega, fun h2 => absurd h2 (by simp)⟩
  rw [if_neg c3, if_neg c3]
  exact ⟨fun h2 => absurd rfl h2, fun _ => rfl⟩

end Go.Proofs.YtnbfikfngekfoaaDoor
