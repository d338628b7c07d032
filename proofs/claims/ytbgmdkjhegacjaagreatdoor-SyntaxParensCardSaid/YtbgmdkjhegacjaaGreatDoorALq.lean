import Derived.Test.YtbgmdkjhegacjaaGreatDoorPSynLq
namespace Go.Proofs.YtbgmdkjhegacjaaGreatDoor
theorem valid_le (l : List UInt8) : valid l ≤ l.length := by
 suffices h : ∀ k (l : List UInt8), l.length ≤ k → valid l ≤ l.length from h _ l (Nat.le_refl _)
 intro k
 induction k with
 | zero => intro l h; rw [valid_nil l (by omega)]; omega
 | succ k ih =>
  intro l h
  by_cases h0 : l.length = 0
  ·rw [valid_nil l h0]; omega
  have hn := dec_n l h0
  cases hd : decOk l with
  | false => rw [valid_stop l hd]; omega
  | true =>
   rw [valid_step l h0 hd]
   have := ih (l.drop (dec l).2) (by rw [List.length_drop]; omega)
   rw [List.length_drop] at this
   omega
theorem runF_more : ∀ (f g : Nat) (l : List UInt8) (s : LS), s.pos ≤ l.length → s.err = 0 → l.length < f + s.pos → l.length < g + s.pos → runF f l s = runF g l s
 | 0, _, l, s, hp, _, hf, _ => by omega
 | _ + 1, 0, l, s, hp, _, _, hg => by omega
 | f + 1, g + 1, l, s, hp, he, hf, hg => by
  unfold runF
  have hs := skipS_pos l s hp
  by_cases h0 : l.length ≤ (skipS l s).pos
  ·rw [if_pos h0, if_pos h0]
  rw [if_neg h0, if_neg h0]
  have ht := tokenS_pos l (skipS l s) (by omega)
  by_cases h1 : (tokenS l (skipS l s)).err ≠ 0
  ·rw [if_pos h1, if_pos h1]
  rw [if_neg h1, if_neg h1]
  have h2 : (tokenS l (skipS l s)).err = 0 := Decidable.of_not_not h1
  have h3 := ht.2 h2
  exact runF_more f g l _ ht.1 h2 (by omega) (by omega)
def shK (d : Nat) (k : Tk) : Tk := { k with pos := k.pos + d }
def shS (d : Nat) (T : List Tk) (s : LS) : LS := ⟨s.pos + d, T ++ s.toks.map (shK d), s.texts, s.err⟩
theorem putS_sh (d : Nat) (T : List Tk) (s : LS) (k : Nat) (t : List UInt8) (n : Nat) : putS (shS d T s) k t n = shS d T (putS s k t n) := by
 unfold putS shS
 simp only [List.map_append, List.map_cons, List.map_nil, List.append_assoc, LS.mk.injEq, and_true]
 exact ⟨by omega, rfl⟩
theorem failS_sh (d : Nat) (T : List Tk) (s : LS) (a b e : Nat) (h : b = a + d) : failS (shS d T s) b e = shS d T (failS s a e) := by
 subst h; rfl
theorem flushS_sh (d : Nat) (T : List Tk) (s : LS) (n : Nat) (o : List UInt8) : flushS (shS d T s) n o = shS d T (flushS s n o) := by
 unfold flushS
 split
 ·unfold shS
  simp only [List.map_append, List.map_cons, List.map_nil, List.append_assoc, LS.mk.injEq, and_true]
  exact ⟨by omega, rfl⟩
 ·rfl
theorem texts_sh (d : Nat) (T : List Tk) (s : LS) (x : List Nat) : { shS d T s with texts := x } = shS d T { s with texts := x } := rfl
section
variable {L t : List UInt8} {d : Nat} (hL : L.drop d = t) (hn : L.length = t.length + d)
include hL
theorem drop_sh (k : Nat) : L.drop (k + d) = t.drop k := by rw [← hL, List.drop_drop, Nat.add_comm]
theorem drop_sh1 (k : Nat) : L.drop (k + d + 1) = t.drop (k + 1) := by rw [← drop_sh hL (k + 1)]; congr 1; omega
theorem markS_sh (T : List Tk) (s : LS) (k : Nat) (keep : List UInt8) : markS L (shS d T s) k keep = shS d T (markS t s k keep) := by
 unfold markS
 have e : (shS d T s).pos = s.pos + d := rfl
 rw [e, drop_sh1 hL]
 split
 ·exact failS_sh d T s _ _ _ rfl
 ·exact putS_sh d T s _ _ _
include hn
theorem textS_sh (T : List Tk) (s : LS) : textS L (shS d T s) = shS d T (textS t s) := by
 unfold textS
 have e : (shS d T s).pos = s.pos + d := rfl
 have e2 : (shS d T s).texts = s.texts := rfl
 simp only
 rw [e, e2, drop_sh hL, flushS_sh, putS_sh, putS_sh]
 split
 ·rfl
 split
 ·rfl
 split
 ·exact failS_sh d T s _ _ _ hn
 ·exact failS_sh d T s _ _ _ (by omega)
theorem signS_sh (T : List Tk) (s : LS) (x : List UInt8) : signS L (shS d T s) x = shS d T (signS t s x) := by
 unfold signS
 have e2 : (shS d T s).texts = s.texts := rfl
 rw [e2]
 by_cases h0 : x = []
 ·rw [if_pos h0, if_pos h0]; rfl
 rw [if_neg h0, if_neg h0]
 cases s.texts with
 | nil => simp only; exact putS_sh d T s _ _ _
 | cons y ts =>
  simp only
  split
  ·rw [texts_sh, putS_sh]
  split
  ·split
   ·rw [putS_sh, textS_sh hL hn]
   ·rw [texts_sh, putS_sh]
  ·exact putS_sh d T s _ _ _
theorem tokenS_sh (T : List Tk) (s : LS) : tokenS L (shS d T s) = shS d T (tokenS t s) := by
 unfold tokenS
 have e : (shS d T s).pos = s.pos + d := rfl
 have e2 : (shS d T s).texts = s.texts := rfl
 simp only
 rw [e, e2, drop_sh hL]
 split
 ·split
  ·exact failS_sh d T s _ _ _ rfl
  ·rw [putS_sh, texts_sh, textS_sh hL hn]
 split
 ·exact putS_sh d T s _ _ _
 split
 ·exact putS_sh d T s _ _ _
 split
 ·exact markS_sh hL T s _ _
 split
 ·exact markS_sh hL T s _ _
 split
 ·exact markS_sh hL T s _ _
 ·exact signS_sh hL hn T s _
omit hn in
theorem skipS_sh (T : List Tk) (s : LS) : skipS L (shS d T s) = shS d T (skipS t s) := by
 unfold skipS
 have e : (shS d T s).pos = s.pos + d := rfl
 rw [e, drop_sh hL]
 unfold shS
 simp only [LS.mk.injEq, and_true]
 omega
theorem runF_sh : ∀ (f : Nat) (T : List Tk) (s : LS), runF f L (shS d T s) = shS d T (runF f t s)
 | 0, _, _ => rfl
 | f + 1, T, s => by
  unfold runF
  rw [skipS_sh hL, tokenS_sh hL hn]
  have e : (shS d T (skipS t s)).pos = (skipS t s).pos + d := rfl
  have e2 : (shS d T (tokenS t (skipS t s))).err = (tokenS t (skipS t s)).err := rfl
  rw [e, e2, runF_sh f]
  by_cases h0 : t.length ≤ (skipS t s).pos
  ·rw [if_pos h0, if_pos (by omega)]
  rw [if_neg h0, if_neg (by omega)]
  split <;> rfl
end
section
variable (t : List UInt8)
def EndB (e : UInt8) : Prop := e = 10 ∨ e = 32
theorem EndB.letB {e : UInt8} (h : EndB e) : letB e.toNat = false := by rcases h with rfl | rfl <;> decide
theorem EndB.digB {e : UInt8} (h : EndB e) : digB e.toNat = false := by rcases h with rfl | rfl <;> decide
variable {e : UInt8} (he : EndB e)
include he
theorem nameF_end : ∀ (k : Bool) (x : List UInt8), nameF k (x ++ e :: t) = nameF k x
 | k, [] => by
  show nameF k (e :: t) = 0
  unfold nameF
  rw [he.letB, he.digB, Bool.and_false]; rfl
 | k, c :: r => by
  show nameF k (c :: (r ++ e :: t)) = _
  unfold nameF
  rw [nameF_end true r]
theorem nameN_end (x : List UInt8) : nameN (x ++ e :: t) = nameN x := nameF_end t he false x
theorem digN_end : ∀ (x : List UInt8), digN (x ++ e :: t) = digN x
 | [] => by
  show digN (e :: t) = 0
  unfold digN
  rw [he.digB]; rfl
 | c :: r => by
  show digN (c :: (r ++ e :: t)) = _
  unfold digN
  rw [digN_end r]
omit he in
theorem bt_len (x : List UInt8) : bt (x ++ e :: t) x.length = e.toNat := by unfold bt; simp
theorem bt_end (x : List UInt8) (n c : Nat) (hn : n ≤ x.length) (h0 : c ≠ 0) (h1 : c ≠ 10 ∧ c ≠ 32) : (bt (x ++ e :: t) n = c) = (bt x n = c) := by
 apply propext
 rcases Nat.lt_or_ge n x.length with h | h
 ·rw [bt_app _ _ _ h]
 ·obtain rfl : n = x.length := by omega
  rw [bt_len, bt_past x _ (Nat.le_refl _)]
  have e0 : e.toNat = 10 ∨ e.toNat = 32 := by rcases he with rfl | rfl <;> decide
  constructor <;> intro h2 <;> omega
omit he in
theorem drop_end (x : List UInt8) (n : Nat) (hn : n ≤ x.length) : (x ++ e :: t).drop n = x.drop n ++ e :: t := List.drop_append_of_le_length hn
theorem fracN_end (x : List UInt8) (n : Nat) (hn : n ≤ x.length) : fracN (x ++ e :: t) n = fracN x n := by
 unfold fracN
 simp only [bt_end t he x n 46 hn (by decide) (by decide)]
 by_cases h : bt x n = 46
 ·have := len_of_bt (l := x) (k := n) (by omega)
  rw [drop_end t x _ (by omega), digN_end t he]
 ·rw [if_neg (fun h2 => h h2.1), if_neg (fun h2 => h h2.1)]
theorem expoN_end (x : List UInt8) (n : Nat) (hn : n ≤ x.length) : expoN (x ++ e :: t) n = expoN x n := by
 unfold expoN
 simp only [bt_end t he x n 101 hn (by decide) (by decide), bt_end t he x n 69 hn (by decide) (by decide)]
 by_cases h : bt x n = 101 ∨ bt x n = 69
 ·have hl := len_of_bt (l := x) (k := n) (by omega)
  have e2 : expoAt (x ++ e :: t) n = expoAt x n := by
   unfold expoAt
   simp only [bt_end t he x (n + 1) 43 (by omega) (by decide) (by decide), bt_end t he x (n + 1) 45 (by omega) (by decide) (by decide)]
  have h2 : expoAt x n ≤ x.length := by
   unfold expoAt
   split
   ·have := len_of_bt (l := x) (k := n + 1) (by omega); omega
   ·omega
  rw [e2, drop_end t x _ h2, digN_end t he]
 ·rw [if_neg (fun h2 => h h2.1), if_neg (fun h2 => h h2.1)]
theorem numN_end (x : List UInt8) : numN (x ++ e :: t) = numN x := by
 unfold numN
 rw [digN_end t he, fracN_end t he x _ (digN_le x), expoN_end t he x _ (fracN_le x _ (digN_le x)).2]
omit he in
theorem prefix_end : ∀ (p x : List UInt8), e ∉ p → p.isPrefixOf (x ++ e :: t) = p.isPrefixOf x
 | [], _, _ => by simp
 | a :: p, [], h => by
  have : e ≠ a := fun h2 => h (by rw [h2]; exact List.mem_cons_self)
  simp [List.isPrefixOf, this.symm]
 | a :: p, c :: r, h => by
  show (a :: p).isPrefixOf (c :: (r ++ e :: t)) = _
  unfold List.isPrefixOf
  rw [prefix_end p r (fun h2 => h (List.mem_cons_of_mem _ h2))]
theorem signL_end (x : List UInt8) (hx : x ≠ []) : signL (x ++ e :: t) = signL x := by
 unfold signL
 have e2 : signs2.find? (fun p => p.isPrefixOf (x ++ e :: t)) = signs2.find? (fun p => p.isPrefixOf x) := by
  have h10 : ∀ p ∈ signs2, e ∉ p := by rcases he with rfl | rfl <;> decide
  generalize signs2 = S at h10
  induction S with
  | nil => rfl
  | cons a S ih =>
   rw [List.find?_cons, List.find?_cons, prefix_end t a x (h10 a List.mem_cons_self), ih (fun p hp => h10 p (List.mem_cons_of_mem _ hp))]
 rw [e2]
 cases x with
 | nil => exact absurd rfl hx
 | cons c r => rfl
omit he
theorem decodeN_same (n m b0 b1 b2 b3 c1 c2 c3 : Nat) (h1 : (1 < n ∧ b1 / 64 = 2) ↔ (1 < m ∧ c1 / 64 = 2)) (e1 : 1 < m → b1 = c1) (h2 : 1 < m → ((2 < n ∧ b2 / 64 = 2) ↔ (2 < m ∧ c2 / 64 = 2))) (e2 : 2 < m → b2 = c2)
  (h3 : 2 < m → ((3 < n ∧ b3 / 64 = 2) ↔ (3 < m ∧ c3 / 64 = 2))) (e3 : 3 < m → b3 = c3) : Lib.decodeN n b0 b1 b2 b3 = Lib.decodeN m b0 c1 c2 c3 := by
 unfold Lib.decodeN
 simp only [h1]
 by_cases A1 : 1 < m ∧ c1 / 64 = 2
 ·have E1 := e1 A1.1
  subst E1
  simp only [h2 A1.1]
  by_cases A2 : 2 < m ∧ c2 / 64 = 2
  ·have E2 := e2 A2.1
   subst E2
   simp only [h3 A2.1]
   by_cases A3 : 3 < m ∧ c3 / 64 = 2
   ·have E3 := e3 A3.1
    subst E3
    rfl
   ·simp only [A3, and_false, if_false]
  ·simp only [A2, false_and, and_false, if_false]
 ·simp only [A1, false_and, and_false, if_false]
theorem dec_end (x : List UInt8) (hx : x.length ≠ 0) : dec (x ++ 10 :: t) = dec x := by
 unfold dec
 rw [if_neg hx, if_neg (by simp), bt_app _ _ 0 (by omega)]
 have hl : (x ++ 10 :: t).length = x.length + (t.length + 1) := by simp
 have key : ∀ k, k ≤ x.length → ((k < (x ++ 10 :: t).length ∧ bt (x ++ 10 :: t) k / 64 = 2) ↔ (k < x.length ∧ bt x k / 64 = 2)) := fun k hk => by
  rcases Nat.lt_or_ge k x.length with h | h
  ·rw [bt_app _ _ _ h]
   exact ⟨fun h2 => ⟨h, h2.2⟩, fun h2 => ⟨by omega, h2.2⟩⟩
  ·obtain rfl : k = x.length := by omega
   rw [bt_len, show (10 : UInt8).toNat = 10 from rfl]
   exact ⟨fun h2 => absurd h2.2 (by decide), fun h2 => absurd h2.1 (Nat.lt_irrefl _)⟩
 exact decodeN_same _ _ _ _ _ _ _ _ _ (key 1 (by omega)) (fun h => bt_app _ _ _ h) (fun h => key 2 h) (fun h => bt_app _ _ _ h) (fun h => key 3 h) (fun h => bt_app _ _ _ h)
theorem skip_past : ∀ (k : Bool) (x : List UInt8), skipF k x = x.length → skipF k (x ++ 10 :: t) = x.length + 1 + skipF false t
 | false, [], _ => by show skipF false (10 :: t) = _; rw [skipF]; simp
 | true, [], _ => by show skipF true (10 :: t) = _; rw [skipF]; simp
 | false, c :: r, h => by
  show skipF false (c :: (r ++ 10 :: t)) = _
  rw [skipF] at h ⊢
  simp only [List.length_cons] at h ⊢
  split
  ·rename_i h1; rw [if_pos h1] at h; rw [skip_past false r (by omega)]; omega
  ·rename_i h1; rw [if_neg h1] at h
   split
   ·rename_i h2; rw [if_pos h2] at h; rw [skip_past true r (by omega)]; omega
   ·rename_i h2; rw [if_neg h2] at h; omega
 | true, c :: r, h => by
  show skipF true (c :: (r ++ 10 :: t)) = _
  rw [skipF] at h ⊢
  simp only [List.length_cons] at h ⊢
  split
  ·rename_i h1; rw [if_pos h1] at h; rw [skip_past false r (by omega)]; omega
  ·rename_i h1; rw [if_neg h1] at h; rw [skip_past true r (by omega)]; omega
theorem skip_within : ∀ (k : Bool) (x : List UInt8), skipF k x < x.length → skipF k (x ++ 10 :: t) = skipF k x
 | _, [], h => absurd h (Nat.not_lt_zero _)
 | false, c :: r, h => by
  show skipF false (c :: (r ++ 10 :: t)) = _
  rw [skipF] at h ⊢
  rw [skipF]
  simp only [List.length_cons] at h
  split
  ·rename_i h1; rw [if_pos h1] at h; rw [skip_within false r (by omega)]
  ·rename_i h1; rw [if_neg h1] at h
   split
   ·rename_i h2; rw [if_pos h2] at h; rw [skip_within true r (by omega)]
   ·rfl
 | true, c :: r, h => by
  show skipF true (c :: (r ++ 10 :: t)) = _
  rw [skipF] at h ⊢
  rw [skipF]
  simp only [List.length_cons] at h
  split
  ·rename_i h1; rw [if_pos h1] at h; rw [skip_within false r (by omega)]
  ·rename_i h1; rw [if_neg h1] at h; rw [skip_within true r (by omega)]
end
section
variable (t : List UInt8)
theorem lowP_line (m : List UInt8) (hj : m.length < 6) : lowP (m ++ 10 :: t) = false := by
 have h : bt (m ++ 10 :: t) m.length = 10 := bt_len t (e := 10) m
 generalize m.length = j at hj h
 cases hl : lowP (m ++ 10 :: t) with
 | false => rfl
 | true =>
  unfold lowP at hl
  simp only [Bool.and_eq_true, decide_eq_true_eq] at hl
  obtain ⟨⟨⟨⟨⟨_, h0⟩, h1⟩, h4⟩, _⟩, _⟩ := hl
  exfalso
  by_cases e0 : j = 0
  ·subst e0; omega
  by_cases e1 : j = 1
  ·subst e1; omega
  have hb : bt ((m ++ 10 :: t).drop 2) (j - 2) = 10 := by rw [bt_drop, show 2 + (j - 2) = j by omega]; exact h
  have := fourF_stop 4 ((m ++ 10 :: t).drop 2) 0 0 (j - 2) (Nat.zero_le _) (by rw [hb]; rfl)
  have h4' : (fourF 4 ((m ++ 10 :: t).drop 2) 0 0).2 = 4 := h4
  omega
theorem numbered_end (x : List UInt8) (h : (numberedP x).err = 0) : numberedP (x ++ 10 :: t) = numberedP x := by
 have hs := numberedP_size x h
 have h6 : 6 ≤ x.length := by omega
 rw [numbered_low _ h6, numbered_low _ (by rw [List.length_append]; omega)] at *
 rw [drop_end t x 2 (by omega), drop_end t x 6 h6, four_app _ _ (by rw [List.length_drop]; omega)]
 by_cases c1 : (fourL (x.drop 2)).2 < 4
 ·rw [if_pos c1] at h
  exact absurd h (faultP_err _ _)
 rw [if_neg c1, if_neg c1]
 by_cases c2 : (fourL (x.drop 2)).1 < 55296 ∨ 57343 < (fourL (x.drop 2)).1
 ·rw [if_pos c2, if_pos c2]
 rw [if_neg c2, if_neg c2]
 have el : lowP (x.drop 6 ++ 10 :: t) = lowP (x.drop 6) := by
  rcases Nat.lt_or_ge (x.drop 6).length 6 with hlt | hge
  ·rw [lowP_line t _ hlt]
   cases hl : lowP (x.drop 6) with
   | false => rfl
   | true => have := lowP_len _ hl; omega
  ·exact lowP_app _ _ hge
 rw [el]
 by_cases c3 : (fourL (x.drop 2)).1 < 56320 ∧ lowP (x.drop 6) = true
 ·have hl := lowP_len _ c3.2
  rw [List.length_drop] at hl
  rw [if_pos c3, if_pos c3, drop_end t x 8 (by omega), four_app _ _ (by rw [List.length_drop]; omega)]
 ·rw [if_neg c3, if_neg c3]
theorem escaped_end (x : List UInt8) (h : (escapedP x).err = 0) : escapedP (x ++ 10 :: t) = escapedP x := by
 have hs := escapedP_size x h
 have h2 : 2 ≤ x.length := by omega
 have hb : bt (x ++ 10 :: t) 1 = bt x 1 := bt_app _ _ _ (by omega)
 have A : ¬ (x ++ 10 :: t).length < 2 := by rw [List.length_append]; omega
 have B : ¬ x.length < 2 := by omega
 clear hs
 unfold escapedP at h ⊢
 rw [if_neg B] at h
 rw [if_neg A, if_neg B, hb]
 by_cases a : bt x 1 = 34 ∨ bt x 1 = 92 ∨ bt x 1 = 47
 ·rw [if_pos a, if_pos a]
 rw [if_neg a] at h
 rw [if_neg a, if_neg a]
 clear a
 by_cases a : bt x 1 = 98
 ·rw [if_pos a, if_pos a]
 rw [if_neg a] at h
 rw [if_neg a, if_neg a]
 clear a
 by_cases a : bt x 1 = 102
 ·rw [if_pos a, if_pos a]
 rw [if_neg a] at h
 rw [if_neg a, if_neg a]
 clear a
 by_cases a : bt x 1 = 110
 ·rw [if_pos a, if_pos a]
 rw [if_neg a] at h
 rw [if_neg a, if_neg a]
 clear a
 by_cases a : bt x 1 = 114
 ·rw [if_pos a, if_pos a]
 rw [if_neg a] at h
 rw [if_neg a, if_neg a]
 clear a
 by_cases a : bt x 1 = 116
 ·rw [if_pos a, if_pos a]
 rw [if_neg a] at h
 rw [if_neg a, if_neg a]
 clear a
 by_cases a : bt x 1 = 117
 ·rw [if_pos a] at h
  rw [if_pos a, if_pos a]
  exact numbered_end t x h
 ·rw [if_neg a] at h
  exact absurd h (faultP_err _ _)
theorem piece_end (x : List UInt8) (h : (pieceP x).2 ≠ 0) : pieceP (x ++ 10 :: t) = pieceP x := by
 have he : (escapedP x).err = 0 := by
  unfold pieceP at h
  by_cases he : (escapedP x).err = 0
  ·exact he
  ·rw [if_neg he] at h; exact absurd rfl h
 unfold pieceP
 rw [escaped_end t x he]
theorem scan_end : ∀ (n : Nat) (x : List UInt8), x.length ≤ n → (scanT x).1 ≤ 1 → scanT (x ++ 10 :: t) = scanT x
 | 0, x, hn, h => by rw [scanT_eq, if_pos (by omega)] at h; exact absurd h (by simp)
 | n + 1, x, hn, h => by
  rw [scanT_eq x] at h ⊢
  rw [scanT_eq (x ++ 10 :: t)]
  by_cases h0 : x.length = 0
  ·rw [if_pos h0] at h; exact absurd h (by simp)
  have e0 : bt (x ++ 10 :: t) 0 = bt x 0 := bt_app _ _ _ (by omega)
  rw [if_neg h0] at h ⊢
  rw [if_neg (by rw [List.length_append, List.length_cons]; omega), e0]
  by_cases h1 : bt x 0 = 34
  ·rw [if_pos h1, if_pos h1]
  rw [if_neg h1] at h ⊢
  rw [if_neg h1]
  simp only [bt_end t (.inl rfl) x 1 40 (by omega) (by decide) (by decide)]
  by_cases h2 : bt x 0 = 92 ∧ bt x 1 = 40
  ·rw [if_pos h2, if_pos h2]
  rw [if_neg h2] at h ⊢
  rw [if_neg h2]
  by_cases h3 : bt x 0 = 92
  ·rw [if_pos h3] at h ⊢
   rw [if_pos h3]
   by_cases h4 : (pieceP x).2 = 0
   ·rw [if_pos h4] at h
    simp only at h
    split at h <;> omega
   ·rw [if_neg h4] at h ⊢
    have hs := pieceP_size x h4
    rw [piece_end t x h4, if_neg h4, drop_end t x _ hs.2.1, scan_end n _ (by rw [List.length_drop]; omega) h]
  ·rw [if_neg h3] at h ⊢
   have hd := dec_n x h0
   rw [if_neg h3, dec_end t x h0, drop_end t x _ hd.2.2, scan_end n _ (by rw [List.length_drop]; omega) h, List.take_append_of_le_length hd.2.2]
theorem failS_err (s : LS) (a e : Nat) : (failS s a e).err = e := rfl
theorem textS_end (x : List UInt8) (s : LS) (hp : s.pos ≤ x.length) (h : (textS x s).err = 0) : textS (x ++ 10 :: t) s = textS x s := by
 unfold textS at h ⊢
 simp only at h ⊢
 have hk : (scanT (x.drop s.pos)).1 ≤ 1 := by
  rcases Nat.lt_or_ge (scanT (x.drop s.pos)).1 2 with h1 | h1
  ·omega
  ·exfalso
   rw [if_neg (by omega), if_neg (by omega)] at h
   split at h <;> exact absurd h (by rw [failS_err]; decide)
 rw [drop_end t x _ hp, scan_end t _ _ (Nat.le_refl _) hk]
 by_cases h0 : (scanT (x.drop s.pos)).1 = 0
 ·rw [if_pos h0, if_pos h0]
 ·rw [if_neg h0, if_neg h0, if_pos (by omega), if_pos (by omega)]
theorem markS_end (x : List UInt8) (s : LS) (k : Nat) (keep : List UInt8) (hp : s.pos < x.length) : markS (x ++ 10 :: t) s k keep = markS x s k keep := by
 unfold markS
 rw [drop_end t x _ (by omega), nameN_end t (.inl rfl), List.take_append_of_le_length (nameN_le _)]
theorem signS_end (x : List UInt8) (s : LS) (y : List UInt8) (hp : s.pos < x.length) (h : (signS x s y).err = 0) : signS (x ++ 10 :: t) s y = signS x s y := by
 unfold signS at h ⊢
 by_cases h0 : y = []
 ·rw [if_pos h0, if_pos h0]
 rw [if_neg h0] at h ⊢
 rw [if_neg h0]
 cases hx : s.texts with
 | nil => rfl
 | cons a ts =>
  rw [hx] at h
  simp only at h ⊢
  by_cases h1 : y = [40]
  ·rw [if_pos h1, if_pos h1]
  rw [if_neg h1] at h ⊢
  rw [if_neg h1]
  by_cases h2 : y = [41]
  ·rw [if_pos h2] at h ⊢
   rw [if_pos h2]
   by_cases h3 : a = 0
   ·rw [if_pos h3] at h ⊢
    rw [if_pos h3]
    exact textS_end t x _ (by unfold putS; simp only; omega) h
   ·rw [if_neg h3, if_neg h3]
  ·rw [if_neg h2, if_neg h2]
theorem tokenS_end (x : List UInt8) (s : LS) (hp : s.pos < x.length) (h : (tokenS x s).err = 0) : tokenS (x ++ 10 :: t) s = tokenS x s := by
 have hl : (x.drop s.pos).length ≠ 0 := by rw [List.length_drop]; omega
 have e0 : bt (x.drop s.pos ++ 10 :: t) 0 = bt (x.drop s.pos) 0 := bt_app _ _ _ (by omega)
 have el : letB (bt (x.drop s.pos ++ 10 :: t) 1) = letB (bt (x.drop s.pos) 1) := by
  rcases Nat.lt_or_ge 1 (x.drop s.pos).length with h1 | h1
  ·rw [bt_app _ _ _ h1]
  ·have h2 : (x.drop s.pos).length = 1 := by omega
   have : bt (x.drop s.pos ++ 10 :: t) (x.drop s.pos).length = 10 := bt_len t (e := 10) (x.drop s.pos)
   rw [h2] at this
   rw [this, bt_past _ _ h1]; decide
 unfold tokenS at h ⊢
 simp only at h ⊢
 rw [drop_end t x _ (by omega), e0, el, numN_end t (.inl rfl), nameN_end t (.inl rfl), signL_end t (.inl rfl) _ (fun e => hl (by rw [e]; rfl)), List.take_append_of_le_length (numN_le _).2, List.take_append_of_le_length (nameN_le _)]
 by_cases h1 : bt (x.drop s.pos) 0 = 34
 ·rw [if_pos h1] at h ⊢
  rw [if_pos h1]
  by_cases h2 : 50 ≤ s.texts.length
  ·rw [if_pos h2, if_pos h2]
  ·rw [if_neg h2] at h ⊢
   rw [if_neg h2]
   exact textS_end t x _ (by unfold putS; simp only; omega) h
 rw [if_neg h1] at h ⊢
 rw [if_neg h1, markS_end t x s _ _ hp, markS_end t x s _ _ hp, markS_end t x s _ _ hp]
 by_cases h2 : digB (bt (x.drop s.pos) 0) = true
 ·rw [if_pos h2, if_pos h2]
 rw [if_neg h2] at h ⊢
 rw [if_neg h2]
 by_cases h3 : letB (bt (x.drop s.pos) 0) = true
 ·rw [if_pos h3, if_pos h3]
 rw [if_neg h3] at h ⊢
 rw [if_neg h3]
 by_cases h4 : bt (x.drop s.pos) 0 = 36
 ·rw [if_pos h4, if_pos h4]
 rw [if_neg h4] at h ⊢
 rw [if_neg h4]
 by_cases h5 : bt (x.drop s.pos) 0 = 64
 ·rw [if_pos h5, if_pos h5]
 rw [if_neg h5] at h ⊢
 rw [if_neg h5]
 by_cases h6 : bt (x.drop s.pos) 0 = 46 ∧ letB (bt (x.drop s.pos) 1) = true
 ·rw [if_pos h6, if_pos h6]
 rw [if_neg h6] at h ⊢
 rw [if_neg h6]
 exact signS_end t x s _ hp h
theorem runF_end : ∀ (f : Nat) (x : List UInt8) (s : LS) (g : Nat), s.pos ≤ x.length → s.err = 0 → x.length < f + s.pos → (x ++ 10 :: t).length < g + s.pos → (runF f x s).err = 0 →
  runF g (x ++ 10 :: t) s = runF (t.length + 1) (x ++ 10 :: t) ⟨x.length + 1, (runF f x s).toks, (runF f x s).texts, 0⟩
 | 0, x, s, g, hp, he, hf, hg, h => by omega
 | f + 1, x, s, 0, hp, he, hf, hg, h => by rw [List.length_append] at hg; omega
 | f + 1, x, s, g + 1, hp, he, hf, hg, h => by
  have hL : (x ++ 10 :: t).length = x.length + 1 + t.length := by rw [List.length_append, List.length_cons]; omega
  have hk := skipN_le (x.drop s.pos)
  rw [List.length_drop] at hk
  by_cases hc : x.length ≤ (skipS x s).pos
  ·have hc2 : skipN (x.drop s.pos) = (x.drop s.pos).length := by unfold skipS at hc; simp only at hc; rw [List.length_drop]; omega
   have e1 : runF (f + 1) x s = skipS x s := by rw [runF_step, if_pos hc]
   have e2 : skipS (x ++ 10 :: t) s = skipS (x ++ 10 :: t) ⟨x.length + 1, s.toks, s.texts, 0⟩ := by
    have ed : (x ++ 10 :: t).drop (x.length + 1) = t := by rw [List.drop_append]; simp
    unfold skipS
    simp only
    rw [drop_end t x _ hp, ed]
    unfold skipN
    rw [skip_past t false _ hc2, List.length_drop, ← he]
    congr 1
    omega
   rw [e1]
   have e3 : runF (g + 1) (x ++ 10 :: t) s = runF (g + 1) (x ++ 10 :: t) ⟨x.length + 1, s.toks, s.texts, 0⟩ := by rw [runF_step, runF_step, e2]
   rw [e3]
   exact runF_more _ _ _ _ (by simp only; omega) rfl (by simp only; omega) (by simp only; omega)
  ·have e2 : skipS (x ++ 10 :: t) s = skipS x s := by
    unfold skipS at hc ⊢
    simp only at hc
    rw [drop_end t x _ hp]
    unfold skipN at hc ⊢
    rw [skip_within t false _ (by rw [List.length_drop]; omega)]
   have hs := skipS_pos x s hp
   rw [runF_step f x s, if_neg hc] at h
   rw [runF_step g (x ++ 10 :: t) s, runF_step f x s, e2, if_neg (by omega), if_neg hc]
   have ht := tokenS_pos x (skipS x s) (by omega)
   by_cases h1 : (tokenS x (skipS x s)).err ≠ 0
   ·rw [if_pos h1] at h; exact absurd h h1
   have h2 : (tokenS x (skipS x s)).err = 0 := Decidable.of_not_not h1
   have h3 := ht.2 h2
   rw [if_neg h1] at h ⊢
   rw [tokenS_end t x _ (by omega) h2, if_neg h1]
   exact runF_end f x _ g ht.1 h2 (by omega) (by omega) h
theorem valid_end : ∀ (n : Nat) (x : List UInt8), x.length ≤ n → valid x = x.length → valid (x ++ 10 :: t) = x.length + 1 + valid t
 | n, x, hn, h => by
  by_cases h0 : x.length = 0
  ·obtain rfl : x = [] := List.length_eq_zero_iff.1 h0
   have e : dec (10 :: t) = (10, 1) := ref_one _ (by simp) (by rw [bt_cons0]; decide)
   show valid (10 :: t) = 0 + 1 + valid t
   rw [valid_step _ (by simp) (by unfold decOk; rw [e]; decide), e]
   simp
  ·have hok : decOk x = true := by
    cases hd : decOk x with
    | true => rfl
    | false => rw [valid_stop x hd] at h; omega
   have hd := dec_n x h0
   cases n with
   | zero => omega
   | succ n =>
    rw [valid_step x h0 hok] at h
    have ih := valid_end n (x.drop (dec x).2) (by rw [List.length_drop]; omega) (by rw [List.length_drop]; omega)
    rw [valid_step _ (by simp) (by unfold decOk at hok ⊢; rw [dec_end t x h0]; exact hok), dec_end t x h0, drop_end t x _ hd.2.2, ih, List.length_drop]
    omega
end
theorem tokens_joins (x t : List UInt8) (hx : x.length ≤ 3000) (ht : t.length ≤ 3000) (h : (tokensV x).2.2 = 0) :
  ((tokensV t).2.2 ≠ 0 → tokensV (x ++ 10 :: t) = ([], (tokensV t).2.1 + x.length + 1, (tokensV t).2.2)) ∧
  ((tokensV t).2.2 = 0 → tokensV (x ++ 10 :: t) = ((tokensV x).1 ++ (tokensV t).1.map (shK (x.length + 1)), 0, 0)) := by
 have hL : (x ++ 10 :: t).length = t.length + (x.length + 1) := by rw [List.length_append, List.length_cons]; omega
 have hdL : (x ++ 10 :: t).drop (x.length + 1) = t := by rw [List.drop_append]; simp
 unfold tokensV at h
 rw [if_neg (by omega)] at h
 have hv : valid x = x.length := by
  have := valid_le x
  by_cases hv : valid x < x.length
  ·rw [if_pos hv] at h; exact absurd h (by simp)
  ·omega
 rw [if_neg (by omega)] at h
 have hr : (runS x).err = 0 := by
  by_cases hr : (runS x).err = 0
  ·exact hr
  ·rw [if_pos hr] at h; exact absurd h hr
 rw [if_neg (fun h2 => h2 hr)] at h
 have htx : (runS x).texts = [] := by
  by_cases htx : (runS x).texts = []
  ·exact htx
  ·rw [if_pos htx] at h; exact absurd h (by simp)
 have hvx : (tokensV x).1 = (runS x).toks := by
  unfold tokensV
  rw [if_neg (by omega), if_neg (by omega), if_neg (fun h2 => h2 hr), if_neg (fun h2 => h2 htx)]
 have hrun : runS (x ++ 10 :: t) = shS (x.length + 1) (runS x).toks (runS t) := by
  have h1 := runF_end t (x.length + 1) x ⟨0, [], [], 0⟩ ((x ++ 10 :: t).length + 1) (Nat.zero_le _) rfl (by simp only; omega) (by simp only; omega) hr
  have h2 : runF (x.length + 1) x ⟨0, [], [], 0⟩ = runS x := rfl
  rw [h2, htx] at h1
  have h3 : (⟨x.length + 1, (runS x).toks, [], 0⟩ : LS) = shS (x.length + 1) (runS x).toks ⟨0, [], [], 0⟩ := by
   unfold shS
   simp
  rw [h3, runF_sh hdL hL] at h1
  exact h1
 have hvv := valid_end t x.length x (Nat.le_refl _) hv
 rw [hvx]
 have A : ¬ 100000 < t.length := by omega
 have B : ¬ 100000 < (x ++ 10 :: t).length := by omega
 unfold tokensV
 rw [if_neg A, if_neg B, hvv, hrun]
 have he : (shS (x.length + 1) (runS x).toks (runS t)).err = (runS t).err := rfl
 have hp : (shS (x.length + 1) (runS x).toks (runS t)).pos = (runS t).pos + (x.length + 1) := rfl
 have hte : (shS (x.length + 1) (runS x).toks (runS t)).texts = (runS t).texts := rfl
 rw [he, hp, hte]
 have hvt := valid_le t
 by_cases c1 : valid t < t.length
 ·rw [if_pos c1, if_pos (by omega)]
  exact ⟨fun _ => by simp only [Prod.mk.injEq, and_true, true_and]; omega, fun h2 => absurd h2 (by simp)⟩
 have c1' : ¬ x.length + 1 + valid t < (x ++ 10 :: t).length := by omega
 rw [if_neg c1, if_neg c1']
 by_cases c2 : (runS t).err ≠ 0
 ·rw [if_pos c2, if_pos c2]
  exact ⟨fun _ => by simp only [Prod.mk.injEq, and_true, true_and]; omega, fun h2 => absurd h2 c2⟩
 rw [if_neg c2, if_neg c2]
 by_cases c3 : (runS t).texts ≠ []
 ·rw [if_pos c3, if_pos c3]
  exact ⟨fun _ => by simp only [Prod.mk.injEq, and_true, true_and]; omega, fun h2 => absurd h2 (by simp)⟩
 rw [if_neg c3, if_neg c3]
 exact ⟨fun h2 => absurd rfl h2, fun _ => rfl⟩
structure Among (l m : List Tk) (d : Nat) : Prop where
 tok : ∀ i, i < l.length → (dueT m (i + d)).kind = (dueT l i).kind ∧ (dueT m (i + d)).text = (dueT l i).text
 shutK : (dueT m (l.length + d)).kind = 6
 shutT : (dueT m (l.length + d)).text = tShut
 len : l.length + d < m.length
def goS (d q : Nat) (s : PT) : PT := ⟨s.at' + d, s.pipes + q⟩
def Sim (l : List Tk) (d q p0 : Nat) {α : Type} (r r' : PY α) : Prop := ∀ v s, r = .ok v s → s.at' ≤ l.length ∧ s.pipes = p0 ∧ (r' = .ok v (goS d q s) ∨ ∃ a, r' = .bad a 6)
section
variable {numE : List UInt8 → Nat} {l m : List Tk} {en en' d q : Nat}
theorem Sim.bind {p0 p1 : Nat} {α β : Type} {r r' : PY α} {f f' : α → PT → PY β} (h : Sim l d q p0 r r') (hf : ∀ v s, s.at' ≤ l.length → s.pipes = p0 → Sim l d q p1 (f v s) (f' v (goS d q s))) : Sim l d q p1 (r.bind f) (r'.bind f') := fun v s e => by
 cases hr : r with
 | bad a n => rw [hr] at e; cases e
 | ok w t =>
  rw [hr] at e
  obtain ⟨h1, h2, h3⟩ := h w t hr
  rcases h3 with h3 | ⟨a, h3⟩
  ·rw [h3]; exact hf w t h1 h2 v s e
  ·have := hf w t h1 h2 v s e
   exact ⟨this.1, this.2.1, .inr ⟨a, by rw [h3]; rfl⟩⟩
theorem Sim.ok {α : Type} (v : α) (s : PT) (h : s.at' ≤ l.length) : Sim l d q s.pipes (.ok v s : PY α) (.ok v (goS d q s)) := fun v' s' e => by
 injection e with e1 e2
 subst e1 e2
 exact ⟨h, rfl, .inl rfl⟩
theorem Sim.okP {α : Type} {p0 : Nat} (v : α) (s : PT) (h : s.at' ≤ l.length) (hp : s.pipes = p0) : Sim l d q p0 (.ok v s : PY α) (.ok v (goS d q s)) := hp ▸ Sim.ok v s h
theorem Sim.bad {α : Type} {p0 a e : Nat} {r' : PY α} : Sim l d q p0 (.bad a e : PY α) r' := fun _ _ h => by cases h
theorem Sim.fail {α : Type} {p0 p : Nat} {r' : PY α} : Sim l d q p0 (failY l en p : PY α) r' := fun _ _ h => by unfold failY at h; split at h <;> cases h
theorem Sim.ite {α : Type} {p0 : Nat} {c c' : Prop} [Decidable c] [Decidable c'] {x y x' y' : PY α} (hc : c' ↔ c) (h1 : c → Sim l d q p0 x x') (h2 : ¬ c → Sim l d q p0 y y') : Sim l d q p0 (if c then x else y) (if c' then x' else y') := by
 by_cases h : c
 ·rw [if_pos h, if_pos (hc.2 h)]; exact h1 h
 ·rw [if_neg h, if_neg (fun e => h (hc.1 e))]; exact h2 h
section
variable (M : Among l m d)
include M
theorem Among.kind {p k : Nat} (hp : p ≤ l.length) (h0 : k ≠ 0) (h6 : k ≠ 6) : (dueT m (p + d)).kind = k ↔ (dueT l p).kind = k := by
 rcases Nat.lt_or_ge p l.length with h | h
 ·rw [(M.tok p h).1]
 ·have e : p = l.length := by omega
  subst e
  rw [M.shutK]
  have : (dueT l l.length).kind = 0 := by unfold dueT; rw [List.getD_eq_getElem?_getD, List.getElem?_eq_none (Nat.le_refl _)]; rfl
  rw [this]
  constructor
  ·intro e; omega
  ·intro e; omega
theorem Among.text {p : Nat} (h : p < l.length) : (dueT m (p + d)).text = (dueT l p).text := (M.tok p h).2
theorem Among.textK {p k : Nat} (h : (dueT l p).kind = k) (h0 : k ≠ 0) : (dueT m (p + d)).text = (dueT l p).text := M.text (due_some (by omega))
theorem Among.isT {t : List UInt8} {p : Nat} (hp : p ≤ l.length) (ht : tShut ≠ t) : isT m t (p + d) = isT l t p := by
 rcases Nat.lt_or_ge p l.length with h | h
 ·unfold Go.Proofs.YtbgmdkjhegacjaaGreatDoor.isT; rw [(M.tok p h).1, (M.tok p h).2]
 ·have e : p = l.length := by omega
  subst e
  have h1 : Go.Proofs.YtbgmdkjhegacjaaGreatDoor.isT l t l.length = false := by
   cases hb : Go.Proofs.YtbgmdkjhegacjaaGreatDoor.isT l t l.length with
   | false => rfl
   | true => exact absurd (isT_lt hb) (by omega)
  rw [h1]
  unfold Go.Proofs.YtbgmdkjhegacjaaGreatDoor.isT
  rw [M.shutT, beq_false_of_ne ht]; rfl
theorem Among.isIff {t : List UInt8} {p : Nat} (hp : p ≤ l.length) (ht : tShut ≠ t) : Go.Proofs.YtbgmdkjhegacjaaGreatDoor.isT m t (p + d) = true ↔ Go.Proofs.YtbgmdkjhegacjaaGreatDoor.isT l t p = true := by rw [M.isT hp ht]
theorem Among.isT' {t : List UInt8} {p : Nat} (h : Go.Proofs.YtbgmdkjhegacjaaGreatDoor.isT l t p = true) : Go.Proofs.YtbgmdkjhegacjaaGreatDoor.isT m t (p + d) = true := by
 have hp := isT_lt h
 unfold Go.Proofs.YtbgmdkjhegacjaaGreatDoor.isT at h ⊢; rw [(M.tok p hp).1, (M.tok p hp).2]; exact h
theorem Among.str {p : Nat} (hp : p ≤ l.length) : strT m (p + d) = strT l p := by
 rcases Nat.lt_or_ge p l.length with h | h
 ·unfold strT; simp only [(M.tok p h).1, (M.tok p h).2]
 ·have e : p = l.length := by omega
  subst e
  have h0 : dueT l l.length = tkNone := by unfold dueT; rw [List.getD_eq_getElem?_getD, List.getElem?_eq_none (Nat.le_refl _)]; rfl
  unfold strT
  simp only [h0, M.shutK, M.shutT]
  decide
theorem Among.ahead {k : Nat} {t : List UInt8} {p : Nat} (hp : p < l.length) (h : ¬ (k = 6 ∧ t = tShut)) : aheadT m 1 k t (p + d) = aheadT l 1 k t p := by
 unfold aheadT
 rw [show p + d + 1 = (p + 1) + d by omega]
 have hl := M.len
 rcases Nat.lt_or_ge (p + 1) l.length with h1 | h1
 ·rw [(M.tok _ h1).1, (M.tok _ h1).2, decide_eq_true h1, decide_eq_true (by omega)]
 ·have e : p + 1 = l.length := by omega
  rw [e, show decide (l.length < l.length) = false from decide_eq_false (by omega), Bool.false_and, M.shutK, M.shutT]
  rw [Bool.and_eq_false_iff]
  right
  rw [Bool.and_eq_false_iff]
  by_cases h6 : k = 6
  ·right; exact beq_false_of_ne (fun e => h ⟨h6, e.symm⟩)
  ·left; exact beq_false_of_ne (fun e => h6 e.symm)
theorem Sim.must {β : Type} {t : List UInt8} {s : PT} {p0 : Nat} {f f' : Unit → PT → PY β} (hf : isT l t s.at' = true → Sim l d q p0 (f () (nextT s)) (f' () (goS d q (nextT s)))) : Sim l d q p0 ((mustT l en t s).bind f) ((mustT m en' t (goS d q s)).bind f') := by
 unfold mustT
 by_cases h : isT l t s.at' = true
 ·have h' : isT m t (goS d q s).at' = true := M.isT' h
  rw [if_pos h, if_pos h']
  have e : nextT (goS d q s) = goS d q (nextT s) := by unfold nextT goS; simp; omega
  show Sim l d q p0 (f () (nextT s)) (f' () (nextT (goS d q s)))
  rw [e]; exact hf h
 ·rw [if_neg h]
  exact fun v s e => by unfold failY at e; split at e <;> cases e
theorem Sim.kind {β : Type} {k : Nat} {s : PT} {p0 : Nat} {f f' : Tk → PT → PY β} (hs : s.at' ≤ l.length) (h0 : k ≠ 0) (h6 : k ≠ 6) (hf : ∀ t t' : Tk, t'.text = t.text → s.at' < l.length → Sim l d q p0 (f t (nextT s)) (f' t' (goS d q (nextT s)))) : Sim l d q p0 ((kindT l en k s).bind f) ((kindT m en' k (goS d q s)).bind f') := by
 unfold kindT
 by_cases h : (dueT l s.at').kind = k
 ·have h' : (dueT m (goS d q s).at').kind = k := (M.kind hs h0 h6).2 h
  rw [if_pos h, if_pos h']
  have e : nextT (goS d q s) = goS d q (nextT s) := by unfold nextT goS; simp; omega
  show Sim l d q p0 (f _ (nextT s)) (f' _ (nextT (goS d q s)))
  rw [e]; exact hf _ _ (M.textK h h0) (due_some (by omega))
 ·rw [if_neg h]
  exact fun v s e => by unfold failY at e; split at e <;> cases e
end
theorem next_go (s : PT) : nextT (goS d q s) = goS d q (nextT s) := by unfold nextT goS; simp; omega
theorem go_at (s : PT) : (goS d q s).at' = s.at' + d := rfl
theorem next_pipes (s : PT) : (nextT s).pipes = s.pipes := rfl
structure SimK (l : List Tk) (d q : Nat) (R R' : Knot) : Prop where
 pipe : ∀ s, s.at' ≤ l.length → Sim l d q s.pipes (R.pipe s) (R'.pipe (goS d q s))
 alt : ∀ s, s.at' ≤ l.length → Sim l d q s.pipes (R.alt s) (R'.alt (goS d q s))
 neg : ∀ s, s.at' ≤ l.length → Sim l d q s.pipes (R.neg s) (R'.neg (goS d q s))
 post : ∀ s, s.at' ≤ l.length → Sim l d q s.pipes (R.post s) (R'.post (goS d q s))
 pat : ∀ s, s.at' ≤ l.length → Sim l d q s.pipes (R.pat s) (R'.pat (goS d q s))
variable (M : Among l m d) {R R' : Knot} (K : SimK l d q R R')
theorem SimK.pipeN (K : SimK l d q R R') (s : PT) (h : s.at' < l.length) : Sim l d q s.pipes (R.pipe (nextT s)) (R'.pipe (nextT (goS d q s))) := by rw [next_go]; exact K.pipe (nextT s) h
theorem SimK.altN (K : SimK l d q R R') (s : PT) (h : s.at' < l.length) : Sim l d q s.pipes (R.alt (nextT s)) (R'.alt (nextT (goS d q s))) := by rw [next_go]; exact K.alt (nextT s) h
theorem SimK.negN (K : SimK l d q R R') (s : PT) (h : s.at' < l.length) : Sim l d q s.pipes (R.neg (nextT s)) (R'.neg (nextT (goS d q s))) := by rw [next_go]; exact K.neg (nextT s) h
theorem SimK.postN (K : SimK l d q R R') (s : PT) (h : s.at' < l.length) : Sim l d q s.pipes (R.post (nextT s)) (R'.post (nextT (goS d q s))) := by rw [next_go]; exact K.post (nextT s) h
theorem SimK.patN (K : SimK l d q R R') (s : PT) (h : s.at' < l.length) : Sim l d q s.pipes (R.pat (nextT s)) (R'.pat (nextT (goS d q s))) := by rw [next_go]; exact K.pat (nextT s) h
include M
theorem fuel_le : l.length + 1 ≤ m.length + 1 := by have := M.len; omega
theorem Sim.isB {α : Type} {t : List UInt8} {s : PT} {p0 : Nat} {x y x' y' : PY α} (hs : s.at' ≤ l.length) (ht : tShut ≠ t) (h1 : s.at' < l.length → Sim l d q p0 x x') (h2 : isT l t s.at' = false → Sim l d q p0 y y') : Sim l d q p0 (if isT l t s.at' = true then x else y) (if isT m t (goS d q s).at' = true then x' else y') :=
 Sim.ite (M.isIff hs ht) (fun h => h1 (isT_lt h)) (fun h => h2 (by simpa using h))
theorem list_sim {sep : List UInt8} (hsep : tShut ≠ sep) {one one' : PT → PY Nd} (h1 : ∀ s, s.at' ≤ l.length → Sim l d q s.pipes (one s) (one' (goS d q s))) : ∀ (f f' : Nat), f ≤ f' → ∀ s, s.at' ≤ l.length → Sim l d q s.pipes (listF l sep one f s) (listF m sep one' f' (goS d q s))
 | 0, _, _, _, _ => Sim.bad
 | f + 1, 0, h, _, _ => absurd h (by omega)
 | f + 1, f' + 1, h, s, hs => by
  unfold listF
  refine (h1 s hs).bind fun n s2 h2 hp => ?_
  refine Sim.isB M h2 hsep (fun h3 => ?_) (fun _ => Sim.okP _ _ h2 hp)
  rw [next_go]
  have := list_sim hsep h1 f f' (by omega) (nextT s2) h3
  rw [next_pipes, hp] at this
  exact this.bind fun ns s3 h4 hp3 => Sim.okP _ _ h4 hp3
include K
theorem parts_sim : ∀ (f f' : Nat), f ≤ f' → ∀ s, s.at' ≤ l.length → Sim l d q s.pipes (partsF l en R f s) (partsF m en' R' f' (goS d q s))
 | 0, _, _, _, _ => Sim.bad
 | f + 1, 0, h, _, _ => absurd h (by omega)
 | f + 1, f' + 1, h, s, hs => by
  unfold partsF
  refine Sim.ite (M.kind hs (by decide) (by decide)) (fun h8 => ?_) (fun h8 => ?_)
  ·rw [next_go]
   have hl := due_some (l := l) (p := s.at') (by omega)
   have := parts_sim f f' (by omega) (nextT s) hl
   refine this.bind fun ns s2 h2 hp => ?_
   rw [go_at, M.text hl]
   exact Sim.okP _ _ h2 hp
  ·refine Sim.ite (M.kind hs (by decide) (by decide)) (fun h9 => ?_) (fun h9 => ?_)
   ·have hl := due_some (l := l) (p := s.at') (by omega)
    refine (K.pipeN s hl).bind fun n s2 h2 hp => ?_
    refine Sim.kind M h2 (by decide) (by decide) fun t t' _ h3 => ?_
    have := parts_sim f f' (by omega) (nextT s2) h3
    rw [next_pipes, hp] at this
    exact this.bind fun ns s3 h4 hp3 => Sim.okP _ _ h4 hp3
   ·exact Sim.kind M hs (by decide) (by decide) fun t t' _ h3 => Sim.okP _ _ h3 rfl
theorem text_sim (fmt : List UInt8) (s : PT) (hs : s.at' ≤ l.length) : Sim l d q s.pipes (textB l en R fmt s) (textB m en' R' fmt (goS d q s)) := by
 unfold textB
 refine Sim.kind M hs (by decide) (by decide) fun t t' _ h3 => ?_
 have := parts_sim M K (en := en) (en' := en') (l.length + 1) (m.length + 1) (fuel_le M) (nextT s) h3
 exact this.bind fun ns s2 h2 hp => Sim.okP _ _ h2 hp
theorem textN_sim (fmt : List UInt8) (s : PT) (hs : s.at' < l.length) : Sim l d q s.pipes (textB l en R fmt (nextT s)) (textB m en' R' fmt (nextT (goS d q s))) := by
 rw [next_go]; exact text_sim M K fmt (nextT s) hs
theorem pipes_sim {sep : List UInt8} (hsep : tShut ≠ sep) (s : PT) (hs : s.at' < l.length) : Sim l d q s.pipes (listF l sep R.pipe (l.length + 1) (nextT s)) (listF m sep R'.pipe (m.length + 1) (nextT (goS d q s))) := by
 rw [next_go]; exact list_sim M hsep K.pipe _ _ (fuel_le M) (nextT s) hs
theorem call_sim (s : PT) (hs : s.at' ≤ l.length) : Sim l d q s.pipes (callB l en R s) (callB m en' R' (goS d q s)) := by
 unfold callB
 refine Sim.kind M hs (by decide) (by decide) fun t t' ht h3 => ?_
 rw [ht]
 refine Sim.isB M h3 (by decide) (fun h4 => ?_) (fun _ => Sim.okP _ _ h3 rfl)
 refine (pipes_sim M K (by decide) (nextT s) h4).bind fun ns s2 h2 hp => ?_
 exact Sim.must M fun hb => Sim.okP _ _ (isT_lt hb) hp
theorem entryV_sim (key : Nd) (s : PT) (hs : s.at' ≤ l.length) : Sim l d q s.pipes (entryV l R key s) (entryV m R' key (goS d q s)) := by
 unfold entryV
 refine Sim.isB M hs (by decide) (fun h4 => ?_) (fun _ => Sim.okP _ _ hs rfl)
 exact (K.altN s h4).bind fun v s2 h2 hp => Sim.okP _ _ h2 hp
theorem entry_sim (s : PT) (hs : s.at' ≤ l.length) : Sim l d q s.pipes (entryB l en R s) (entryB m en' R' (goS d q s)) := by
 unfold entryB
 refine Sim.ite (M.kind hs (by decide) (by decide)) (fun h => ?_) (fun _ => ?_)
 ·rw [go_at, M.textK h (by decide), next_go]
  exact Sim.okP _ _ (due_some (l := l) (by omega)) rfl
 refine Sim.ite (M.kind hs (by decide) (by decide)) (fun h => ?_) (fun _ => ?_)
 ·rw [go_at, M.textK h (by decide), next_go]
  exact entryV_sim M K _ (nextT s) (due_some (l := l) (by omega))
 refine Sim.ite (M.kind hs (by decide) (by decide)) (fun h => ?_) (fun _ => ?_)
 ·refine (text_sim M K [] s hs).bind fun key s2 h2 hp => ?_
  rw [← hp]; exact entryV_sim M K key s2 h2
 refine Sim.must M fun hb => ?_
 refine (K.pipe (nextT s) (isT_lt hb)).bind fun key s2 h2 hp => ?_
 refine Sim.must M fun hb => Sim.must M fun hb => ?_
 have := K.alt (nextT (nextT s2)) (isT_lt hb)
 rw [next_pipes, next_pipes, hp, next_pipes] at this
 exact this.bind fun v s3 h3 hp3 => Sim.okP _ _ h3 hp3
theorem signed_sim (s : PT) (hs : s.at' ≤ l.length) : Sim l d q s.pipes (signedB l en R s) (signedB m en' R' (goS d q s)) := by
 unfold signedB
 refine Sim.isB M hs (by decide) (fun h => by rw [next_go]; exact Sim.okP _ _ h rfl) (fun _ => ?_)
 refine Sim.isB M hs (by decide) (fun h => ?_) (fun _ => ?_)
 ·have e : (goS d q s).at' + 1 = (s.at' + 1) + d := by rw [go_at]; omega
  rw [e]
  refine Sim.ite (M.kind h (by decide) (by decide)) (fun h7 => ?_) (fun _ => by rw [next_go]; exact Sim.okP _ _ h rfl)
  exact (textN_sim M K [] s h).bind fun v s2 h2 hp => Sim.okP _ _ h2 hp
 refine Sim.isB M hs (by decide) (fun h => ?_) (fun _ => ?_)
 ·exact (K.pipeN s h).bind fun v s2 h2 hp => Sim.must M fun hb => Sim.okP _ _ (isT_lt hb) hp
 refine Sim.isB M hs (by decide) (fun h => ?_) (fun _ => ?_)
 ·have e : (goS d q s).at' + 1 = (s.at' + 1) + d := by rw [go_at]; omega
  rw [e]
  refine Sim.ite (M.isIff h (by decide)) (fun hb => by rw [next_go, next_go]; exact Sim.okP _ _ (isT_lt hb) rfl) (fun _ => ?_)
  exact (K.pipeN s h).bind fun v s2 h2 hp => Sim.must M fun hb => Sim.okP _ _ (isT_lt hb) hp
 refine Sim.isB M hs (by decide) (fun h => ?_) (fun _ => Sim.fail)
 have e : (goS d q s).at' + 1 = (s.at' + 1) + d := by rw [go_at]; omega
 rw [e]
 refine Sim.ite (M.isIff h (by decide)) (fun hb => by rw [next_go, next_go]; exact Sim.okP _ _ (isT_lt hb) rfl) (fun _ => ?_)
 rw [next_go]
 have := list_sim M (sep := tComma) (by decide) (entry_sim M K (en := en) (en' := en')) _ _ (fuel_le M) (nextT s) h
 exact this.bind fun v s2 h2 hp => Sim.must M fun hb => Sim.okP _ _ (isT_lt hb) hp
theorem fold_sim (s : PT) (hs : s.at' ≤ l.length) : Sim l d q s.pipes (foldB l en R s) (foldB m en' R' (goS d q s)) := by
 unfold foldB
 refine (K.post s hs).bind fun n s1 h1 p1 => Sim.must M fun hb => ?_
 refine (K.pat (nextT s1) (isT_lt hb)).bind fun p s2 h2 p2 => Sim.must M fun hb => ?_
 refine (K.pipe (nextT s2) (isT_lt hb)).bind fun a s3 h3 p3 => Sim.must M fun hb => ?_
 refine (K.pipe (nextT s3) (isT_lt hb)).bind fun b s4 h4 p4 => Sim.okP _ _ h4 ?_
 rw [p4, next_pipes, p3, next_pipes, p2, next_pipes, p1]
theorem cho_sim : ∀ (f f' : Nat), f ≤ f' → ∀ s, s.at' ≤ l.length → Sim l d q s.pipes (choF l en R f s) (choF m en' R' f' (goS d q s))
 | 0, _, _, _, _ => Sim.bad
 | f + 1, 0, h, _, _ => absurd h (by omega)
 | f + 1, f' + 1, h, s, hs => by
  unfold choF
  refine (K.pipe s hs).bind fun c s1 h1 p1 => Sim.must M fun hb => ?_
  refine (K.pipe (nextT s1) (isT_lt hb)).bind fun a s2 h2 p2 => ?_
  have e2 : s2.pipes = s.pipes := by rw [p2, next_pipes, p1]
  refine Sim.isB M h2 (by decide) (fun h3 => ?_) (fun _ => ?_)
  ·have := cho_sim f f' (by omega) (nextT s2) h3
   rw [next_go]
   exact this.bind fun b s3 h4 p3 => Sim.okP _ _ h4 (by rw [p3, next_pipes, e2])
  refine Sim.isB M h2 (by decide) (fun h3 => ?_) (fun _ => ?_)
  ·exact (K.pipeN s2 h3).bind fun b s3 h4 p3 => Sim.must M fun hb => Sim.okP _ _ (isT_lt hb) (by rw [next_pipes, p3, e2])
  ·exact Sim.must M fun hb => Sim.okP _ _ (isT_lt hb) e2
theorem try_sim (s : PT) (hs : s.at' ≤ l.length) : Sim l d q s.pipes (tryB l R s) (tryB m R' (goS d q s)) := by
 unfold tryB
 refine (K.post s hs).bind fun n s1 h1 p1 => ?_
 refine Sim.isB M h1 (by decide) (fun h => ?_) (fun _ => Sim.okP _ _ h1 p1)
 exact (K.postN s1 h).bind fun n s2 h2 p2 => Sim.okP _ _ h2 (by rw [p2, p1])
theorem each_sim (s : PT) (hs : s.at' ≤ l.length) : Sim l d q s.pipes (eachB l en R s) (eachB m en' R' (goS d q s)) := by
 unfold eachB
 refine (fold_sim M K s hs).bind fun ns s1 h1 p1 => ?_
 refine Sim.isB M h1 (by decide) (fun h => ?_) (fun _ => ?_)
 ·exact (K.pipeN s1 h).bind fun n s2 h2 p2 => Sim.must M fun hb => Sim.okP _ _ (isT_lt hb) (by rw [next_pipes, p2, p1])
 ·exact Sim.must M fun hb => Sim.okP _ _ (isT_lt hb) (by rw [next_pipes, p1])
theorem word_sim (s : PT) (hs : s.at' ≤ l.length) : Sim l d q s.pipes (wordB l en R s) (wordB m en' R' (goS d q s)) := by
 unfold wordB
 refine Sim.isB M hs (by decide) (fun h => by rw [next_go]; exact cho_sim M K _ _ (fuel_le M) (nextT s) h) (fun _ => ?_)
 refine Sim.isB M hs (by decide) (fun h => by rw [next_go]; exact try_sim M K (nextT s) h) (fun _ => ?_)
 refine Sim.isB M hs (by decide) (fun h => ?_) (fun _ => ?_)
 ·rw [next_go]; exact (fold_sim M K (nextT s) h).bind fun ns s1 h1 p1 => Sim.must M fun hb => Sim.okP _ _ (isT_lt hb) (by rw [next_pipes, p1, next_pipes])
 refine Sim.isB M hs (by decide) (fun h => by rw [next_go]; exact each_sim M K (nextT s) h) (fun _ => ?_)
 refine Sim.isB M hs (by decide) (fun h => ?_) (fun _ => Sim.fail)
 rw [next_go]
 exact Sim.kind M h (by decide) (by decide) fun t t' ht h3 => by rw [ht]; exact Sim.okP _ _ h3 rfl
theorem term_sim (s : PT) (hs : s.at' ≤ l.length) : Sim l d q s.pipes (termB numE l en R s) (termB numE m en' R' (goS d q s)) := by
 unfold termB
 have hk := fun {k : Nat} (h0 : k ≠ 0) (h6 : k ≠ 6) => M.kind (k := k) hs h0 h6
 refine Sim.ite (hk (by decide) (by decide)) (fun h => ?_) (fun _ => ?_)
 ·rw [go_at, M.textK h (by decide)]
  refine Sim.ite Iff.rfl (fun _ => by rw [next_go]; exact Sim.okP _ _ (due_some (l := l) (by omega)) rfl) (fun _ => Sim.bad)
 refine Sim.ite (hk (by decide) (by decide)) (fun h => ?_) (fun _ => ?_)
 ·rw [go_at, M.textK h (by decide), next_go]; exact Sim.okP _ _ (due_some (l := l) (by omega)) rfl
 refine Sim.ite (hk (by decide) (by decide)) (fun h => ?_) (fun _ => ?_)
 ·rw [go_at, M.textK h (by decide), next_go]; exact Sim.okP _ _ (due_some (l := l) (by omega)) rfl
 refine Sim.ite (hk (by decide) (by decide)) (fun h => text_sim M K [] s hs) (fun _ => ?_)
 refine Sim.ite (hk (by decide) (by decide)) (fun h => ?_) (fun _ => ?_)
 ·have hl : s.at' < l.length := due_some (by omega)
  have e : (goS d q s).at' + 1 = (s.at' + 1) + d := by rw [go_at]; omega
  rw [e]
  refine Sim.ite (M.kind hl (by decide) (by decide)) (fun h7 => ?_) (fun _ => ?_)
  ·rw [go_at, M.textK h (by decide)]; exact textN_sim M K _ s hl
  ·rw [go_at, M.textK h (by decide), next_go]; exact Sim.okP _ _ hl rfl
 refine Sim.ite (hk (by decide) (by decide)) (fun h => ?_) (fun _ => signed_sim M K s hs)
 rw [go_at, M.textK h (by decide)]
 exact Sim.ite Iff.rfl (fun _ => word_sim M K s hs) (fun _ => call_sim M K s hs)
theorem slice_sim (n : Nd) (s : PT) (hs : s.at' ≤ l.length) : Sim l d q s.pipes (sliceB l R n s) (sliceB m R' n (goS d q s)) := by
 unfold sliceB
 refine Sim.isB M hs (by decide) (fun h => (K.pipeN s h).bind fun v s2 h2 hp => Sim.okP _ _ h2 hp) (fun _ => ?_)
 refine (K.pipe s hs).bind fun x s1 h1 p1 => ?_
 refine Sim.isB M h1 (by decide) (fun h => ?_) (fun _ => Sim.okP _ _ h1 p1)
 have e : (goS d q s1).at' + 1 = (s1.at' + 1) + d := by rw [go_at]; omega
 rw [e]
 refine Sim.ite (M.isIff h (by decide)) (fun hb => by rw [next_go]; exact Sim.okP _ _ h (by rw [next_pipes, p1])) (fun _ => ?_)
 exact (K.pipeN s1 h).bind fun k s2 h2 p2 => Sim.okP _ _ h2 (by rw [p2, p1])
theorem inner_sim (n : Nd) (s : PT) : Sim l d q s.pipes (innerB l en R n s) (innerB m en' R' n (goS d q s)) := by
 unfold innerB
 refine Sim.must M fun hb => ?_
 have h1 := isT_lt hb
 refine Sim.isB M (s := nextT s) h1 (by decide) (fun h => by rw [next_go]; exact Sim.okP _ _ h rfl) (fun _ => ?_)
 exact (slice_sim M K n (nextT s) h1).bind fun x s2 h2 p2 => Sim.must M fun hb => Sim.okP _ _ (isT_lt hb) p2
theorem suf_sim : ∀ (f f' : Nat), f ≤ f' → ∀ n s, s.at' ≤ l.length → Sim l d q s.pipes (sufF l en R f n s) (sufF m en' R' f' n (goS d q s))
 | 0, _, _, _, _, _ => Sim.bad
 | f + 1, 0, h, _, _, _ => absurd h (by omega)
 | f + 1, f' + 1, h, n, s, hs => by
  have ih := fun n s => suf_sim f f' (by omega) n s
  unfold sufF
  have hdot : ∀ k t, ¬ (k = 6 ∧ t = tShut) → ((isT m tDot (goS d q s).at' && aheadT m 1 k t (goS d q s).at') = true ↔ (isT l tDot s.at' && aheadT l 1 k t s.at') = true) := fun k t hkt => by
   rw [go_at, M.isT hs (by decide)]
   cases hb : isT l tDot s.at' with
   | false => simp
   | true => rw [M.ahead (isT_lt hb) hkt]
  refine Sim.ite (M.kind hs (by decide) (by decide)) (fun h3 => ?_) (fun _ => ?_)
  ·rw [go_at, M.textK h3 (by decide), next_go]; exact ih _ (nextT s) (due_some (l := l) (by omega))
  refine Sim.ite (hdot 7 [] (by decide)) (fun h3 => ?_) (fun _ => ?_)
  ·have hl := isT_lt (Bool.and_eq_true_iff.1 h3).1
   exact (textN_sim M K [] s hl).bind fun x s2 h2 p2 => p2 ▸ ih _ s2 h2
  refine Sim.ite (hdot 6 tBrk (by decide)) (fun h3 => ?_) (fun _ => ?_)
  ·rw [next_go]
   exact (inner_sim M K n (nextT s)).bind fun x s2 h2 p2 => by rw [next_pipes] at p2; exact p2 ▸ ih _ s2 h2
  refine Sim.isB M hs (by decide) (fun h => (inner_sim M K n s).bind fun x s2 h2 p2 => p2 ▸ ih _ s2 h2) (fun _ => ?_)
  exact Sim.isB M hs (by decide) (fun h => by rw [next_go]; exact ih _ (nextT s) h) (fun _ => Sim.okP _ _ hs rfl)
theorem post_sim (s : PT) (hs : s.at' ≤ l.length) : Sim l d q s.pipes (postB numE l en R s) (postB numE m en' R' (goS d q s)) := by
 unfold postB
 exact (term_sim M K s hs).bind fun x s2 h2 p2 => p2 ▸ suf_sim M K _ _ (fuel_le M) _ s2 h2
theorem neg_sim (s : PT) (hs : s.at' ≤ l.length) : Sim l d q s.pipes (negB numE l en R s) (negB numE m en' R' (goS d q s)) := by
 unfold negB
 refine Sim.isB M hs (by decide) (fun h => (K.negN s h).bind fun x s2 h2 p2 => Sim.okP _ _ h2 p2) (fun _ => ?_)
 refine (post_sim M K s hs).bind fun x s1 h1 p1 => ?_
 refine Sim.isB M h1 (by decide) (fun h => ?_) (fun _ => Sim.okP _ _ h1 p1)
 refine (K.patN s1 h).bind fun p s2 h2 p2 => Sim.must M fun hb => ?_
 exact (K.pipe (nextT s2) (isT_lt hb)).bind fun y s3 h3 p3 => Sim.okP _ _ h3 (by rw [p3, next_pipes, p2, p1])
omit K in
theorem opF_sim {next next' : PT → PY Nd} (h1 : ∀ s, s.at' ≤ l.length → Sim l d q s.pipes (next s) (next' (goS d q s))) (least : Nat) (h0 : least ≠ 0) : ∀ (f f' : Nat), f ≤ f' → ∀ n s, s.at' ≤ l.length → Sim l d q s.pipes (opF l next least f n s) (opF m next' least f' n (goS d q s))
 | 0, _, _, _, _, _ => Sim.bad
 | f + 1, 0, h, _, _, _ => absurd h (by omega)
 | f + 1, f' + 1, h, n, s, hs => by
  unfold opF
  rw [go_at, M.str hs]
  refine Sim.ite Iff.rfl (fun h3 => ?_) (fun _ => Sim.okP _ _ hs rfl)
  have hl : s.at' < l.length := str_lt h3 h0
  rw [next_go]
  refine (h1 (nextT s) hl).bind fun x s2 h2 p2 => ?_
  rw [M.text hl]
  refine Sim.ite Iff.rfl (fun _ => Sim.okP _ _ h2 p2) (fun _ => ?_)
  rw [next_pipes] at p2
  exact p2 ▸ opF_sim h1 least h0 f f' (by omega) _ s2 h2
theorem op_sim : ∀ (k : Nat), k ≤ 6 → ∀ s, s.at' ≤ l.length → Sim l d q s.pipes (opB numE l en R k s) (opB numE m en' R' k (goS d q s))
 | 0, _, s, hs => neg_sim M K s hs
 | k + 1, hk, s, hs => by
  have ih := op_sim k (by omega)
  unfold opB
  refine (ih s hs).bind fun x s2 h2 p2 => ?_
  exact p2 ▸ opF_sim M ih (6 - k) (by omega) _ _ (fuel_le M) x s2 h2
theorem alt_sim (s : PT) (hs : s.at' ≤ l.length) : Sim l d q s.pipes (altB numE l en R s) (altB numE m en' R' (goS d q s)) := by
 unfold altB
 refine (op_sim M K 6 (by decide) s hs).bind fun x s1 h1 p1 => ?_
 refine Sim.isB M h1 (by decide) (fun h => ?_) (fun _ => Sim.okP _ _ h1 p1)
 exact (K.altN s1 h).bind fun y s2 h2 p2 => Sim.okP _ _ h2 (by rw [p2, p1])
theorem commas_sim : ∀ (f f' : Nat), f ≤ f' → ∀ n s, s.at' ≤ l.length → Sim l d q s.pipes (commasF numE l en R f n s) (commasF numE m en' R' f' n (goS d q s))
 | 0, _, _, _, _, _ => Sim.bad
 | f + 1, 0, h, _, _, _ => absurd h (by omega)
 | f + 1, f' + 1, h, n, s, hs => by
  unfold commasF
  refine Sim.isB M hs (by decide) (fun h => ?_) (fun _ => Sim.okP _ _ hs rfl)
  rw [next_go]
  refine (alt_sim M K (nextT s) h).bind fun x s2 h2 p2 => ?_
  rw [next_pipes] at p2
  exact p2 ▸ commas_sim f f' (by omega) _ s2 h2
omit K in
theorem param_sim (s : PT) (hs : s.at' ≤ l.length) : Sim l d q s.pipes (paramB l en s) (paramB m en' (goS d q s)) := by
 unfold paramB
 refine Sim.ite (M.kind hs (by decide) (by decide)) (fun h => ?_) (fun _ => ?_)
 ·rw [go_at, M.textK h (by decide), next_go]; exact Sim.okP _ _ (due_some (l := l) (by omega)) rfl
 ·exact Sim.kind M hs (by decide) (by decide) fun t t' ht h3 => by rw [ht]; exact Sim.okP _ _ h3 rfl
omit K in
theorem params_sim (s : PT) (hs : s.at' ≤ l.length) : Sim l d q s.pipes (paramsB l en s) (paramsB m en' (goS d q s)) := by
 unfold paramsB
 refine Sim.isB M hs (by decide) (fun h => ?_) (fun _ => Sim.okP _ _ hs rfl)
 rw [next_go]
 have := list_sim M (sep := tSemi) (by decide) (param_sim M (q := q) (en := en) (en' := en')) _ _ (fuel_le M) (nextT s) h
 exact this.bind fun ns s2 h2 p2 => Sim.must M fun hb => Sim.okP _ _ (isT_lt hb) p2
theorem def_sim (s : PT) (hs : s.at' ≤ l.length) : Sim l d q s.pipes (defB l en R s) (defB m en' R' (goS d q s)) := by
 unfold defB
 refine Sim.kind M hs (by decide) (by decide) fun t t' ht h3 => ?_
 rw [ht]
 refine (params_sim M (nextT s) h3).bind fun ns s2 h2 p2 => Sim.must M fun hb => ?_
 refine (K.pipe (nextT s2) (isT_lt hb)).bind fun b s3 h3 p3 => Sim.must M fun hb => ?_
 exact (K.pipe (nextT s3) (isT_lt hb)).bind fun r s4 h4 p4 => Sim.okP _ _ h4 (by rw [p4, next_pipes, p3, next_pipes, p2, next_pipes])
theorem whole_sim (s : PT) (hs : s.at' ≤ l.length) : Sim l d q s.pipes (wholeB numE l en R s) (wholeB numE m en' R' (goS d q s)) := by
 unfold wholeB
 refine Sim.isB M hs (by decide) (fun h => by rw [next_go]; exact def_sim M K (nextT s) h) (fun _ => ?_)
 refine Sim.isB M hs (by decide) (fun h => ?_) (fun _ => ?_)
 ·rw [next_go]
  refine Sim.kind M (s := nextT s) h (by decide) (by decide) fun t t' ht h3 => Sim.must M fun hb => ?_
  rw [ht]
  exact (K.pipe (nextT (nextT (nextT s))) (isT_lt hb)).bind fun n s2 h2 p2 => Sim.okP _ _ h2 p2
 refine (alt_sim M K s hs).bind fun n s1 h1 p1 => ?_
 have := commas_sim M K (numE := numE) (en := en) (en' := en') _ _ (fuel_le M) n s1 h1
 rw [p1] at this
 refine this.bind fun n s2 h2 p2 => ?_
 refine Sim.isB M h2 (by decide) (fun h => ?_) (fun _ => Sim.okP _ _ h2 p2)
 exact (K.pipeN s2 h).bind fun y s3 h3 p3 => Sim.okP _ _ h3 (by rw [p3, p2])
theorem pipe_sim (s : PT) (hs : s.at' ≤ l.length) : Sim l d q s.pipes (pipeB numE l en R s) (pipeB numE m en' R' (goS d q s)) := by
 unfold pipeB
 by_cases h6 : s.pipes = 600
 ·rw [if_pos h6]; exact Sim.bad
 rw [if_neg h6]
 by_cases h7 : (goS d q s).pipes = 600
 ·rw [if_pos h7]
  have := whole_sim M K (numE := numE) (en := en) (en' := en') { s with pipes := s.pipes + 1 } hs
  intro v s2 e
  cases hr : wholeB numE l en R { s with pipes := s.pipes + 1 } with
  | bad a n => rw [hr] at e; cases e
  | ok x t =>
   rw [hr] at e
   obtain ⟨h1, h2, _⟩ := this x t hr
   injection e with e1 e2
   subst e2
   exact ⟨h1, by show t.pipes - 1 = s.pipes; rw [h2]; simp, .inr ⟨_, rfl⟩⟩
 ·rw [if_neg h7]
  have := whole_sim M K (numE := numE) (en := en) (en' := en') { s with pipes := s.pipes + 1 } hs
  have e : goS d q { s with pipes := s.pipes + 1 } = { goS d q s with pipes := (goS d q s).pipes + 1 } := by unfold goS; simp; omega
  rw [e] at this
  refine this.bind fun n s2 h2 p2 => ?_
  have e2 : ({ goS d q s2 with pipes := (goS d q s2).pipes - 1 } : PT) = goS d q { s2 with pipes := s2.pipes - 1 } := by
   unfold goS; simp at p2 ⊢; omega
  rw [e2]
  exact Sim.okP _ _ h2 (by show s2.pipes - 1 = s.pipes; rw [p2]; simp)
omit K in
theorem keyT_sim {β : Type} {p0 : Nat} {f f' : List UInt8 → PT → PY β} (s : PT) (hs : s.at' ≤ l.length) (hf : ∀ t s2, s2.at' ≤ l.length → s2.pipes = s.pipes → Sim l d q p0 (f t s2) (f' t (goS d q s2))) : Sim l d q p0 ((keyTB l en s).bind f) ((keyTB m en' (goS d q s)).bind f') := by
 have : Sim l d q s.pipes (keyTB l en s) (keyTB m en' (goS d q s)) := by
  unfold keyTB
  refine Sim.ite (M.kind hs (by decide) (by decide)) (fun h => ?_) (fun _ => ?_)
  ·have hl : s.at' < l.length := due_some (by omega)
   have e : (goS d q s).at' + 1 = (s.at' + 1) + d := by rw [go_at]; omega
   rw [e, next_go]
   refine Sim.ite (M.kind hl (by decide) (by decide)) (fun h8 => ?_) (fun _ => ?_)
   ·have hl2 : s.at' + 1 < l.length := due_some (by omega)
    rw [next_go]
    refine Sim.kind M (s := nextT (nextT s)) hl2 (by decide) (by decide) fun t t' ht h3 => ?_
    rw [M.text hl2]
    exact Sim.okP _ _ h3 rfl
   ·exact Sim.kind M (s := nextT s) hl (by decide) (by decide) fun t t' ht h3 => Sim.okP _ _ h3 rfl
  ·exact Sim.kind M hs (by decide) (by decide) fun t t' ht h3 => by rw [ht]; exact Sim.okP _ _ h3 rfl
 exact this.bind fun t s2 h2 p2 => hf t s2 h2 p2
theorem key_sim (s : PT) (hs : s.at' ≤ l.length) : Sim l d q s.pipes (keyB l en R s) (keyB m en' R' (goS d q s)) := by
 unfold keyB
 refine Sim.ite (M.kind hs (by decide) (by decide)) (fun h => ?_) (fun _ => ?_)
 ·rw [go_at, M.textK h (by decide), next_go]; exact Sim.okP _ _ (due_some (l := l) (by omega)) rfl
 refine keyT_sim M s hs fun t s2 h2 p2 => Sim.must M fun hb => ?_
 exact (K.pat (nextT s2) (isT_lt hb)).bind fun p s3 h3 p3 => Sim.okP _ _ h3 (by rw [p3, next_pipes, p2])
theorem pat_sim (s : PT) (hs : s.at' ≤ l.length) : Sim l d q s.pipes (patB l en R s) (patB m en' R' (goS d q s)) := by
 unfold patB
 refine Sim.ite (M.kind hs (by decide) (by decide)) (fun h => ?_) (fun _ => ?_)
 ·rw [go_at, M.textK h (by decide), next_go]; exact Sim.okP _ _ (due_some (l := l) (by omega)) rfl
 refine Sim.isB M hs (by decide) (fun h => ?_) (fun _ => ?_)
 ·rw [next_go]
  have := list_sim M (sep := tComma) (by decide) K.pat _ _ (fuel_le M) (nextT s) h
  exact this.bind fun ns s2 h2 p2 => Sim.must M fun hb => Sim.okP _ _ (isT_lt hb) p2
 refine Sim.must M fun hb => ?_
 have := list_sim M (sep := tComma) (by decide) (key_sim M K (en := en) (en' := en')) _ _ (fuel_le M) (nextT s) (isT_lt hb)
 exact this.bind fun ns s2 h2 p2 => Sim.must M fun hb => Sim.okP _ _ (isT_lt hb) p2
omit K in
theorem knot_sim : ∀ (n n' : Nat), n ≤ n' → SimK l d q (knotF numE l en n) (knotF numE m en' n')
 | 0, _, _ => ⟨fun _ _ => Sim.bad, fun _ _ => Sim.bad, fun _ _ => Sim.bad, fun _ _ => Sim.bad, fun _ _ => Sim.bad⟩
 | n + 1, 0, h => absurd h (by omega)
 | n + 1, n' + 1, h => by
  have K := knot_sim n n' (by omega)
  exact ⟨pipe_sim M K, alt_sim M K, neg_sim M K, post_sim M K, pat_sim M K⟩
end
theorem parseV_ok {numE : List UInt8 → Nat} {l : List UInt8} {n : Nd} {a : Nat} (h : parseV numE l = (n, a, 0)) : (tokensV l).2.2 = 0 ∧ parseT numE (tokensV l).1 l.length = (n, a, 0) := by
 unfold parseV at h
 by_cases h0 : (tokensV l).2.2 = 0
 ·rw [if_neg (fun e => e h0)] at h; exact ⟨h0, h⟩
 ·rw [if_pos h0] at h; injection h with _ h; injection h with _ h; exact absurd h h0
theorem parseT_ok {numE : List UInt8 → Nat} {l : List Tk} {en : Nat} {n : Nd} {a : Nat} (hF : FitY numE l en) (h : parseT numE l en = (n, a, 0)) : ∃ s, (knotF numE l en (l.length + 1)).pipe ⟨0, 0⟩ = .ok n s ∧ l.length ≤ s.at' ∧ depN 200 n ≤ 200 ∧ a = 0 := by
 unfold parseT at h
 cases hr : (knotF numE l en (l.length + 1)).pipe ⟨0, 0⟩ with
 | bad x e =>
  rw [hr] at h
  have := ((knot_ok hF (l.length + 1)).pipe ⟨0, 0⟩ (Nat.zero_le _) (by simp)).bad x e hr
  injection h with _ h; injection h with _ h
  have h4 := this.2.2
  omega
 | ok x s =>
  rw [hr] at h
  simp only at h
  by_cases h1 : s.at' < l.length
  ·rw [if_pos h1] at h; injection h with _ h; injection h with _ h; cases h
  rw [if_neg h1] at h
  by_cases h2 : 200 < depN 200 x
  ·rw [if_pos h2] at h; injection h with _ h; injection h with _ h; cases h
  rw [if_neg h2] at h
  injection h with h3 h; injection h with h4 _
  subst h3
  exact ⟨s, rfl, by omega, by omega, h4.symm⟩
theorem depN_mono : ∀ (k : Nat) (n : Nd), depN k n ≤ depN (k + 1) n
 | 0, n => by show 1 ≤ _; unfold depN; omega
 | k + 1, n => by
  unfold depN
  have : ∀ ks : List Nd, (ks.map (depN k)).foldr max 0 ≤ (ks.map (depN (k + 1))).foldr max 0 := fun ks => by
   induction ks with
   | nil => exact Nat.le_refl _
   | cons a r ih =>
    have := depN_mono k a
    simp only [List.map_cons, List.foldr_cons]
    omega
  have := this n.kids
  omega
theorem skipN_sign (c : UInt8) (r : List UInt8) (hc : c ∈ ([40, 41, 44, 124] : List UInt8)) : skipN (c :: r) = 0 := by
 unfold skipN skipF
 rw [if_neg, if_neg]
 ·intro e; subst e; revert hc; decide
 ·intro e; rcases e with e | e | e | e <;> (subst e; revert hc; decide)
theorem signL_one (c : UInt8) (r : List UInt8) (hc : c ∈ ([40, 41, 44, 124] : List UInt8)) (h2 : c = 124 → bt r 0 ≠ 61) : signL (c :: r) = [c] := by
  have hr : c = 124 → ∀ x, r = 61 :: x → False := fun e0 x e => h2 e0 (by rw [e]; rfl)
  have hmem : c ∈ signs1 := by
    simp only [List.mem_cons, List.not_mem_nil, or_false] at hc
    rcases hc with rfl | rfl | rfl | rfl <;> decide
  have hfind : signs2.find? (fun t => t.isPrefixOf (c :: r)) = none := by
    rw [List.find?_eq_none]
    intro t ht hp
    have hp : t <+: c :: r := by simpa using hp
    obtain ⟨z, hz⟩ := hp
    simp only [signs2, List.mem_cons, List.not_mem_nil, or_false] at ht
    simp only [List.mem_cons, List.not_mem_nil, or_false] at hc
    rcases ht with rfl | rfl | rfl | rfl | rfl | rfl | rfl | rfl | rfl | rfl | rfl | rfl | rfl <;>
      (simp only [List.cons_append, List.nil_append, List.cons.injEq] at hz
       rcases hc with rfl | rfl | rfl | rfl <;> first
         | exact absurd hz.1 (by decide)
         | exact hr rfl _ hz.2.symm)
  unfold signL
  rw [hfind]
  simp [hmem]
theorem run_sign {L : List UInt8} {s : LS} {c : UInt8} {r : List UInt8} (hd : L.drop s.pos = c :: r) (ht : s.texts = []) (he : s.err = 0) (hc : c ∈ ([40, 41, 44, 124] : List UInt8)) (h2 : c = 124 → bt r 0 ≠ 61) (f : Nat) :
  runF (f + 1) L s = runF f L ⟨s.pos + 1, s.toks ++ [⟨6, [c], s.pos⟩], [], 0⟩ := by
 have hsk : skipS L s = s := by unfold skipS; rw [hd, skipN_sign c r hc]; rfl
 have hlt : ¬ L.length ≤ s.pos := fun h => by rw [List.drop_eq_nil_of_le h] at hd; cases hd
 have hcn : bt (c :: r) 0 = c.toNat := bt_cons0 c r
 have htk : tokenS L s = putS s 6 [c] 1 := by
  unfold tokenS
  simp only [hd, hcn]
  simp only [List.mem_cons, List.not_mem_nil, or_false] at hc
  have h1 : signL (c :: r) = [c] := signL_one c r (by simpa using hc) h2
  rw [h1]
  rw [if_neg (by rcases hc with rfl | rfl | rfl | rfl <;> decide), if_neg (by rcases hc with rfl | rfl | rfl | rfl <;> decide), if_neg (by rcases hc with rfl | rfl | rfl | rfl <;> decide), if_neg (by rcases hc with rfl | rfl | rfl | rfl <;> decide), if_neg (by rcases hc with rfl | rfl | rfl | rfl <;> decide), if_neg (by rcases hc with rfl | rfl | rfl | rfl <;> exact fun h => absurd h.1 (by decide))]
  unfold signS
  rw [if_neg (by simp), ht]
  rfl
 rw [runF_step, hsk, if_neg hlt, htk, if_neg (by show ¬ s.err ≠ 0; exact fun h => h he)]
 unfold putS
 rw [ht, he]
theorem run_blank {L : List UInt8} {s : LS} {r : List UInt8} (hd : L.drop s.pos = 32 :: r) (f : Nat) : runF (f + 1) L s = runF (f + 1) L { s with pos := s.pos + 1 } := by
 have e : L.drop (s.pos + 1) = r := by rw [← List.drop_drop, hd]; rfl
 have hsk : skipS L s = skipS L { s with pos := s.pos + 1 } := by
  unfold skipS
  simp only
  rw [hd, e]
  have : skipN (32 :: r) = 1 + skipN r := by unfold skipN; rw [skipF, if_pos (.inl rfl)]
  rw [this]
  congr 1
  omega
 rw [runF_step, runF_step, hsk]
theorem valid_low (c : UInt8) (r : List UInt8) (hc : c.toNat < 128) : valid (c :: r) = 1 + valid r := by
 have e : dec (c :: r) = (c.toNat, 1) := ref_one _ (by simp) (by rw [bt_cons0]; exact hc)
 rw [valid_step _ (by simp) (by unfold decOk; rw [e]; simp; exact hc), e]
 simp
theorem valid_pre : ∀ (p x : List UInt8), (∀ b ∈ p, b.toNat < 128) → valid (p ++ x) = p.length + valid x
 | [], x, _ => by simp
 | c :: p, x, h => by
  rw [List.cons_append, valid_low c _ (h c (by simp)), valid_pre p x (fun b hb => h b (by simp [hb])), List.length_cons]; omega
theorem tokens_pre {p x : List UInt8} {P : List Tk} {k : Nat} (hp : ∀ b ∈ p, b.toNat < 128) (hlen : (p ++ x).length ≤ 100000) (H : ∀ f, runF (f + 1 + k) (p ++ x) ⟨0, [], [], 0⟩ = runF (f + 1) (p ++ x) ⟨p.length, P, [], 0⟩) (hk : k ≤ p.length) (h : (tokensV x).2.2 = 0) :
  tokensV (p ++ x) = (P ++ (tokensV x).1.map (shK p.length), 0, 0) := by
 have hL : (p ++ x).length = x.length + p.length := by rw [List.length_append]; omega
 have hdL : (p ++ x).drop p.length = x := by simp
 unfold tokensV at h
 rw [if_neg (by omega)] at h
 have hv : valid x = x.length := by
  have := valid_le x
  by_cases hv : valid x < x.length
  ·rw [if_pos hv] at h; exact absurd h (by simp)
  ·omega
 rw [if_neg (by omega)] at h
 have hr : (runS x).err = 0 := by
  by_cases hr : (runS x).err = 0
  ·exact hr
  ·rw [if_pos hr] at h; exact absurd h hr
 rw [if_neg (fun h2 => h2 hr)] at h
 have htx : (runS x).texts = [] := by
  by_cases htx : (runS x).texts = []
  ·exact htx
  ·rw [if_pos htx] at h; exact absurd h (by simp)
 have hvx : (tokensV x).1 = (runS x).toks := by
  unfold tokensV
  rw [if_neg (by omega), if_neg (by omega), if_neg (fun h2 => h2 hr), if_neg (fun h2 => h2 htx)]
 have hrun : runS (p ++ x) = shS p.length P (runS x) := by
  obtain ⟨f, hf⟩ : ∃ f, (p ++ x).length + 1 = f + 1 + k := ⟨(p ++ x).length - k, by omega⟩
  have h1 : runS (p ++ x) = runF (f + 1) (p ++ x) ⟨p.length, P, [], 0⟩ := by
   show runF ((p ++ x).length + 1) _ _ = _
   rw [hf, H]
  have h3 : (⟨p.length, P, [], 0⟩ : LS) = shS p.length P ⟨0, [], [], 0⟩ := by unfold shS; simp
  rw [h1, h3, runF_sh hdL hL, runF_more (f + 1) (x.length + 1) x ⟨0, [], [], 0⟩ (Nat.zero_le _) rfl (by simp only; omega) (by simp only; omega)]
  rfl
 have hvv : valid (p ++ x) = (p ++ x).length := by rw [valid_pre p x hp, hv, hL]; omega
 rw [hvx]
 unfold tokensV
 rw [if_neg (by omega), if_neg (by omega), hrun]
 rw [if_neg (show ¬ (shS p.length P (runS x)).err ≠ 0 from fun h2 => h2 hr), if_neg (show ¬ (shS p.length P (runS x)).texts ≠ [] from fun h2 => h2 htx)]
 rfl
def Ntr (m : List Tk) (p : Nat) : Prop := (dueT m p).kind = 0 ∨ (dueT m p).kind = 6 ∧ ((dueT m p).text = tShut ∨ (dueT m p).text = tBar ∨ (dueT m p).text = tComma)
section
variable {numE : List UInt8 → Nat} {m : List Tk} {en : Nat} {R : Knot}
theorem Ntr.isT {p : Nat} (h : Ntr m p) {t : List UInt8} (h1 : tShut ≠ t) (h2 : tBar ≠ t) (h3 : tComma ≠ t) : isT m t p = false := by
 unfold Go.Proofs.YtbgmdkjhegacjaaGreatDoor.isT
 rcases h with h | ⟨h, h | h | h⟩
 ·rw [h]; simp
 ·rw [h]; simp [h1]
 ·rw [h]; simp [h2]
 ·rw [h]; simp [h3]
theorem Ntr.kind {p : Nat} (h : Ntr m p) {k : Nat} (h0 : k ≠ 0) (h6 : k ≠ 6) : ¬ (dueT m p).kind = k := by
 rcases h with h | ⟨h, _⟩ <;> omega
theorem Ntr.str {p : Nat} (h : Ntr m p) : (strT m p).1 = 0 := by
 unfold strT
 rcases h with h | ⟨h, h1 | h1 | h1⟩
 ·simp [h]
 ·simp only [h, h1]; decide
 ·simp only [h, h1]; decide
 ·simp only [h, h1]; decide
theorem sign_isT {p : Nat} {t : List UInt8} (hk : (dueT m p).kind = 6) (ht : (dueT m p).text = t) (x : List UInt8) : isT m x p = (t == x) := by
 unfold isT; rw [hk, ht]; simp
theorem not_isT {p : Nat} {t : List UInt8} (hk : (dueT m p).kind = 6) (ht : (dueT m p).text = t) {x : List UInt8} (hx : t ≠ x) : ¬ isT m x p = true := by
 rw [sign_isT hk ht]; simp [hx]
theorem suf_ntr {f : Nat} {n : Nd} {s : PT} (h : Ntr m s.at') : sufF m en R (f + 1) n s = .ok n s := by
 unfold sufF
 rw [if_neg (h.kind (by decide) (by decide)), h.isT (t := tDot) (by decide) (by decide) (by decide), Bool.false_and, Bool.false_and, if_neg (by decide), if_neg (by decide), h.isT (t := tBrk) (by decide) (by decide) (by decide), if_neg (by decide), h.isT (t := tQuest) (by decide) (by decide) (by decide), if_neg (by decide)]
theorem term_open {s : PT} (hk : (dueT m s.at').kind = 6) (ht : (dueT m s.at').text = tOpen) : termB numE m en R s = (R.pipe (nextT s)).bind fun n s => (mustT m en tShut s).bind fun _ s => .ok n s := by
 unfold termB
 simp only [hk]
 rw [if_neg (by decide), if_neg (by decide), if_neg (by decide), if_neg (by decide), if_neg (by decide), if_neg (by decide)]
 unfold signedB
 rw [if_neg (not_isT hk ht (by decide)), if_neg (not_isT hk ht (by decide)), if_pos (by rw [sign_isT hk ht]; decide)]
theorem group_ok {s s1 : PT} {n : Nd} (hk : (dueT m s.at').kind = 6) (ht : (dueT m s.at').text = tOpen) (hp : R.pipe (nextT s) = .ok n s1) (hs : isT m tShut s1.at' = true) (hN : Ntr m (s1.at' + 1)) : altB numE m en R s = .ok n (nextT s1) := by
 have hpost : postB numE m en R s = .ok n (nextT s1) := by
  unfold postB
  rw [term_open hk ht, hp]
  show PY.bind ((mustT m en tShut s1).bind fun _ s => .ok n s) _ = _
  unfold mustT
  rw [if_pos hs]
  exact suf_ntr hN
 have hneg : negB numE m en R s = .ok n (nextT s1) := by
  unfold negB
  rw [if_neg (not_isT hk ht (by decide)), hpost]
  show (if isT m tAs (s1.at' + 1) = true then _ else _) = _
  rw [hN.isT (by decide) (by decide) (by decide), if_neg (by decide)]
 have hop : ∀ k, k ≤ 6 → opB numE m en R k s = .ok n (nextT s1) := by
  intro k
  induction k with
  | zero => intro _; exact hneg
  | succ k ih =>
   intro hk6
   unfold opB
   rw [ih (by omega)]
   show opF m (opB numE m en R k) (6 - k) (m.length + 1) n (nextT s1) = _
   unfold opF
   have h0 : (strT m (nextT s1).at').1 = 0 := hN.str
   rw [h0, if_neg (by omega)]
 unfold altB
 rw [hop 6 (Nat.le_refl _)]
 show (if isT m tAlt (s1.at' + 1) = true then _ else _) = _
 rw [hN.isT (by decide) (by decide) (by decide), if_neg (by decide)]
theorem group_bad {s : PT} {a e : Nat} (hk : (dueT m s.at').kind = 6) (ht : (dueT m s.at').text = tOpen) (hp : R.pipe (nextT s) = .bad a e) : altB numE m en R s = .bad a e := by
 have hneg : negB numE m en R s = .bad a e := by
  unfold negB
  rw [if_neg (not_isT hk ht (by decide))]
  unfold postB
  rw [term_open hk ht, hp]; rfl
 have hop : ∀ k, opB numE m en R k s = .bad a e := by
  intro k
  induction k with
  | zero => exact hneg
  | succ k ih => unfold opB; rw [ih]; rfl
 unfold altB
 rw [hop 6]; rfl
theorem group_alt {l : List Tk} {d q N N' : Nat} {en0 : Nat} (M : Among l m d) {n : Nd} {s0 : PT} (h : (knotF numE l en0 N).pipe ⟨0, 0⟩ = .ok n s0) (hend : l.length ≤ s0.at') (hN : N ≤ N') (hk : (dueT m (d - 1)).kind = 6) (ht : (dueT m (d - 1)).text = tOpen) (hd : 0 < d) (hNt : Ntr m (l.length + d + 1)) :
  altB numE m en (knotF numE m en N') ⟨d - 1, q⟩ = .ok n ⟨l.length + d + 1, q⟩ ∨ ∃ a, altB numE m en (knotF numE m en N') ⟨d - 1, q⟩ = .bad a 6 := by
 have hs := (knot_sim M (numE := numE) (en := en0) (en' := en) (q := q) N N' hN).pipe ⟨0, 0⟩ (Nat.zero_le _)
 obtain ⟨h1, h2, h3⟩ := hs n s0 h
 have e0 : s0 = ⟨l.length, 0⟩ := by
  cases s0 with | mk a p => simp only at h1 h2 hend ⊢; simp; omega
 have e1 : goS d q ⟨0, 0⟩ = nextT ⟨d - 1, q⟩ := by unfold goS nextT; simp; omega
 rw [e1] at h3
 rcases h3 with h3 | ⟨a, h3⟩
 ·left
  rw [e0] at h3
  have e2 : goS d q ⟨l.length, 0⟩ = ⟨l.length + d, q⟩ := by unfold goS; simp
  rw [e2] at h3
  exact group_ok hk ht h3 (by rw [sign_isT M.shutK M.shutT]; decide) hNt
 ·exact .inr ⟨a, group_bad hk ht h3⟩
end
theorem ty_bad_pipe {numE : List UInt8 → Nat} {m : List Tk} {en : Nat} {R : Knot} {s : PT} (hp : s.pipes ≠ 600) {x : PY Nd} (h : wholeB numE m en R { s with pipes := s.pipes + 1 } = x) : pipeB numE m en R s = x.bind fun n s => .ok n { s with pipes := s.pipes - 1 } := by
 unfold pipeB; rw [if_neg hp, h]
section
variable {numE : List UInt8 → Nat} {m : List Tk} {en : Nat} {R : Knot} {s : PT}
theorem whole_open (hk : (dueT m s.at').kind = 6) (ht : (dueT m s.at').text = tOpen) : wholeB numE m en R s = (altB numE m en R s).bind fun n s => (commasF numE m en R (m.length + 1) n s).bind fun n s => if isT m tBar s.at' = true then (R.pipe (nextT s)).bind fun m s => .ok (.mk 15 [] [n, m]) s else .ok n s := by
 unfold wholeB
 rw [if_neg (not_isT hk ht (by decide)), if_neg (not_isT hk ht (by decide))]
end
def tkOpen (p : Nat) : Tk := ⟨6, [40], p⟩
def tkShut (p : Nat) : Tk := ⟨6, [41], p⟩
theorem due_left {a b : List Tk} {i : Nat} (h : i < a.length) : dueT (a ++ b) i = dueT a i := by
 unfold dueT; rw [List.getD_eq_getElem?_getD, List.getD_eq_getElem?_getD, List.getElem?_append_left h]
theorem due_right {a b : List Tk} {i : Nat} : dueT (a ++ b) (i + a.length) = dueT b i := by
 unfold dueT; rw [List.getD_eq_getElem?_getD, List.getD_eq_getElem?_getD, List.getElem?_append_right (by omega)]; congr 2; omega
theorem due_map {l : List Tk} {d i : Nat} (h : i < l.length) : dueT (l.map (shK d)) i = shK d (dueT l i) := by
 unfold dueT; rw [List.getD_eq_getElem?_getD, List.getD_eq_getElem?_getD, List.getElem?_map, List.getElem?_eq_getElem h]; rfl
theorem among_of {a b : List Tk} {l : List Tk} {d e p : Nat} (ha : a.length = d) : Among l (a ++ (l.map (shK e) ++ tkShut p :: b)) d := by
 subst ha
 refine ⟨fun i hi => ?_, ?_, ?_, ?_⟩
 ·rw [due_right, due_left (by simpa using hi), due_map hi]; exact ⟨rfl, rfl⟩
 ·rw [due_right]
  have := @due_right (l.map (shK e)) (tkShut p :: b) 0
  rw [List.length_map, Nat.zero_add] at this
  rw [this]; rfl
 ·rw [due_right]
  have := @due_right (l.map (shK e)) (tkShut p :: b) 0
  rw [List.length_map, Nat.zero_add] at this
  rw [this]; rfl
 ·simp; omega
def parA (s : List UInt8) : List UInt8 := [40, 32] ++ s ++ [10, 41, 32, 35, 32, 110, 111, 116, 101]
def parB (c : UInt8) (s t : List UInt8) : List UInt8 := [40] ++ s ++ [10, 41, c, 40] ++ t ++ [10, 41]
theorem tokens_A (s : List UInt8) (hs : s.length ≤ 1000) (h : (tokensV s).2.2 = 0) : tokensV (parA s) = (tkOpen 0 :: ((tokensV s).1.map (shK 2) ++ [tkShut (s.length + 3)]), 0, 0) := by
 have h1 : tokensV ([40, 32] ++ s) = ([tkOpen 0] ++ (tokensV s).1.map (shK 2), 0, 0) := by
  refine tokens_pre (P := [tkOpen 0]) (k := 1) (by decide) (by simp <;> omega) (fun f => ?_) (by decide) h
  have e1 := run_sign (L := [40, 32] ++ s) (s := ⟨0, [], [], 0⟩) (c := 40) (r := 32 :: s) rfl rfl rfl (by decide) (fun h => absurd h (by decide)) (f + 1)
  rw [e1]
  exact run_blank (L := [40, 32] ++ s) (s := ⟨1, [tkOpen 0], [], 0⟩) (r := s) rfl f
 have h2 : tokensV [41, 32, 35, 32, 110, 111, 116, 101] = ([tkShut 0], 0, 0) := by decide +kernel
 have hj := (tokens_joins ([40, 32] ++ s) [41, 32, 35, 32, 110, 111, 116, 101] (by simp <;> omega) (by decide) (by rw [h1])).2 (by rw [h2])
 have e : parA s = ([40, 32] ++ s) ++ 10 :: [41, 32, 35, 32, 110, 111, 116, 101] := by unfold parA; simp
 rw [e, hj, h1, h2]
 simp [shK, tkShut]
theorem tokens_B (c : UInt8) (hc : c = 124 ∨ c = 44) (s t : List UInt8) (hs : s.length ≤ 1000) (ht : t.length ≤ 1000) (h : (tokensV s).2.2 = 0) (h' : (tokensV t).2.2 = 0) :
  tokensV (parB c s t) = ([tkOpen 0] ++ ((tokensV s).1.map (shK 1) ++ tkShut (s.length + 2) :: (⟨6, [c], s.length + 3⟩ :: tkOpen (s.length + 4) :: ((tokensV t).1.map (shK (s.length + 5)) ++ [tkShut (s.length + t.length + 6)]))), 0, 0) := by
 have h1 : tokensV ([40] ++ s) = ([tkOpen 0] ++ (tokensV s).1.map (shK 1), 0, 0) := by
  refine tokens_pre (P := [tkOpen 0]) (k := 1) (by decide) (by simp <;> omega) (fun f => ?_) (by decide) h
  exact run_sign (L := [40] ++ s) (s := ⟨0, [], [], 0⟩) (c := 40) (r := s) rfl rfl rfl (by decide) (fun h => absurd h (by decide)) (f + 1)
 have h2 : tokensV ([41, c, 40] ++ t) = ([tkShut 0, ⟨6, [c], 1⟩, tkOpen 2] ++ (tokensV t).1.map (shK 3), 0, 0) := by
  refine tokens_pre (P := [tkShut 0, ⟨6, [c], 1⟩, tkOpen 2]) (k := 3) (by rcases hc with rfl | rfl <;> decide) (by simp <;> omega) (fun f => ?_) (by simp) h'
  have e1 := run_sign (L := [41, c, 40] ++ t) (s := ⟨0, [], [], 0⟩) (c := 41) (r := c :: 40 :: t) rfl rfl rfl (by decide) (fun h => absurd h (by decide)) (f + 1 + 2)
  have e2 := run_sign (L := [41, c, 40] ++ t) (s := ⟨1, [tkShut 0], [], 0⟩) (c := c) (r := 40 :: t) rfl rfl rfl (by rcases hc with rfl | rfl <;> decide) (fun _ => by rw [bt_cons0]; decide) (f + 1 + 1)
  have e3 := run_sign (L := [41, c, 40] ++ t) (s := ⟨2, [tkShut 0, ⟨6, [c], 1⟩], [], 0⟩) (c := 40) (r := t) rfl rfl rfl (by decide) (fun h => absurd h (by decide)) (f + 1)
  exact e1.trans (e2.trans e3)
 have h3 : tokensV [41] = ([tkShut 0], 0, 0) := by decide +kernel
 have hj := (tokens_joins ([41, c, 40] ++ t) [41] (by simp <;> omega) (by decide) (by rw [h2])).2 (by rw [h3])
 have hj2 := (tokens_joins ([40] ++ s) (([41, c, 40] ++ t) ++ 10 :: [41]) (by simp <;> omega) (by simp <;> omega) (by rw [h1])).2 (by rw [hj])
 have e : parB c s t = ([40] ++ s) ++ 10 :: (([41, c, 40] ++ t) ++ 10 :: [41]) := by unfold parB; simp
 rw [e, hj2, h1, hj, h2, h3]
 simp [shK, tkShut, tkOpen, Function.comp_def]
 exact ⟨by omega, by omega, fun a _ => by omega, by omega⟩
theorem parens_A {numE : List UInt8 → Nat} (hN : ∀ t, numE t = 0 ∨ numE t = 2 ∨ numE t = 3) (hP : ∀ x : List UInt8, ∀ t ∈ (tokensV x).1, t.pos ≤ x.length) {s : List UInt8} (hs : s.length ≤ 1000) {n : Nd} {a : Nat} (h : parseV numE s = (n, a, 0)) :
  parseV numE (parA s) = (n, 0, 0) ∨ (parseV numE (parA s)).2.2 = 6 := by
 obtain ⟨h0, h1⟩ := parseV_ok h
 obtain ⟨s0, h2, h3, h4, _⟩ := parseT_ok ⟨hP s, hN⟩ h1
 have hT := tokens_A s hs h0
 have M : Among (tokensV s).1 (tkOpen 0 :: ((tokensV s).1.map (shK 2) ++ [tkShut (s.length + 3)])) 1 := among_of (a := [tkOpen 0]) (b := []) rfl
 unfold parseV
 rw [hT]
 simp only
 rw [if_neg (by decide)]
 have hlen : (tkOpen 0 :: ((tokensV s).1.map (shK 2) ++ [tkShut (s.length + 3)])).length = (tokensV s).1.length + 2 := by simp
 have hend : dueT (tkOpen 0 :: ((tokensV s).1.map (shK 2) ++ [tkShut (s.length + 3)])) ((tokensV s).1.length + 2) = tkNone := by
  unfold dueT; rw [List.getD_eq_getElem?_getD, List.getElem?_eq_none (by rw [hlen]; exact Nat.le_refl _)]; rfl
 have ho : dueT (tkOpen 0 :: ((tokensV s).1.map (shK 2) ++ [tkShut (s.length + 3)])) 0 = tkOpen 0 := rfl
 generalize tkOpen 0 :: ((tokensV s).1.map (shK 2) ++ [tkShut (s.length + 3)]) = m at *
 generalize (tokensV s).1 = l at *
 have hNt : Ntr m (l.length + 1 + 1) := .inl (by rw [show l.length + 1 + 1 = l.length + 2 by omega, hend]; rfl)
 have hg := group_alt (q := 1) (N' := m.length) (en := (parA s).length) M h2 h3 (by omega) (by rw [ho]; rfl) (by rw [ho]; rfl) (by decide) hNt
 have hw : wholeB numE m (parA s).length (knotF numE m (parA s).length m.length) ⟨0, 1⟩ = .ok n ⟨l.length + 1 + 1, 1⟩ ∨ ∃ b, wholeB numE m (parA s).length (knotF numE m (parA s).length m.length) ⟨0, 1⟩ = .bad b 6 := by
  rw [whole_open (s := ⟨0, 1⟩) (by rw [ho]; rfl) (by rw [ho]; rfl)]
  rcases hg with hg | ⟨b, hg⟩
  ·left
   rw [hg]
   show PY.bind (commasF _ _ _ _ (m.length + 1) n ⟨l.length + 1 + 1, 1⟩) _ = _
   unfold commasF
   have hc : ∀ t, isT m t (l.length + 1 + 1) = false := fun t => by
    cases hb : isT m t (l.length + 1 + 1) with
    | false => rfl
    | true => have := isT_lt hb; omega
   rw [if_neg (by rw [hc]; decide)]
   show (if isT m tBar (l.length + 1 + 1) = true then _ else _) = _
   rw [if_neg (by rw [hc]; decide)]
  ·exact .inr ⟨b, by rw [hg]; rfl⟩
 have hp : (knotF numE m (parA s).length (m.length + 1)).pipe ⟨0, 0⟩ = pipeB numE m (parA s).length (knotF numE m (parA s).length m.length) ⟨0, 0⟩ := rfl
 unfold parseT
 rw [hp, ty_bad_pipe (by simp) rfl]
 rcases hw with hw | ⟨b, hw⟩
 ·left
  rw [hw]
  simp only [PY.bind]
  rw [if_neg (by rw [hlen]; simp), if_neg (by omega)]
 ·right
  rw [hw]; rfl
theorem depN_two {k : Nat} {t : List UInt8} {n m : Nd} (hn : depN 200 n ≤ 190) (hm : depN 200 m ≤ 190) : depN 200 (.mk k t [n, m]) ≤ 200 := by
 have h1 : depN 199 n ≤ depN 200 n := depN_mono 199 n
 have h2 : depN 199 m ≤ depN 200 m := depN_mono 199 m
 show ((Nd.mk k t [n, m]).kids.map (depN 199)).foldr max 0 + 1 ≤ 200
 simp only [Nd.kids, List.map_cons, List.map_nil, List.foldr_cons, List.foldr_nil]
 omega
theorem due_mid {A B : List Tk} {x : Tk} {i : Nat} (h : A.length = i) : dueT (A ++ x :: B) i = x := by
 subst h
 have := @due_right A (x :: B) 0
 rw [Nat.zero_add] at this
 rw [this]; rfl
theorem isT_end {m : List Tk} {t : List UInt8} {p : Nat} (h : m.length ≤ p) : ¬ isT m t p = true := fun hb => by have := isT_lt hb; omega
theorem due_end {m : List Tk} {p : Nat} (h : m.length ≤ p) : dueT m p = tkNone := by unfold dueT; rw [List.getD_eq_getElem?_getD, List.getElem?_eq_none h]; rfl
theorem tail_end {numE : List UInt8 → Nat} {m : List Tk} {en : Nat} {R : Knot} {f : Nat} {n : Nd} {s : PT} (h : m.length ≤ s.at') :
  (commasF numE m en R (f + 1) n s).bind (fun n s => if isT m tBar s.at' = true then (R.pipe (nextT s)).bind fun m s => .ok (.mk 15 [] [n, m]) s else .ok n s) = .ok n s := by
 unfold commasF
 rw [if_neg (isT_end h)]
 show (if isT m tBar s.at' = true then _ else _) = _
 rw [if_neg (isT_end h)]
def kindC (c : UInt8) : Nat := if c = 124 then 15 else 16
theorem parens_B {numE : List UInt8 → Nat} (hN : ∀ t, numE t = 0 ∨ numE t = 2 ∨ numE t = 3) (hP : ∀ x : List UInt8, ∀ t ∈ (tokensV x).1, t.pos ≤ x.length) {c : UInt8} (hc : c = 124 ∨ c = 44) {s t : List UInt8} (hs : s.length ≤ 1000) (ht : t.length ≤ 1000) {n n2 : Nd} {a a2 : Nat} (h : parseV numE s = (n, a, 0)) (h' : parseV numE t = (n2, a2, 0)) (hd : depN 200 n ≤ 190) (hd2 : depN 200 n2 ≤ 190) :
  parseV numE (parB c s t) = (.mk (kindC c) [] [n, n2], 0, 0) ∨ (parseV numE (parB c s t)).2.2 = 6 := by
 obtain ⟨h0, h1⟩ := parseV_ok h
 obtain ⟨s0, h2, h3, h4, _⟩ := parseT_ok ⟨hP s, hN⟩ h1
 obtain ⟨h0', h1'⟩ := parseV_ok h'
 obtain ⟨s0', h2', h3', h4', _⟩ := parseT_ok ⟨hP t, hN⟩ h1'
 have hT := tokens_B c hc s t hs ht h0 h0'
 unfold parseV
 rw [hT]
 simp only
 rw [if_neg (by decide)]
 obtain ⟨m, hm⟩ : ∃ m, m = [tkOpen 0] ++ ((tokensV s).1.map (shK 1) ++ tkShut (s.length + 2) :: (⟨6, [c], s.length + 3⟩ :: tkOpen (s.length + 4) :: ((tokensV t).1.map (shK (s.length + 5)) ++ [tkShut (s.length + t.length + 6)]))) := ⟨_, rfl⟩
 have M : Among (tokensV s).1 m 1 := hm ▸ among_of rfl
 have M2 : Among (tokensV t).1 m ((tokensV s).1.length + 4) := by
  have e : m = ([tkOpen 0] ++ (tokensV s).1.map (shK 1) ++ [tkShut (s.length + 2), ⟨6, [c], s.length + 3⟩, tkOpen (s.length + 4)]) ++ ((tokensV t).1.map (shK (s.length + 5)) ++ tkShut (s.length + t.length + 6) :: []) := by rw [hm]; simp
  rw [e]
  exact among_of (by simp <;> omega)
 have ho : dueT m 0 = tkOpen 0 := by rw [hm]; rfl
 have hsg : dueT m ((tokensV s).1.length + 2) = ⟨6, [c], s.length + 3⟩ := by
  have e : m = ([tkOpen 0] ++ (tokensV s).1.map (shK 1) ++ [tkShut (s.length + 2)]) ++ ⟨6, [c], s.length + 3⟩ :: (tkOpen (s.length + 4) :: ((tokensV t).1.map (shK (s.length + 5)) ++ [tkShut (s.length + t.length + 6)])) := by rw [hm]; simp
  rw [e]
  exact due_mid (by simp <;> omega)
 have hop : dueT m ((tokensV s).1.length + 3) = tkOpen (s.length + 4) := by
  have e : m = ([tkOpen 0] ++ (tokensV s).1.map (shK 1) ++ [tkShut (s.length + 2), ⟨6, [c], s.length + 3⟩]) ++ tkOpen (s.length + 4) :: ((tokensV t).1.map (shK (s.length + 5)) ++ [tkShut (s.length + t.length + 6)]) := by rw [hm]; simp
  rw [e]
  exact due_mid (by simp <;> omega)
 have hlen : m.length = (tokensV s).1.length + (tokensV t).1.length + 5 := by rw [hm]; simp; omega
 rw [← hm]
 clear hm
 generalize (parB c s t).length = en at *
 generalize (tokensV s).1 = l at *
 generalize (tokensV t).1 = l2 at *
 obtain ⟨N, hN1⟩ : ∃ N, m.length = N + 1 := ⟨m.length - 1, by omega⟩
 have hNt : Ntr m (l.length + 1 + 1) := .inr (by rw [show l.length + 1 + 1 = l.length + 2 by omega, hsg]; rcases hc with rfl | rfl; (exact ⟨rfl, .inr (.inl rfl)⟩); (exact ⟨rfl, .inr (.inr rfl)⟩))
 have hNt2 : Ntr m (l2.length + (l.length + 4) + 1) := .inl (by rw [due_end (by omega)]; rfl)
 have hg := group_alt (q := 1) (N' := N + 1) (en := en) M h2 h3 (by omega) (by rw [ho]; rfl) (by rw [ho]; rfl) (by decide) hNt
 have e4 : l.length + 4 - 1 = l.length + 3 := by omega
 have hw : wholeB numE m en (knotF numE m en (N + 1)) ⟨0, 1⟩ = .ok (.mk (kindC c) [] [n, n2]) ⟨l2.length + (l.length + 4) + 1, 1⟩ ∨ ∃ b, wholeB numE m en (knotF numE m en (N + 1)) ⟨0, 1⟩ = .bad b 6 := by
  rw [whole_open (s := ⟨0, 1⟩) (by rw [ho]; rfl) (by rw [ho]; rfl)]
  rcases hg with hg | ⟨b, hg⟩
  rotate_left
  ·exact .inr ⟨b, by rw [show (⟨0, 1⟩ : PT) = ⟨1 - 1, 1⟩ from rfl, hg]; rfl⟩
  rw [show (⟨0, 1⟩ : PT) = ⟨1 - 1, 1⟩ from rfl, hg]
  rcases hc with rfl | rfl
  ·have hcm : commasF numE m en (knotF numE m en (N + 1)) (m.length + 1) n ⟨l.length + 1 + 1, 1⟩ = .ok n ⟨l.length + 1 + 1, 1⟩ := by
    unfold commasF
    rw [if_neg (not_isT (p := l.length + 2) (t := [124]) (by rw [hsg]) (by rw [hsg]) (by decide))]
   have hb : isT m tBar (l.length + 2) = true := by rw [sign_isT (t := [124]) (by rw [hsg]) (by rw [hsg])]; decide
   have hg2 := group_alt (q := 2) (N' := N) (en := en) M2 h2' h3' (by omega) (by rw [e4, hop]; rfl) (by rw [e4, hop]; rfl) (by omega) hNt2
   rw [e4] at hg2
   have hp2 : (knotF numE m en (N + 1)).pipe ⟨l.length + 3, 1⟩ = pipeB numE m en (knotF numE m en N) ⟨l.length + 3, 1⟩ := rfl
   have hw2 : wholeB numE m en (knotF numE m en N) ⟨l.length + 3, 2⟩ = (altB numE m en (knotF numE m en N) ⟨l.length + 3, 2⟩).bind fun n s => (commasF numE m en (knotF numE m en N) (m.length + 1) n s).bind fun n s => if isT m tBar s.at' = true then ((knotF numE m en N).pipe (nextT s)).bind fun m s => .ok (.mk 15 [] [n, m]) s else .ok n s := whole_open (by rw [hop]; rfl) (by rw [hop]; rfl)
   have step : ∀ x, pipeB numE m en (knotF numE m en N) ⟨l.length + 3, 1⟩ = x → ((PY.ok n ⟨l.length + 1 + 1, 1⟩ : PY Nd).bind fun n s => (commasF numE m en (knotF numE m en (N + 1)) (m.length + 1) n s).bind fun n s => if isT m tBar s.at' = true then ((knotF numE m en (N + 1)).pipe (nextT s)).bind fun m s => .ok (.mk 15 [] [n, m]) s else .ok n s) = x.bind fun m s => .ok (.mk 15 [] [n, m]) s := fun x hx => by
    show PY.bind (commasF numE m en (knotF numE m en (N + 1)) (m.length + 1) n ⟨l.length + 1 + 1, 1⟩) _ = _
    rw [hcm]
    show (if isT m tBar (l.length + 2) = true then ((knotF numE m en (N + 1)).pipe ⟨l.length + 3, 1⟩).bind _ else _) = _
    rw [if_pos hb, hp2, hx]
   have hpb := ty_bad_pipe (s := ⟨l.length + 3, 1⟩) (by simp) hw2
   rcases hg2 with hg2 | ⟨b, hg2⟩
   ·left
    rw [step _ hpb, hg2]
    have := tail_end (m := m) (numE := numE) (en := en) (R := knotF numE m en N) (f := m.length) (n := n2) (s := ⟨l2.length + (l.length + 4) + 1, 2⟩) (by simp only; omega)
    show ((PY.bind (commasF numE m en (knotF numE m en N) (m.length + 1) n2 ⟨l2.length + (l.length + 4) + 1, 2⟩) _).bind _).bind _ = _
    rw [this]
    rfl
   ·exact .inr ⟨b, by rw [step _ hpb, hg2]; rfl⟩
  ·have hcm : commasF numE m en (knotF numE m en (N + 1)) (m.length + 1) n ⟨l.length + 1 + 1, 1⟩ = (altB numE m en (knotF numE m en (N + 1)) ⟨l.length + 3, 1⟩).bind fun m2 s => commasF numE m en (knotF numE m en (N + 1)) m.length (.mk 16 [] [n, m2]) s := by
    rw [commasF]
    rw [if_pos (by rw [sign_isT (p := l.length + 2) (t := [44]) (by rw [hsg]) (by rw [hsg])]; decide)]
    rfl
   have hg2 := group_alt (q := 1) (N' := N + 1) (en := en) M2 h2' h3' (by omega) (by rw [e4, hop]; rfl) (by rw [e4, hop]; rfl) (by omega) hNt2
   rw [e4] at hg2
   rcases hg2 with hg2 | ⟨b, hg2⟩
   ·left
    show PY.bind (commasF numE m en (knotF numE m en (N + 1)) (m.length + 1) n ⟨l.length + 1 + 1, 1⟩) _ = _
    rw [hcm, hg2]
    have ht := tail_end (m := m) (numE := numE) (en := en) (R := knotF numE m en (N + 1)) (f := N) (n := .mk 16 [] [n, n2]) (s := ⟨l2.length + (l.length + 4) + 1, 1⟩) (by simp only; omega)
    have hf : ∀ k, k = N + 1 → (commasF numE m en (knotF numE m en (N + 1)) k (.mk 16 [] [n, n2]) ⟨l2.length + (l.length + 4) + 1, 1⟩) = commasF numE m en (knotF numE m en (N + 1)) (N + 1) (.mk 16 [] [n, n2]) ⟨l2.length + (l.length + 4) + 1, 1⟩ := fun k hk => by rw [hk]
    show PY.bind (commasF numE m en (knotF numE m en (N + 1)) m.length (.mk 16 [] [n, n2]) ⟨l2.length + (l.length + 4) + 1, 1⟩) _ = _
    rw [hf _ hN1]
    exact ht
   ·right
    refine ⟨b, ?_⟩
    show PY.bind (commasF numE m en (knotF numE m en (N + 1)) (m.length + 1) n ⟨l.length + 1 + 1, 1⟩) _ = _
    rw [hcm, hg2]; rfl
 have hp : (knotF numE m en (m.length + 1)).pipe ⟨0, 0⟩ = pipeB numE m en (knotF numE m en (N + 1)) ⟨0, 0⟩ := by rw [hN1]; rfl
 unfold parseT
 rw [hp, ty_bad_pipe (by simp) rfl]
 rcases hw with hw | ⟨b, hw⟩
 ·left
  rw [hw]
  simp only [PY.bind]
  have := depN_two (k := kindC c) (t := []) hd hd2
  rw [if_neg (by omega), if_neg (by omega)]
 ·right
  rw [hw]; rfl
end Go.Proofs.YtbgmdkjhegacjaaGreatDoor
namespace Go.Proofs.YtbgmdkjhegacjaaGreatDoor
open Go.RowKit
structure KdH (W : World) (q o : Nat) (X : Ny) (A : Option Addr) (c : Nat) : Prop where
 range : W.rangeAt q o (yCells X (.slice A X.kids.length c))
 lt : q < W.heap.size
 kids : YT W X A c
theorem KdH.below {W W' : World} {q o : Nat} {X : Ny} {A : Option Addr} {c : Nat} (H : KdH W q o X A c) (hb : Below W.heap.size W W') : KdH W' q o X A c :=
 ⟨fun j v hj => (hb.cell (p := ⟨q, o + j, none⟩) H.lt).trans (H.range j v hj), Nat.lt_of_lt_of_le H.lt hb.size, H.kids.below hb⟩
theorem yields_kd {S : World → Prop} {ops : Array Oper} {op : Oper} {a : Act} {q o : Nat} {x : Ny} {A : Option Addr} {n c : Nat} (hS : ∀ W, S W → W.rangeAt q o (yCells x (.slice A n c))) (y : Operand) (hw : Region.wanted op (yielded ops a.tmps) = true := by kernel_rfl) (ho : op.op = .load TN y := by kernel_rfl) (hx : a.eval y = .pointer (some ⟨q, o, none⟩) := by kernel_rfl) : YieldsIf Tryz.prog ops S op (yAgg x (.slice A n c)) a := by
 obtain ⟨d, hd, hrow⟩ := underN
 show YieldsIf Tryz.prog ops S op (.agg (yCells x (.slice A n c)).toArray) a
 exact yieldsIf_load_mid hw TN y ho q o hx (yCells x (.slice A n c)) d hS hd hrow (by rw [sizeN]; rfl)
structure PaC where
 (b1 b2 b3 b4 b5 c1 c2 c3 c4 c5 q4 o4 q5 o5 c41 c42 c51 c52 : Nat)
 (A1 A2 A3 A41 A42 A51 A52 : Option Addr)
structure PaH (w W : World) (X1 X2 : Ny) (p : PaC) : Prop where
 below : Below w.heap.size w W
 p1 : YP W p.b1 X1 p.A1 p.c1
 p2 : YP W p.b2 X2 p.A2 p.c2
 p3 : YP W p.b3 X1 p.A3 p.c3
 p4 : YP W p.b4 (.mk 15 [] [X1, X2]) (some ⟨p.q4, p.o4, none⟩) p.c4
 p5 : YP W p.b5 (.mk 16 [] [X1, X2]) (some ⟨p.q5, p.o5, none⟩) p.c5
 d41 : KdH W p.q4 p.o4 X1 p.A41 p.c41
 d42 : KdH W p.q4 (p.o4 + 3) X2 p.A42 p.c42
 d51 : KdH W p.q5 p.o5 X1 p.A51 p.c51
 d52 : KdH W p.q5 (p.o5 + 3) X2 p.A52 p.c52
theorem PaH.call {w W W' : World} {X1 X2 : Ny} {p : PaC} (H : PaH w W X1 X2 p) (hb : Below W.heap.size W W') : PaH w W' X1 X2 p :=
 ⟨H.below.trans (hb.mono H.below.size), H.p1.below hb, H.p2.below hb, H.p3.below hb, H.p4.below hb, H.p5.below hb, H.d41.below hb, H.d42.below hb, H.d51.below hb, H.d52.below hb⟩
theorem two_kids {W : World} {b : Nat} {k : Int} {X1 X2 : Ny} {A : Option Addr} {c : Nat} (h : YP W b (.mk k [] [X1, X2]) A c) :
  ∃ q o A1 c1 A2 c2, A = some ⟨q, o, none⟩ ∧ KdH W q o X1 A1 c1 ∧ KdH W q (o + 3) X2 A2 c2 := by
 obtain ⟨q, o, cap, e, _, _, _, hq, hv⟩ := h.kids.view (fun h => by cases h)
 injection e with e _ _
 obtain ⟨A1, c1, r1, k1⟩ := hv 0 X1 rfl
 obtain ⟨A2, c2, r2, k2⟩ := hv 1 X2 rfl
 exact ⟨q, o, A1, c1, A2, c2, e, ⟨fun j v hj => by have := r1 j v hj; simpa using this, hq, k1⟩, ⟨fun j v hj => by have := r2 j v hj; simpa using this, hq, k2⟩⟩
section
variable {w W : World} {X1 X2 : Ny} {p : PaC}
theorem PaH.s4 (H : PaH w W X1 X2 p) : W.cell? ⟨p.b4, 2, none⟩ = some (.slice (some ⟨p.q4, p.o4, none⟩) 2 p.c4) := H.p4.all.2.2
theorem PaH.s5 (H : PaH w W X1 X2 p) : W.cell? ⟨p.b5, 2, none⟩ = some (.slice (some ⟨p.q5, p.o5, none⟩) 2 p.c5) := H.p5.all.2.2
theorem PaH.n4 (H : PaH w W X1 X2 p) : W.cell? ⟨p.b4, 0, none⟩ = some (.int .i64 15) := H.p4.all.1
theorem PaH.n5 (H : PaH w W X1 X2 p) : W.cell? ⟨p.b5, 0, none⟩ = some (.int .i64 16) := H.p5.all.1
end
section
variable {P : Program} {md : Region.Mode} {ops : Array Oper} {Q : Exit → Act → World → Prop} {S : World → Prop} {oi : Oper} {fuel : Nat} {listed : Array Bool} {a : Act} {w : World}
theorem tk {i : Nat} {v : Value} (hi : ops[i]? = some oi := by rfl) (hs : Region.noSelect ops = true := by kernel_rfl) (hf : Region.free md ops listed i = true := by kernel_rfl) (hr : (Region.ready md ops listed).contains i = true := by kernel_rfl)
  (hQ : ∀ c a w, Q (.panic c) (a.put oi.dst v) w → Q (.panic c) a w := by exact fun _ _ _ h => h) (y : YieldsIf P ops S oi v a := by exact .inl ⟨by kernel_rfl, fun _ _ => by go_simp⟩) (s : S w)
  (h : wpAnyH P md ops Q S fuel (listed.setIfInBounds i true) (a.put oi.dst v) w) : wpAnyH P md ops Q S (fuel + 1) listed a w :=
 wpAnyH_take hi hs hf hr hQ y s h
theorem st {i : Nat} {o : Oper} (hr : Region.ready md ops listed = [i] := by kernel_rfl) (ho : ops[i]? = some o := by rfl)
  (h : ∀ K' : Act → World → Prop, Shut (∀ a w, S w → (S w → wpAnyH P md ops Q S fuel (listed.setIfInBounds i true) a w) → K' a w) → if Region.wanted o (yielded ops a.tmps) = true then Oper.wp P o a w K' Q else K' (a.put o.dst undef) w) : wpAnyH P md ops Q S (fuel + 1) listed a w :=
 wpAnyH_ready hr (by simp) (.cons ho h .nil)
end
theorem len_A {x : List UInt8} (h : x.length ≤ 1000) : (parA x).length ≤ maxLen := by simp only [parA, List.length_append, List.length_cons, List.length_nil]; unfold maxLen; omega
theorem len_B {c : UInt8} {x y : List UInt8} (h : x.length ≤ 1000) (h' : y.length ≤ 1000) : (parB c x y).length ≤ maxLen := by simp only [parB, List.length_append, List.length_cons, List.length_nil]; unfold maxLen; omega
theorem bytes_A (s : ByteArray) : ((⟨#[40, 32]⟩ : ByteArray) ++ s ++ ⟨#[10, 41, 32, 35, 32, 110, 111, 116, 101]⟩).data.toList = parA s.data.toList := by
 simp [ByteArray.data_append, parA]
theorem bytes_B (c : UInt8) (s t : ByteArray) : ((⟨#[40]⟩ : ByteArray) ++ s ++ ⟨#[10, 41, c, 40]⟩ ++ t ++ ⟨#[10, 41]⟩).data.toList = parB c s.data.toList t.data.toList := by
 simp [ByteArray.data_append, parB]
set_option maxHeartbeats 4000000 in
set_option maxRecDepth 100000 in
theorem syntaxParens_walk (s t : ByteArray) (w : World) (hT : Tabs w) (h10 : Tab10 w) : Calls Tryz.prog 4 #[.string s, .string t] w fun e w' => e = .returned (.bool true) ∧ Below w.heap.size w w' := by
 have KS := Lib.hid (fun W (hb : Below w.heap.size w W) => syShown_any W (hT.below hb (Nat.le_refl _)) (h10.below hb))
 have hb0 := Below.refl w.heap.size w
 have kp := fun (L : List UInt8) (hL : L.length ≤ maxLen) (n : Nd) (a e : Nat) (h : parseV numE L = (n, a, e)) (W : World) (hb : Below w.heap.size w W) => par_ys hT h10 hL h W hb
 have KP0 := Lib.hid kp
 clear kp hT h10
 go_enter Tryz.func4, Tryz.ntmps4
 go_wp2_with (go_at_call 7; with_reducible refine (KS.out _ hb0).mono ?_)
 rintro x w0 ⟨rfl, hbs⟩
 clear KS hb0
 have B0 := Lib.hid hbs
 clear hbs
 by_cases hs1 : 1000 < s.size
 ·have z1 : decide ((1000 : Int) < (s.size : Int)) = true := decide_eq_true (by omega)
  go_wp2
  go_ret
  exact ⟨rfl, B0.out⟩
 by_cases ht1 : 1000 < t.size
 ·have z1 : decide ((1000 : Int) < (s.size : Int)) = false := decide_eq_false (by omega)
  have z2 : decide ((1000 : Int) < (t.size : Int)) = true := decide_eq_true (by omega)
  go_wp2
  go_ret
  exact ⟨rfl, B0.out⟩
 have z1 : decide ((1000 : Int) < (s.size : Int)) = false := decide_eq_false (by omega)
 have z2 : decide ((1000 : Int) < (t.size : Int)) = false := decide_eq_false (by omega)
 obtain ⟨n1, rn⟩ : ∃ n, n = parseV numE s.data.toList := ⟨_, rfl⟩
 obtain ⟨n1, a1, e1⟩ := n1
 obtain ⟨n2, rm⟩ : ∃ n, n = parseV numE t.data.toList := ⟨_, rfl⟩
 obtain ⟨n2, a2, e2⟩ := n2
 have ls : s.data.toList.length ≤ 1000 := by rw [str_len]; omega
 have lt : t.data.toList.length ≤ 1000 := by rw [str_len]; omega
 have k1 := fun W hb => KP0.out s.data.toList (by unfold maxLen; omega) n1 a1 e1 rn.symm W hb
 have k2 := fun W hb => KP0.out t.data.toList (by unfold maxLen; omega) n2 a2 e2 rm.symm W hb
 rw [str_back] at k1 k2
 have gA : e1 = 0 → parseV numE (parA s.data.toList) = (n1, 0, 0) ∨ (parseV numE (parA s.data.toList)).2.2 = 6 := fun h0 => by subst h0; exact parens_A numE_or tokens_in ls rn.symm
 have gB : ∀ c, (c = 124 ∨ c = 44) → e1 = 0 → e2 = 0 → depN 200 n1 ≤ 190 → depN 200 n2 ≤ 190 → parseV numE (parB c s.data.toList t.data.toList) = (.mk (kindC c) [] [n1, n2], 0, 0) ∨ (parseV numE (parB c s.data.toList t.data.toList)).2.2 = 6 := fun c hc h0 h0' d1 d2 => by
  subst h0; subst h0'; exact parens_B numE_or tokens_in hc ls lt rn.symm rm.symm d1 d2
 obtain ⟨X1, hX1⟩ : ∃ X, X = toY n1 := ⟨_, rfl⟩
 obtain ⟨X2, hX2⟩ : ∃ X, X = toY n2 := ⟨_, rfl⟩
 rw [← hX1] at k1
 rw [← hX2] at k2
 have K1 := Lib.hid k1
 have K2 := Lib.hid k2
 have GA := Lib.hid gA
 have GB := Lib.hid gB
 have RX1 := Lib.hid hX1
 have RX2 := Lib.hid hX2
 have LS := Lib.hid ls
 have LT := Lib.hid lt
 clear k1 k2 gA gB hX1 hX2 rn rm ls lt
 have SZ := Lib.hid (show s.size ≤ 1000 by omega)
 have TZ := Lib.hid (show t.size ≤ 1000 by omega)
 clear hs1 ht1
 go_wp2_with (go_at_call 9; with_reducible refine (K1.out _ B0.out).mono ?_)
 rintro x w1 ⟨⟨A1, c1, rfl, hk1, hb1⟩, hy1⟩
 obtain ⟨V1, Q1, P1, s1⟩ := pa_new hk1 hb1
 have B1 := Lib.hid (B0.out.trans (s1.mono B0.out.size))
 clear hk1 hb1 s1 B0
 simp only [yAgg]
 go_upto_region 5 with fail
 rw [Q1.out]
 clear Q1
 go_wp2_with (go_at_call 9; with_reducible refine (K2.out _ B1.out).mono ?_)
 rintro x w2 ⟨⟨A2, c2, rfl, hk2, hb2⟩, hy2⟩
 obtain ⟨V2, Q2, P2, s2⟩ := pa_new hk2 hb2
 have B2 := Lib.hid (B1.out.trans (s2.mono B1.out.size))
 have P1 := Lib.hid (P1.out.below s2)
 clear hk2 hb2 s2 B1
 simp only [yAgg]
 go_upto_region 6 with fail
 rw [Q2.out]
 clear Q2 z1 z2 K1 K2
 generalize w1.heap.size = b1 at P1 ⊢
 generalize w2.heap.size = b2 at P2 ⊢
 have D1 := Lib.hid (fun (W : World) (A : Option Addr) (c : Nat) (h : YT W X1 A c) => yDepthTop X1 A c W hy1 h)
 have D2 := Lib.hid (fun (W : World) (A : Option Addr) (c : Nat) (h : YT W X2 A c) => yDepthTop X2 A c W hy2 h)
 have S1 := Lib.hid (fun (A : Option Addr) (c : Nat) (B : Option Addr) (d : Nat) (W : World) (h : YT W X1 A c) (h' : YT W X1 B d) => ysame_any hy1 A c B d W h h')
 have S2 := Lib.hid (fun (A : Option Addr) (c : Nat) (B : Option Addr) (d : Nat) (W : World) (h : YT W X2 A c) (h' : YT W X2 B d) => ysame_any hy2 A c B d W h h')
 clear hy1 hy2
 obtain ⟨d1, hd1⟩ : ∃ d, d = depY 200 X1 := ⟨_, rfl⟩
 obtain ⟨d2, hd2⟩ : ∃ d, d = depY 200 X2 := ⟨_, rfl⟩
 rw [← hd1] at D1
 rw [← hd2] at D2
 have E1 := Lib.hid (show d1 = depN 200 n1 by rw [hd1, RX1.out, depY_to])
 have E2 := Lib.hid (show d2 = depN 200 n2 by rw [hd2, RX2.out, depY_to])
 clear hd1 hd2
 simp only [yAgg] at D1 D2 S1 S2
 obtain ⟨f0, f1, f2⟩ := P1.out.all
 obtain ⟨g0, g1, g2⟩ := P2.out.all
 clear f0 f1 f2 g0 g1 g2
 by_cases h1 : e1 = 0
 case neg =>
  have x0 : ((e1 : Int) == 0) = false := beq_false_of_ne (by omega)
  have x1 : ¬ (e1 : Int) = 0 := by omega
  clear h1
  go_wp2
  go_ret
  exact ⟨rfl, B2.out⟩
 subst h1
 by_cases h2 : e2 = 0
 case neg =>
  have x0 : ((e2 : Int) == 0) = false := beq_false_of_ne (by omega)
  have x1 : ¬ (e2 : Int) = 0 := by omega
  clear h2
  go_wp2
  go_ret
  exact ⟨rfl, B2.out⟩
 subst h2
 obtain ⟨f0, f1, f2⟩ := P1.out.all
 obtain ⟨g0, g1, g2⟩ := P2.out.all
 by_cases h3 : 190 < d1
 ·have z3 : decide ((190 : Int) < (d1 : Int)) = true := decide_eq_true (by omega)
  go_wp2_with (go_at_call 10; with_reducible refine (D1.out _ A1 c1 P1.out.kids).mono ?_)
  rintro x w3 ⟨rfl, hb3⟩
  have B3 := Lib.hid (B2.out.trans (hb3.mono B2.out.size))
  clear hb3
  go_wp2
  go_ret
  exact ⟨rfl, B3.out⟩
 have z3 : decide ((190 : Int) < (d1 : Int)) = false := decide_eq_false (by omega)
 go_wp2_with (go_at_call 10; with_reducible refine (D1.out _ A1 c1 P1.out.kids).mono ?_)
 rintro x w3 ⟨rfl, hb3⟩
 have B2 := Lib.hid (B2.out.trans (hb3.mono B2.out.size))
 have P1 := Lib.hid (P1.out.below hb3)
 have P2 := Lib.hid (P2.out.below hb3)
 clear hb3 f0 f1 f2 g0 g1 g2
 obtain ⟨f0, f1, f2⟩ := P1.out.all
 obtain ⟨g0, g1, g2⟩ := P2.out.all
 by_cases h4 : 190 < d2
 ·have z4 : decide ((190 : Int) < (d2 : Int)) = true := decide_eq_true (by omega)
  go_wp2_with (go_at_call 10; with_reducible refine (D2.out _ A2 c2 P2.out.kids).mono ?_)
  rintro x w4 ⟨rfl, hb4⟩
  have B4 := Lib.hid (B2.out.trans (hb4.mono B2.out.size))
  clear hb4
  go_wp2
  go_ret
  exact ⟨rfl, B4.out⟩
 have z4 : decide ((190 : Int) < (d2 : Int)) = false := decide_eq_false (by omega)
 go_wp2_with (go_at_call 10; with_reducible refine (D2.out _ A2 c2 P2.out.kids).mono ?_)
 rintro x w4 ⟨rfl, hb4⟩
 have B2 := Lib.hid (B2.out.trans (hb4.mono B2.out.size))
 have P1 := Lib.hid (P1.out.below hb4)
 have P2 := Lib.hid (P2.out.below hb4)
 clear hb4 f0 f1 f2 g0 g1 g2
 go_upto_region 8 with fail
 clear z3 z4 D1 D2
 have hA := GA.out (by trivial)
 have hB := GB.out 124 (.inl rfl) (by trivial) (by trivial) (by rw [← E1.out]; omega) (by rw [← E2.out]; omega)
 have hC := GB.out 44 (.inr rfl) (by trivial) (by trivial) (by rw [← E1.out]; omega) (by rw [← E2.out]; omega)
 clear GA GB h3 h4 E1 E2
 obtain ⟨n3, r3⟩ : ∃ r, r = parseV numE (parA s.data.toList) := ⟨_, rfl⟩
 obtain ⟨n3, a3, e3⟩ := n3
 obtain ⟨n4, r4⟩ : ∃ r, r = parseV numE (parB 124 s.data.toList t.data.toList) := ⟨_, rfl⟩
 obtain ⟨n4, a4, e4⟩ := n4
 obtain ⟨n5, r5⟩ : ∃ r, r = parseV numE (parB 44 s.data.toList t.data.toList) := ⟨_, rfl⟩
 obtain ⟨n5, a5, e5⟩ := n5
 rw [← r3] at hA
 rw [← r4] at hB
 rw [← r5] at hC
 have k3 := fun W hb => KP0.out (parA s.data.toList) (len_A LS.out) n3 a3 e3 r3.symm W hb
 have k4 := fun W hb => KP0.out (parB 124 s.data.toList t.data.toList) (len_B LS.out LT.out) n4 a4 e4 r4.symm W hb
 have k5 := fun W hb => KP0.out (parB 44 s.data.toList t.data.toList) (len_B LS.out LT.out) n5 a5 e5 r5.symm W hb
 rw [← bytes_A, str_back] at k3
 rw [← bytes_B, str_back] at k4 k5
 have hA' : e3 ≠ 6 → toY n3 = X1 ∧ e3 = 0 := fun h => by
  rcases hA with hA | hA
  ·rw [Prod.mk.injEq, Prod.mk.injEq] at hA; rw [RX1.out, hA.1]; exact ⟨rfl, hA.2.2⟩
  ·exact absurd hA h
 have hB' : e4 ≠ 6 → toY n4 = .mk 15 [] [X1, X2] ∧ e4 = 0 := fun h => by
  rcases hB with hB | hB
  ·rw [Prod.mk.injEq, Prod.mk.injEq] at hB; rw [RX1.out, RX2.out, hB.1]; exact ⟨by simp [toY, toYs, kindC], hB.2.2⟩
  ·exact absurd hB h
 have hC' : e5 ≠ 6 → toY n5 = .mk 16 [] [X1, X2] ∧ e5 = 0 := fun h => by
  rcases hC with hC | hC
  ·rw [Prod.mk.injEq, Prod.mk.injEq] at hC; rw [RX1.out, RX2.out, hC.1]; exact ⟨by simp [toY, toYs, kindC], hC.2.2⟩
  ·exact absurd hC h
 clear hA hB hC RX1 RX2 r3 r4 r5
 generalize toY n3 = X3 at k3 hA'
 generalize toY n4 = X4 at k4 hB'
 generalize toY n5 = X5 at k5 hC'
 have K3 := Lib.hid k3
 have K4 := Lib.hid k4
 have K5 := Lib.hid k5
 have HA := Lib.hid hA'
 have HB := Lib.hid hB'
 have HC := Lib.hid hC'
 clear k3 k4 k5 hA' hB' hC' KP0 LS LT
 have y1 := SZ.out
 have y2 := TZ.out
 have u1 : ¬ 9223372036854775807 < 2 + s.size := by omega
 have u2 : ¬ 9223372036854775807 < 2 + s.size + 9 := by omega
 have u3 : ¬ 9223372036854775807 < 1 + s.size := by omega
 have u4 : ¬ 9223372036854775807 < 1 + s.size + 4 := by omega
 have u5 : ¬ 9223372036854775807 < 1 + s.size + 4 + t.size := by omega
 have u6 : ¬ 9223372036854775807 < 1 + s.size + 4 + t.size + 2 := by omega
 clear y1 y2
 go_wp2_with (go_at_call 9; with_reducible refine (K3.out _ B2.out).mono ?_)
 rintro x w3 ⟨⟨A3, c3, rfl, hk3, hb3⟩, hy3⟩
 obtain ⟨V3, Q3, P3, s3⟩ := pa_new hk3 hb3
 have B3 := Lib.hid (B2.out.trans (s3.mono B2.out.size))
 have P1 := Lib.hid (P1.out.below s3)
 have P2 := Lib.hid (P2.out.below s3)
 clear hk3 hb3 s3 B2 hy3
 simp only [yAgg]
 go_upto_region 9 with fail
 rw [Q3.out]
 clear Q3
 generalize w3.heap.size = b3 at P3 ⊢
 go_wp2_with (go_at_call 9; with_reducible refine (K4.out _ B3.out).mono ?_)
 rintro x w4 ⟨⟨A4, c4, rfl, hk4, hb4⟩, hy4⟩
 obtain ⟨V4, Q4, P4, s4⟩ := pa_new hk4 hb4
 have B4 := Lib.hid (B3.out.trans (s4.mono B3.out.size))
 have P1 := Lib.hid (P1.out.below s4)
 have P2 := Lib.hid (P2.out.below s4)
 have P3 := Lib.hid (P3.out.below s4)
 clear hk4 hb4 s4 B3 hy4
 simp only [yAgg]
 go_upto_region 10 with fail
 rw [Q4.out]
 clear Q4
 generalize w4.heap.size = b4 at P4 ⊢
 go_wp2_with (go_at_call 9; with_reducible refine (K5.out _ B4.out).mono ?_)
 rintro x w5 ⟨⟨A5, c5, rfl, hk5, hb5⟩, hy5⟩
 obtain ⟨V5, Q5, P5, s5⟩ := pa_new hk5 hb5
 have B5 := Lib.hid (B4.out.trans (s5.mono B4.out.size))
 have P1 := Lib.hid (P1.out.below s5)
 have P2 := Lib.hid (P2.out.below s5)
 have P3 := Lib.hid (P3.out.below s5)
 have P4 := Lib.hid (P4.out.below s5)
 clear hk5 hb5 s5 B4 hy5
 simp only [yAgg]
 go_upto_region 11 with fail
 rw [Q5.out]
 clear Q5
 generalize w5.heap.size = b5 at P5 ⊢
 clear u1 u2 u3 u4 u5 u6 SZ TZ K3 K4 K5
 by_cases g3 : e3 = 6
 ·have y3 : ((e3 : Int) == 6) = true := by rw [g3]; rfl
  clear g3
  go_wp2
  go_ret
  exact ⟨rfl, B5.out⟩
 obtain ⟨hX3, he3⟩ := HA.out g3
 subst he3
 by_cases g4 : e4 = 6
 ·have y4 : ((e4 : Int) == 6) = true := by rw [g4]; rfl
  clear g4
  go_wp2
  go_ret
  exact ⟨rfl, B5.out⟩
 obtain ⟨hX4, he4⟩ := HB.out g4
 subst he4
 by_cases g5 : e5 = 6
 ·have y5 : ((e5 : Int) == 6) = true := by rw [g5]; rfl
  clear g5
  go_wp2
  go_ret
  exact ⟨rfl, B5.out⟩
 obtain ⟨hX5, he5⟩ := HC.out g5
 subst he5
 clear g3 g4 g5 HA HB HC
 have P3 := Lib.hid (show YP V5 b3 X1 A3 c3 by rw [← hX3]; exact P3.out)
 have p4 := P4.out
 have p5 := P5.out
 rw [hX4] at p4
 rw [hX5] at p5
 obtain ⟨q4, o4, A41, c41, A42, c42, rfl, d41, d42⟩ := two_kids p4
 obtain ⟨q5, o5, A51, c51, A52, c52, rfl, d51, d52⟩ := two_kids p5
 have HH := Lib.hid (show PaH w V5 X1 X2 (⟨b1, b2, b3, b4, b5, c1, c2, c3, c4, c5, q4, o4, q5, o5, c41, c42, c51, c52, A1, A2, A3, A41, A42, A51, A52⟩ : PaC) from ⟨B5.out, P1.out, P2.out, P3.out, p4, p5, d41, d42, d51, d52⟩)
 have l4 := HH.out.s4
 have l5 := HH.out.s5
 simp only at l4 l5
 clear hX3 hX4 hX5 p4 p5 d41 d42 d51 d52 P1 P2 P3 P4 P5
 go_upto_region 15 with fail
 clear l4 l5
 go_cut [21] (fun v wx => v = .bool true ∧ PaH w wx X1 X2 (⟨b1, b2, b3, b4, b5, c1, c2, c3, c4, c5, q4, o4, q5, o5, c41, c42, c51, c52, A1, A2, A3, A41, A42, A51, A52⟩ : PaC))
 case first =>
  have HD := Lib.hid (HH.out.call (Below.refl _ V5).drew)
  clear HH B5
  refine wp_region_held_drew (S := (fun Y => PaH w Y X1 X2 (⟨b1, b2, b3, b4, b5, c1, c2, c3, c4, c5, q4, o4, q5, o5, c41, c42, c51, c52, A1, A2, A3, A41, A42, A51, A52⟩ : PaC))) (by kernel_rfl) HD.out (fun hS0 => ?_)
  refine tk (i := 0) (v := yAgg X1 (.slice A3 X1.kids.length c3)) (y := yields_kd (fun _ H => range_of H.p3.heap) (.tmp 12)) (s := hS0) (h := ?_)
  refine tk (i := 1) (v := yAgg X1 (.slice A1 X1.kids.length c1)) (y := yields_kd (fun _ H => range_of H.p1.heap) (.tmp 6)) (s := hS0) (h := ?_)
  try simp only [yAgg]
  refine st (i := 2) (h := ?_)
  intro K hK
  go_simp
  go_at_call 12
  with_reducible refine (S1.out _ _ _ _ _ hS0.p3.kids hS0.p1.kids).mono ?_
  rintro x w6 ⟨rfl, hb⟩
  try dsimp only
  refine hK.out _ _ (hS0.call hb) (fun hS0 => ?_)
  clear hK K
  refine tk (i := 3) (v := Value.bool true) (s := hS0) (h := ?_)
  refine tk (i := 4) (v := Value.pointer (some ⟨b4, 2, none⟩)) (s := hS0) (h := ?_)
  refine tk (i := 5) (v := Value.slice (some ⟨q4, o4, none⟩) 2 c4) (y := .inl ⟨by kernel_rfl, fun _ H => by have cX := H.s4; go_simp⟩) (s := hS0) (h := ?_)
  refine tk (i := 6) (v := Value.pointer (some ⟨q4, o4, none⟩)) (s := hS0) (h := ?_)
  refine tk (i := 7) (v := yAgg X1 (.slice A41 X1.kids.length c41)) (y := yields_kd (fun _ H => H.d41.range) (.tmp 126)) (s := hS0) (h := ?_)
  refine tk (i := 8) (v := yAgg X1 (.slice A1 X1.kids.length c1)) (y := yields_kd (fun _ H => range_of H.p1.heap) (.tmp 6)) (s := hS0) (h := ?_)
  try simp only [yAgg]
  refine st (i := 9) (h := ?_)
  intro K hK
  go_simp
  go_at_call 12
  with_reducible refine (S1.out _ _ _ _ _ hS0.d41.kids hS0.p1.kids).mono ?_
  rintro x w7 ⟨rfl, hb⟩
  try dsimp only
  refine hK.out _ _ (hS0.call hb) (fun hS0 => ?_)
  clear hK K
  refine tk (i := 10) (v := Value.bool true) (s := hS0) (h := ?_)
  refine tk (i := 11) (v := Value.bool true) (s := hS0) (h := ?_)
  refine tk (i := 12) (v := Value.pointer (some ⟨b4, 2, none⟩)) (s := hS0) (h := ?_)
  refine tk (i := 13) (v := Value.slice (some ⟨q4, o4, none⟩) 2 c4) (y := .inl ⟨by kernel_rfl, fun _ H => by have cX := H.s4; go_simp⟩) (s := hS0) (h := ?_)
  refine tk (i := 14) (v := Value.pointer (some ⟨q4, o4 + 3, none⟩)) (s := hS0) (h := ?_)
  refine tk (i := 15) (v := yAgg X2 (.slice A42 X2.kids.length c42)) (y := yields_kd (fun _ H => H.d42.range) (.tmp 134)) (s := hS0) (h := ?_)
  refine tk (i := 16) (v := yAgg X2 (.slice A2 X2.kids.length c2)) (y := yields_kd (fun _ H => range_of H.p2.heap) (.tmp 9)) (s := hS0) (h := ?_)
  try simp only [yAgg]
  refine st (i := 17) (h := ?_)
  intro K hK
  go_simp
  go_at_call 12
  with_reducible refine (S2.out _ _ _ _ _ hS0.d42.kids hS0.p2.kids).mono ?_
  rintro x w8 ⟨rfl, hb⟩
  try dsimp only
  refine hK.out _ _ (hS0.call hb) (fun hS0 => ?_)
  clear hK K
  refine tk (i := 18) (v := Value.bool true) (s := hS0) (h := ?_)
  have HF := Lib.hid hS0
  refine st (i := 19) (h := ?_)
  intro K hK
  go_simp
  try dsimp only
  refine hK.out _ _ hS0 (fun hS0 => ?_)
  clear hK K
  refine wpAnyH_done (by kernel_rfl) ?_ _
  go_wp2
  go_meet
  exact ⟨rfl, HF.out⟩
 case rest =>
  obtain ⟨rfl, hpa⟩ := hcut
  have HD := Lib.hid (hpa.call (Below.refl _ wc).drew)
  clear hpa HH B5
  go_upto_region 16 with fail
  refine wp_region_held_drew (S := (fun Y => PaH w Y X1 X2 (⟨b1, b2, b3, b4, b5, c1, c2, c3, c4, c5, q4, o4, q5, o5, c41, c42, c51, c52, A1, A2, A3, A41, A42, A51, A52⟩ : PaC))) (by kernel_rfl) HD.out (fun hS0 => ?_)
  refine tk (i := 0) (v := Value.bool true) (s := hS0) (h := ?_)
  refine tk (i := 1) (v := Value.bool true) (s := hS0) (h := ?_)
  refine tk (i := 2) (v := Value.bool true) (s := hS0) (h := ?_)
  refine tk (i := 3) (v := Value.bool true) (s := hS0) (h := ?_)
  refine tk (i := 4) (v := Value.bool true) (s := hS0) (h := ?_)
  refine tk (i := 5) (v := Value.pointer (some ⟨b4, 0, none⟩)) (s := hS0) (h := ?_)
  refine tk (i := 6) (v := Value.int .i64 15) (y := .inl ⟨by kernel_rfl, fun _ H => by have cX := H.n4; go_simp⟩) (s := hS0) (h := ?_)
  refine tk (i := 7) (v := Value.bool true) (s := hS0) (h := ?_)
  refine tk (i := 8) (v := Value.bool true) (s := hS0) (h := ?_)
  refine tk (i := 9) (v := Value.bool true) (s := hS0) (h := ?_)
  refine tk (i := 10) (v := Value.pointer (some ⟨b5, 0, none⟩)) (s := hS0) (h := ?_)
  refine tk (i := 11) (v := Value.int .i64 16) (y := .inl ⟨by kernel_rfl, fun _ H => by have cX := H.n5; go_simp⟩) (s := hS0) (h := ?_)
  refine tk (i := 12) (v := Value.bool true) (s := hS0) (h := ?_)
  refine tk (i := 13) (v := Value.bool true) (s := hS0) (h := ?_)
  refine tk (i := 14) (v := Value.bool true) (s := hS0) (h := ?_)
  refine tk (i := 15) (v := Value.pointer (some ⟨b5, 2, none⟩)) (s := hS0) (h := ?_)
  refine tk (i := 16) (v := Value.slice (some ⟨q5, o5, none⟩) 2 c5) (y := .inl ⟨by kernel_rfl, fun _ H => by have cX := H.s5; go_simp⟩) (s := hS0) (h := ?_)
  refine tk (i := 17) (v := Value.pointer (some ⟨q5, o5, none⟩)) (s := hS0) (h := ?_)
  refine tk (i := 18) (v := yAgg X1 (.slice A51 X1.kids.length c51)) (y := yields_kd (fun _ H => H.d51.range) (.tmp 156)) (s := hS0) (h := ?_)
  refine tk (i := 19) (v := yAgg X1 (.slice A1 X1.kids.length c1)) (y := yields_kd (fun _ H => range_of H.p1.heap) (.tmp 6)) (s := hS0) (h := ?_)
  try simp only [yAgg]
  refine st (i := 20) (h := ?_)
  intro K hK
  go_simp
  go_at_call 12
  with_reducible refine (S1.out _ _ _ _ _ hS0.d51.kids hS0.p1.kids).mono ?_
  rintro x w6 ⟨rfl, hb⟩
  try dsimp only
  refine hK.out _ _ (hS0.call hb) (fun hS0 => ?_)
  clear hK K
  refine tk (i := 21) (v := Value.bool true) (s := hS0) (h := ?_)
  refine tk (i := 22) (v := Value.bool true) (s := hS0) (h := ?_)
  refine tk (i := 23) (v := Value.pointer (some ⟨b5, 2, none⟩)) (s := hS0) (h := ?_)
  refine tk (i := 24) (v := Value.slice (some ⟨q5, o5, none⟩) 2 c5) (y := .inl ⟨by kernel_rfl, fun _ H => by have cX := H.s5; go_simp⟩) (s := hS0) (h := ?_)
  refine tk (i := 25) (v := Value.pointer (some ⟨q5, o5 + 3, none⟩)) (s := hS0) (h := ?_)
  refine tk (i := 26) (v := yAgg X2 (.slice A52 X2.kids.length c52)) (y := yields_kd (fun _ H => H.d52.range) (.tmp 164)) (s := hS0) (h := ?_)
  refine tk (i := 27) (v := yAgg X2 (.slice A2 X2.kids.length c2)) (y := yields_kd (fun _ H => range_of H.p2.heap) (.tmp 9)) (s := hS0) (h := ?_)
  try simp only [yAgg]
  refine st (i := 28) (h := ?_)
  intro K hK
  go_simp
  go_at_call 12
  with_reducible refine (S2.out _ _ _ _ _ hS0.d52.kids hS0.p2.kids).mono ?_
  rintro x w7 ⟨rfl, hb⟩
  try dsimp only
  refine hK.out _ _ (hS0.call hb) (fun hS0 => ?_)
  clear hK K
  refine tk (i := 29) (v := Value.bool true) (s := hS0) (h := ?_)
  have HF := Lib.hid hS0
  refine st (i := 30) (h := ?_)
  intro K hK
  go_simp
  try dsimp only
  refine hK.out _ _ hS0 (fun hS0 => ?_)
  clear hK K
  refine wpAnyH_done (by kernel_rfl) ?_ _
  go_wp2
  go_ret
  exact ⟨rfl, HF.out.below⟩
end Go.Proofs.YtbgmdkjhegacjaaGreatDoor
