/-
  Plain Lean: a piece as lex looks for it, by reading it in quotes, is the piece that begins there (chapter 14). No program in sight.
-/
import Derived.Test.YtnbfikfngekfoaaDoorLexP
import Derived.Test.YtnbfikfngekfoaaDoorUtfP
namespace Go.Proofs.YtnbfikfngekfoaaDoor

/-- n bytes, tried as a text in quotes -/
def tryR (l : List UInt8) (n : Nat) : Option (List UInt8) :=
  if n ≤ l.length ∧ (readP (34 :: (l.take n ++ [34]))).2.2 = 0 ∧ (readP (34 :: (l.take n ++ [34]))).2.1 = n + 2 ∧ (explode (readP (34 :: (l.take n ++ [34]))).1).length = 1 then some (readP (34 :: (l.take n ++ [34]))).1 else none
def tryAll (l : List UInt8) : List Nat → List UInt8 × Nat
  | [] => ([], 0)
  | n :: r => match tryR l n with
    | some t => (t, n)
    | none => tryAll l r
def sizesR (l : List UInt8) : List Nat := if bt l 1 = 117 then [12, 6] else [2]
def pieceR (l : List UInt8) : List UInt8 × Nat := tryAll l (sizesR l)

theorem errP_cons2 (p : Pc) (ps : List Pc) : errP (p :: ps) = if p.err ≠ 0 then p.err else errP ps := by
  unfold errP
  rw [List.find?_cons]
  by_cases h : p.err = 0
  · simp [h]
  · rw [show (p.err != 0) = true from bne_iff_ne.2 h, if_pos h]; rfl
theorem read_quoted (z : List UInt8) : readP (34 :: z) = if errP (piecesP z) ≠ 0 then ([], 1 + sizeP (piecesP z), errP (piecesP z)) else (textP (piecesP z), 2 + sizeP (piecesP z), 0) := by
  unfold readP
  rw [if_neg (by rw [bt_cons0]; simp)]; rfl
theorem pieces_end : piecesP [34] = [⟨0, 0, 0⟩] := by decide +kernel

section
variable (l : List UInt8) (n : Nat)
theorem try_yes (p : Nat) (h0 : 0 < n) (hn : n ≤ l.length) (h : nextP (l.take n ++ [34]) = ⟨p, n, 0⟩) : tryR l n = some (enc (p : Int)) := by
  have hz : (l.take n ++ [34]).drop n = [34] := by rw [List.drop_append]; simp [hn]
  have hp : piecesP (l.take n ++ [34]) = [⟨p, n, 0⟩, ⟨0, 0, 0⟩] := by
    rw [piecesP_cons _ (by rw [h]; intro hl; rcases hl with h1 | h1 <;> simp only at h1 <;> omega), h]
    simp only
    rw [hz, pieces_end]
  have hpt : isPt (p : Int) = true := by
    have := (nextP_ok (l.take n ++ [34])).2.2
    rw [h] at this; exact this
  have hr : readP (34 :: (l.take n ++ [34])) = (enc (p : Int), n + 2, 0) := by
    rw [read_quoted, hp]
    have e1 : errP [⟨p, n, 0⟩, ⟨0, 0, 0⟩] = 0 := by rw [errP_cons2, if_neg (by simp), errP_cons2, if_neg (by simp)]; rfl
    rw [e1, if_neg (by simp), textP_cons, textP_cons, textP_nil, sizeP_cons, sizeP_cons, sizeP_nil]
    simp only [Nat.lt_irrefl, if_false, List.append_nil]
    rw [if_pos h0]
    simp only [Prod.mk.injEq, and_true, true_and]; omega
  have he : explode (enc (p : Int)) = [(p : Int)] := by
    have := explode_enc (p : Int) hpt []
    rw [List.append_nil, explode_nil [] rfl] at this; exact this
  unfold tryR
  generalize readP (34 :: (l.take n ++ [34])) = R at hr
  subst hr
  have hc : n ≤ l.length ∧ (0 : Nat) = 0 ∧ n + 2 = n + 2 ∧ (explode (enc (p : Int))).length = 1 := ⟨hn, rfl, rfl, by rw [he]; rfl⟩
  simp only [hc, and_self, if_true]
theorem try_far (h : l.length < n) : tryR l n = none := by unfold tryR; rw [if_neg (fun h2 => by omega)]
theorem try_bad (h : (nextP (l.take n ++ [34])).err ≠ 0) : tryR l n = none := by
  have hp : piecesP (l.take n ++ [34]) = [nextP (l.take n ++ [34])] := piecesP_last _ (.inl h)
  have he : errP (piecesP (l.take n ++ [34])) ≠ 0 := by rw [hp, errP_cons2, if_pos h]; exact h
  unfold tryR
  rw [read_quoted, if_pos he]
  exact if_neg (fun h2 => he h2.2.1)
theorem try_two (p m : Nat) (h0 : 0 < m) (hm : m < n) (hn : n ≤ l.length) (h : nextP (l.take n ++ [34]) = ⟨p, m, 0⟩) : tryR l n = none := by
  generalize hz : l.take n ++ [34] = z at h
  have hzl : z.length = n + 1 := by rw [← hz, List.length_append, List.length_take, Nat.min_eq_left hn]; rfl
  have hp : piecesP z = ⟨p, m, 0⟩ :: piecesP (z.drop m) := by
    rw [piecesP_cons _ (by rw [h]; intro hl; rcases hl with h1 | h1 <;> simp only at h1 <;> omega), h]
  have hpt : isPt (p : Int) = true := by
    have := (nextP_ok z).2.2
    rw [h] at this; exact this
  unfold tryR
  rw [hz, read_quoted]
  by_cases he : errP (piecesP z) ≠ 0
  · rw [if_pos he]
    exact if_neg (fun h2 => he h2.2.1)
  rw [if_neg he]
  refine if_neg (fun h2 => ?_)
  obtain ⟨_, _, h3, h4⟩ := h2
  simp only at h3 h4
  rw [hp, errP_cons2, if_neg (by simp)] at he
  rw [hp, sizeP_cons] at h3
  simp only at h3
  by_cases hl : lastP (nextP (z.drop m))
  · rw [piecesP_last _ hl] at he h3
    rcases hl with h5 | h5
    · rw [errP_cons2, if_pos h5] at he; exact he h5
    · rw [sizeP_cons, h5, sizeP_nil] at h3; omega
  · have hq := (nextP_ok (z.drop m)).2.2
    rw [hp, piecesP_cons _ hl, textP_cons, textP_cons] at h4
    have hs : 0 < (nextP (z.drop m)).size := Nat.pos_of_ne_zero (fun e => hl (.inr e))
    simp only at h4
    rw [if_pos h0, if_pos hs, explode_enc _ hpt, explode_enc _ hq] at h4
    simp at h4
end

theorem numbered_ext (a x : List UInt8) (ha : 12 ≤ a.length) (h : ¬ (fourL (a.drop 2)).2 < 4) : numberedP (a ++ x) = numberedP a := by
  rw [numbered_low _ (by rw [List.length_append]; omega), numbered_low _ (by omega)]
  have e1 : (a ++ x).drop 2 = a.drop 2 ++ x := List.drop_append_of_le_length (by omega)
  have e2 : (a ++ x).drop 6 = a.drop 6 ++ x := List.drop_append_of_le_length (by omega)
  have e3 : (a ++ x).drop 8 = a.drop 8 ++ x := List.drop_append_of_le_length (by omega)
  rw [e1, e2, e3, four_app _ _ (by rw [List.length_drop]; omega), lowP_app _ _ (by rw [List.length_drop]; omega), four_app _ _ (by rw [List.length_drop]; omega), if_neg h, if_neg h]
theorem four_cut (l : List UInt8) (k : Nat) (hk : 6 ≤ k) (hl : k ≤ l.length) (x : List UInt8) : fourL ((l.take k ++ x).drop 2) = fourL (l.drop 2) := by
  have e1 : (l.take k ++ x).drop 2 = (l.take k).drop 2 ++ x := List.drop_append_of_le_length (by rw [List.length_take]; omega)
  have e2 : l.drop 2 = (l.take k).drop 2 ++ l.drop k := by
    conv => lhs; rw [← List.take_append_drop k l]
    exact List.drop_append_of_le_length (by rw [List.length_take]; omega)
  rw [e1, e2, four_app _ _ (by rw [List.length_drop, List.length_take]; omega), four_app _ _ (by rw [List.length_drop, List.length_take]; omega)]
theorem numbered_bad (l : List UInt8) (h : (fourL (l.drop 2)).2 < 4) : (numberedP l).err ≠ 0 := by
  unfold numberedP; rw [if_pos h]; exact faultP_err _ _
theorem low_quote : lowP [34] = false := by decide +kernel
theorem esc_u (l : List UInt8) (h2 : 2 ≤ l.length) (h : bt l 1 = 117) : escapedP l = numberedP l := by
  unfold escapedP
  rw [if_neg (by omega), if_neg (by omega), if_neg (by omega), if_neg (by omega), if_neg (by omega), if_neg (by omega), if_neg (by omega), if_pos h]
theorem esc_plain (l m : List UInt8) (h2 : 2 ≤ l.length) (h2' : 2 ≤ m.length) (hm : bt m 1 = bt l 1) (h : bt l 1 ≠ 117) : ((escapedP l).err ≠ 0 ∧ (escapedP m).err ≠ 0) ∨ ∃ p, escapedP l = ⟨p, 2, 0⟩ ∧ escapedP m = ⟨p, 2, 0⟩ := by
  have A : ¬ l.length < 2 := by omega
  have B : ¬ m.length < 2 := by omega
  unfold escapedP
  rw [if_neg A, if_neg B, hm]
  by_cases a1 : bt l 1 = 34 ∨ bt l 1 = 92 ∨ bt l 1 = 47
  · rw [if_pos a1, if_pos a1]; exact .inr ⟨_, rfl, rfl⟩
  rw [if_neg a1, if_neg a1]
  by_cases a2 : bt l 1 = 98
  · rw [if_pos a2, if_pos a2]; exact .inr ⟨_, rfl, rfl⟩
  rw [if_neg a2, if_neg a2]
  by_cases a3 : bt l 1 = 102
  · rw [if_pos a3, if_pos a3]; exact .inr ⟨_, rfl, rfl⟩
  rw [if_neg a3, if_neg a3]
  by_cases a4 : bt l 1 = 110
  · rw [if_pos a4, if_pos a4]; exact .inr ⟨_, rfl, rfl⟩
  rw [if_neg a4, if_neg a4]
  by_cases a5 : bt l 1 = 114
  · rw [if_pos a5, if_pos a5]; exact .inr ⟨_, rfl, rfl⟩
  rw [if_neg a5, if_neg a5]
  by_cases a6 : bt l 1 = 116
  · rw [if_pos a6, if_pos a6]; exact .inr ⟨_, rfl, rfl⟩
  rw [if_neg a6, if_neg a6, if_neg h, if_neg h]
  exact .inl ⟨faultP_err _ _, faultP_err _ _⟩

theorem pieceR_eq (l : List UInt8) (h0 : bt l 0 = 92) : pieceR l = pieceP l := by
  have hl0 := len_of_bt (l := l) (k := 0) (by omega)
  have hz : ∀ n, 1 ≤ n → nextP (l.take n ++ [34]) = escapedP (l.take n ++ [34]) := fun n hn => nextP_eq' _ (by simp) (by rw [bt_app _ _ _ (by rw [List.length_take]; omega), bt_take _ _ _ hn]; exact h0)
  have hb1 : ∀ n, 2 ≤ n → n ≤ l.length → bt (l.take n ++ [34]) 1 = bt l 1 := fun n hn hl => by rw [bt_app _ _ _ (by rw [List.length_take]; omega), bt_take _ _ _ (by omega)]
  have hlen : ∀ n, n ≤ l.length → (l.take n ++ [34]).length = n + 1 := fun n hn => by rw [List.length_append, List.length_take, Nat.min_eq_left hn]; rfl
  unfold pieceR sizesR
  rcases Nat.lt_or_ge l.length 2 with h2 | h2
  · have hb : bt l 1 = 0 := bt_past _ _ (by omega)
    rw [if_neg (by omega)]
    unfold tryAll pieceP
    rw [try_far l 2 h2]
    have he : (escapedP l).err ≠ 0 := by unfold escapedP; rw [if_pos h2]; exact faultP_err _ _
    rw [if_neg he]; rfl
  by_cases hu : bt l 1 = 117
  · rw [if_pos hu]
    have e := esc_u l h2 hu
    by_cases h4 : (fourL (l.drop 2)).2 < 4
    · have hbad : ∀ n, 6 ≤ n → tryR l n = none := fun n hn => by
        rcases Nat.lt_or_ge l.length n with h5 | h5
        · exact try_far l n h5
        · refine try_bad l n ?_
          rw [hz n (by omega), esc_u _ (by rw [hlen n h5]; omega) (by rw [hb1 n (by omega) h5]; exact hu)]
          exact numbered_bad _ (by rw [four_cut l n hn h5]; exact h4)
      unfold tryAll tryAll pieceP
      rw [hbad 12 (by omega), hbad 6 (by omega), if_neg (by rw [e]; exact numbered_bad _ h4)]; rfl
    have h6 : 6 ≤ l.length := by have := (fourL_le (l.drop 2)).2.2; rw [List.length_drop] at this; omega
    have e6 : escapedP (l.take 6 ++ [34]) = if (fourL (l.drop 2)).1 < 55296 ∨ 57343 < (fourL (l.drop 2)).1 then ⟨(fourL (l.drop 2)).1, 6, 0⟩ else ⟨65533, 6, 0⟩ := by
      rw [esc_u _ (by rw [hlen 6 h6]; omega) (by rw [hb1 6 (by omega) h6]; exact hu), numbered_low _ (by rw [hlen 6 h6]; omega), four_cut l 6 (by omega) h6, if_neg h4]
      have : (l.take 6 ++ [34]).drop 6 = [34] := by rw [List.drop_append]; simp [h6]
      rw [this, low_quote]
      simp
    have e12 : 12 ≤ l.length → escapedP (l.take 12 ++ [34]) = numberedP l := fun h12 => by
      have h4' : ¬ (fourL ((l.take 12).drop 2)).2 < 4 := by
        have := four_cut l 12 (by omega) h12 []
        rw [List.append_nil] at this
        rw [this]; exact h4
      rw [esc_u _ (by rw [hlen 12 h12]; omega) (by rw [hb1 12 (by omega) h12]; exact hu), numbered_ext _ _ (by rw [List.length_take]; omega) h4']
      conv => rhs; rw [← List.take_append_drop 12 l]
      rw [numbered_ext _ _ (by rw [List.length_take]; omega) h4']
    have eN := numbered_low l h6
    rw [if_neg h4] at eN
    unfold tryAll tryAll pieceP
    rw [e]
    by_cases c1 : (fourL (l.drop 2)).1 < 55296 ∨ 57343 < (fourL (l.drop 2)).1
    · rw [if_pos c1] at eN e6
      have h12 : tryR l 12 = none := by
        rcases Nat.lt_or_ge l.length 12 with h5 | h5
        · exact try_far l 12 h5
        · exact try_two l 12 _ 6 (by omega) (by omega) h5 (by rw [hz 12 (by omega), e12 h5, eN])
      rw [h12, try_yes l 6 _ (by omega) h6 (by rw [hz 6 (by omega), e6]), eN]; rfl
    rw [if_neg c1] at eN e6
    by_cases c2 : (fourL (l.drop 2)).1 < 56320 ∧ lowP (l.drop 6) = true
    · rw [if_pos c2] at eN
      have h5 : 12 ≤ l.length := by have := lowP_len _ c2.2; rw [List.length_drop] at this; omega
      rw [try_yes l 12 _ (by omega) h5 (by rw [hz 12 (by omega), e12 h5, eN]), eN]; rfl
    · rw [if_neg c2] at eN
      have h12 : tryR l 12 = none := by
        rcases Nat.lt_or_ge l.length 12 with h5 | h5
        · exact try_far l 12 h5
        · exact try_two l 12 _ 6 (by omega) (by omega) h5 (by rw [hz 12 (by omega), e12 h5, eN])
      rw [h12, try_yes l 6 _ (by omega) h6 (by rw [hz 6 (by omega), e6]), eN]; rfl
  · rw [if_neg hu]
    unfold tryAll pieceP
    rcases esc_plain l (l.take 2 ++ [34]) h2 (by rw [hlen 2 h2]; omega) (hb1 2 (by omega) h2) hu with ⟨h3, h4⟩ | ⟨p, h3, h4⟩
    · rw [try_bad l 2 (by rw [hz 2 (by omega)]; exact h4), if_neg h3]; rfl
    · rw [try_yes l 2 p (by omega) h2 (by rw [hz 2 (by omega)]; exact h4), h3]; rfl

end Go.Proofs.YtnbfikfngekfoaaDoor
