/-
  Plain Lean: how great a piece is, and how the pieces of a text follow each other (chapter 5). No program in sight.
-/
import Derived.Test.YtnbfikfngekfoaaDoorQuoT
namespace Go.Proofs.YtnbfikfngekfoaaDoor

/-- what every piece is -/
def okPc (p : Pc) : Prop := p.size ≤ 12 ∧ p.err ≤ 7 ∧ isPt (p.point : Int) = true
instance : DecidablePred okPc := fun p => inferInstanceAs (Decidable (p.size ≤ 12 ∧ p.err ≤ 7 ∧ isPt (p.point : Int) = true))
abbrev Pq := { p : Pc // okPc p }

theorem pt_small (p : Nat) (h : p < 55296) : isPt (p : Int) = true := by rw [isPt_iff]; omega

theorem faultP_ok (l : List UInt8) (n : Nat) (h : n ≤ 12) : okPc (faultP l n) := by
  refine ⟨h, ?_, pt_small 0 (by decide)⟩
  show (if l.length ≤ n then 5 else if 127 < bt l n then 7 else 2) ≤ 7
  (repeat' split) <;> omega
theorem faultP_err (l : List UInt8) (n : Nat) : (faultP l n).err ≠ 0 := by
  show (if l.length ≤ n then 5 else if 127 < bt l n then 7 else 2) ≠ 0
  (repeat' split) <;> omega
theorem faultP_size (l : List UInt8) (n : Nat) : (faultP l n).size = n := rfl

theorem numberedP_ok (l : List UInt8) : okPc (numberedP l) := by
  have h := fourL_le (l.drop 2)
  have g := fourL_le (l.drop 8)
  unfold numberedP
  split
  · exact faultP_ok _ _ (by omega)
  split
  · refine ⟨show 6 ≤ 12 by decide, show 0 ≤ 7 by decide, ?_⟩
    rw [isPt_iff]; simp only []; omega
  split
  · refine ⟨show 12 ≤ 12 by decide, show 0 ≤ 7 by decide, ?_⟩
    rw [isPt_iff]; simp only []; omega
  · exact ⟨by decide, by decide, by decide⟩

theorem numberedP_size (l : List UInt8) (h : (numberedP l).err = 0) : 6 ≤ (numberedP l).size ∧ (numberedP l).size ≤ l.length := by
  have k := fourL_le (l.drop 2)
  rw [List.length_drop] at k
  revert h
  unfold numberedP
  split
  · intro h; exact absurd h (faultP_err _ _)
  split
  · intro _; simp only []; omega
  split
  · intro _; simp only []; omega
  · intro _; simp only []; omega

theorem escapedP_ok (l : List UInt8) : okPc (escapedP l) := by
  unfold escapedP
  split
  · exact faultP_ok _ _ (by omega)
  split
  · rename_i h
    refine ⟨show 2 ≤ 12 by decide, show 0 ≤ 7 by decide, ?_⟩
    rw [isPt_iff]; simp only []; omega
  (repeat' split) <;> first | exact numberedP_ok l | exact faultP_ok _ _ (by omega) | exact ⟨by decide, by decide, by decide⟩

theorem escapedP_size (l : List UInt8) (h : (escapedP l).err = 0) : 2 ≤ (escapedP l).size ∧ (escapedP l).size ≤ l.length := by
  revert h
  unfold escapedP
  (repeat' split) <;> intro h <;> first
    | exact absurd h (faultP_err _ _)
    | (have := numberedP_size l h; omega)
    | (simp only []; omega)

theorem nextP_ok (l : List UInt8) : okPc (nextP l) := by
  unfold nextP
  split
  · exact faultP_ok _ _ (by omega)
  split
  · exact ⟨by decide, by decide, by decide⟩
  split
  · exact escapedP_ok l
  split
  · exact faultP_ok _ _ (by omega)
  split
  · exact ⟨Nat.le_trans (dec_le _).2 (by decide), show 0 ≤ 7 by decide, dec_pt _⟩
  split
  · rename_i hb
    refine faultP_ok _ _ ?_
    unfold beginsP at hb
    simp only [Bool.and_eq_true, decide_eq_true_eq] at hb
    omega
  · exact faultP_ok _ _ (by omega)

theorem nextP_size (l : List UInt8) (h : (nextP l).err = 0) : (nextP l).size ≤ l.length := by
  revert h
  unfold nextP
  split
  · intro h; exact absurd h (faultP_err _ _)
  rename_i h0
  split
  · intro _; exact Nat.zero_le _
  split
  · intro h; exact (escapedP_size l h).2
  split
  · intro h; exact absurd h (faultP_err _ _)
  split
  · intro _
    have := dec_n (l.take 4) (by rw [List.length_take]; omega)
    rw [List.length_take] at this
    simp only []; omega
  split
  · intro h; exact absurd h (faultP_err _ _)
  · intro h; exact absurd h (faultP_err _ _)

/-- is it the last piece? -/
def lastP (p : Pc) : Prop := p.err ≠ 0 ∨ p.size = 0
instance : DecidablePred lastP := fun p => inferInstanceAs (Decidable (p.err ≠ 0 ∨ p.size = 0))

theorem piecesF_more : ∀ (f g : Nat) (l : List UInt8), l.length < f → l.length < g → piecesF f l = piecesF g l
  | 0, _, _, h, _ => absurd h (Nat.not_lt_zero _)
  | _ + 1, 0, _, _, h => absurd h (Nat.not_lt_zero _)
  | f + 1, g + 1, l, hf, hg => by
    unfold piecesF
    by_cases h : (nextP l).err ≠ 0 ∨ (nextP l).size = 0
    · rw [if_pos h, if_pos h]
    · rw [if_neg h, if_neg h]
      have hs := nextP_size l (by omega)
      rw [piecesF_more f g (l.drop (nextP l).size) (by rw [List.length_drop]; omega) (by rw [List.length_drop]; omega)]

theorem piecesP_eq (l : List UInt8) : piecesP l = if lastP (nextP l) then [nextP l] else nextP l :: piecesP (l.drop (nextP l).size) := by
  show piecesF (l.length + 1) l = _
  unfold piecesF
  by_cases h : (nextP l).err ≠ 0 ∨ (nextP l).size = 0
  · rw [if_pos h, if_pos (show lastP _ from h)]
  · rw [if_neg h, if_neg (show ¬ lastP _ from h)]
    have hs := nextP_size l (by omega)
    rw [piecesF_more l.length ((l.drop (nextP l).size).length + 1) _ (by rw [List.length_drop]; omega) (by omega)]
    rfl

theorem piecesP_last (l : List UInt8) (h : lastP (nextP l)) : piecesP l = [nextP l] := by rw [piecesP_eq, if_pos h]
theorem piecesP_cons (l : List UInt8) (h : ¬ lastP (nextP l)) : piecesP l = nextP l :: piecesP (l.drop (nextP l).size) := by rw [piecesP_eq, if_neg h]

theorem piecesP_len : ∀ (k : Nat) (l : List UInt8), l.length ≤ k → (piecesP l).length ≤ l.length + 1
  | 0, l, h => by
    have : (nextP l).err ≠ 0 ∨ (nextP l).size = 0 := by
      by_cases he : (nextP l).err = 0
      · exact .inr (by have := nextP_size l he; omega)
      · exact .inl he
    rw [piecesP_last l this]; simp
  | k + 1, l, h => by
    by_cases hl : lastP (nextP l)
    · rw [piecesP_last l hl]; simp
    · rw [piecesP_cons l hl, List.length_cons]
      have h1 : (nextP l).err = 0 ∧ (nextP l).size ≠ 0 := by unfold lastP at hl; omega
      have hs := nextP_size l h1.1
      have := piecesP_len k (l.drop (nextP l).size) (by rw [List.length_drop]; omega)
      rw [List.length_drop] at this
      omega

theorem piecesP_okF : ∀ (k : Nat) (l : List UInt8), l.length ≤ k → ∀ p ∈ piecesP l, okPc p
  | 0, l, h => by
    have : (nextP l).err ≠ 0 ∨ (nextP l).size = 0 := by
      by_cases he : (nextP l).err = 0
      · exact .inr (by have := nextP_size l he; omega)
      · exact .inl he
    rw [piecesP_last l this]
    intro p hp; rw [List.mem_singleton.1 hp]; exact nextP_ok l
  | k + 1, l, h => by
    by_cases hl : lastP (nextP l)
    · rw [piecesP_last l hl]
      intro p hp; rw [List.mem_singleton.1 hp]; exact nextP_ok l
    · rw [piecesP_cons l hl]
      have h1 : (nextP l).err = 0 ∧ (nextP l).size ≠ 0 := by unfold lastP at hl; omega
      have hs := nextP_size l h1.1
      have := piecesP_okF k (l.drop (nextP l).size) (by rw [List.length_drop]; omega)
      intro p hp
      rcases List.mem_cons.1 hp with rfl | hp
      · exact nextP_ok l
      · exact this p hp
theorem piecesP_ok (l : List UInt8) : ∀ p ∈ piecesP l, okPc p := piecesP_okF l.length l (Nat.le_refl _)

/-- the pieces, each with what every piece is -/
def piecesQ (l : List UInt8) : List Pq := (piecesP l).attach.map fun x => ⟨x.1, piecesP_ok l x.1 x.2⟩
theorem piecesQ_val (l : List UInt8) : (piecesQ l).map (·.1) = piecesP l := by
  unfold piecesQ; rw [List.map_map]; exact List.attach_map_subtype_val _

/-- how many bytes pieces have -/
def sizeP (ps : List Pc) : Nat := (ps.map (·.size)).sum
theorem sizeP_snoc (ps : List Pc) (p : Pc) : sizeP (ps ++ [p]) = sizeP ps + p.size := by simp [sizeP]
theorem sizeP_cons (ps : List Pc) (p : Pc) : sizeP (p :: ps) = p.size + sizeP ps := by simp [sizeP]
theorem sizeP_nil : sizeP [] = 0 := rfl
/-- the bytes that they stand for -/
def textP (ps : List Pc) : List UInt8 := ps.flatMap fun p => if 0 < p.size then enc (p.point : Int) else []
theorem textP_snoc (ps : List Pc) (p : Pc) : textP (ps ++ [p]) = textP ps ++ if 0 < p.size then enc (p.point : Int) else [] := by simp [textP]
theorem textP_nil : textP [] = [] := rfl
theorem textP_cons (ps : List Pc) (p : Pc) : textP (p :: ps) = (if 0 < p.size then enc (p.point : Int) else []) ++ textP ps := by simp [textP]
/-- the first error, 0 where there is none -/
def errP (ps : List Pc) : Nat := ((ps.find? fun p => p.err != 0).map (·.err)).getD 0

end Go.Proofs.YtnbfikfngekfoaaDoor
