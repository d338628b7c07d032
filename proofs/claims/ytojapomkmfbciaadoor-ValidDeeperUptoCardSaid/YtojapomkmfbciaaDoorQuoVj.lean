/-
  Plain Lean: a text in quotes is read alike, whatever stands behind it; where none goes on, the bytes up to there end too early (chapter 5): all its pieces.
-/
import Derived.Test.YtojapomkmfbciaaDoorQuoVi
namespace Go.Proofs.YtojapomkmfbciaaDoor

theorem next_quote (l : List UInt8) (he : (nextP l).err = 0) (hs : (nextP l).size = 0) : ∃ r, l = 34 :: r := by
  by_cases h0 : l.length = 0
  · exfalso
    unfold nextP at he
    rw [if_pos h0] at he
    exact faultP_err _ _ he
  obtain ⟨a, r, rfl⟩ : ∃ a r, l = a :: r := by cases l with
    | nil => simp at h0
    | cons a r => exact ⟨a, r, rfl⟩
  by_cases h34 : bt (a :: r) 0 = 34
  · exact ⟨r, by rw [show a = 34 from UInt8.toNat_inj.1 h34]⟩
  · exfalso
    unfold nextP at he hs
    rw [if_neg h0, if_neg h34] at he hs
    split at he
    · rename_i h92
      rw [if_pos h92] at hs
      have := (escapedP_size _ he).1
      omega
    rename_i h92
    rw [if_neg h92] at hs
    split at he
    · exact faultP_err _ _ he
    rename_i h32
    rw [if_neg h32] at hs
    split at he
    · rename_i hok
      rw [if_pos hok] at hs
      have := dec_n ((a :: r).take 4) (by simp)
      simp only [] at hs
      omega
    · split at he
      · exact faultP_err _ _ he
      · exact faultP_err _ _ he

theorem errP_cons (p : Pc) (ps : List Pc) : errP (p :: ps) = if p.err ≠ 0 then p.err else errP ps := by
  unfold errP
  rw [List.find?_cons]
  by_cases h : p.err = 0
  · simp [h]
  · rw [show (p.err != 0) = true from bne_iff_ne.2 h, if_pos h]; rfl

/-- what is read whole is read alike, whatever stands behind it -/
theorem pieces_keep : ∀ (k : Nat) (l : List UInt8), l.length ≤ k → errP (piecesP l) = 0 →
    sizeP (piecesP l) + 1 ≤ l.length ∧ bt l (sizeP (piecesP l)) = 34 ∧ ∀ x : List UInt8, piecesP (l.take (sizeP (piecesP l) + 1) ++ x) = piecesP l
  | k, l, hk, he => by
    by_cases hl : lastP (nextP l)
    · rw [piecesP_last l hl] at he ⊢
      rw [errP_cons] at he
      have he0 : (nextP l).err = 0 := by
        by_cases h : (nextP l).err = 0
        · exact h
        · rw [if_pos h] at he; exact he
      have hs0 : (nextP l).size = 0 := by unfold lastP at hl; omega
      obtain ⟨r, rfl⟩ := next_quote l he0 hs0
      rw [next_shut]
      refine ⟨by simp [sizeP], rfl, fun x => ?_⟩
      show piecesP (34 :: x) = _
      rw [piecesP_last _ (by rw [next_shut]; exact .inr rfl), next_shut]
    · have h1 : (nextP l).err = 0 ∧ (nextP l).size ≠ 0 := by unfold lastP at hl; omega
      have hs := nextP_size l h1.1
      rw [piecesP_cons l hl] at he ⊢
      rw [errP_cons, if_neg (fun h => h h1.1)] at he
      cases k with
      | zero => omega
      | succ k =>
        obtain ⟨i1, i2, i3⟩ := pieces_keep k (l.drop (nextP l).size) (by rw [List.length_drop]; omega) he
        rw [sizeP_cons]
        rw [List.length_drop] at i1
        rw [bt_drop] at i2
        refine ⟨by omega, i2, fun x => ?_⟩
        have hA : (l.take (nextP l).size).length = (nextP l).size := by rw [List.length_take]; omega
        have hsplit : l.take ((nextP l).size + sizeP (piecesP (l.drop (nextP l).size)) + 1) = l.take (nextP l).size ++ (l.drop (nextP l).size).take (sizeP (piecesP (l.drop (nextP l).size)) + 1) := by
          rw [Nat.add_assoc, List.take_add]
        rw [hsplit, List.append_assoc]
        generalize hS : sizeP (piecesP (l.drop (nextP l).size)) = S at i1 i2 i3 ⊢
        have hn0 : nextP (l.take (nextP l).size ++ l.drop (nextP l).size) = ⟨(nextP l).point, (l.take (nextP l).size).length, 0⟩ := by
          rw [List.take_append_drop, hA, ← h1.1]
        have hbt : bt (l.drop (nextP l).size) S = 34 := by rw [bt_drop]; exact i2
        have hlow : lowP (l.drop (nextP l).size) = false → lowP ((l.drop (nextP l).size).take (S + 1) ++ x) = false := fun hf => by
          have hlen : ((l.drop (nextP l).size).take (S + 1)).length = S + 1 := by rw [List.length_take, List.length_drop]; omega
          by_cases h6 : S < 6
          · exact lowP_shut _ S h6 (by rw [bt_app _ _ _ (by omega), bt_take _ _ _ (by omega)]; exact hbt)
          · rw [lowP_app _ _ (by omega)]; exact lowP_take _ _ hf
        have hnx := next_ext _ _ ((l.drop (nextP l).size).take (S + 1) ++ x) _ hn0 (by rw [hA]; omega) hlow
        rw [hA] at hnx
        have hpe : (⟨(nextP l).point, (nextP l).size, 0⟩ : Pc) = nextP l := by
          have := h1.1
          cases hp : nextP l with
          | mk a b c => rw [hp] at this; simp only [] at this; rw [this]
        rw [hpe] at hnx
        rw [piecesP_cons _ (by rw [hnx]; exact hl), hnx, List.drop_append_of_le_length (by rw [hA]; exact Nat.le_refl _)]
        rw [List.drop_of_length_le (by rw [hA]; exact Nat.le_refl _), List.nil_append, i3 x]

theorem fault_err5 (l : List UInt8) (k : Nat) : (faultP l k).err = 5 ↔ l.length ≤ k := by
  show (if l.length ≤ k then 5 else if 127 < bt l k then 7 else 2) = 5 ↔ _
  constructor
  · intro h
    by_cases h1 : l.length ≤ k
    · exact h1
    · rw [if_neg h1] at h; split at h <;> omega
  · intro h; rw [if_pos h]
theorem fault_take (l : List UInt8) (k : Nat) : faultP (l.take k) k = ⟨0, k, 5⟩ := by
  unfold faultP
  rw [if_pos (by rw [List.length_take]; omega)]

/-- a fault: the bytes up to it end too early -/
theorem next_fault (l : List UInt8) (he : (nextP l).err ≠ 0) : (nextP l).size ≤ l.length ∧ nextP (l.take (nextP l).size) = ⟨0, (nextP l).size, 5⟩ ∧ ((nextP l).err = 5 → (nextP l).size = l.length) := by
  have hnil : nextP (l.take 0) = ⟨0, 0, 5⟩ := rfl
  by_cases h0 : l.length = 0
  · have : l = [] := List.eq_nil_of_length_eq_zero h0
    subst this
    exact ⟨Nat.le_refl _, rfl, fun _ => rfl⟩
  by_cases h34 : bt l 0 = 34
  · exfalso; apply he
    unfold nextP
    rw [if_neg h0, if_pos h34]
  by_cases h92 : bt l 0 = 92
  · have hn := nextP_eq' l h0 h92
    rw [hn] at he ⊢
    by_cases h2 : l.length < 2
    · have e : escapedP l = faultP l 1 := by unfold escapedP; rw [if_pos h2]
      have hl1 : l.length = 1 := by omega
      rw [e, faultP_size]
      refine ⟨by omega, ?_, fun _ => hl1.symm⟩
      rw [List.take_of_length_le (by omega), hn, e]
      have := fault_take l 1
      rwa [List.take_of_length_le (by omega)] at this
    · obtain ⟨c, r, rfl⟩ : ∃ c r, l = 92 :: c :: r := by
        match l, h0, h92, h2 with
        | [a], _, _, h2 => simp at h2
        | a :: c :: r, _, h92, _ => exact ⟨c, r, by rw [show a = 92 from UInt8.toNat_inj.1 h92]⟩
      have e := next_two c r
      rw [← hn, e] at he ⊢
      have one : ∀ P : Pc, P = faultP (92 :: c :: r) 1 → P.size ≤ (92 :: c :: r).length ∧ nextP ((92 :: c :: r).take P.size) = ⟨0, P.size, 5⟩ ∧ (P.err = 5 → P.size = (92 :: c :: r).length) := fun P hP => by
        subst hP
        rw [faultP_size]
        refine ⟨by simp, rfl, fun h => ?_⟩
        rw [fault_err5] at h
        simp at h
      by_cases c1 : c.toNat = 34 ∨ c.toNat = 92 ∨ c.toNat = 47
      · rw [if_pos c1] at he; exact absurd rfl he
      rw [if_neg c1] at he ⊢
      by_cases c2 : c.toNat = 98
      · rw [if_pos c2] at he; exact absurd rfl he
      rw [if_neg c2] at he ⊢
      by_cases c3 : c.toNat = 102
      · rw [if_pos c3] at he; exact absurd rfl he
      rw [if_neg c3] at he ⊢
      by_cases c4 : c.toNat = 110
      · rw [if_pos c4] at he; exact absurd rfl he
      rw [if_neg c4] at he ⊢
      by_cases c5 : c.toNat = 114
      · rw [if_pos c5] at he; exact absurd rfl he
      rw [if_neg c5] at he ⊢
      by_cases c6 : c.toNat = 116
      · rw [if_pos c6] at he; exact absurd rfl he
      rw [if_neg c6] at he ⊢
      by_cases c7 : c.toNat = 117
      · rw [if_pos c7] at he ⊢
        have hd : (92 :: c :: r).drop 2 = r := rfl
        have hdef : numberedP (92 :: c :: r) = if (fourL r).2 < 4 then faultP (92 :: c :: r) (2 + (fourL r).2) else numberedP (92 :: c :: r) := by
          by_cases q : (fourL r).2 < 4
          · rw [if_pos q]; unfold numberedP; rw [hd, if_pos q]
          · rw [if_neg q]
        by_cases q : (fourL r).2 < 4
        · rw [if_pos q] at hdef
          rw [hdef, faultP_size]
          have hl4 := fourL_le r
          refine ⟨by simp; omega, ?_, fun h => ?_⟩
          · have ht : (92 :: c :: r).take (2 + (fourL r).2) = 92 :: c :: r.take (fourL r).2 := by rw [Nat.add_comm]; rfl
            rw [ht, next_two, if_neg c1, if_neg c2, if_neg c3, if_neg c4, if_neg c5, if_neg c6, if_pos c7]
            unfold numberedP
            rw [show (92 :: c :: r.take (fourL r).2).drop 2 = r.take (fourL r).2 from rfl, four_take r q, if_pos q, ← ht]
            exact fault_take _ _
          · rw [fault_err5] at h
            simp at h ⊢
            omega
        · exfalso
          apply he
          unfold numberedP
          rw [hd, if_neg q]
          split
          · rfl
          · split <;> rfl
      · rw [if_neg c7]
        exact one _ rfl
  · by_cases h32 : bt l 0 < 32
    · have e : nextP l = faultP l 0 := by unfold nextP; rw [if_neg h0, if_neg h34, if_neg h92, if_pos h32]
      rw [e, faultP_size]
      exact ⟨Nat.zero_le _, rfl, fun h => by rw [fault_err5] at h; omega⟩
    · by_cases hok : decOk (l.take 4) = true
      · exfalso; apply he
        unfold nextP
        rw [if_neg h0, if_neg h34, if_neg h92, if_neg h32, if_pos hok]
      · by_cases hb : beginsP l = true
        · have e : nextP l = faultP l l.length := by unfold nextP; rw [if_neg h0, if_neg h34, if_neg h92, if_neg h32, if_neg hok, if_pos hb]
          rw [e, faultP_size]
          refine ⟨Nat.le_refl _, ?_, fun _ => rfl⟩
          rw [List.take_of_length_le (Nat.le_refl _), e]
          have := fault_take l l.length
          rwa [List.take_of_length_le (Nat.le_refl _)] at this
        · have e : nextP l = faultP l 0 := by unfold nextP; rw [if_neg h0, if_neg h34, if_neg h92, if_neg h32, if_neg hok, if_neg hb]
          rw [e, faultP_size]
          exact ⟨Nat.zero_le _, rfl, fun h => by rw [fault_err5] at h; omega⟩

/-- where none goes on, the bytes up to there end too early -/
theorem pieces_fault : ∀ (k : Nat) (l : List UInt8), l.length ≤ k → errP (piecesP l) ≠ 0 →
    sizeP (piecesP l) ≤ l.length ∧ (errP (piecesP l) = 5 → sizeP (piecesP l) = l.length) ∧ errP (piecesP (l.take (sizeP (piecesP l)))) = 5 ∧ sizeP (piecesP (l.take (sizeP (piecesP l)))) = sizeP (piecesP l)
  | k, l, hk, he => by
    by_cases hl : lastP (nextP l)
    · rw [piecesP_last l hl] at he ⊢
      rw [errP_cons] at he ⊢
      have he0 : (nextP l).err ≠ 0 := fun h => by rw [if_neg (fun h' => h' h)] at he; exact he rfl
      rw [if_pos he0]
      have hs : sizeP [nextP l] = (nextP l).size := by simp [sizeP]
      rw [hs]
      obtain ⟨f1, f2, f3⟩ := next_fault l he0
      refine ⟨f1, f3, ?_, ?_⟩
      · rw [piecesP_last _ (by rw [f2]; exact .inl (show (5 : Nat) ≠ 0 by decide)), f2]; rfl
      · rw [piecesP_last _ (by rw [f2]; exact .inl (show (5 : Nat) ≠ 0 by decide)), f2]; simp [sizeP]
    · have h1 : (nextP l).err = 0 ∧ (nextP l).size ≠ 0 := by unfold lastP at hl; omega
      have hs := nextP_size l h1.1
      rw [piecesP_cons l hl] at he ⊢
      rw [errP_cons, if_neg (fun h => h h1.1)] at he ⊢
      cases k with
      | zero => omega
      | succ k =>
        obtain ⟨i1, i2, i3, i4⟩ := pieces_fault k (l.drop (nextP l).size) (by rw [List.length_drop]; omega) he
        rw [sizeP_cons]
        rw [List.length_drop] at i1 i2
        have hA : (l.take (nextP l).size).length = (nextP l).size := by rw [List.length_take]; omega
        rw [List.take_add]
        generalize hS : sizeP (piecesP (l.drop (nextP l).size)) = S at i1 i2 i3 i4 ⊢
        have hn0 : nextP (l.take (nextP l).size ++ l.drop (nextP l).size) = ⟨(nextP l).point, (l.take (nextP l).size).length, 0⟩ := by
          rw [List.take_append_drop, hA, ← h1.1]
        have hnx := next_ext _ _ ((l.drop (nextP l).size).take S) _ hn0 (by rw [hA]; omega) (fun hf => lowP_take _ _ hf)
        rw [hA] at hnx
        have hpe : (⟨(nextP l).point, (nextP l).size, 0⟩ : Pc) = nextP l := by
          have := h1.1
          cases hp : nextP l with
          | mk a b c => rw [hp] at this; simp only [] at this; rw [this]
        rw [hpe] at hnx
        have hdd : (l.take (nextP l).size ++ (l.drop (nextP l).size).take S).drop (nextP l).size = (l.drop (nextP l).size).take S := by
          have h := List.drop_append_of_le_length (l₁ := l.take (nextP l).size) (l₂ := (l.drop (nextP l).size).take S) (i := (nextP l).size) (by rw [hA]; exact Nat.le_refl _)
          rw [h, List.drop_of_length_le (l := l.take (nextP l).size) (by rw [hA]; exact Nat.le_refl _), List.nil_append]
        rw [piecesP_cons (l.take (nextP l).size ++ (l.drop (nextP l).size).take S) (by rw [hnx]; exact hl), hnx, hdd, errP_cons, if_neg (fun h => h h1.1), sizeP_cons, i4]
        exact ⟨by omega, fun h => by have := i2 h; omega, i3, rfl⟩

/-- **a text that is read whole is read alike, whatever stands behind it** -/
theorem read_keep (b x : List UInt8) (h : (readP b).2.2 = 0) : (readP b).2.1 ≤ b.length ∧ readP (b.take (readP b).2.1 ++ x) = readP b := by
  by_cases hq : b.length = 0 ∨ bt b 0 ≠ 34
  · exfalso
    unfold readP at h
    rw [if_pos hq] at h
    exact faultP_err _ _ h
  have h0 : b.length ≠ 0 := fun e => hq (.inl e)
  have h34 : bt b 0 = 34 := Classical.byContradiction fun e => hq (.inr e)
  obtain ⟨r, rfl⟩ : ∃ r, b = 34 :: r := by cases b with
    | nil => simp at h0
    | cons a r => exact ⟨r, by rw [show a = 34 from UInt8.toNat_inj.1 h34]⟩
  have hd : (34 :: r).drop 1 = r := rfl
  have he : errP (piecesP r) = 0 := by
    by_cases e : errP (piecesP r) = 0
    · exact e
    · unfold readP at h
      rw [if_neg hq, hd, if_pos e] at h
      exact absurd h e
  have hr : readP (34 :: r) = (textP (piecesP r), 2 + sizeP (piecesP r), 0) := by
    unfold readP; rw [if_neg hq, hd, if_neg (fun h => h he)]
  obtain ⟨p1, _, p3⟩ := pieces_keep r.length r (Nat.le_refl _) he
  rw [hr]
  refine ⟨by simp; omega, ?_⟩
  have ht : (34 :: r).take (2 + sizeP (piecesP r)) ++ x = 34 :: (r.take (sizeP (piecesP r) + 1) ++ x) := by
    rw [show 2 + sizeP (piecesP r) = (sizeP (piecesP r) + 1) + 1 by omega, List.take_succ_cons, List.cons_append]
  rw [ht]
  unfold readP
  rw [if_neg (by simp [bt]), show (34 :: (r.take (sizeP (piecesP r) + 1) ++ x)).drop 1 = r.take (sizeP (piecesP r) + 1) ++ x from rfl, p3 x, if_neg (fun h => h he)]

/-- **where none goes on, the bytes up to there are told to end too early** -/
theorem read_stop (b : List UInt8) (h : (readP b).2.2 ≠ 0) : (readP b).1 = [] ∧ (readP b).2.1 ≤ b.length ∧ ((readP b).2.2 = 5 → (readP b).2.1 = b.length) ∧ (readP (b.take (readP b).2.1)).2.1 = (readP b).2.1 ∧ (readP (b.take (readP b).2.1)).2.2 = 5 := by
  by_cases hq : b.length = 0 ∨ bt b 0 ≠ 34
  · have hr : readP b = ([], 0, (faultP b 0).err) := by unfold readP; rw [if_pos hq]
    rw [hr]
    exact ⟨rfl, Nat.zero_le _, fun e => by have := (fault_err5 b 0).1 e; show 0 = b.length; omega, rfl, rfl⟩
  have h0 : b.length ≠ 0 := fun e => hq (.inl e)
  have h34 : bt b 0 = 34 := Classical.byContradiction fun e => hq (.inr e)
  obtain ⟨r, rfl⟩ : ∃ r, b = 34 :: r := by cases b with
    | nil => simp at h0
    | cons a r => exact ⟨r, by rw [show a = 34 from UInt8.toNat_inj.1 h34]⟩
  have hd : (34 :: r).drop 1 = r := rfl
  have he : errP (piecesP r) ≠ 0 := fun e => h (by unfold readP; rw [if_neg hq, hd, if_neg (fun h => h e)])
  have hr : readP (34 :: r) = ([], 1 + sizeP (piecesP r), errP (piecesP r)) := by unfold readP; rw [if_neg hq, hd, if_pos he]
  obtain ⟨p1, p2, p3, p4⟩ := pieces_fault r.length r (Nat.le_refl _) he
  rw [hr]
  have ht : (34 :: r).take (1 + sizeP (piecesP r)) = 34 :: r.take (sizeP (piecesP r)) := by rw [Nat.add_comm, List.take_succ_cons]
  have hr2 : readP ((34 :: r).take (1 + sizeP (piecesP r))) = ([], 1 + sizeP (piecesP r), 5) := by
    rw [ht]
    unfold readP
    rw [if_neg (by simp [bt]), show (34 :: r.take (sizeP (piecesP r))).drop 1 = r.take (sizeP (piecesP r)) from rfl, p3, p4, if_pos (by decide)]
  refine ⟨rfl, by simp; omega, fun e => by have := p2 e; simp; omega, ?_, ?_⟩
  · show (readP ((34 :: r).take (1 + sizeP (piecesP r)))).2.1 = _; rw [hr2]
  · show (readP ((34 :: r).take (1 + sizeP (piecesP r)))).2.2 = 5; rw [hr2]

end Go.Proofs.YtojapomkmfbciaaDoor
