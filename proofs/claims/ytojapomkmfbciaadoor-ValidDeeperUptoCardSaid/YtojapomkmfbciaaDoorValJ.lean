/-
  Plain Lean: where a text in quotes goes wrong at a byte below 128, it goes wrong there, whatever comes behind (chapters 5, 9).
-/
import Derived.Test.YtojapomkmfbciaaDoorQuoVj
namespace Go.Proofs.YtojapomkmfbciaaDoor

theorem fourF_bad : ∀ (f : Nat) (l : List UInt8) (i h : Nat), (fourF f l i h).2 < i + f → (fourF f l i h).2 < l.length → hexV (bt l (fourF f l i h).2) = none
  | 0, l, i, h, hl, _ => absurd hl (by show ¬ i < i + 0; omega)
  | f + 1, l, i, h, hl, hlen => by
    have key : fourF (f + 1) l i h = if l.length ≤ i then (h, i) else match hexV (bt l i) with | none => (h, i) | some d => fourF f l (i + 1) (16 * h + d) := rfl
    by_cases h1 : l.length ≤ i
    · rw [if_pos h1] at key
      rw [key] at hlen
      exact absurd hlen (by show ¬ i < l.length; omega)
    · rw [if_neg h1] at key
      cases hv : hexV (bt l i) with
      | none =>
        rw [hv] at key
        rw [key]; exact hv
      | some d =>
        rw [hv] at key
        simp only [] at key
        rw [key] at hl hlen ⊢
        exact fourF_bad f l (i + 1) (16 * h + d) (by omega) hlen
theorem four_bad (l : List UInt8) (h : (fourL l).2 < 4) (hl : (fourL l).2 < l.length) : hexV (bt l (fourL l).2) = none := fourF_bad 4 l 0 0 (by show (fourL l).2 < 0 + 4; omega) hl
/-- fewer digits than four, the byte behind them none: so it is, whatever comes behind -/
theorem fourF_same : ∀ (f : Nat) (l m : List UInt8) (i h : Nat), (fourF f l i h).2 < i + f → (fourF f l i h).2 < l.length → (∀ j, j ≤ (fourF f l i h).2 → m[j]? = l[j]?) → (fourF f m i h).2 = (fourF f l i h).2
  | 0, l, m, i, h, hl, _, _ => absurd hl (by show ¬ i < i + 0; omega)
  | f + 1, l, m, i, h, hl, hlen, hs => by
    have key : ∀ l : List UInt8, fourF (f + 1) l i h = if l.length ≤ i then (h, i) else match hexV (bt l i) with | none => (h, i) | some d => fourF f l (i + 1) (16 * h + d) := fun _ => rfl
    have hi := four_take.fourF_le'_ge (f + 1) l i h
    have hm : m[i]? = l[i]? := hs i hi
    have hil : i < l.length := by omega
    have hml : ¬ m.length ≤ i := fun h => by
      rw [List.getElem?_eq_none h, List.getElem?_eq_getElem hil] at hm; cases hm
    have hbt : bt m i = bt l i := by unfold bt; rw [hm]
    rw [key m, if_neg hml, hbt]
    rw [key l, if_neg (by omega)] at hl hlen hs ⊢
    cases hv : hexV (bt l i) with
    | none => rfl
    | some d =>
      rw [hv] at hl hlen hs
      exact fourF_same f l m (i + 1) (16 * h + d) (by simp only [] at hl; omega) hlen hs
where four_take.fourF_le'_ge : ∀ (f : Nat) (l : List UInt8) (i h : Nat), i ≤ (fourF f l i h).2
  | 0, _, _, _ => Nat.le_refl _
  | f + 1, l, i, h => by
    unfold fourF
    split
    · exact Nat.le_refl _
    · cases hexV (bt l i) with
      | none => exact Nat.le_refl _
      | some d => exact Nat.le_trans (Nat.le_succ _) (four_take.fourF_le'_ge f l (i + 1) _)
theorem four_same (l m : List UInt8) (h : (fourL l).2 < 4) (hl : (fourL l).2 < l.length) (hs : ∀ j, j ≤ (fourL l).2 → m[j]? = l[j]?) : (fourL m).2 = (fourL l).2 :=
  fourF_same 4 l m 0 0 (by show (fourL l).2 < 0 + 4; omega) hl hs

theorem get_take_app (l x : List UInt8) (k j : Nat) (h : j < k) (hl : k ≤ l.length) : (l.take k ++ x)[j]? = l[j]? := by
  rw [List.getElem?_append_left (by rw [List.length_take]; omega), List.getElem?_take, if_pos h]
theorem bt_take_app (l x : List UInt8) (k j : Nat) (h : j < k) (hl : k ≤ l.length) : bt (l.take k ++ x) j = bt l j := by
  unfold bt; rw [get_take_app l x k j h hl]

theorem dec_low (l : List UInt8) (h : l.length ≠ 0) (hb : bt l 0 < 128) : decOk (l.take 4) = true := by
  have hl : (l.take 4).length ≠ 0 := by rw [List.length_take]; omega
  have hb2 : bt (l.take 4) 0 < 128 := by rw [bt_take _ _ _ (by omega)]; exact hb
  unfold decOk dec
  rw [if_neg hl]
  unfold Lib.decodeN
  rw [if_pos (by omega)]
  simp; omega

/-- a piece that goes wrong at a byte below 128 -/
theorem next_bad (l x : List UInt8) (he : (nextP l).err ≠ 0) (hk : (nextP l).size < l.length) (hb : bt l (nextP l).size ≤ 127) :
    (nextP (l.take ((nextP l).size + 1) ++ x)).err ≠ 0 ∧ (nextP (l.take ((nextP l).size + 1) ++ x)).size = (nextP l).size := by
  have h0 : l.length ≠ 0 := by omega
  have hm0 : ∀ k, k < l.length → (l.take (k + 1) ++ x).length ≠ 0 := fun k hk => by rw [List.length_append, List.length_take]; omega
  have hb0 : ∀ k, k < l.length → bt (l.take (k + 1) ++ x) 0 = bt l 0 := fun k hk => bt_take_app l x (k + 1) 0 (by omega) (by omega)
  by_cases h34 : bt l 0 = 34
  · exfalso; apply he
    unfold nextP
    rw [if_neg h0, if_pos h34]
  by_cases h92 : bt l 0 = 92
  · have hn := nextP_eq' l h0 h92
    by_cases h2 : l.length < 2
    · exfalso
      have e : escapedP l = faultP l 1 := by unfold escapedP; rw [if_pos h2]
      rw [hn, e, faultP_size] at hk
      omega
    · obtain ⟨c, r, rfl⟩ : ∃ c r, l = 92 :: c :: r := by
        match l, h0, h92, h2 with
        | [a], _, _, h2 => simp at h2
        | a :: c :: r, _, h92, _ => exact ⟨c, r, by rw [show a = 92 from UInt8.toNat_inj.1 h92]⟩
      have e := next_two c r
      have one : ∀ m : List UInt8, nextP (92 :: c :: r) = faultP (92 :: c :: r) 1 → (∀ m, nextP (92 :: c :: m) = faultP (92 :: c :: m) 1) → (nextP ((92 :: c :: r).take ((nextP (92 :: c :: r)).size + 1) ++ x)).err ≠ 0 ∧ (nextP ((92 :: c :: r).take ((nextP (92 :: c :: r)).size + 1) ++ x)).size = (nextP (92 :: c :: r)).size := fun m h1 h2 => by
        rw [h1, faultP_size]
        have ht : (92 :: c :: r).take (1 + 1) ++ x = 92 :: c :: x := rfl
        rw [ht, h2]
        exact ⟨faultP_err _ _, rfl⟩
      by_cases c1 : c.toNat = 34 ∨ c.toNat = 92 ∨ c.toNat = 47
      · rw [e, if_pos c1] at he; exact absurd rfl he
      by_cases c2 : c.toNat = 98
      · rw [e, if_neg c1, if_pos c2] at he; exact absurd rfl he
      by_cases c3 : c.toNat = 102
      · rw [e, if_neg c1, if_neg c2, if_pos c3] at he; exact absurd rfl he
      by_cases c4 : c.toNat = 110
      · rw [e, if_neg c1, if_neg c2, if_neg c3, if_pos c4] at he; exact absurd rfl he
      by_cases c5 : c.toNat = 114
      · rw [e, if_neg c1, if_neg c2, if_neg c3, if_neg c4, if_pos c5] at he; exact absurd rfl he
      by_cases c6 : c.toNat = 116
      · rw [e, if_neg c1, if_neg c2, if_neg c3, if_neg c4, if_neg c5, if_pos c6] at he; exact absurd rfl he
      by_cases c7 : c.toNat = 117
      · have e' : ∀ m, nextP (92 :: c :: m) = numberedP (92 :: c :: m) := fun m => by rw [next_two, if_neg c1, if_neg c2, if_neg c3, if_neg c4, if_neg c5, if_neg c6, if_pos c7]
        have hd : ∀ m : List UInt8, (92 :: c :: m).drop 2 = m := fun _ => rfl
        by_cases q : (fourL r).2 < 4
        · have hnum : numberedP (92 :: c :: r) = faultP (92 :: c :: r) (2 + (fourL r).2) := by unfold numberedP; rw [hd, if_pos q]
          rw [e', hnum, faultP_size] at hk hb ⊢
          have hlr : (fourL r).2 < r.length := by simp at hk; omega
          have ht : (92 :: c :: r).take (2 + (fourL r).2 + 1) ++ x = 92 :: c :: (r.take ((fourL r).2 + 1) ++ x) := by
            rw [show 2 + (fourL r).2 + 1 = ((fourL r).2 + 1) + 1 + 1 by omega]; rfl
          have hf : (fourL (r.take ((fourL r).2 + 1) ++ x)).2 = (fourL r).2 := four_same r _ q hlr (fun j hj => get_take_app r x _ j (by omega) (by omega))
          rw [ht, e']
          have hnum2 : numberedP (92 :: c :: (r.take ((fourL r).2 + 1) ++ x)) = faultP (92 :: c :: (r.take ((fourL r).2 + 1) ++ x)) (2 + (fourL r).2) := by
            unfold numberedP; rw [hd, hf, if_pos q]
          rw [hnum2]
          exact ⟨faultP_err _ _, rfl⟩
        · exfalso
          apply he
          rw [e']
          unfold numberedP
          rw [hd, if_neg q]
          split
          · rfl
          · split <;> rfl
      · have e' : ∀ m, nextP (92 :: c :: m) = faultP (92 :: c :: m) 1 := fun m => by rw [next_two, if_neg c1, if_neg c2, if_neg c3, if_neg c4, if_neg c5, if_neg c6, if_neg c7]
        exact one [] (e' r) e'
  · by_cases h32 : bt l 0 < 32
    · have e : ∀ m : List UInt8, m.length ≠ 0 → bt m 0 = bt l 0 → nextP m = faultP m 0 := fun m hm hb => by unfold nextP; rw [if_neg hm, hb, if_neg h34, if_neg h92, if_pos h32]
      rw [e l h0 rfl, faultP_size] at hk ⊢
      rw [e _ (hm0 0 hk) (hb0 0 hk)]
      exact ⟨faultP_err _ _, rfl⟩
    · by_cases hok : decOk (l.take 4) = true
      · exfalso; apply he
        unfold nextP
        rw [if_neg h0, if_neg h34, if_neg h92, if_neg h32, if_pos hok]
      · exfalso
        by_cases hbg : beginsP l = true
        · have e : nextP l = faultP l l.length := by unfold nextP; rw [if_neg h0, if_neg h34, if_neg h92, if_neg h32, if_neg hok, if_pos hbg]
          rw [e, faultP_size] at hk
          omega
        · have e : nextP l = faultP l 0 := by unfold nextP; rw [if_neg h0, if_neg h34, if_neg h92, if_neg h32, if_neg hok, if_neg hbg]
          rw [e, faultP_size] at hb
          exact hok (dec_low l h0 (by omega))

theorem low_hex (y : List UInt8) (h : lowP y = true) (j : Nat) (hj : j < 4) : hexV (bt (y.drop 2) j) ≠ none := fun hn => by
  unfold lowP at h
  simp only [Bool.and_eq_true, decide_eq_true_eq] at h
  obtain ⟨⟨⟨_, h4⟩, _⟩, _⟩ := h
  have := fourF_stop 4 (y.drop 2) 0 0 j (Nat.zero_le _) hn
  have h4' : (fourF 4 (y.drop 2) 0 0).2 = 4 := h4
  omega
theorem low_head (y : List UInt8) (h : lowP y = true) : bt y 0 = 92 ∧ bt y 1 = 117 := by
  unfold lowP at h
  simp only [Bool.and_eq_true, decide_eq_true_eq] at h
  exact ⟨h.1.1.1.1.2, h.1.1.1.2⟩
/-- no second half begins where the bytes go wrong -/
theorem low_bad (R x : List UInt8) (he : errP (piecesP R) ≠ 0) (hS : sizeP (piecesP R) < R.length) (hl : lowP R = false) : lowP (R.take (sizeP (piecesP R) + 1) ++ x) = false := by
  by_cases h6 : 6 ≤ sizeP (piecesP R) + 1
  · rw [lowP_app _ _ (by rw [List.length_take]; omega)]; exact lowP_take _ _ hl
  cases hy : lowP (R.take (sizeP (piecesP R) + 1) ++ x) with
  | false => rfl
  | true =>
    exfalso
    obtain ⟨y0, y1⟩ := low_head _ hy
    have b0 : bt R 0 = 92 := by rw [← y0]; exact (bt_take_app R x _ 0 (by omega) (by omega)).symm
    have hR0 : R.length ≠ 0 := by omega
    have hn := nextP_eq' R hR0 b0
    have hfirst : (nextP R).size ≤ sizeP (piecesP R) := by
      by_cases hlp : lastP (nextP R)
      · rw [piecesP_last R hlp]; simp [sizeP]
      · rw [piecesP_cons R hlp, sizeP_cons]; omega
    by_cases h2 : R.length < 2
    · have e : escapedP R = faultP R 1 := by unfold escapedP; rw [if_pos h2]
      rw [hn, e, faultP_size] at hfirst
      omega
    obtain ⟨c, r, rfl⟩ : ∃ c r, R = 92 :: c :: r := by
      match R, hR0, b0, h2 with
      | [a], _, _, h2 => simp at h2
      | a :: c :: r, _, h92, _ => exact ⟨c, r, by rw [show a = 92 from UInt8.toNat_inj.1 h92]⟩
    have hge1 : 1 ≤ (nextP (92 :: c :: r)).size := by
      by_cases h : (nextP (92 :: c :: r)).err = 0
      · rw [hn] at h ⊢; have := escapedP_size _ h; omega
      · rw [hn]
        unfold escapedP
        rw [if_neg (by simp)]
        (repeat' split)
        all_goals first
          | (rw [faultP_size]; omega)
          | (show 1 ≤ 2; omega)
          | (unfold numberedP; (repeat' split) <;> first | (rw [faultP_size]; omega) | (show 1 ≤ 6; omega) | (show 1 ≤ 12; omega))
    have b1 : bt (92 :: c :: r) 1 = 117 := by rw [← y1]; exact (bt_take_app _ x _ 1 (by omega) (by omega)).symm
    have hc : c.toNat = 117 := b1
    have e' : nextP (92 :: c :: r) = numberedP (92 :: c :: r) := by rw [next_two, if_neg (by omega), if_neg (by omega), if_neg (by omega), if_neg (by omega), if_neg (by omega), if_neg (by omega), if_pos hc]
    by_cases he0 : (nextP (92 :: c :: r)).err = 0
    · rw [e'] at he0 hfirst; have := numberedP_size _ he0; omega
    · have hpl : piecesP (92 :: c :: r) = [nextP (92 :: c :: r)] := piecesP_last _ (.inl he0)
      have hsz : sizeP (piecesP (92 :: c :: r)) = (nextP (92 :: c :: r)).size := by rw [hpl]; simp [sizeP]
      have hd : (92 :: c :: r).drop 2 = r := rfl
      have q : (fourL r).2 < 4 := by
        by_cases q : (fourL r).2 < 4
        · exact q
        · exfalso; apply he0; rw [e']; unfold numberedP; rw [hd, if_neg q]
          split
          · rfl
          · split <;> rfl
      have hnum : nextP (92 :: c :: r) = faultP (92 :: c :: r) (2 + (fourL r).2) := by rw [e']; unfold numberedP; rw [hd, if_pos q]
      rw [hsz, hnum, faultP_size] at hy hS
      have hb := four_bad r q (by simp at hS; omega)
      have h3 := low_hex _ hy (fourL r).2 q
      rw [bt_drop, bt_take_app _ x _ _ (by omega) (by omega)] at h3
      have : bt (92 :: c :: r) (2 + (fourL r).2) = bt r (fourL r).2 := (bt_drop (92 :: c :: r) 2 (fourL r).2).symm
      rw [this] at h3
      exact h3 hb

/-- the pieces that go wrong at a byte below 128 -/
theorem pieces_bad : ∀ (k : Nat) (l : List UInt8), l.length ≤ k → errP (piecesP l) ≠ 0 → sizeP (piecesP l) < l.length → bt l (sizeP (piecesP l)) ≤ 127 → ∀ x : List UInt8,
    errP (piecesP (l.take (sizeP (piecesP l) + 1) ++ x)) ≠ 0 ∧ sizeP (piecesP (l.take (sizeP (piecesP l) + 1) ++ x)) = sizeP (piecesP l)
  | k, l, hk, he, hs, hb, x => by
    by_cases hl : lastP (nextP l)
    · rw [piecesP_last l hl] at he hs hb ⊢
      rw [errP_cons] at he
      have he0 : (nextP l).err ≠ 0 := fun h => by rw [if_neg (fun h' => h' h)] at he; exact he rfl
      have hsz : sizeP [nextP l] = (nextP l).size := by simp [sizeP]
      rw [hsz] at hs hb ⊢
      obtain ⟨f1, f2⟩ := next_bad l x he0 hs hb
      rw [piecesP_last _ (.inl f1), errP_cons, if_pos f1]
      exact ⟨f1, by simp [sizeP]; exact f2⟩
    · have h1 : (nextP l).err = 0 ∧ (nextP l).size ≠ 0 := by unfold lastP at hl; omega
      have hsn := nextP_size l h1.1
      rw [piecesP_cons l hl] at he hs hb ⊢
      rw [errP_cons, if_neg (fun h => h h1.1)] at he
      cases k with
      | zero => omega
      | succ k =>
        rw [sizeP_cons] at hs hb ⊢
        obtain ⟨i1, i2⟩ := pieces_bad k (l.drop (nextP l).size) (by rw [List.length_drop]; omega) he (by rw [List.length_drop]; omega) (by rw [bt_drop]; exact hb) x
        have hlb := low_bad (l.drop (nextP l).size) x he (by rw [List.length_drop]; omega)
        have hA : (l.take (nextP l).size).length = (nextP l).size := by rw [List.length_take]; omega
        rw [Nat.add_assoc, List.take_add, List.append_assoc]
        generalize hS : sizeP (piecesP (l.drop (nextP l).size)) = S at i1 i2 hlb ⊢
        have hn0 : nextP (l.take (nextP l).size ++ l.drop (nextP l).size) = ⟨(nextP l).point, (l.take (nextP l).size).length, 0⟩ := by
          rw [List.take_append_drop, hA, ← h1.1]
        have hnx := next_ext _ _ ((l.drop (nextP l).size).take (S + 1) ++ x) _ hn0 (by rw [hA]; omega) hlb
        rw [hA] at hnx
        have hpe : (⟨(nextP l).point, (nextP l).size, 0⟩ : Pc) = nextP l := by
          have := h1.1
          cases hp : nextP l with
          | mk a b c => rw [hp] at this; simp only [] at this; rw [this]
        rw [hpe] at hnx
        have hdd : (l.take (nextP l).size ++ ((l.drop (nextP l).size).take (S + 1) ++ x)).drop (nextP l).size = (l.drop (nextP l).size).take (S + 1) ++ x := by
          have h := List.drop_append_of_le_length (l₁ := l.take (nextP l).size) (l₂ := (l.drop (nextP l).size).take (S + 1) ++ x) (i := (nextP l).size) (by rw [hA]; exact Nat.le_refl _)
          rw [h, List.drop_of_length_le (l := l.take (nextP l).size) (by rw [hA]; exact Nat.le_refl _), List.nil_append]
        rw [piecesP_cons (l.take (nextP l).size ++ ((l.drop (nextP l).size).take (S + 1) ++ x)) (by rw [hnx]; exact hl), hnx, hdd, errP_cons, if_neg (fun h => h h1.1), sizeP_cons, i2]
        exact ⟨i1, rfl⟩

/-- **a text that goes wrong at a byte below 128 goes wrong there, whatever comes behind** -/
theorem read_bad (b x : List UInt8) (h : (readP b).2.2 ≠ 0) (hk : (readP b).2.1 < b.length) (hb : bt b (readP b).2.1 ≤ 127) :
    (readP (b.take ((readP b).2.1 + 1) ++ x)).2.2 ≠ 0 ∧ (readP (b.take ((readP b).2.1 + 1) ++ x)).2.1 = (readP b).2.1 := by
  by_cases hq : b.length = 0 ∨ bt b 0 ≠ 34
  · have hr : readP b = ([], 0, (faultP b 0).err) := by unfold readP; rw [if_pos hq]
    rw [hr] at hk ⊢
    have hk0 : 0 < b.length := hk
    have hr2 : readP (b.take (0 + 1) ++ x) = ([], 0, (faultP (b.take (0 + 1) ++ x) 0).err) := by
      unfold readP
      rw [if_pos (.inr (by rw [bt_take_app _ _ _ _ (by omega) (by omega)]; exact hq.resolve_left (by omega)))]
    show (readP (b.take (0 + 1) ++ x)).2.2 ≠ 0 ∧ (readP (b.take (0 + 1) ++ x)).2.1 = 0
    rw [hr2]
    exact ⟨faultP_err _ _, rfl⟩
  have h0 : b.length ≠ 0 := fun e => hq (.inl e)
  have h34 : bt b 0 = 34 := Classical.byContradiction fun e => hq (.inr e)
  obtain ⟨r, rfl⟩ : ∃ r, b = 34 :: r := by cases b with
    | nil => simp at h0
    | cons a r => exact ⟨r, by rw [show a = 34 from UInt8.toNat_inj.1 h34]⟩
  have hd : (34 :: r).drop 1 = r := rfl
  have he : errP (piecesP r) ≠ 0 := fun e => h (by unfold readP; rw [if_neg hq, hd, if_neg (fun h => h e)])
  have hr : readP (34 :: r) = ([], 1 + sizeP (piecesP r), errP (piecesP r)) := by unfold readP; rw [if_neg hq, hd, if_pos he]
  rw [hr] at hk hb ⊢
  simp only [] at hk hb ⊢
  have hbt : bt (34 :: r) (1 + sizeP (piecesP r)) = bt r (sizeP (piecesP r)) := (bt_drop (34 :: r) 1 _).symm
  rw [hbt] at hb
  obtain ⟨p1, p2⟩ := pieces_bad r.length r (Nat.le_refl _) he (by simp at hk; omega) hb x
  have ht : (34 :: r).take (1 + sizeP (piecesP r) + 1) ++ x = 34 :: (r.take (sizeP (piecesP r) + 1) ++ x) := by rw [show 1 + sizeP (piecesP r) + 1 = (sizeP (piecesP r) + 1) + 1 by omega]; rfl
  rw [ht]
  have hr2 : readP (34 :: (r.take (sizeP (piecesP r) + 1) ++ x)) = ([], 1 + sizeP (piecesP r), errP (piecesP (r.take (sizeP (piecesP r) + 1) ++ x))) := by
    unfold readP
    rw [if_neg (by simp [bt]), show (34 :: (r.take (sizeP (piecesP r) + 1) ++ x)).drop 1 = r.take (sizeP (piecesP r) + 1) ++ x from rfl, if_pos p1, p2]
  rw [hr2]
  exact ⟨p1, rfl⟩

end Go.Proofs.YtojapomkmfbciaaDoor
