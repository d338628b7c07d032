/-
  Plain Lean: a text's signs with plain ones between; a pattern of plain signs (chapter 18). No program in sight.
-/
import Derived.Test.YtoniccokohjenaaDoorRegP
namespace Go.Proofs.YtoniccokohjenaaDoor

theorem decodeN_1 (n b0 c x y : Nat) (hc : c < 128) : Lib.decodeN n b0 c x y = Lib.decodeN 1 b0 0 0 0 := by
  have h1 : ¬ c / 64 = 2 := by omega
  unfold Lib.decodeN
  simp [h1]
theorem decodeN_2 (n b0 b1 c y : Nat) (hc : c < 128) (hn : 2 ≤ n) : Lib.decodeN n b0 b1 c y = Lib.decodeN 2 b0 b1 0 0 := by
  have h1 : ¬ c / 64 = 2 := by omega
  have h2 : 1 < n := by omega
  unfold Lib.decodeN
  simp [h1, h2]
theorem decodeN_3 (n b0 b1 b2 c : Nat) (hc : c < 128) (hn : 3 ≤ n) : Lib.decodeN n b0 b1 b2 c = Lib.decodeN 3 b0 b1 b2 0 := by
  have h1 : ¬ c / 64 = 2 := by omega
  have h2 : 1 < n := by omega
  have h3 : 2 < n := by omega
  unfold Lib.decodeN
  simp [h1, h2, h3]
theorem decodeN_4 (n m b0 b1 b2 b3 : Nat) (hn : 4 ≤ n) (hm : 4 ≤ m) : Lib.decodeN n b0 b1 b2 b3 = Lib.decodeN m b0 b1 b2 b3 := by
  have h1 : 1 < n := by omega
  have h2 : 2 < n := by omega
  have h3 : 3 < n := by omega
  have k1 : 1 < m := by omega
  have k2 : 2 < m := by omega
  have k3 : 3 < m := by omega
  unfold Lib.decodeN
  simp [h1, h2, h3, k1, k2, k3]
/-- a sign below 128 behind a text turns nothing of it -/
theorem dec_ascii (l r : List UInt8) (c : UInt8) (hl : l ≠ []) (hc : c.toNat < 128) : dec (l ++ c :: r) = dec l := by
  match l, hl with
  | [a], _ =>
    unfold dec
    rw [if_neg (by simp), if_neg (by simp)]
    exact decodeN_1 _ _ _ _ _ hc
  | [a, b], _ =>
    unfold dec
    rw [if_neg (by simp), if_neg (by simp)]
    exact decodeN_2 _ _ _ _ _ hc (by simp)
  | [a, b, d], _ =>
    unfold dec
    rw [if_neg (by simp), if_neg (by simp)]
    exact decodeN_3 _ _ _ _ _ hc (by simp)
  | a :: b :: d :: e :: t, _ =>
    unfold dec
    rw [if_neg (by simp), if_neg (by simp)]
    exact decodeN_4 _ _ _ _ _ _ (by simp) (by simp)
theorem dec_one (c : UInt8) (r : List UInt8) (hc : c.toNat < 128) : dec (c :: r) = (c.toNat, 1) := by
  unfold dec
  rw [if_neg (by simp)]
  unfold Lib.decodeN
  have : bt (c :: r) 0 = c.toNat := rfl
  rw [this, if_pos hc]
theorem explode_one (c : UInt8) (r : List UInt8) (hc : c.toNat < 128) : explode (c :: r) = (c.toNat : Int) :: explode r := by
  rw [explode_cons _ (by simp), dec_one c r hc]; rfl
theorem explode_ascii (c : UInt8) (r : List UInt8) (hc : c.toNat < 128) : ∀ (l : List UInt8), explode (l ++ c :: r) = explode l ++ (c.toNat : Int) :: explode r := by
  suffices h : ∀ k (l : List UInt8), l.length ≤ k → explode (l ++ c :: r) = explode l ++ (c.toNat : Int) :: explode r from fun l => h _ l (Nat.le_refl _)
  intro k
  induction k with
  | zero =>
    intro l hl
    obtain rfl : l = [] := List.length_eq_zero_iff.1 (by omega)
    rw [List.nil_append, explode_one c r hc, explode_nil [] rfl]; rfl
  | succ k ih =>
    intro l hl
    by_cases h0 : l = []
    · subst h0
      rw [List.nil_append, explode_one c r hc, explode_nil [] rfl]; rfl
    · have hn : l.length ≠ 0 := fun e => h0 (List.length_eq_zero_iff.1 e)
      have hd := dec_n l hn
      rw [explode_cons (l ++ c :: r) (by simp), explode_cons l hn, dec_ascii l r c h0 hc, List.drop_append_of_le_length hd.2.2, ih _ (by rw [List.length_drop]; omega)]
      rfl

/-! ### plain signs -/
def plainI (c : Int) : Prop := (48 ≤ c ∧ c ≤ 57) ∨ (65 ≤ c ∧ c ≤ 90) ∨ (97 ≤ c ∧ c ≤ 122) ∨ 128 ≤ c
/-- what a pattern of plain signs may end at -/
def endI (c : Int) : Prop := c = -1 ∨ c = 41 ∨ c = 124
def endAt (l : List Int) (p : Nat) : Prop := l.length ≤ p ∨ due l p = 41 ∨ due l p = 124
theorem endAt.endI {l : List Int} {p : Nat} (h : endAt l p) : endI (due l p) := by
  rcases h with h | h | h
  · exact .inl (due_past h)
  · exact .inr (.inl h)
  · exact .inr (.inr h)
section
variable {free : Bool} {l : List Int}
theorem skip_calm {s : PS} (h : plainI (due l s.pos) ∨ endI (due l s.pos)) : skipS' free l s = s := by
  unfold skipS' skipP
  cases free with
  | false => rfl
  | true =>
    have h0 : skipL false (l.drop s.pos) = 0 := by
      rcases Nat.lt_or_ge s.pos l.length with hlt | hge
      · rw [List.drop_eq_getElem_cons hlt, skipL, ← due_at hlt]
        generalize due l s.pos = d at h
        unfold plainI endI at h
        have hb : blkI d = false := by
          unfold blkI
          simp only [Bool.or_eq_false_iff, beq_eq_false_iff_ne, ne_eq]
          omega
        rw [hb, if_neg (by simp), if_neg (by omega)]
      · rw [List.drop_eq_nil_of_le hge]; rfl
    simp only [if_true, h0, Nat.add_zero]
theorem part_plain {rec : PS → PR Rx} {s : PS} (h : plainI (due l s.pos)) (h1 : plainI (due l (s.pos + 1)) ∨ endI (due l (s.pos + 1))) : partR free l rec s = .ok (rxRune (due l s.pos)) { s with pos := s.pos + 1 } := by
  have ha : atomR l rec s = .ok (rxRune (due l s.pos)) { s with pos := s.pos + 1 } := by
    unfold atomR
    simp only
    generalize due l s.pos = d at h ⊢
    unfold plainI at h
    rw [if_neg (by omega), if_neg (by omega), if_neg (by omega), if_neg (by omega), if_neg (by omega), if_neg (by omega), if_neg (by omega)]
  unfold partR
  rw [ha]
  simp only [PR.bind]
  have hs : skipS' free l { s with pos := s.pos + 1 } = { s with pos := s.pos + 1 } := skip_calm (s := { s with pos := s.pos + 1 }) h1
  rw [hs]
  generalize due l (s.pos + 1) = d at h1 ⊢
  unfold plainI endI at h1
  rw [if_neg (by omega), if_neg (by omega), if_neg (by omega), if_neg (by omega)]
/-- signs stand at a place -/
def standAt (l : List Int) (p : Nat) (x : List Int) : Prop := ∀ i (h : i < x.length), due l (p + i) = x[i]
theorem standAt.tail {p : Nat} {c : Int} {x : List Int} (h : standAt l p (c :: x)) : standAt l (p + 1) x := fun i hi => by
  have := h (i + 1) (by simp; omega)
  rw [show p + 1 + i = p + (i + 1) by omega, this]; rfl
theorem parts_plain {rec : PS → PR Rx} : ∀ (x : List Int) (f : Nat) (s : PS), x.length < f → (∀ c ∈ x, plainI c) → standAt l s.pos x → endAt l (s.pos + x.length) →
    partsR free l rec f s = .ok (x.map rxRune) { s with pos := s.pos + x.length }
  | [], f, s, hf, _, _, he => by
    obtain ⟨f, rfl⟩ : ∃ k, f = k + 1 := ⟨f - 1, by simp at hf; omega⟩
    rw [partsR, if_neg]
    · rfl
    · intro h
      have he : endAt l s.pos := he
      rcases he with e | e | e
      · omega
      · exact h.2.2 e
      · exact h.2.1 e
  | c :: x, f, s, hf, hx, hs, he => by
    obtain ⟨f, rfl⟩ : ∃ k, f = k + 1 := ⟨f - 1, by simp at hf; omega⟩
    have hc : due l s.pos = c := hs 0 (by simp)
    have hp : plainI c := hx c (List.mem_cons_self ..)
    have hp1 : due l s.pos ≠ -1 := by rw [hc]; unfold plainI at hp; omega
    have h1 : plainI (due l (s.pos + 1)) ∨ endI (due l (s.pos + 1)) := by
      cases x with
      | nil => exact .inr (endAt.endI he)
      | cons d y =>
        refine .inl ?_
        rw [show due l (s.pos + 1) = d from hs 1 (by simp)]
        exact hx d (by simp)
    have hpl : plainI (due l s.pos) := by rw [hc]; exact hp
    rw [partsR, if_pos ⟨due_lt rfl hp1, by unfold plainI at hpl; omega, by unfold plainI at hpl; omega⟩, part_plain hpl h1]
    have hsk : skipS' free l { s with pos := s.pos + 1 } = { s with pos := s.pos + 1 } := skip_calm (s := { s with pos := s.pos + 1 }) h1
    simp only [PR.bind]
    rw [hsk, parts_plain x f { s with pos := s.pos + 1 } (by simp at hf; omega) (fun d hd => hx d (List.mem_cons_of_mem _ hd)) hs.tail (by
      have : s.pos + (c :: x).length = s.pos + 1 + x.length := by simp; omega
      rw [this] at he; exact he)]
    simp only [List.map_cons, hc]
    congr 2
    simp; omega
theorem first_calm {x : List Int} {p : Nat} (hx : ∀ c ∈ x, plainI c) (hs : standAt l p x) (he : endAt l (p + x.length)) : plainI (due l p) ∨ endI (due l p) := by
  cases x with
  | nil => exact .inr (endAt.endI he)
  | cons d y =>
    refine .inl ?_
    rw [show due l p = d from hs 0 (by simp)]
    exact hx d (by simp)
theorem seq_plain {rec : PS → PR Rx} {x : List Int} {s : PS} (hx : ∀ c ∈ x, plainI c) (hl : x.length ≤ l.length) (hs : standAt l s.pos x) (he : endAt l (s.pos + x.length)) :
    seqR free l rec s = .ok (seqOf (x.map rxRune)) { s with pos := s.pos + x.length } := by
  unfold seqR
  rw [skip_calm (first_calm hx hs he), parts_plain x (l.length + 1) s (by omega) hx hs he]
  rfl
theorem alt_plain {rec : PS → PR Rx} {x : List Int} {s : PS} (hx : ∀ c ∈ x, plainI c) (hl : x.length ≤ l.length) (hs : standAt l s.pos x) (he : l.length ≤ s.pos + x.length ∨ due l (s.pos + x.length) = 41) :
    altR free l rec s = .ok (seqOf (x.map rxRune)) { s with pos := s.pos + x.length } := by
  have he' : endAt l (s.pos + x.length) := by
    rcases he with h | h
    · exact .inl h
    · exact .inr (.inl h)
  have hn : due l (s.pos + x.length) ≠ 124 := by
    rcases he with h | h
    · rw [due_past h]; decide
    · rw [h]; decide
  unfold altR
  rw [seq_plain hx hl hs he']
  simp only [PR.bind, altsR]
  rw [if_neg hn]
  rfl
theorem stand_mid (a x b : List Int) : standAt (a ++ (x ++ b)) a.length x := fun i hi => by
  have h : a.length + i < (a ++ (x ++ b)).length := by simp; omega
  rw [due_at h, List.getElem_append_right (by omega), List.getElem_append_left (by omega)]
  congr 1; omega
theorem due_mid (a b : List Int) (c : Int) : due (a ++ c :: b) a.length = c := by
  have h : a.length < (a ++ c :: b).length := by simp
  rw [due_at h, List.getElem_append_right (Nat.le_refl _)]
  simp
end
theorem altF_succ (free : Bool) (l : List Int) (n : Nat) (s : PS) : altF free l (n + 1) s = altR free l (altF free l n) s := rfl
/-- a pattern of plain signs -/
theorem parse_plain {l : List Int} {free : Bool} (hx : ∀ c ∈ l, plainI c) (hl : l.length ≤ 1000) : parseL free l = (seqOf (l.map rxRune), [], 0, 0) := by
  have hs : standAt l 0 l := by have := stand_mid [] l []; simpa using this
  have h := alt_plain (free := free) (l := l) (rec := altF free l 50) (s := ⟨0, 0, []⟩) hx (Nat.le_refl _) hs (.inl (by simp))
  unfold parseL
  rw [if_neg (by omega), altF_succ, h]
  simp
/-- in a group -/
theorem parse_group {l : List Int} (hx : ∀ c ∈ l, plainI c) (hl : l.length ≤ 900) : parseL false (40 :: (l ++ [41])) = (rxGroup (seqOf (l.map rxRune)) 1 [], [[]], 0, 0) := by
  obtain ⟨L, hL⟩ : ∃ L, L = 40 :: (l ++ [41]) := ⟨_, rfl⟩
  have hlen : L.length = l.length + 2 := by rw [hL]; simp
  have hs : standAt L 1 l := by rw [hL]; exact stand_mid [40] l [41]
  have d0 : due L 0 = 40 := by rw [hL]; rfl
  have de : due L (1 + l.length) = 41 := by
    rw [hL, show 1 + l.length = (40 :: l : List Int).length by simp; omega]
    exact due_mid (40 :: l) [] 41
  have dp : due L (1 + l.length + 1) = -1 := due_past (by omega)
  have d1 : due L 1 ≠ 63 := by
    cases l with
    | nil => have := de; simp at this; rw [this]; decide
    | cons c y =>
      have h1 : due L 1 = c := hs 0 (by simp)
      have := hx c (by simp)
      rw [h1]; unfold plainI at this; omega
  rw [← hL]
  have hi := alt_plain (free := false) (l := L) (rec := altF false L 49) (s := ⟨1, 1, [[]]⟩) hx (by omega) hs (.inr de)
  have hg : groupR L (altF false L 50) ⟨0, 0, []⟩ = .ok (rxGroup (seqOf (l.map rxRune)) 1 []) ⟨1 + l.length + 1, 0, [[]]⟩ := by
    unfold groupR
    rw [if_neg (by decide)]
    have hh : headR L ⟨0 + 1, 0 + 1, []⟩ = .ok (some []) ⟨1, 1, [[]]⟩ := by
      unfold headR
      rw [if_neg d1]; rfl
    simp only
    rw [hh]
    simp only [PR.bind, restR]
    rw [altF_succ, hi]
    simp only
    rw [if_pos de]
    rfl
  have ha : atomR L (altF false L 50) ⟨0, 0, []⟩ = .ok (rxGroup (seqOf (l.map rxRune)) 1 []) ⟨1 + l.length + 1, 0, [[]]⟩ := by
    unfold atomR
    simp only [d0]
    rw [if_neg (by decide), if_pos trivial, hg]
  have hp : partR false L (altF false L 50) ⟨0, 0, []⟩ = .ok (rxGroup (seqOf (l.map rxRune)) 1 []) ⟨1 + l.length + 1, 0, [[]]⟩ := by
    unfold partR
    rw [ha]
    simp only [PR.bind]
    rw [show skipS' false L ⟨1 + l.length + 1, 0, [[]]⟩ = ⟨1 + l.length + 1, 0, [[]]⟩ from rfl]
    simp only [dp]
    rw [if_neg (by decide), if_neg (by decide), if_neg (by decide), if_neg (by decide)]
  have hq : partsR false L (altF false L 50) (L.length + 1) ⟨0, 0, []⟩ = .ok [rxGroup (seqOf (l.map rxRune)) 1 []] ⟨1 + l.length + 1, 0, [[]]⟩ := by
    rw [partsR, if_pos ⟨by show 0 < L.length; omega, by rw [show due L (⟨0, 0, []⟩ : PS).pos = 40 from d0]; decide, by rw [show due L (⟨0, 0, []⟩ : PS).pos = 40 from d0]; decide⟩, hp]
    simp only [PR.bind]
    rw [show skipS' false L ⟨1 + l.length + 1, 0, [[]]⟩ = ⟨1 + l.length + 1, 0, [[]]⟩ from rfl, hlen, partsR, if_neg (fun h => by have := h.1; simp only at this; omega)]
  have hz : altF false L 51 ⟨0, 0, []⟩ = .ok (rxGroup (seqOf (l.map rxRune)) 1 []) ⟨1 + l.length + 1, 0, [[]]⟩ := by
    rw [altF_succ]
    unfold altR seqR
    rw [show skipS' false L ⟨0, 0, []⟩ = ⟨0, 0, []⟩ from rfl, hq]
    simp only [PR.bind, altsR, seqOf, dp]
    rw [if_neg (by decide)]
    rfl
  unfold parseL
  rw [if_neg (by omega), hz]
  simp only
  rw [if_neg (by omega)]
/-- twice, with a stroke between -/
theorem parse_twice {l : List Int} (hx : ∀ c ∈ l, plainI c) (hl : l.length ≤ 400) : parseL false (l ++ 124 :: l) = (rxAlt [seqOf (l.map rxRune), seqOf (l.map rxRune)], [], 0, 0) := by
  obtain ⟨L, hL⟩ : ∃ L, L = l ++ 124 :: l := ⟨_, rfl⟩
  have hlen : L.length = l.length + l.length + 1 := by rw [hL]; simp; omega
  have hs0 : standAt L 0 l := by rw [hL]; exact stand_mid [] l (124 :: l)
  have hs1 : standAt L (l.length + 1) l := by
    have := stand_mid (l ++ [124]) l []
    rw [hL]; simpa using this
  have de : due L l.length = 124 := by rw [hL]; exact due_mid l l 124
  have dp : due L (l.length + 1 + l.length) = -1 := due_past (by omega)
  rw [← hL]
  have h0 := seq_plain (free := false) (l := L) (rec := altF false L 50) (s := ⟨0, 0, []⟩) hx (by omega) hs0 (.inr (.inr (by simpa using de)))
  have h1 := seq_plain (free := false) (l := L) (rec := altF false L 50) (s := ⟨l.length + 1, 0, []⟩) hx (by omega) hs1 (.inl (by simp only; omega))
  have hz : altF false L 51 ⟨0, 0, []⟩ = .ok (rxAlt [seqOf (l.map rxRune), seqOf (l.map rxRune)]) ⟨l.length + 1 + l.length, 0, []⟩ := by
    rw [altF_succ]
    unfold altR
    rw [h0]
    simp only [PR.bind, Nat.zero_add]
    rw [hlen, altsR, if_pos de]
    simp only
    rw [h1]
    simp only [PR.bind]
    rw [altsR, if_neg (by simp only [dp]; decide)]
    rfl
  unfold parseL
  rw [if_neg (by omega), hz]
  simp only
  rw [if_neg (by omega)]
end Go.Proofs.YtoniccokohjenaaDoor
