/-
  Plain Lean: what All and Replace answer for a pattern of digits and small letters (chapter 19). No program in sight.
-/
import Derived.Test.YtoniccokohjenaaDoorMatRp
namespace Go.Proofs.YtoniccokohjenaaDoor

/-- a digit, or a small letter -/
def dlI (c : Int) : Prop := (48 ≤ c ∧ c ≤ 57) ∨ (97 ≤ c ∧ c ≤ 122)
theorem dl_plain {c : Int} (h : dlI c) : plainI c := by unfold dlI at h; unfold plainI; omega
theorem sizes_plain : ∀ (p : List Int), sizesR (p.map rxRune) = (p.length : Int)
  | [] => rfl
  | c :: p => by
    rw [List.map_cons, sizesR, sizes_plain p]
    have : sizeR (rxRune c) = 1 := rfl
    rw [this, List.length_cons]; push_cast; omega
theorem size_plain (p : List Int) (h : p.length ≤ 1000) : sizeR (seqOf (p.map rxRune)) = (p.length : Int) := by
  match p with
  | [] => rfl
  | [c] => rfl
  | c :: d :: r =>
    have h1 := sizes_plain (c :: d :: r)
    show sizeR (rxSeq ((c :: d :: r).map rxRune)) = _
    have h2 := size_eq 6 0 0 ((c :: d :: r).map rxRune) 0 0 false false 0 []
    unfold rxSeq
    rw [h2, if_pos (Or.inr rfl), h1]
    unfold capS
    rw [if_neg (by omega)]
def mhOf (x : Nat × Nat) : Mh := ⟨x.1, x.2, []⟩
theorem allV_plain {p t : List UInt8} (hp : ∀ c ∈ explode p, dlI c) (hl : (explode p).length ≤ 60) (ht : (explode t).length ≤ 40) : allV p t [103] = ((occs (explode p) (explode t) ((explode t).length + 1) 0).map mhOf, [], 0) := by
  have hpp : parseV p false = (seqOf ((explode p).map rxRune), [], 0, 0) := parse_plain (fun c hc => dl_plain (hp c hc)) (by omega)
  have hr : readF md0 [103] = some { md0 with all := true } := rfl
  unfold allV
  rw [hr]
  simp only
  have hf : ({ md0 with all := true } : Md).free = false := rfl
  rw [hf, hpp]
  simp only
  rw [if_neg (fun h => h rfl), size_plain _ (by omega), if_neg (by
    rintro (h | h)
    · omega
    · have : ((explode p).length : Int) * (((explode t).length : Int) + 1) ≤ 60 * 41 := Int.mul_le_mul (by omega) (by omega) (by omega) (by decide)
      omega), steps_plain]
  have := all_plain (m := { md0 with all := true }) rfl rfl rfl (l := explode t) (p := explode p) ((explode t).length + 1) 0 (fun _ => false) (by omega) (fun _ _ _ _ h => by cases h)
  exact congrArg (fun z => (z, ([] : List (List UInt8)), 0)) this
theorem valid_plain : ∀ (n : Nat) (l : List UInt8), l.length ≤ n → (∀ c ∈ explode l, dlI c) → valid l = l.length
  | 0, l, h, _ => by rw [valid_nil l (by omega)]; omega
  | n + 1, l, h, hp => by
    by_cases h0 : l.length = 0
    · rw [valid_nil l h0, h0]
    · have he := explode_cons l h0
      have hd := dec_n l h0
      have h1 : dlI (dec l).1 := hp _ (by rw [he]; exact List.mem_cons_self)
      have hsm : (dec l).1 < 128 := by unfold dlI at h1; omega
      have hok : decOk l = true := by
        unfold decOk
        by_cases h2 : 1 < (dec l).2
        · rw [decide_eq_true h2, Bool.true_or]
        · rw [show (dec l).2 = 1 by omega, decide_eq_true hsm]; rfl
      rw [valid_step l h0 hok, valid_plain n (l.drop (dec l).2) (by rw [List.length_drop]; omega) (fun c hc => hp c (by rw [he]; exact List.mem_cons_of_mem _ hc)), List.length_drop]
      omega
theorem replV_plain {p t : List UInt8} (hp : ∀ c ∈ explode p, dlI c) (hl : (explode p).length ≤ 60) (ht : (explode t).length ≤ 40) : replV p t [103] p = (clean t, 0) := by
  have hc : allB (explode p) = p := clean_valid p (valid_plain _ p (Nat.le_refl _) hp)
  unfold replV
  rw [allV_plain hp hl ht]
  simp only
  rw [if_neg (fun h => h rfl), List.map_map]
  have : (fun h : Mh => (h.a, h.b)) ∘ mhOf = id := rfl
  rw [this, List.map_id]
  conv => lhs; rw [← hc]
  rw [hc]
  have h2 := repl_occs (explode p) (explode t) ((explode t).length + 1) 0 0 (Nat.le_refl _)
  rw [hc] at h2
  rw [h2]; rfl
/-- how far signs stand alike -/
def eqK (p t : List Int) (i k : Nat) : Bool := (t.drop i).take k == p.take k
theorem eqK_zero (p t : List Int) (i : Nat) : eqK p t i 0 = true := by simp [eqK]
theorem eqK_succ {p t : List Int} {i k : Nat} (hk : k < p.length) (hi : i + k < t.length) : eqK p t i (k + 1) = (eqK p t i k && (t.getD (i + k) 0 == p.getD k 0)) := by
  unfold eqK
  have h1 : (t.drop i).take (k + 1) = (t.drop i).take k ++ [t.getD (i + k) 0] := by
    rw [List.take_succ_eq_append_getElem (by rw [List.length_drop]; omega), List.getElem_drop, List.getD_eq_getElem?_getD, List.getElem?_eq_getElem hi]; rfl
  have h2 : p.take (k + 1) = p.take k ++ [p.getD k 0] := by
    rw [List.take_succ_eq_append_getElem hk, List.getD_eq_getElem?_getD, List.getElem?_eq_getElem hk]; rfl
  rw [h1, h2]
  have hl : ((t.drop i).take k).length = (p.take k).length := by rw [List.length_take, List.length_take, List.length_drop]; omega
  rw [Bool.eq_iff_iff]
  simp only [beq_iff_eq, Bool.and_eq_true]
  constructor
  · intro h
    have := List.append_inj h hl
    exact ⟨this.1, by simpa using this.2⟩
  · rintro ⟨h, h'⟩; rw [h, h']
theorem eqK_heads {p t : List Int} {i : Nat} (hi : i + p.length ≤ t.length) : eqK p t i p.length = heads p (t.drop i) := by
  unfold eqK heads
  rw [List.take_length, decide_eq_true (by rw [List.length_drop]; omega), Bool.true_and]
/-- one place on -/
theorem occs_next {p t : List Int} {i : Nat} (hi : i + p.length ≤ t.length) : occs p t (t.length + 1) i = if heads p (t.drop i) then (i, i + p.length) :: occs p t (t.length + 1) (i + max 1 p.length) else occs p t (t.length + 1) (i + 1) := by
  rw [occs, if_neg (by omega)]
  split
  · rw [occs_fuel p t t.length (t.length + 1) _ (by omega) (by omega)]
  · exact occs_fuel p t t.length (t.length + 1) _ (by omega) (by omega)

end Go.Proofs.YtoniccokohjenaaDoor
