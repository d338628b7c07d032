/-
  Plain Lean: hexadecimal digits as the program looks for them.
-/
import Derived.Test.YtnbfikfngekfoaaDoorQuoM
import Derived.Lib.Bytealg
namespace Go.Proofs.YtnbfikfngekfoaaDoor

abbrev hexB : List UInt8 := [48, 49, 50, 51, 52, 53, 54, 55, 56, 57, 97, 98, 99, 100, 101, 102]
/-- where the program finds a digit -/
def hexI (c : Nat) : Int := Lib.indexByte hexB (bits BinOp.or IntKind.u8 (c : Int) 32).toNat.toUInt8

def hexOk (c : Nat) : Bool := match hexV c with
  | none => decide (hexI c < 0 ∨ c < 48 ∨ (57 < c ∧ c < 65))
  | some d => decide (d < 16) && decide (hexI c = (d : Int)) && decide (48 ≤ c) && decide (¬(57 < c ∧ c < 65))
theorem hexOk_all : ∀ c : Fin 256, hexOk c.val = true := by decide +kernel

theorem hex_none (c : Nat) (hc : c < 256) (h : hexV c = none) : hexI c < 0 ∨ c < 48 ∨ (57 < c ∧ c < 65) := by
  have := hexOk_all ⟨c, hc⟩
  unfold hexOk at this
  simp only [h] at this
  exact of_decide_eq_true this
theorem hex_some (c : Nat) (hc : c < 256) (d : Nat) (h : hexV c = some d) : d < 16 ∧ hexI c = (d : Int) ∧ 48 ≤ c ∧ ¬(57 < c ∧ c < 65) := by
  have := hexOk_all ⟨c, hc⟩
  unfold hexOk at this
  simp only [h, Bool.and_eq_true, decide_eq_true_eq] at this
  exact ⟨this.1.1.1, this.1.1.2, this.1.2, this.2⟩

theorem or16 (h d : Nat) (hh : h < 65536) (hd : d < 16) : bits BinOp.or IntKind.i64 (16 * h : Int) (d : Int) = ((16 * h + d : Nat) : Int) := by
  show IntKind.i64.wrap ((BitVec.ofInt 64 (16 * h : Int) ||| BitVec.ofInt 64 (d : Int)).toNat : Int) = _
  have e1 : (BitVec.ofInt 64 (16 * h : Int)).toNat = 16 * h := by
    rw [show (16 * h : Int) = ((16 * h : Nat) : Int) by push_cast; rfl, BitVec.ofInt_natCast, BitVec.toNat_ofNat]; exact Nat.mod_eq_of_lt (by omega)
  have e2 : (BitVec.ofInt 64 (d : Int)).toNat = d := by rw [BitVec.ofInt_natCast, BitVec.toNat_ofNat]; exact Nat.mod_eq_of_lt (by omega)
  rw [BitVec.toNat_or, e1, e2]
  have := Nat.two_pow_add_eq_or_of_lt (i := 4) (b := d) (by omega) h
  rw [show (2 : Nat) ^ 4 = 16 from rfl] at this
  rw [← this, IntWalk.i64_in _ (by omega)]

theorem fourF_le : ∀ (f : Nat) (l : List UInt8) (i h : Nat), h < 16 ^ i → (fourF f l i h).1 < 16 ^ (fourF f l i h).2 ∧ i ≤ (fourF f l i h).2 ∧ (fourF f l i h).2 ≤ i + f ∧ (i ≤ l.length → (fourF f l i h).2 ≤ l.length)
  | 0, l, i, h, hh => ⟨hh, Nat.le_refl _, Nat.le_refl _, fun h => h⟩
  | f + 1, l, i, h, hh => by
    unfold fourF
    split
    · exact ⟨hh, Nat.le_refl _, by simp only []; omega, fun h => h⟩
    · cases hv : hexV (bt l i) with
      | none => exact ⟨hh, Nat.le_refl _, by simp only []; omega, fun h => h⟩
      | some d =>
        have := hex_some _ (bt_lt l i) d hv
        obtain ⟨h1, h2, h3, h4⟩ := fourF_le f l (i + 1) (16 * h + d) (by rw [Nat.pow_succ]; omega)
        exact ⟨h1, Nat.le_trans (Nat.le_succ _) h2, Nat.le_trans h3 (by omega), fun h => h4 (by omega)⟩

theorem fourL_le (l : List UInt8) : (fourL l).1 < 65536 ∧ (fourL l).2 ≤ 4 ∧ (fourL l).2 ≤ l.length := by
  obtain ⟨h1, h2, h3, h4⟩ := fourF_le 4 l 0 0 (by decide)
  refine ⟨Nat.lt_of_lt_of_le h1 ?_, by unfold fourL; omega, h4 (Nat.zero_le _)⟩
  exact Nat.pow_le_pow_right (n := 16) (j := 4) (by decide) (by omega)

end Go.Proofs.YtnbfikfngekfoaaDoor
