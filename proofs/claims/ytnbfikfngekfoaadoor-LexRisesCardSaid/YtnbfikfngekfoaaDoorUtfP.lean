/-
  Plain Lean: code points are found again in their bytes (chapter 4's laws that later chapters want).
-/
import Derived.Test.YtnbfikfngekfoaaDoorUtfI
namespace Go.Proofs.YtnbfikfngekfoaaDoor
open Go.RowKit

theorem enc_one (p : Int) (h1 : p < 128) : enc p = [UInt8.ofNat p.toNat] := by
  unfold enc ptBytes; rw [if_pos h1]; rfl
theorem enc_two (p : Int) (h0 : 128 ≤ p) (h1 : p < 2048) : enc p = [UInt8.ofNat (192 + p / 64).toNat, UInt8.ofNat (128 + p % 64).toNat] := by
  unfold enc ptBytes; rw [if_neg (by omega), if_pos h1]; rfl
theorem enc_three (p : Int) (h0 : 2048 ≤ p) (h1 : p < 65536) : enc p = [UInt8.ofNat (224 + p / 4096).toNat, UInt8.ofNat (128 + p / 64 % 64).toNat, UInt8.ofNat (128 + p % 64).toNat] := by
  unfold enc ptBytes; rw [if_neg (by omega), if_neg (by omega), if_pos h1]; rfl
theorem enc_four (p : Int) (h0 : 65536 ≤ p) : enc p = [UInt8.ofNat (240 + p / 262144).toNat, UInt8.ofNat (128 + p / 4096 % 64).toNat, UInt8.ofNat (128 + p / 64 % 64).toNat, UInt8.ofNat (128 + p % 64).toNat] := by
  unfold enc ptBytes; rw [if_neg (by omega), if_neg (by omega), if_neg (by omega)]; rfl


theorem bt_num (x : Int) (h : 0 ≤ x ∧ x < 256) (r : List UInt8) : bt (UInt8.ofNat x.toNat :: r) 0 = x.toNat := by
  rw [bt_cons0, UInt8.toNat_ofNat', Nat.mod_eq_of_lt (by omega)]

theorem enc_dec (p : Int) (hp : isPt p = true) (r : List UInt8) : dec (enc p ++ r) = (p.toNat, (enc p).length) := by
  rw [isPt_iff] at hp
  have hl := (enc_pos p).1
  unfold dec
  rw [if_neg (by rw [List.length_append]; omega)]
  generalize hL : (enc p ++ r).length = n
  have hn : (enc p).length ≤ n := by rw [← hL, List.length_append]; omega
  clear hL
  rcases (show p < 128 ∨ (128 ≤ p ∧ p < 2048) ∨ (2048 ≤ p ∧ p < 65536) ∨ 65536 ≤ p by omega) with p1 | ⟨p0, p1⟩ | ⟨p0, p1⟩ | p0
  · rw [enc_one p p1] at hn ⊢
    simp only [List.cons_append, List.nil_append, bt_num p (by omega)]
    simp only [Lib.decodeN]
    rw [if_pos (by omega)]; rfl
  · rw [enc_two p p0 p1] at hn ⊢
    simp only [List.cons_append, List.nil_append, bt_num (192 + p / 64) (by omega), bt_cons, bt_num (128 + p % 64) (by omega)]
    simp only [List.length_cons, List.length_nil] at hn ⊢
    simp only [Lib.decodeN]
    rw [if_neg (by omega), if_pos (by omega), if_pos (by omega), Prod.mk.injEq]
    exact ⟨by omega, rfl⟩
  · rw [enc_three p p0 p1] at hn ⊢
    simp only [List.cons_append, List.nil_append, bt_num (224 + p / 4096) (by omega), bt_cons, bt_num (128 + p / 64 % 64) (by omega), bt_num (128 + p % 64) (by omega)]
    simp only [List.length_cons, List.length_nil] at hn ⊢
    simp only [Lib.decodeN]
    rw [if_neg (by omega), if_neg (by omega), if_pos (by omega), if_pos (by omega), Prod.mk.injEq]
    exact ⟨by omega, rfl⟩
  · rw [enc_four p p0] at hn ⊢
    simp only [List.cons_append, List.nil_append, bt_num (240 + p / 262144) (by omega), bt_cons, bt_num (128 + p / 4096 % 64) (by omega), bt_num (128 + p / 64 % 64) (by omega), bt_num (128 + p % 64) (by omega)]
    simp only [List.length_cons, List.length_nil] at hn ⊢
    simp only [Lib.decodeN]
    rw [if_neg (by omega), if_neg (by omega), if_neg (by omega), if_pos (by omega), if_pos (by omega), Prod.mk.injEq]
    exact ⟨by omega, rfl⟩

theorem enc_ok (p : Int) (hp : isPt p = true) (r : List UInt8) : decOk (enc p ++ r) = true := by
  unfold decOk
  rw [enc_dec p hp r, enc_len]
  rw [isPt_iff] at hp
  simp only []
  (repeat' split) <;> simp <;> omega

theorem explode_enc (p : Int) (hp : isPt p = true) (r : List UInt8) : explode (enc p ++ r) = p :: explode r := by
  rw [explode_cons _ (by have := (enc_pos p).1; rw [List.length_append]; omega), enc_dec p hp r]
  simp only [List.drop_left]
  rw [isPt_iff] at hp
  rw [Int.toNat_of_nonneg hp.1]

theorem valid_enc (p : Int) (hp : isPt p = true) (r : List UInt8) : valid (enc p ++ r) = (enc p).length + valid r := by
  rw [valid_step _ (by have := (enc_pos p).1; rw [List.length_append]; omega) (enc_ok p hp r), enc_dec p hp r]
  simp only [List.drop_left]

theorem explode_all (l : List Int) (h : ∀ p ∈ l, isPt p = true) : explode (allB l) = l := by
  induction l with
  | nil => exact explode_nil [] rfl
  | cons p l ih => rw [allB_cons, explode_enc p (h p (by simp)), ih (fun q hq => h q (by simp [hq]))]
theorem valid_all (l : List Int) (h : ∀ p ∈ l, isPt p = true) : valid (allB l) = (allB l).length := by
  induction l with
  | nil => exact valid_nil [] rfl
  | cons p l ih => rw [allB_cons, valid_enc p (h p (by simp)), ih (fun q hq => h q (by simp [hq])), List.length_append]

theorem valid_clean (l : List UInt8) : valid (clean l) = (clean l).length := valid_all _ (explode_pt l)
theorem clean_clean (l : List UInt8) : clean (clean l) = clean l := clean_valid _ (valid_clean l)
theorem allPt_explode (l : List UInt8) : allPt (explode l) = true := List.all_eq_true.2 (explode_pt l)
theorem clean_len (l : List UInt8) : (clean l).length ≤ 4 * l.length := by
  have h1 := allB_len (explode l)
  have h2 := explode_len l
  unfold clean; omega

end Go.Proofs.YtnbfikfngekfoaaDoor
