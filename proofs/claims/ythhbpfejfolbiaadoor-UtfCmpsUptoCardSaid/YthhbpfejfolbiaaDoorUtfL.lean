/-
  Of sound texts the order of the bytes is the order of the code points; the walk of utf's Cmp.
-/
import Derived.Test.YthhbpfejfolbiaaDoorUtfK
namespace Go.Proofs.YthhbpfejfolbiaaDoor
open Go.RowKit

/-- two lists of bytes -/
def cmpB (l m : List UInt8) : Int := if Op.bytesLess l m = true then -1 else if l = m then 0 else 1

theorem cmpB_nil : cmpB [] [] = 0 := rfl
theorem cmpB_less (b : UInt8) (m : List UInt8) : cmpB [] (b :: m) = -1 := rfl
theorem cmpB_more (a : UInt8) (l : List UInt8) : cmpB (a :: l) [] = 1 := by simp [cmpB, Op.bytesLess]
theorem cmpB_cons (a b : UInt8) (l m : List UInt8) : cmpB (a :: l) (b :: m) = if a < b then -1 else if b < a then 1 else cmpB l m := by
  unfold cmpB
  simp only [Op.bytesLess]
  by_cases h1 : a < b
  · simp [h1]
  · by_cases h2 : b < a
    · have hne : ¬ a = b := by rintro rfl; exact h1 h2
      simp [h1, h2, hne]
    · have he : a = b := by
        rw [UInt8.lt_iff_toNat_lt] at h1 h2
        rw [← UInt8.toNat_inj]; omega
      subst he
      simp [h1]

theorem ofNat_lt (x y : Int) (hx : 0 ≤ x ∧ x < 256) (hy : 0 ≤ y ∧ y < 256) : (UInt8.ofNat x.toNat < UInt8.ofNat y.toNat) ↔ x < y := by
  rw [UInt8.lt_iff_toNat_lt, UInt8.toNat_ofNat', UInt8.toNat_ofNat', Nat.mod_eq_of_lt (by omega), Nat.mod_eq_of_lt (by omega)]
  omega

theorem cmpB_num (x y : Int) (hx : 0 ≤ x ∧ x < 256) (hy : 0 ≤ y ∧ y < 256) (l m : List UInt8) : cmpB (UInt8.ofNat x.toNat :: l) (UInt8.ofNat y.toNat :: m) = if x < y then -1 else if y < x then 1 else cmpB l m := by
  rw [cmpB_cons]
  by_cases h1 : x < y
  · rw [if_pos ((ofNat_lt x y hx hy).2 h1), if_pos h1]
  · rw [if_neg (fun h => h1 ((ofNat_lt x y hx hy).1 h)), if_neg h1]
    by_cases h2 : y < x
    · rw [if_pos ((ofNat_lt y x hy hx).2 h2), if_pos h2]
    · rw [if_neg (fun h => h2 ((ofNat_lt y x hy hx).1 h)), if_neg h2]

theorem enc_one (p : Int) (h1 : p < 128) : enc p = [UInt8.ofNat p.toNat] := by
  unfold enc ptBytes; rw [if_pos h1]; rfl
theorem enc_two (p : Int) (h0 : 128 ≤ p) (h1 : p < 2048) : enc p = [UInt8.ofNat (192 + p / 64).toNat, UInt8.ofNat (128 + p % 64).toNat] := by
  unfold enc ptBytes; rw [if_neg (by omega), if_pos h1]; rfl
theorem enc_three (p : Int) (h0 : 2048 ≤ p) (h1 : p < 65536) : enc p = [UInt8.ofNat (224 + p / 4096).toNat, UInt8.ofNat (128 + p / 64 % 64).toNat, UInt8.ofNat (128 + p % 64).toNat] := by
  unfold enc ptBytes; rw [if_neg (by omega), if_neg (by omega), if_pos h1]; rfl
theorem enc_four (p : Int) (h0 : 65536 ≤ p) : enc p = [UInt8.ofNat (240 + p / 262144).toNat, UInt8.ofNat (128 + p / 4096 % 64).toNat, UInt8.ofNat (128 + p / 64 % 64).toNat, UInt8.ofNat (128 + p % 64).toNat] := by
  unfold enc ptBytes; rw [if_neg (by omega), if_neg (by omega), if_neg (by omega)]; rfl

theorem cmpB_enc (p q : Int) (hp : isPt p = true) (hq : isPt q = true) (x y : List UInt8) :
    cmpB (enc p ++ x) (enc q ++ y) = if p < q then -1 else if q < p then 1 else cmpB x y := by
  rw [isPt_iff] at hp hq
  have lead : ∀ (a b : Int) (l m : List UInt8), 0 ≤ a ∧ a < 256 → 0 ≤ b ∧ b < 256 → a < b → cmpB (UInt8.ofNat a.toNat :: l) (UInt8.ofNat b.toNat :: m) = -1 := fun a b l m ha hb h => by rw [cmpB_num a b ha hb, if_pos h]
  have lead' : ∀ (a b : Int) (l m : List UInt8), 0 ≤ a ∧ a < 256 → 0 ≤ b ∧ b < 256 → b < a → cmpB (UInt8.ofNat a.toNat :: l) (UInt8.ofNat b.toNat :: m) = 1 := fun a b l m ha hb h => by rw [cmpB_num a b ha hb, if_neg (by omega), if_pos h]
  rcases (show p < 128 ∨ (128 ≤ p ∧ p < 2048) ∨ (2048 ≤ p ∧ p < 65536) ∨ 65536 ≤ p by omega) with p1 | ⟨p0, p1⟩ | ⟨p0, p1⟩ | p0 <;>
  rcases (show q < 128 ∨ (128 ≤ q ∧ q < 2048) ∨ (2048 ≤ q ∧ q < 65536) ∨ 65536 ≤ q by omega) with q1 | ⟨q0, q1⟩ | ⟨q0, q1⟩ | q0
  · rw [enc_one p p1, enc_one q q1]; simp only [List.cons_append, List.nil_append]
    rw [cmpB_num _ _ (by omega) (by omega)]
  · rw [enc_one p p1, enc_two q q0 q1, if_pos (by omega)]; exact lead _ _ _ _ (by omega) (by omega) (by omega)
  · rw [enc_one p p1, enc_three q q0 q1, if_pos (by omega)]; exact lead _ _ _ _ (by omega) (by omega) (by omega)
  · rw [enc_one p p1, enc_four q q0, if_pos (by omega)]; exact lead _ _ _ _ (by omega) (by omega) (by omega)
  · rw [enc_two p p0 p1, enc_one q q1, if_neg (by omega), if_pos (by omega)]; exact lead' _ _ _ _ (by omega) (by omega) (by omega)
  · rw [enc_two p p0 p1, enc_two q q0 q1]; simp only [List.cons_append, List.nil_append]
    rw [cmpB_num _ _ (by omega) (by omega), cmpB_num _ _ (by omega) (by omega)]
    (repeat' split) <;> first | rfl | (exfalso; omega)
  · rw [enc_two p p0 p1, enc_three q q0 q1, if_pos (by omega)]; exact lead _ _ _ _ (by omega) (by omega) (by omega)
  · rw [enc_two p p0 p1, enc_four q q0, if_pos (by omega)]; exact lead _ _ _ _ (by omega) (by omega) (by omega)
  · rw [enc_three p p0 p1, enc_one q q1, if_neg (by omega), if_pos (by omega)]; exact lead' _ _ _ _ (by omega) (by omega) (by omega)
  · rw [enc_three p p0 p1, enc_two q q0 q1, if_neg (by omega), if_pos (by omega)]; exact lead' _ _ _ _ (by omega) (by omega) (by omega)
  · rw [enc_three p p0 p1, enc_three q q0 q1]; simp only [List.cons_append, List.nil_append]
    rw [cmpB_num _ _ (by omega) (by omega), cmpB_num _ _ (by omega) (by omega), cmpB_num _ _ (by omega) (by omega)]
    (repeat' split) <;> first | rfl | (exfalso; omega)
  · rw [enc_three p p0 p1, enc_four q q0, if_pos (by omega)]; exact lead _ _ _ _ (by omega) (by omega) (by omega)
  · rw [enc_four p p0, enc_one q q1, if_neg (by omega), if_pos (by omega)]; exact lead' _ _ _ _ (by omega) (by omega) (by omega)
  · rw [enc_four p p0, enc_two q q0 q1, if_neg (by omega), if_pos (by omega)]; exact lead' _ _ _ _ (by omega) (by omega) (by omega)
  · rw [enc_four p p0, enc_three q q0 q1, if_neg (by omega), if_pos (by omega)]; exact lead' _ _ _ _ (by omega) (by omega) (by omega)
  · rw [enc_four p p0, enc_four q q0]; simp only [List.cons_append, List.nil_append]
    rw [cmpB_num _ _ (by omega) (by omega), cmpB_num _ _ (by omega) (by omega), cmpB_num _ _ (by omega) (by omega), cmpB_num _ _ (by omega) (by omega)]
    (repeat' split) <;> first | rfl | (exfalso; omega)

theorem cmpB_sound : ∀ (k : Nat) (a b : List UInt8), a.length ≤ k → valid a = a.length → valid b = b.length → cmpB a b = cmpL (explode a) (explode b) := by
  intro k
  induction k with
  | zero =>
    intro a b hl _ _
    obtain rfl : a = [] := List.eq_nil_of_length_eq_zero (by omega)
    rw [explode_nil [] rfl]
    cases b with
    | nil => rw [explode_nil [] rfl]; rfl
    | cons c m => rw [explode_cons _ (by simp)]; rfl
  | succ k ih =>
    intro a b hl ha hb
    by_cases a0 : a.length = 0
    · obtain rfl : a = [] := List.eq_nil_of_length_eq_zero a0
      rw [explode_nil [] rfl]
      cases b with
      | nil => rw [explode_nil [] rfl]; rfl
      | cons c m => rw [explode_cons _ (by simp)]; rfl
    by_cases b0 : b.length = 0
    · obtain rfl : b = [] := List.eq_nil_of_length_eq_zero b0
      rw [explode_nil [] rfl, explode_cons a a0]
      cases a with
      | nil => simp at a0
      | cons c m => rw [cmpB_more]; rfl
    have na := dec_n a a0
    have nb := dec_n b b0
    cases da : decOk a with
    | false => rw [valid_stop a da] at ha; omega
    | true =>
      cases db : decOk b with
      | false => rw [valid_stop b db] at hb; omega
      | true =>
        rw [valid_step a a0 da] at ha
        rw [valid_step b b0 db] at hb
        have hr := ih (a.drop (dec a).2) (b.drop (dec b).2) (by rw [List.length_drop]; omega) (by rw [List.length_drop]; omega) (by rw [List.length_drop]; omega)
        have ea : a = enc ((dec a).1 : Int) ++ a.drop (dec a).2 := by rw [dec_enc a da, List.take_append_drop]
        have eb : b = enc ((dec b).1 : Int) ++ b.drop (dec b).2 := by rw [dec_enc b db, List.take_append_drop]
        have hc := cmpB_enc _ _ (dec_pt a) (dec_pt b) (a.drop (dec a).2) (b.drop (dec b).2)
        rw [← ea, ← eb, hr] at hc
        rw [hc, explode_cons a a0, explode_cons b b0]
        rfl

theorem strCmp_sound (a b : ByteArray) (ha : valid a.data.toList = a.size) (hb : valid b.data.toList = b.size) : strCmp a b = cmpL (explode a.data.toList) (explode b.data.toList) := by
  rw [Lib.size_eq] at ha hb
  rw [← cmpB_sound _ _ _ (Nat.le_refl _) ha hb]
  unfold strCmp cmpB
  rw [Lib.toList_data, Lib.toList_data]

set_option maxHeartbeats 1000000 in
set_option maxRecDepth 100000 in
theorem utfCmp_any (s t : ByteArray) (w : World) (hT : Tabs w) (hs : s.size ≤ 17592186044416) (ht : t.size ≤ 17592186044416) :
    Calls Tryd.prog 27 #[.string s, .string t] w fun e w' => e = .returned (.int .i64 (cmpL (explode s.data.toList) (explode t.data.toList))) ∧ Below w.heap.size w w' := by
  have hn := explode_len s.data.toList
  have hm := explode_len t.data.toList
  rw [← Lib.size_eq] at hn hm
  have hsnd := strCmp_sound s t
  have v1 := utfValid_any s w hT (by unfold maxLen; omega)
  have v2 := fun w1 (hb : Below w.heap.size w w1) => utfValid_any t w1 (hT.below hb (Nat.le_refl _)) (by unfold maxLen; omega)
  generalize valid s.data.toList = V1 at v1 hsnd
  generalize valid t.data.toList = V2 at v2 hsnd
  have HS := Lib.hid hsnd
  have H1 := Lib.hid v1
  have H2 := Lib.hid v2
  clear hsnd v1 v2
  by_cases h1 : V1 = s.size
  · have b1 : ((V1 : Int) == (s.size : Int)) = true := by rw [h1]; simp
    by_cases h2 : V2 = t.size
    · have b2 : ((V2 : Int) == (t.size : Int)) = true := by rw [h2]; simp
      have HV := Lib.hid (HS.out h1 h2)
      clear h1 h2
      go_enter Tryd.func27, Tryd.ntmps27
      go_wp2_with (go_at_call 19; refine H1.out.mono ?_)
      rintro e w1 ⟨rfl, hb1⟩
      go_wp2_with (go_at_call 19; refine (H2.out _ hb1).mono ?_)
      rintro e w2 ⟨rfl, hb2⟩
      go_wp2_with (go_at_call 39; refine (cmpStr_any _ _ _).mono ?_)
      rintro e w3 ⟨rfl, rfl⟩
      go_wp2
      go_ret
      exact ⟨by rw [← HV.out]; rfl, hb1.trans (hb2.mono hb1.size)⟩
    · have b2 : ((V2 : Int) == (t.size : Int)) = false := by simp; omega
      clear h1 h2
      go_enter Tryd.func27, Tryd.ntmps27
      go_wp2_with (go_at_call 19; refine H1.out.mono ?_)
      rintro e w1 ⟨rfl, hb1⟩
      go_wp2_with (go_at_call 19; refine (H2.out _ hb1).mono ?_)
      rintro e w2 ⟨rfl, hb2⟩
      go_wp2_with (go_at_call 17; refine (utfExplode_any _ _ hs).mono ?_)
      rintro e w3 ⟨v, rfl, hown, hb3⟩
      obtain ⟨A, ca, rfl, hca, hA⟩ := hown.rd
      go_wp2_with (go_at_call 17; refine (utfExplode_any _ _ ht).mono ?_)
      rintro e w4 ⟨v, rfl, hown2, hb4⟩
      obtain ⟨B, cb, rfl, hcb, hB⟩ := hown2.rd
      go_wp2_with (go_at_call 40; refine (slicesCompare_any _ _ _ _ _ _ _ _ _ (hA.below hb4) hB (by unfold maxLen; omega) (by unfold maxLen; omega)).mono ?_)
      rintro e w5 ⟨rfl, hb5⟩
      go_wp2
      go_ret
      have f1 := hb1.size; have f2 := hb2.size; have f3 := hb3.size; have f4 := hb4.size
      exact ⟨rfl, hb1.trans ((hb2.mono f1).trans ((hb3.mono (by omega)).trans ((hb4.mono (by omega)).trans (hb5.mono (by omega)))))⟩
  · have b1 : ((V1 : Int) == (s.size : Int)) = false := by simp; omega
    clear h1
    go_enter Tryd.func27, Tryd.ntmps27
    go_wp2_with (go_at_call 19; refine H1.out.mono ?_)
    rintro e w1 ⟨rfl, hb1⟩
    go_wp2_with (go_at_call 17; refine (utfExplode_any _ _ hs).mono ?_)
    rintro e w3 ⟨v, rfl, hown, hb3⟩
    obtain ⟨A, ca, rfl, hca, hA⟩ := hown.rd
    go_wp2_with (go_at_call 17; refine (utfExplode_any _ _ ht).mono ?_)
    rintro e w4 ⟨v, rfl, hown2, hb4⟩
    obtain ⟨B, cb, rfl, hcb, hB⟩ := hown2.rd
    go_wp2_with (go_at_call 40; refine (slicesCompare_any _ _ _ _ _ _ _ _ _ (hA.below hb4) hB (by unfold maxLen; omega) (by unfold maxLen; omega)).mono ?_)
    rintro e w5 ⟨rfl, hb5⟩
    go_wp2
    go_ret
    have f1 := hb1.size; have f3 := hb3.size; have f4 := hb4.size
    exact ⟨rfl, hb1.trans ((hb3.mono f1).trans ((hb4.mono (by omega)).trans (hb5.mono (by omega))))⟩

end Go.Proofs.YthhbpfejfolbiaaDoor
