/-
  The walk of LexJoins (chapter 14).
-/
import Derived.Test.YtnbfikfngekfoaaDoorLexM
import Derived.Test.YtnbfikfngekfoaaDoorLexQ
import Derived.Test.YtnbfikfngekfoaaDoorLexT
namespace Go.Proofs.YtnbfikfngekfoaaDoor
open Go.RowKit

theorem tokens_low (l : List UInt8) : ∀ k ∈ (tokensV l).1, k.pos ≤ l.length := fun k hk => by
  by_cases h : (tokensV l).2.2 = 0
  · exact Nat.le_of_lt (((tokens_rises l).2 h).2.1 k hk).1
  · rw [((tokens_rises l).1 h).1] at hk; cases hk

set_option maxHeartbeats 4000000 in
set_option maxRecDepth 100000 in
theorem lexJoins_walk (S T : ByteArray) (w : World) (hT : Tabs w) :
    Calls Tryd.prog 5 #[.string S, .string T] w fun e w' => e = .returned (.bool true) ∧ Below w.heap.size w w' := by
  have K1 := Lib.hid (RetE.of (lexShown_any w hT))
  have HT := Lib.hid hT
  clear hT
  by_cases hs : S.size ≤ 3000
  rotate_left
  · have z1 : decide ((3000 : Int) < (S.size : Int)) = true := decide_eq_true (by omega)
    go_enter Tryd.func5, Tryd.ntmps5
    go_wp2_with (go_at_call 7; refine K1.out.mono ?_)
    rintro e w1 ⟨rfl, hb1⟩
    go_wp2
    go_ret
    exact ⟨rfl, hb1⟩
  have z1 : decide ((3000 : Int) < (S.size : Int)) = false := decide_eq_false (by omega)
  by_cases ht : T.size ≤ 3000
  rotate_left
  · have z2 : decide ((3000 : Int) < (T.size : Int)) = true := decide_eq_true (by omega)
    go_enter Tryd.func5, Tryd.ntmps5
    go_wp2_with (go_at_call 7; refine K1.out.mono ?_)
    rintro e w1 ⟨rfl, hb1⟩
    go_wp2
    go_ret
    exact ⟨rfl, hb1⟩
  have z2 : decide ((3000 : Int) < (T.size : Int)) = false := decide_eq_false (by omega)
  have hLS := Lib.size_eq S
  have hLT := Lib.size_eq T
  obtain ⟨X, hX⟩ : ∃ X, S ++ ⟨#[10]⟩ ++ T = X := ⟨_, rfl⟩
  have hXl : X.data.toList = S.data.toList ++ 10 :: T.data.toList := by rw [← hX]; simp
  have hXs : X.size ≤ 6001 := by rw [Lib.size_eq, hXl, List.length_append, List.length_cons]; omega
  have htj := tokens_joins S.data.toList T.data.toList (by rw [← hLS]; exact hs) (by rw [← hLT]; exact ht)
  have hl1 := (tokens_len S.data.toList).2
  have hl2 := (tokens_len T.data.toList).2
  have k2 := fun W h => lexTokens_any S W h (by unfold maxLen; omega)
  have k3 := fun W h => lexTokens_any T W h (by unfold maxLen; omega)
  have k4 := fun W h => lexTokens_any X W h (by unfold maxLen; omega)
  rw [hXl] at k4
  rw [← hLS] at htj
  rw [← hLS] at hl1
  rw [← hLT] at hl2
  clear hXl
  obtain ⟨⟨ks, a1, e1⟩, hV1⟩ : ∃ V, tokensV S.data.toList = V := ⟨_, rfl⟩
  obtain ⟨⟨ms, a2, e2⟩, hV2⟩ : ∃ V, tokensV T.data.toList = V := ⟨_, rfl⟩
  rw [hV1, hV2] at htj
  rw [hV1] at hl1
  rw [hV2] at hl2
  simp only at htj hl1 hl2
  have ha2 : a2 ≤ 3000 := by
    have := tokensV_at T.data.toList
    rw [hV2, ← hLT] at this
    simp only at this; omega
  have HTJ := Lib.hid htj
  have HV1 := Lib.hid hV1
  have HV2 := Lib.hid hV2
  have K2 := Lib.hid k2
  have K3 := Lib.hid k3
  have K4 := Lib.hid k4
  clear htj hV1 hV2 k2 k3 k4 hLS hLT
  go_enter Tryd.func5, Tryd.ntmps5
  go_wp2_with (go_at_call 7; refine K1.out.mono ?_)
  rintro e w1 ⟨rfl, hb1⟩
  have HB1 := Lib.hid hb1
  clear hb1
  go_wp2_with (go_at_call 9; refine (K2.out _ (HT.out.below HB1.out (Nat.le_refl _))).mono ?_)
  intro e w2 h2
  obtain ⟨A2, cap2, rfl, ho2, hb2⟩ := h2.opened HV1.out
  have HO2 := Lib.hid ho2
  have HB2 := Lib.hid (HB1.out.trans (hb2.mono HB1.out.size))
  clear h2 ho2 hb2
  go_wp2_with (go_at_call 9; refine (K3.out _ (HT.out.below HB2.out (Nat.le_refl _))).mono ?_)
  intro e w3 h3
  obtain ⟨A3, cap3, rfl, ho3, hb3⟩ := h3.opened HV2.out
  have HO3 := Lib.hid ho3
  have HB23 := Lib.hid hb3
  have HB3 := Lib.hid (HB2.out.trans (hb3.mono HB2.out.size))
  have hs3 := hb3.size
  clear h3 ho3 hb3
  by_cases he1 : e1 = 0
  rotate_left
  · have ze : ((e1 : Int) != 0) = true := by rw [bne_iff_ne]; omega
    clear he1
    go_wp2
    go_ret
    exact ⟨rfl, HB3.out⟩
  have ze : ((e1 : Int) != 0) = false := by rw [he1]; rfl
  obtain ⟨ht1, ht2⟩ := HTJ.out he1
  have HT1 := Lib.hid ht1
  have HT2 := Lib.hid ht2
  clear he1 ht1 ht2
  go_wp2_with (go_at_call 9; refine (K4.out _ (HT.out.below HB3.out (Nat.le_refl _))).mono ?_)
  intro e w4 h4
  by_cases he2 : e2 = 0
  rotate_left
  · obtain ⟨A4, cap4, rfl, ho4, hb4⟩ := h4.opened (HT1.out he2)
    have HB4 := Lib.hid (HB3.out.trans (hb4.mono HB3.out.size))
    have ze2 : ((e2 : Int) != 0) = true := by rw [bne_iff_ne]; omega
    have ze3 : ((e2 : Int) == (e2 : Int)) = true := by simp
    clear he2 h4 ho4 hb4
    go_wp2
    go_ret
    exact ⟨by simp, HB4.out⟩
  obtain ⟨A4, cap4, rfl, ho4, hb4⟩ := h4.opened (HT2.out he2)
  have HB34 := Lib.hid hb4
  have HB4 := Lib.hid (HB3.out.trans (hb4.mono HB3.out.size))
  have ze2 : ((e2 : Int) != 0) = false := by rw [he2]; rfl
  have hs4 := hb4.size
  obtain ⟨ns, hns⟩ : ∃ ns, ks ++ ms.map (shK (S.size + 1)) = ns := ⟨_, rfl⟩
  have hnl : ns.length = ks.length + ms.length := by rw [← hns]; simp
  rw [hns] at ho4
  have HNS := Lib.hid hns
  have HO4 := Lib.hid ho4
  clear he2 h4 ho4 hb4
  simp only [hns]
  clear hns
  have HNL := Lib.hid hnl
  go_wp2
  go_loopw [15] (fun iv wr => ∃ i : Nat, i ≤ ns.length ∧ iv = .int .i64 (i : Int) ∧ Hid (Below w4.heap.size w4 wr)) (fun iv _ => ns.length - (intOf iv).toNat)
  case atStart => exact ⟨0, Nat.zero_le _, rfl, Below.refl _ _⟩
  case round =>
    obtain ⟨i, hi, rfl, hbw⟩ := hrel
    have hbs := hbw.out.size
    by_cases hlt : i < ns.length
    · obtain ⟨q4, rfl, hq40, hq41⟩ := tk_block HO4.out (by omega)
      by_cases hik : i < ks.length
      · obtain ⟨q2, rfl, hq20, hq21⟩ := tk_block HO2.out (by omega)
        obtain ⟨k, hk⟩ : ∃ k, ks[i]? = some k := ⟨_, List.getElem?_eq_getElem hik⟩
        have hn : ns[i]? = some k := by rw [← HNS.out, List.getElem?_append_left hik]; exact hk
        obtain ⟨a0, a1', a2'⟩ := tk_at HO2.out i k hk
        obtain ⟨b0, b1, b2⟩ := tk_at HO4.out i k hn
        have hB := (HB23.out.trans (HB34.out.mono HB23.out.size)).trans (hbw.out.mono (by have := HB23.out.size; have := HB34.out.size; omega))
        have c2 : ∀ j, wr.cell? ⟨q2, j, none⟩ = w2.cell? ⟨q2, j, none⟩ := fun j => hB.cell (p := ⟨q2, j, none⟩) hq21
        have c4 : ∀ j, wr.cell? ⟨q4, j, none⟩ = w4.cell? ⟨q4, j, none⟩ := fun j => hbw.out.cell (p := ⟨q4, j, none⟩) hq41
        have hq2r : q2 < wr.heap.size := by have := HB23.out.size; omega
        have hq4r : q4 < wr.heap.size := by omega
        rw [← c2] at a0 a1' a2'
        rw [← c4] at b0 b1 b2
        obtain ⟨kk, kt, kp⟩ := k
        simp only at a0 a1' a2' b0 b1 b2
        clear c2 c4 hB hk hn
        go_wp2
        go_quiet (fail)
        go_wp2
        go_roundw
        case rel =>
          exact ⟨i + 1, by omega, by go_num, Lib.hid ((hbw.out.alloc hbs _).trans ⟨rfl, rfl, rfl, Nat.le_refl _, fun _ _ => rfl⟩)⟩
        case measure => simp [intOf]; omega
      · obtain ⟨q3, rfl, hq30, hq31⟩ := tk_block HO3.out (by omega)
        obtain ⟨j, rfl⟩ : ∃ j, i = ks.length + j := ⟨i - ks.length, by omega⟩
        obtain ⟨k, hk⟩ : ∃ k, ms[j]? = some k := ⟨_, List.getElem?_eq_getElem (by omega)⟩
        have hn : ns[ks.length + j]? = some (shK (S.size + 1) k) := by
          rw [← HNS.out, List.getElem?_append_right (by omega), Nat.add_sub_cancel_left, List.getElem?_map, hk]; rfl
        obtain ⟨a0, a1', a2'⟩ := tk_at HO3.out j k hk
        obtain ⟨b0, b1, b2⟩ := tk_at HO4.out (ks.length + j) _ hn
        have hB := HB34.out.trans (hbw.out.mono HB34.out.size)
        have c2 : ∀ j, wr.cell? ⟨q3, j, none⟩ = w3.cell? ⟨q3, j, none⟩ := fun j => hB.cell (p := ⟨q3, j, none⟩) hq31
        have c4 : ∀ j, wr.cell? ⟨q4, j, none⟩ = w4.cell? ⟨q4, j, none⟩ := fun j => hbw.out.cell (p := ⟨q4, j, none⟩) hq41
        have hq2r : q3 < wr.heap.size := by have := HB34.out.size; omega
        have hq4r : q4 < wr.heap.size := by omega
        rw [← c2] at a0 a1' a2'
        rw [← c4] at b0 b1 b2
        obtain ⟨kk, kt, kp⟩ := k
        have hkp : kp ≤ 100000000 := by
          have := (tokens_low T.data.toList) _ (by rw [HV2.out]; exact List.mem_of_getElem? hk)
          simp only at this
          have := Lib.size_eq T
          omega
        simp only [shK] at a0 a1' a2' b0 b1 b2
        have hpp : ((kp + (S.size + 1) : Nat) : Int) = (kp : Int) + (S.size : Int) + 1 := by omega
        rw [hpp] at b2
        have hji : ((ks.length + j : Nat) : Int) - (ks.length : Int) = (j : Int) := by omega
        have hik' : decide (ks.length + j < ks.length) = false := decide_eq_false (by omega)
        clear c2 c4 hB hk hn hpp
        go_wp2
        go_quiet (fail)
        go_wp2
        go_roundw
        case rel =>
          exact ⟨ks.length + j + 1, by omega, by go_num, Lib.hid ((hbw.out.alloc hbs _).trans ⟨rfl, rfl, rfl, Nat.le_refl _, fun _ _ => rfl⟩)⟩
        case measure => simp [intOf]; omega
    · obtain rfl : i = ns.length := by omega
      go_wp2
      go_ret
      exact ⟨rfl, HB4.out.trans (hbw.out.mono HB4.out.size)⟩

end Go.Proofs.YtnbfikfngekfoaaDoor
