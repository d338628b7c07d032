/-
  There and back (P4.4), and the walks of the other statements of chapter 4.
-/
import Derived.Test.YthhbpfejfolbiaaDoorUtfM
namespace Go.Proofs.YthhbpfejfolbiaaDoor
open Go.RowKit

theorem bt_num (x : Int) (h : 0 ≤ x ∧ x < 256) (r : List UInt8) : bt (UInt8.ofNat x.toNat :: r) 0 = x.toNat := by
  rw [bt_cons0, UInt8.toNat_ofNat', Nat.mod_eq_of_lt (by omega)]

theorem enc_dec (p : Int) (hp : isPt p = true) (r : List UInt8) : dec (enc p ++ r) = (p.toNat, (enc p).length) := by
  rw [isPt_iff] at hp
  have hl := (enc_pos p).1
  unfold dec
  rw [if_neg (by rw [List.length_append]; omega)]
  generalize hL : (enc p ++ r).length = n
  have hn : (enc p).length ≤ n := by rw [← hL, List.length_append]; omega
  clear hL
  rcases (show p < 128 ∨ (128 ≤ p ∧ p < 2048) ∨ (2048 ≤ p ∧ p < 65536) ∨ 65536 ≤ p by omega) with p1 | ⟨p0, p1⟩ | ⟨p0, p1⟩ | p0
  · rw [enc_one p p1] at hn ⊢
    simp only [List.cons_append, List.nil_append, bt_num p (by omega)]
    simp only [Lib.decodeN]
    rw [if_pos (by omega)]; rfl
  · rw [enc_two p p0 p1] at hn ⊢
    simp only [List.cons_append, List.nil_append, bt_num (192 + p / 64) (by omega), bt_cons, bt_num (128 + p % 64) (by omega)]
    simp only [List.length_cons, List.length_nil] at hn ⊢
    simp only [Lib.decodeN]
    rw [if_neg (by omega), if_pos (by omega), if_pos (by omega), Prod.mk.injEq]
    exact ⟨by omega, rfl⟩
  · rw [enc_three p p0 p1] at hn ⊢
    simp only [List.cons_append, List.nil_append, bt_num (224 + p / 4096) (by omega), bt_cons, bt_num (128 + p / 64 % 64) (by omega), bt_num (128 + p % 64) (by omega)]
    simp only [List.length_cons, List.length_nil] at hn ⊢
    simp only [Lib.decodeN]
    rw [if_neg (by omega), if_neg (by omega), if_pos (by omega), if_pos (by omega), Prod.mk.injEq]
    exact ⟨by omega, rfl⟩
  · rw [enc_four p p0] at hn ⊢
    simp only [List.cons_append, List.nil_append, bt_num (240 + p / 262144) (by omega), bt_cons, bt_num (128 + p / 4096 % 64) (by omega), bt_num (128 + p / 64 % 64) (by omega), bt_num (128 + p % 64) (by omega)]
    simp only [List.length_cons, List.length_nil] at hn ⊢
    simp only [Lib.decodeN]
    rw [if_neg (by omega), if_neg (by omega), if_neg (by omega), if_pos (by omega), if_pos (by omega), Prod.mk.injEq]
    exact ⟨by omega, rfl⟩

theorem enc_ok (p : Int) (hp : isPt p = true) (r : List UInt8) : decOk (enc p ++ r) = true := by
  unfold decOk
  rw [enc_dec p hp r, enc_len]
  rw [isPt_iff] at hp
  simp only []
  (repeat' split) <;> simp <;> omega

theorem explode_enc (p : Int) (hp : isPt p = true) (r : List UInt8) : explode (enc p ++ r) = p :: explode r := by
  rw [explode_cons _ (by have := (enc_pos p).1; rw [List.length_append]; omega), enc_dec p hp r]
  simp only [List.drop_left]
  rw [isPt_iff] at hp
  rw [Int.toNat_of_nonneg hp.1]

theorem valid_enc (p : Int) (hp : isPt p = true) (r : List UInt8) : valid (enc p ++ r) = (enc p).length + valid r := by
  rw [valid_step _ (by have := (enc_pos p).1; rw [List.length_append]; omega) (enc_ok p hp r), enc_dec p hp r]
  simp only [List.drop_left]

theorem explode_all (l : List Int) (h : ∀ p ∈ l, isPt p = true) : explode (allB l) = l := by
  induction l with
  | nil => exact explode_nil [] rfl
  | cons p l ih => rw [allB_cons, explode_enc p (h p (by simp)), ih (fun q hq => h q (by simp [hq]))]
theorem valid_all (l : List Int) (h : ∀ p ∈ l, isPt p = true) : valid (allB l) = (allB l).length := by
  induction l with
  | nil => exact valid_nil [] rfl
  | cons p l ih => rw [allB_cons, valid_enc p (h p (by simp)), ih (fun q hq => h q (by simp [hq])), List.length_append]

theorem valid_clean (l : List UInt8) : valid (clean l) = (clean l).length := valid_all _ (explode_pt l)
theorem clean_clean (l : List UInt8) : clean (clean l) = clean l := clean_valid _ (valid_clean l)
theorem allPt_explode (l : List UInt8) : allPt (explode l) = true := List.all_eq_true.2 (explode_pt l)
theorem clean_len (l : List UInt8) : (clean l).length ≤ 4 * l.length := by
  have h1 := allB_len (explode l)
  have h2 := explode_len l
  unfold clean; omega

theorem part_join (l : List UInt8) (at_ : Int) (h : valid l = l.length) : part l 0 at_ ++ part l at_ (explode l).length = l := by
  unfold part
  have w0 : within 0 (explode l).length = 0 := by unfold within; rw [if_neg (by omega), if_neg (by omega)]; rfl
  have wn : within ((explode l).length : Int) (explode l).length = (explode l).length := by unfold within; rw [if_neg (by omega), if_neg (by omega)]; omega
  rw [w0, wn]
  generalize within at_ (explode l).length = i
  rw [← allB_append, List.drop_zero, Nat.sub_zero, List.take_of_length_le (l := (explode l).drop i) (by rw [List.length_drop]; omega), List.take_append_drop]
  exact clean_valid l h

set_option maxHeartbeats 1000000 in
set_option maxRecDepth 100000 in
theorem utfImplodes_walk (A : Option Addr) (n cap : Nat) (l : List Int) (w : World) (hT : Tabs w) (hR : RdI w A n l) (hn : n ≤ 17592186044416) :
    Calls Tryd.prog 7 #[.slice A n cap] w fun e w' => e = .returned (.bool true) ∧ Below w.heap.size w w' := by
  have k1 := fun w h => utfImplode_any A n cap l w h hn
  have k2 := fun w h => refImplode_any A n cap l w h hn
  unfold impVal at k1 k2
  generalize (if allPt l = true then (⟨(allB l).toArray⟩ : ByteArray) else ⟨#[]⟩) = s at k1 k2
  generalize (if allPt l = true then (0 : Int) else 1) = m at k1 k2
  have K1 := Lib.hid k1
  have K2 := Lib.hid k2
  have HR := Lib.hid hR
  clear k1 k2 hR
  go_enter Tryd.func7, Tryd.ntmps7
  go_wp2_with (go_at_call 11; refine (shown_any _ hT).mono ?_)
  rintro e w1 ⟨rfl, hb1⟩
  go_wp2_with (go_at_call 25; refine (K1.out _ (HR.out.below hb1)).mono ?_)
  rintro e w2 ⟨rfl, hb2⟩
  have hb12 := hb1.trans (hb2.mono hb1.size)
  go_wp2_with (go_at_call 26; refine (K2.out _ (HR.out.below hb12)).mono ?_)
  rintro e w3 ⟨rfl, hb3⟩
  have hb13 := hb12.trans (hb3.mono hb12.size)
  go_wp2
  go_ret
  exact ⟨rfl, hb13⟩

set_option maxHeartbeats 1000000 in
set_option maxRecDepth 100000 in
theorem utfCmps_walk (s t : ByteArray) (w : World) (hT : Tabs w) (hs : s.size ≤ 17592186044416) (ht : t.size ≤ 17592186044416) :
    Calls Tryd.prog 9 #[.string s, .string t] w fun e w' => e = .returned (.bool true) ∧ Below w.heap.size w w' := by
  have k1 := fun w h => utfCmp_any s t w h hs ht
  have k2 := fun w => refCmp_any s t w hs ht
  generalize cmpL (explode s.data.toList) (explode t.data.toList) = c at k1 k2
  have K1 := Lib.hid k1
  have K2 := Lib.hid k2
  clear k1 k2
  go_enter Tryd.func9, Tryd.ntmps9
  go_wp2_with (go_at_call 11; refine (shown_any _ hT).mono ?_)
  rintro e w1 ⟨rfl, hb1⟩
  go_wp2_with (go_at_call 27; refine (K1.out _ (hT.below hb1 (Nat.le_refl _))).mono ?_)
  rintro e w2 ⟨rfl, hb2⟩
  have hb12 := hb1.trans (hb2.mono hb1.size)
  go_wp2_with (go_at_call 28; refine (K2.out _).mono ?_)
  rintro e w3 ⟨rfl, hb3⟩
  have hb13 := hb12.trans (hb3.mono hb12.size)
  go_wp2
  go_ret
  exact ⟨rfl, hb13⟩

set_option maxHeartbeats 1000000 in
set_option maxRecDepth 100000 in
theorem utfSlices_walk (s : ByteArray) (p q : Int) (w : World) (hT : Tabs w) (hs : s.size ≤ 17592186044416) :
    Calls Tryd.prog 6 #[.string s, .int .i64 p, .int .i64 q] w fun e w' => e = .returned (.bool true) ∧ Below w.heap.size w w' := by
  have k1 := fun w => utfSlice_any s p q w hs
  have k2 := fun w => refSlice_any s p q w hs
  generalize (⟨(part s.data.toList p q).toArray⟩ : ByteArray) = c at k1 k2
  have K1 := Lib.hid k1
  have K2 := Lib.hid k2
  clear k1 k2
  go_enter Tryd.func6, Tryd.ntmps6
  go_wp2_with (go_at_call 11; refine (shown_any _ hT).mono ?_)
  rintro e w1 ⟨rfl, hb1⟩
  go_wp2_with (go_at_call 23; refine (K1.out _).mono ?_)
  rintro e w2 ⟨rfl, hb2⟩
  have hb12 := hb1.trans (hb2.mono hb1.size)
  go_wp2_with (go_at_call 24; refine (K2.out _).mono ?_)
  rintro e w3 ⟨rfl, hb3⟩
  have hb13 := hb12.trans (hb3.mono hb12.size)
  go_wp2
  go_ret
  exact ⟨rfl, hb13⟩

theorem refSame_same (A B : Option Addr) (n m ca cb : Nat) (l : List Int) (w : World) (hA : RdI w A n l) (hB : RdI w B m l) (hn : n ≤ 17592186044416) (hm : m ≤ 17592186044416) :
    Calls Tryd.prog 16 #[.slice A n ca, .slice B m cb] w fun e w' => e = .returned (.bool true) ∧ Below w.heap.size w w' :=
  (refSame_any A B n m ca cb l l w hA hB (by unfold maxLen; omega) (by unfold maxLen; omega)).mono fun e w' h => ⟨by rw [h.1]; simp, h.2⟩

set_option maxHeartbeats 1000000 in
set_option maxRecDepth 100000 in
theorem utfCleans_walk (s : ByteArray) (w : World) (hT : Tabs w) (hs : s.size ≤ 17592186044416) :
    Calls Tryd.prog 5 #[.string s] w fun e w' => e = .returned (.bool true) ∧ Below w.heap.size w w' := by
  have hm : s.size ≤ maxLen := by unfold maxLen; omega
  have k1 := fun w h => utfValid_any s w h hm
  have k2 := fun w => refValid_any s w hm
  have k3 := fun w h => utfClean_any s w h hs
  have k4 := fun w => refClean_any s w hs
  have k5 := fun w => utfExplode_any s w hs
  have k6 := fun w => refExplode_any s w hs
  have hlen := explode_len s.data.toList
  rw [← Lib.size_eq] at hlen
  generalize valid s.data.toList = V at k1 k2
  generalize (⟨(clean s.data.toList).toArray⟩ : ByteArray) = c at k3 k4
  generalize explode s.data.toList = l at k5 k6 hlen
  have K1 := Lib.hid k1
  have K2 := Lib.hid k2
  have K3 := Lib.hid k3
  have K4 := Lib.hid k4
  have K5 := Lib.hid k5
  have K6 := Lib.hid k6
  clear k1 k2 k3 k4 k5 k6 hm
  go_enter Tryd.func5, Tryd.ntmps5
  go_wp2_with (go_at_call 11; refine (shown_any _ hT).mono ?_)
  rintro e w1 ⟨rfl, hb1⟩
  go_wp2_with (go_at_call 17; refine (K5.out _).mono ?_)
  rintro e w2 ⟨v, rfl, hown, hb2⟩
  obtain ⟨A, ca, rfl, hca, hA⟩ := hown.rd
  have hb12 := hb1.trans (hb2.mono hb1.size)
  go_wp2_with (go_at_call 18; refine (K6.out _).mono ?_)
  rintro e w3 ⟨v, rfl, hown2, hb3⟩
  obtain ⟨B, cb, rfl, hcb, hB⟩ := hown2.rd
  have hb13 := hb12.trans (hb3.mono hb12.size)
  have hA' := hA.below hb3
  have HA := Lib.hid hA'
  have HB := Lib.hid hB
  clear hA hA' hB hown hown2
  go_wp2_with (go_at_call 16; refine (refSame_same _ _ _ _ _ _ _ _ HA.out HB.out (by omega) (by omega)).mono ?_)
  rintro e w4 ⟨rfl, hb4⟩
  have hb14 := hb13.trans (hb4.mono hb13.size)
  go_wp2_with (go_at_call 19; refine (K1.out _ (hT.below hb14 (Nat.le_refl _))).mono ?_)
  rintro e w5 ⟨rfl, hb5⟩
  have hb15 := hb14.trans (hb5.mono hb14.size)
  go_wp2_with (go_at_call 20; refine (K2.out _).mono ?_)
  rintro e w6 ⟨rfl, hb6⟩
  have hb16 := hb15.trans (hb6.mono hb15.size)
  go_wp2_with (go_at_call 21; refine (K3.out _ (hT.below hb16 (Nat.le_refl _))).mono ?_)
  rintro e w7 ⟨rfl, hb7⟩
  have hb17 := hb16.trans (hb7.mono hb16.size)
  go_wp2_with (go_at_call 22; refine (K4.out _).mono ?_)
  rintro e w8 ⟨rfl, hb8⟩
  have hb18 := hb17.trans (hb8.mono hb17.size)
  go_wp2
  go_ret
  exact ⟨rfl, hb18⟩

set_option maxHeartbeats 1000000 in
set_option maxRecDepth 100000 in
theorem utfOrder_walk (s t : ByteArray) (at_ : Int) (w : World) (hT : Tabs w) (hs : s.size ≤ 2097152) (ht : t.size ≤ 2097152) :
    Calls Tryd.prog 10 #[.string s, .string t, .int .i64 at_] w fun e w' => e = .returned (.bool true) ∧ Below w.heap.size w w' := by
  have k1 := fun w h => utfClean_any s w h (by omega)
  have k2 := fun w h => utfClean_any t w h (by omega)
  have v1 := valid_clean s.data.toList
  have v2 := valid_clean t.data.toList
  have l1 := clean_len s.data.toList
  have l2 := clean_len t.data.toList
  rw [← Lib.size_eq] at l1 l2
  obtain ⟨x, hx⟩ : ∃ x : ByteArray, x = ⟨(clean s.data.toList).toArray⟩ := ⟨_, rfl⟩
  obtain ⟨y, hy⟩ : ∃ y : ByteArray, y = ⟨(clean t.data.toList).toArray⟩ := ⟨_, rfl⟩
  have ex : x.data.toList = clean s.data.toList := by rw [hx]
  have ey : y.data.toList = clean t.data.toList := by rw [hy]
  rw [← hx] at k1
  rw [← hy] at k2
  rw [← ex] at v1 l1
  rw [← ey] at v2 l2
  clear hx hy ex ey
  have hxs : x.size ≤ 8388608 := by rw [Lib.size_eq]; omega
  have hys : y.size ≤ 8388608 := by rw [Lib.size_eq]; omega
  have hc := strCmp_sound x y (by rw [v1, Lib.size_eq]) (by rw [v2, Lib.size_eq])
  have hj := part_join x.data.toList at_ v1
  have hlen := explode_len x.data.toList
  rw [← Lib.size_eq] at hlen
  have k3 := fun w => utfExplode_any x w (by omega)
  have k4 := fun w h => utfCmp_any x y w h (by omega) (by omega)
  rw [← hc] at k4
  have k5 := fun w => utfSlice_any x 0 at_ w (by omega)
  have k6 := fun w => utfSlice_any x at_ ((explode x.data.toList).length : Int) w (by omega)
  generalize explode x.data.toList = l at *
  generalize part x.data.toList 0 at_ = p1 at *
  generalize part x.data.toList at_ (l.length : Int) = p2 at *
  have hp : (⟨p1.toArray⟩ : ByteArray) ++ ⟨p2.toArray⟩ = x := by
    rw [ByteArray.mk_append_mk, hj, Lib.mk_data]
  have hps : p1.length + p2.length = x.size := by rw [Lib.size_eq, ← hj, List.length_append]
  have K1 := Lib.hid k1
  have K2 := Lib.hid k2
  have K3 := Lib.hid k3
  have K4 := Lib.hid k4
  have K5 := Lib.hid k5
  have K6 := Lib.hid k6
  have HP := Lib.hid hp
  have hpz : (p1.length : Int) + (p2.length : Int) ≤ 8388608 := by omega
  clear k1 k2 k3 k4 k5 k6 v1 v2 l1 l2 hc hj hp hps
  have key : ∀ c : Int, (Op.bytesLess x.toList y.toList = true ∧ c = -1) ∨ (Op.bytesLess x.toList y.toList = false ∧ (x.toList == y.toList) = true ∧ c = 0) ∨ (Op.bytesLess x.toList y.toList = false ∧ (x.toList == y.toList) = false ∧ c = 1) → strCmp x y = c := by
    intro c h
    unfold strCmp
    rcases h with ⟨h, rfl⟩ | ⟨h, h', rfl⟩ | ⟨h, h', rfl⟩
    · rw [if_pos h]
    · rw [if_neg (by rw [h]; simp), if_pos (by simpa using h')]
    · rw [if_neg (by rw [h]; simp), if_neg (by simpa using h')]
  rcases h1 : Op.bytesLess x.toList y.toList with _ | _
  · rcases h2 : (x.toList == y.toList) with _ | _
    · have K4' := K4.out
      rw [key 1 (.inr (.inr ⟨h1, h2, rfl⟩))] at K4'
      have K4 := Lib.hid K4'
      clear K4' key
      go_enter Tryd.func10, Tryd.ntmps10
      go_wp2_with (go_at_call 11; refine (shown_any _ hT).mono ?_)
      rintro e w1 ⟨rfl, hb1⟩
      go_wp2_with (go_at_call 21; refine (K1.out _ (hT.below hb1 (Nat.le_refl _))).mono ?_)
      rintro e w2 ⟨rfl, hb2⟩
      have hb12 := hb1.trans (hb2.mono hb1.size)
      go_wp2_with (go_at_call 21; refine (K2.out _ (hT.below hb12 (Nat.le_refl _))).mono ?_)
      rintro e w3 ⟨rfl, hb3⟩
      have hb13 := hb12.trans (hb3.mono hb12.size)
      go_wp2_with (go_at_call 17; refine (K3.out _).mono ?_)
      rintro e w4 ⟨v, rfl, hown, hb4⟩
      obtain ⟨A, ca, rfl, hca, hA⟩ := hown.rd
      have hb14 := hb13.trans (hb4.mono hb13.size)
      clear hown hA
      go_wp2_with (go_at_call 27; refine (K4.out _ (hT.below hb14 (Nat.le_refl _))).mono ?_)
      rintro e w5 ⟨rfl, hb5⟩
      have hb15 := hb14.trans (hb5.mono hb14.size)
      go_wp2_with (go_at_call 23; refine (K5.out _).mono ?_)
      rintro e w6 ⟨rfl, hb6⟩
      have hb16 := hb15.trans (hb6.mono hb15.size)
      go_wp2_with (go_at_call 23; refine (K6.out _).mono ?_)
      rintro e w7 ⟨rfl, hb7⟩
      have hb17 := hb16.trans (hb7.mono hb16.size)
      go_wp2
      go_ret
      exact ⟨by simp [HP.out], hb17⟩
    · have K4' := K4.out
      rw [key 0 (.inr (.inl ⟨h1, h2, rfl⟩))] at K4'
      have K4 := Lib.hid K4'
      clear K4' key
      go_enter Tryd.func10, Tryd.ntmps10
      go_wp2_with (go_at_call 11; refine (shown_any _ hT).mono ?_)
      rintro e w1 ⟨rfl, hb1⟩
      go_wp2_with (go_at_call 21; refine (K1.out _ (hT.below hb1 (Nat.le_refl _))).mono ?_)
      rintro e w2 ⟨rfl, hb2⟩
      have hb12 := hb1.trans (hb2.mono hb1.size)
      go_wp2_with (go_at_call 21; refine (K2.out _ (hT.below hb12 (Nat.le_refl _))).mono ?_)
      rintro e w3 ⟨rfl, hb3⟩
      have hb13 := hb12.trans (hb3.mono hb12.size)
      go_wp2_with (go_at_call 17; refine (K3.out _).mono ?_)
      rintro e w4 ⟨v, rfl, hown, hb4⟩
      obtain ⟨A, ca, rfl, hca, hA⟩ := hown.rd
      have hb14 := hb13.trans (hb4.mono hb13.size)
      clear hown hA
      go_wp2_with (go_at_call 27; refine (K4.out _ (hT.below hb14 (Nat.le_refl _))).mono ?_)
      rintro e w5 ⟨rfl, hb5⟩
      have hb15 := hb14.trans (hb5.mono hb14.size)
      go_wp2_with (go_at_call 23; refine (K5.out _).mono ?_)
      rintro e w6 ⟨rfl, hb6⟩
      have hb16 := hb15.trans (hb6.mono hb15.size)
      go_wp2_with (go_at_call 23; refine (K6.out _).mono ?_)
      rintro e w7 ⟨rfl, hb7⟩
      have hb17 := hb16.trans (hb7.mono hb16.size)
      go_wp2
      go_ret
      exact ⟨by simp [HP.out], hb17⟩
  · have K4' := K4.out
    rw [key (-1) (.inl ⟨h1, rfl⟩)] at K4'
    have K4 := Lib.hid K4'
    clear K4' key
    go_enter Tryd.func10, Tryd.ntmps10
    go_wp2_with (go_at_call 11; refine (shown_any _ hT).mono ?_)
    rintro e w1 ⟨rfl, hb1⟩
    go_wp2_with (go_at_call 21; refine (K1.out _ (hT.below hb1 (Nat.le_refl _))).mono ?_)
    rintro e w2 ⟨rfl, hb2⟩
    have hb12 := hb1.trans (hb2.mono hb1.size)
    go_wp2_with (go_at_call 21; refine (K2.out _ (hT.below hb12 (Nat.le_refl _))).mono ?_)
    rintro e w3 ⟨rfl, hb3⟩
    have hb13 := hb12.trans (hb3.mono hb12.size)
    go_wp2_with (go_at_call 17; refine (K3.out _).mono ?_)
    rintro e w4 ⟨v, rfl, hown, hb4⟩
    obtain ⟨A, ca, rfl, hca, hA⟩ := hown.rd
    have hb14 := hb13.trans (hb4.mono hb13.size)
    clear hown hA
    go_wp2_with (go_at_call 27; refine (K4.out _ (hT.below hb14 (Nat.le_refl _))).mono ?_)
    rintro e w5 ⟨rfl, hb5⟩
    have hb15 := hb14.trans (hb5.mono hb14.size)
    go_wp2_with (go_at_call 23; refine (K5.out _).mono ?_)
    rintro e w6 ⟨rfl, hb6⟩
    have hb16 := hb15.trans (hb6.mono hb15.size)
    go_wp2_with (go_at_call 23; refine (K6.out _).mono ?_)
    rintro e w7 ⟨rfl, hb7⟩
    have hb17 := hb16.trans (hb7.mono hb16.size)
    go_wp2
    go_ret
    exact ⟨by simp [HP.out], hb17⟩

theorem utfImplode_yes (A : Option Addr) (n cap : Nat) (l : List Int) (w : World) (hR : RdI w A n l) (hn : n ≤ 17592186044416) (h : allPt l = true) :
    Calls Tryd.prog 25 #[.slice A n cap] w fun e w' => e = .returned (.tuple #[.string ⟨(allB l).toArray⟩, .int .i64 0]) ∧ Below w.heap.size w w' := by
  have := utfImplode_any A n cap l w hR hn
  rw [← impVal_yes l h] at this; exact this
theorem utfImplode_no (A : Option Addr) (n cap : Nat) (l : List Int) (w : World) (hR : RdI w A n l) (hn : n ≤ 17592186044416) (h : allPt l = false) :
    Calls Tryd.prog 25 #[.slice A n cap] w fun e w' => e = .returned (.tuple #[.string ⟨#[]⟩, .int .i64 1]) ∧ Below w.heap.size w w' := by
  have := utfImplode_any A n cap l w hR hn
  rw [← impVal_no l h] at this; exact this

set_option maxHeartbeats 1000000 in
set_option maxRecDepth 100000 in
theorem utfBack_walk (s : ByteArray) (A : Option Addr) (n cap : Nat) (l : List Int) (w : World) (hT : Tabs w) (hs : s.size ≤ 2097152) (hR : RdI w A n l) (hn : n ≤ 2097152) :
    Calls Tryd.prog 8 #[.string s, .slice A n cap] w fun e w' => e = .returned (.bool true) ∧ Below w.heap.size w w' := by
  have k1 := fun w h => utfClean_any s w h (by omega)
  have k2 := fun w => utfExplode_any s w (by omega)
  have hlen := explode_len s.data.toList
  rw [← Lib.size_eq] at hlen
  have hap := allPt_explode s.data.toList
  have v1 := valid_clean s.data.toList
  have c1 := clean_clean s.data.toList
  have l1 := clean_len s.data.toList
  rw [← Lib.size_eq] at l1
  have hcl : clean s.data.toList = allB (explode s.data.toList) := rfl
  obtain ⟨x, hx⟩ : ∃ x : ByteArray, x = ⟨(clean s.data.toList).toArray⟩ := ⟨_, rfl⟩
  have ex : x.data.toList = clean s.data.toList := by rw [hx]
  rw [← hx] at k1
  rw [← ex] at v1 l1 c1
  have hxs : x.size ≤ 8388608 := by rw [Lib.size_eq]; omega
  have k3 := fun w h => utfValid_any x w h (by unfold maxLen; omega)
  rw [v1, ← Lib.size_eq] at k3
  have k4 := fun w h => utfClean_any x w h (by omega)
  rw [c1, Lib.mk_data] at k4
  have hxe : (⟨(allB (explode s.data.toList)).toArray⟩ : ByteArray) = x := by rw [hx, hcl]
  have k5 := fun (A : Option Addr) (cap : Nat) (w : World) (h : RdI w A (explode s.data.toList).length (explode s.data.toList)) => utfImplode_yes A _ cap _ w h (by omega) hap
  rw [hxe] at k5
  clear hxe hcl hx ex v1 c1 l1 hap
  generalize explode s.data.toList = m at *
  have K1 := Lib.hid k1
  have K2 := Lib.hid k2
  have K3 := Lib.hid k3
  have K4 := Lib.hid k4
  have K5 := Lib.hid k5
  have HR := Lib.hid hR
  clear k1 k2 k3 k4 k5 hR
  have hbeq : ((x.size : Int) != (x.size : Int)) = false := by simp
  cases hal : allPt l
  · have k6 := fun w h => utfImplode_no A n cap l w h (by omega) hal
    have K6 := Lib.hid k6
    clear k6 hal
    go_enter Tryd.func8, Tryd.ntmps8
    go_wp2_with (go_at_call 11; refine (shown_any _ hT).mono ?_)
    rintro e w1 ⟨rfl, hb1⟩
    go_wp2_with (go_at_call 21; refine (K1.out _ (hT.below hb1 (Nat.le_refl _))).mono ?_)
    rintro e w2 ⟨rfl, hb2⟩
    have hb12 := hb1.trans (hb2.mono hb1.size)
    go_wp2_with (go_at_call 17; refine (K2.out _).mono ?_)
    rintro e w3 ⟨v, rfl, hown, hb3⟩
    obtain ⟨B, cb, rfl, hcb, hB⟩ := hown.rd
    have hb13 := hb12.trans (hb3.mono hb12.size)
    have HB := Lib.hid hB
    clear hB hown
    go_wp2_with (go_at_call 25; refine (K5.out _ _ _ HB.out).mono ?_)
    rintro e w4 ⟨rfl, hb4⟩
    have hb14 := hb13.trans (hb4.mono hb13.size)
    go_wp2_with (go_at_call 25; refine (K6.out _ (HR.out.below hb14)).mono ?_)
    rintro e w5 ⟨rfl, hb5⟩
    have hb15 := hb14.trans (hb5.mono hb14.size)
    go_wp2_with (go_at_call 19; refine (K3.out _ (hT.below hb15 (Nat.le_refl _))).mono ?_)
    rintro e w6 ⟨rfl, hb6⟩
    have hb16 := hb15.trans (hb6.mono hb15.size)
    go_wp2_with (go_at_call 21; refine (K4.out _ (hT.below hb16 (Nat.le_refl _))).mono ?_)
    rintro e w7 ⟨rfl, hb7⟩
    have hb17 := hb16.trans (hb7.mono hb16.size)
    go_wp2
    go_ret
    exact ⟨rfl, hb17⟩
  · have k6 := fun w h => utfImplode_yes A n cap l w h (by omega) hal
    have hpt : ∀ p ∈ l, isPt p = true := List.all_eq_true.1 hal
    have e1 := explode_all l hpt
    have e2 := valid_all l hpt
    have hla := allB_len l
    rw [HR.out.1] at hla
    obtain ⟨y, hy⟩ : ∃ y : ByteArray, y = ⟨(allB l).toArray⟩ := ⟨_, rfl⟩
    have ey : y.data.toList = allB l := by rw [hy]
    rw [← hy] at k6
    rw [← ey] at e1 e2 hla
    have hys : y.size ≤ 8388608 := by rw [Lib.size_eq]; omega
    have k7 := fun w => utfExplode_any y w (by omega)
    have k8 := fun w h => utfValid_any y w h (by unfold maxLen; omega)
    rw [e1] at k7
    rw [e2, ← Lib.size_eq] at k8
    have K6 := Lib.hid k6
    have K7 := Lib.hid k7
    have K8 := Lib.hid k8
    clear k6 k7 k8 hal hpt e1 e2 hla hy ey
    go_enter Tryd.func8, Tryd.ntmps8
    go_wp2_with (go_at_call 11; refine (shown_any _ hT).mono ?_)
    rintro e w1 ⟨rfl, hb1⟩
    go_wp2_with (go_at_call 21; refine (K1.out _ (hT.below hb1 (Nat.le_refl _))).mono ?_)
    rintro e w2 ⟨rfl, hb2⟩
    have hb12 := hb1.trans (hb2.mono hb1.size)
    go_wp2_with (go_at_call 17; refine (K2.out _).mono ?_)
    rintro e w3 ⟨v, rfl, hown, hb3⟩
    obtain ⟨B, cb, rfl, hcb, hB⟩ := hown.rd
    have hb13 := hb12.trans (hb3.mono hb12.size)
    have HB := Lib.hid hB
    clear hB hown
    go_wp2_with (go_at_call 25; refine (K5.out _ _ _ HB.out).mono ?_)
    rintro e w4 ⟨rfl, hb4⟩
    have hb14 := hb13.trans (hb4.mono hb13.size)
    go_wp2_with (go_at_call 25; refine (K6.out _ (HR.out.below hb14)).mono ?_)
    rintro e w5 ⟨rfl, hb5⟩
    have hb15 := hb14.trans (hb5.mono hb14.size)
    go_wp2_with (go_at_call 19; refine (K3.out _ (hT.below hb15 (Nat.le_refl _))).mono ?_)
    rintro e w6 ⟨rfl, hb6⟩
    have hb16 := hb15.trans (hb6.mono hb15.size)
    go_wp2_with (go_at_call 21; refine (K4.out _ (hT.below hb16 (Nat.le_refl _))).mono ?_)
    rintro e w7 ⟨rfl, hb7⟩
    have hb17 := hb16.trans (hb7.mono hb16.size)
    go_wp2_with (go_at_call 17; refine (K7.out _).mono ?_)
    rintro e w8 ⟨v, rfl, hown, hb8⟩
    obtain ⟨C, cc, rfl, hcc, hC⟩ := hown.rd
    have hb18 := hb17.trans (hb8.mono hb17.size)
    have HC := Lib.hid hC
    clear hC hown
    go_wp2_with (go_at_call 16; refine (refSame_same _ _ _ _ _ _ _ _ HC.out (HR.out.below hb18) (by rw [HR.out.1]; omega) (by omega)).mono ?_)
    rintro e w9 ⟨rfl, hb9⟩
    have hb19 := hb18.trans (hb9.mono hb18.size)
    go_wp2_with (go_at_call 19; refine (K8.out _ (hT.below hb19 (Nat.le_refl _))).mono ?_)
    rintro e w10 ⟨rfl, hb10⟩
    have hb20 := hb19.trans (hb10.mono hb19.size)
    go_wp2
    go_ret
    exact ⟨rfl, hb20⟩

end Go.Proofs.YthhbpfejfolbiaaDoor
