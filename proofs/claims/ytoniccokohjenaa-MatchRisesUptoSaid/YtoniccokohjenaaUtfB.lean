/-
  The walk of the reference's Decode.
-/
import Derived.Test.YtoniccokohjenaaUtfA
import Derived.Deep.RegionWith
import Derived.Deep.QuietTactic
import Derived.BigQuiet
namespace Go.Proofs.Ytoniccokohjenaa
open Go.RowKit

/-- a callee that leaves the world alone, met in a quiet region -/
theorem quiet_left {P : Program} {f : FuncId} {args : Array Value} {w : World} {n : Nat} {v : Value}
    (h : Calls P f args (w.drewN n) fun e w' => e = .returned v ∧ w.drewN n = w') : Calls P f args (w.drewN n) fun e w'' => e = .returned v ∧ ∃ m, w'' = w.drewN m :=
  h.mono fun _ _ ⟨he, hm⟩ => ⟨he, n, hm.symm⟩

set_option maxHeartbeats 800000 in
set_option maxRecDepth 100000 in
theorem refDecode_2 (s : ByteArray) (w : World) (hs : s.size ≤ maxLen) (hn : 2 ≤ s.size) (hb0 : (192 : Int) ≤ (s[0].toNat : Int)) (hb1 : (s[0].toNat : Int) < 224) :
    Calls Try.prog 53 #[.string s] w fun e w' => e = .returned (decVal s.data.toList) ∧ Below w.heap.size w w' := by
  unfold maxLen at hs
  have hsz : refSizeOf s[0] = 2 := by unfold refSizeOf; (repeat' split) <;> omega
  have HSZ := Lib.hid hsz
  clear hsz
  obtain ⟨x1, x1'⟩ : (0 : Int) ≤ s[1].toNat ∧ (s[1].toNat : Int) < 256 := by have := s[1].toNat_lt; omega
  go_enter Try.func53, Try.ntmps53
  go_wp2_with (first | (go_at_call 70; refine (refSize_any _ _).mono ?_; rintro e w' ⟨rfl, rfl⟩; rw [HSZ.out]))
  go_rounds 3
  generalize hp : 64 * ((s[0].toNat : Int) - 192) + (s[1].toNat : Int) % 64 = p
  have HP := Lib.hid hp
  clear hp
  cases hI : isPt p
  · have HI := Lib.hid hI
    clear hI
    go_quiet ((go_at_call 71; exact quiet_left (refIs_no _ _ HI.out)))
    go_wp2
    all_goals go_ret3
    all_goals exact ⟨congrArg _ (decVal_miss _ (by rw [ref2_s s hn hb0 hb1 p HP.out, HI.out]; simp)), ⟨rfl, rfl, rfl, Nat.le_refl _, fun _ _ => rfl⟩⟩
  · have HI := Lib.hid hI
    clear hI
    go_region_with (first | (go_at_call 71; refine (refIs_yes _ _ HI.out).mono ?_; rintro e w' ⟨rfl, rfl⟩) | (go_at_call 66; refine (refBytes_any _ _ (by have := (isPt_iff _).1 HI.out; omega) (by have := (isPt_iff _).1 HI.out; omega)).mono ?_; rintro e w' ⟨rfl, hb⟩))
    all_goals go_wp2
    all_goals go_ret3
    · exact ⟨congrArg _ (decVal_hit _ p 2 (by omega) ((isPt_iff _).1 HI.out).1 (by rw [ref2_s s hn hb0 hb1 p HP.out, if_pos ⟨HI.out, (test_enc s p 2 true ‹_›).2 rfl⟩])), by first | assumption | exact (Below.refl _ _).drew.trans ‹_›⟩
    · exact ⟨congrArg _ (decVal_miss _ (by rw [ref2_s s hn hb0 hb1 p HP.out, if_neg (fun hh => absurd ((test_enc s p 2 false ‹_›).1 hh.2) (by simp))])), by first | assumption | exact (Below.refl _ _).drew.trans ‹_›⟩

set_option maxHeartbeats 800000 in
set_option maxRecDepth 100000 in
theorem refDecode_3 (s : ByteArray) (w : World) (hs : s.size ≤ maxLen) (hn : 3 ≤ s.size) (hb0 : (224 : Int) ≤ (s[0].toNat : Int)) (hb1 : (s[0].toNat : Int) < 240) :
    Calls Try.prog 53 #[.string s] w fun e w' => e = .returned (decVal s.data.toList) ∧ Below w.heap.size w w' := by
  unfold maxLen at hs
  have hsz : refSizeOf s[0] = 3 := by unfold refSizeOf; (repeat' split) <;> omega
  have HSZ := Lib.hid hsz
  clear hsz
  obtain ⟨x1, x1'⟩ : (0 : Int) ≤ s[1].toNat ∧ (s[1].toNat : Int) < 256 := by have := s[1].toNat_lt; omega
  obtain ⟨x2, x2'⟩ : (0 : Int) ≤ s[2].toNat ∧ (s[2].toNat : Int) < 256 := by have := s[2].toNat_lt; omega
  go_enter Try.func53, Try.ntmps53
  go_wp2_with (first | (go_at_call 70; refine (refSize_any _ _).mono ?_; rintro e w' ⟨rfl, rfl⟩; rw [HSZ.out]))
  go_rounds 4
  generalize hp : 64 * (64 * ((s[0].toNat : Int) - 224) + (s[1].toNat : Int) % 64) + (s[2].toNat : Int) % 64 = p
  have HP := Lib.hid hp
  clear hp
  cases hI : isPt p
  · have HI := Lib.hid hI
    clear hI
    go_quiet ((go_at_call 71; exact quiet_left (refIs_no _ _ HI.out)))
    go_wp2
    all_goals go_ret3
    all_goals exact ⟨congrArg _ (decVal_miss _ (by rw [ref3_s s hn hb0 hb1 p HP.out, HI.out]; simp)), ⟨rfl, rfl, rfl, Nat.le_refl _, fun _ _ => rfl⟩⟩
  · have HI := Lib.hid hI
    clear hI
    go_region_with (first | (go_at_call 71; refine (refIs_yes _ _ HI.out).mono ?_; rintro e w' ⟨rfl, rfl⟩) | (go_at_call 66; refine (refBytes_any _ _ (by have := (isPt_iff _).1 HI.out; omega) (by have := (isPt_iff _).1 HI.out; omega)).mono ?_; rintro e w' ⟨rfl, hb⟩))
    all_goals go_wp2
    all_goals go_ret3
    · exact ⟨congrArg _ (decVal_hit _ p 3 (by omega) ((isPt_iff _).1 HI.out).1 (by rw [ref3_s s hn hb0 hb1 p HP.out, if_pos ⟨HI.out, (test_enc s p 3 true ‹_›).2 rfl⟩])), by first | assumption | exact (Below.refl _ _).drew.trans ‹_›⟩
    · exact ⟨congrArg _ (decVal_miss _ (by rw [ref3_s s hn hb0 hb1 p HP.out, if_neg (fun hh => absurd ((test_enc s p 3 false ‹_›).1 hh.2) (by simp))])), by first | assumption | exact (Below.refl _ _).drew.trans ‹_›⟩

set_option maxHeartbeats 800000 in
set_option maxRecDepth 100000 in
theorem refDecode_4 (s : ByteArray) (w : World) (hs : s.size ≤ maxLen) (hn : 4 ≤ s.size) (hb0 : (240 : Int) ≤ (s[0].toNat : Int)) (hb1 : (s[0].toNat : Int) < 248) :
    Calls Try.prog 53 #[.string s] w fun e w' => e = .returned (decVal s.data.toList) ∧ Below w.heap.size w w' := by
  unfold maxLen at hs
  have hsz : refSizeOf s[0] = 4 := by unfold refSizeOf; (repeat' split) <;> omega
  have HSZ := Lib.hid hsz
  clear hsz
  obtain ⟨x1, x1'⟩ : (0 : Int) ≤ s[1].toNat ∧ (s[1].toNat : Int) < 256 := by have := s[1].toNat_lt; omega
  obtain ⟨x2, x2'⟩ : (0 : Int) ≤ s[2].toNat ∧ (s[2].toNat : Int) < 256 := by have := s[2].toNat_lt; omega
  obtain ⟨x3, x3'⟩ : (0 : Int) ≤ s[3].toNat ∧ (s[3].toNat : Int) < 256 := by have := s[3].toNat_lt; omega
  go_enter Try.func53, Try.ntmps53
  go_wp2_with (first | (go_at_call 70; refine (refSize_any _ _).mono ?_; rintro e w' ⟨rfl, rfl⟩; rw [HSZ.out]))
  go_rounds 5
  generalize hp : 64 * (64 * (64 * ((s[0].toNat : Int) - 240) + (s[1].toNat : Int) % 64) + (s[2].toNat : Int) % 64) + (s[3].toNat : Int) % 64 = p
  have HP := Lib.hid hp
  clear hp
  cases hI : isPt p
  · have HI := Lib.hid hI
    clear hI
    go_quiet ((go_at_call 71; exact quiet_left (refIs_no _ _ HI.out)))
    go_wp2
    all_goals go_ret3
    all_goals exact ⟨congrArg _ (decVal_miss _ (by rw [ref4_s s hn hb0 hb1 p HP.out, HI.out]; simp)), ⟨rfl, rfl, rfl, Nat.le_refl _, fun _ _ => rfl⟩⟩
  · have HI := Lib.hid hI
    clear hI
    go_region_with (first | (go_at_call 71; refine (refIs_yes _ _ HI.out).mono ?_; rintro e w' ⟨rfl, rfl⟩) | (go_at_call 66; refine (refBytes_any _ _ (by have := (isPt_iff _).1 HI.out; omega) (by have := (isPt_iff _).1 HI.out; omega)).mono ?_; rintro e w' ⟨rfl, hb⟩))
    all_goals go_wp2
    all_goals go_ret3
    · exact ⟨congrArg _ (decVal_hit _ p 4 (by omega) ((isPt_iff _).1 HI.out).1 (by rw [ref4_s s hn hb0 hb1 p HP.out, if_pos ⟨HI.out, (test_enc s p 4 true ‹_›).2 rfl⟩])), by first | assumption | exact (Below.refl _ _).drew.trans ‹_›⟩
    · exact ⟨congrArg _ (decVal_miss _ (by rw [ref4_s s hn hb0 hb1 p HP.out, if_neg (fun hh => absurd ((test_enc s p 4 false ‹_›).1 hh.2) (by simp))])), by first | assumption | exact (Below.refl _ _).drew.trans ‹_›⟩

set_option maxHeartbeats 400000 in
set_option maxRecDepth 100000 in
theorem refDecode_none (s : ByteArray) (w : World) (hn : s.size = 0) :
    Calls Try.prog 53 #[.string s] w fun e w' => e = .returned (decVal s.data.toList) ∧ Below w.heap.size w w' := by
  have hz : ((s.size : Int) == 0) = true := by rw [hn]; rfl
  have HN := Lib.hid hn
  clear hn
  go_enter Try.func53, Try.ntmps53
  go_wp2
  go_ret3
  exact ⟨congrArg _ (decVal_none _ (by rw [← Lib.size_eq]; exact HN.out)), Below.refl _ _⟩

set_option maxHeartbeats 400000 in
set_option maxRecDepth 100000 in
theorem refDecode_one (s : ByteArray) (w : World) (hs : s.size ≤ maxLen) (hn : 1 ≤ s.size) (hb : (s[0].toNat : Int) < 128) :
    Calls Try.prog 53 #[.string s] w fun e w' => e = .returned (decVal s.data.toList) ∧ Below w.heap.size w w' := by
  unfold maxLen at hs
  have hsz : refSizeOf s[0] = 1 := by unfold refSizeOf; (repeat' split) <;> omega
  have HSZ := Lib.hid hsz
  clear hsz
  go_enter Try.func53, Try.ntmps53
  go_wp2_with (first | (go_at_call 70; refine (refSize_any _ _).mono ?_; rintro e w' ⟨rfl, rfl⟩; rw [HSZ.out]))
  go_ret3
  exact ⟨congrArg _ (decVal_one _ _ (by omega) (by rw [ref_one _ (by rw [← Lib.size_eq]; omega) (by rw [bt_get s 0 (by omega)]; omega), bt_get s 0 (by omega)])), Below.refl _ _⟩

set_option maxHeartbeats 400000 in
set_option maxRecDepth 100000 in
theorem refDecode_bad (s : ByteArray) (w : World) (hs : s.size ≤ maxLen) (hn : 1 ≤ s.size) (m : Int) (hm : refSizeOf s[0] = m) (hb : m = 0 ∨ (s.size : Int) < m) :
    Calls Try.prog 53 #[.string s] w fun e w' => e = .returned (decVal s.data.toList) ∧ Below w.heap.size w w' := by
  unfold maxLen at hs
  have hd : dec s.data.toList = (65533, 1) := by
    refine ref_bad _ (by rw [← Lib.size_eq]; omega) ?_
    rw [bt_get s 0 (by omega), ← Lib.size_eq]
    unfold refSizeOf at hm
    (repeat' split at hm) <;> omega
  have HD := Lib.hid hd
  clear hd
  have hm' : m = 0 ∨ (2 ≤ m ∧ (s.size : Int) < m ∧ m ≤ 4) := by
    unfold refSizeOf at hm
    (repeat' split at hm) <;> omega
  have HSZ := Lib.hid hm
  clear hm hb
  rcases hm' with rfl | ⟨h1, h2, h3⟩
  · go_enter Try.func53, Try.ntmps53
    go_wp2_with (first | (go_at_call 70; refine (refSize_any _ _).mono ?_; rintro e w' ⟨rfl, rfl⟩; rw [HSZ.out]))
    go_ret3
    exact ⟨congrArg _ (decVal_miss _ HD.out), Below.refl _ _⟩
  · have h0 : (m == 0) = false := by simp; omega
    go_enter Try.func53, Try.ntmps53
    go_wp2_with (first | (go_at_call 70; refine (refSize_any _ _).mono ?_; rintro e w' ⟨rfl, rfl⟩; rw [HSZ.out]))
    go_ret3
    exact ⟨congrArg _ (decVal_miss _ HD.out), Below.refl _ _⟩

/-- THE REFERENCE'S Decode, AT EVERY STRING. -/
theorem refDecode_any (s : ByteArray) (w : World) (hs : s.size ≤ maxLen) :
    Calls Try.prog 53 #[.string s] w fun e w' => e = .returned (decVal s.data.toList) ∧ Below w.heap.size w w' := by
  by_cases h0 : s.size = 0
  · exact refDecode_none s w h0
  by_cases h1 : s[0].toNat < 128
  · exact refDecode_one s w hs (by omega) (by omega)
  by_cases hbad : refSizeOf s[0] = 0 ∨ (s.size : Int) < refSizeOf s[0]
  · exact refDecode_bad s w hs (by omega) _ rfl hbad
  have hs' : refSizeOf s[0] ≠ 0 ∧ refSizeOf s[0] ≤ s.size := by omega
  by_cases h2 : s[0].toNat < 192
  · exfalso; unfold refSizeOf at hs'; rw [if_neg h1, if_pos h2] at hs'; omega
  by_cases h3 : s[0].toNat < 224
  · refine refDecode_2 s w hs ?_ (by omega) (by omega)
    unfold refSizeOf at hs'; rw [if_neg h1, if_neg h2, if_pos h3] at hs'; omega
  by_cases h4 : s[0].toNat < 240
  · refine refDecode_3 s w hs ?_ (by omega) (by omega)
    unfold refSizeOf at hs'; rw [if_neg h1, if_neg h2, if_neg h3, if_pos h4] at hs'; omega
  by_cases h5 : s[0].toNat < 248
  · refine refDecode_4 s w hs ?_ (by omega) (by omega)
    unfold refSizeOf at hs'; rw [if_neg h1, if_neg h2, if_neg h3, if_neg h4, if_pos h5] at hs'; omega
  · exfalso; unfold refSizeOf at hs'; rw [if_neg h1, if_neg h2, if_neg h3, if_neg h4, if_neg h5] at hs'; omega

end Go.Proofs.Ytoniccokohjenaa
