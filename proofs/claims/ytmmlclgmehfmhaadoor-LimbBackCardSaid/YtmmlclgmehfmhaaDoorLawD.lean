/-
  The walks of the laws of chapter 1: Parses, Shifts, Ring.
-/
import Derived.Test.YtmmlclgmehfmhaaDoorLawC
namespace Go.Proofs.YtmmlclgmehfmhaaDoor
open Go.RowKit

theorem rparse_ok (s : ByteArray) (w : World) (hs : s.size ≤ 17592186044416) (h : okP (bytesN s) = true) :
    Calls Tryd.prog 22 #[.string s] w fun e w' => ∃ v, e = .returned (.tuple #[v, .int .i64 0]) ∧ OwnN .u8 5 w.heap.size w' v (digs 10 (dec (digsOf (bytesN s)))) ∧ Below w.heap.size w w' :=
  (rparse_any s w hs).mono fun e w' hp => by
    rcases hp with ⟨_, h2⟩ | ⟨h1, _⟩
    · exact h2
    · rw [h] at h1; cases h1
theorem rparse_no (s : ByteArray) (w : World) (hs : s.size ≤ 17592186044416) (h : okP (bytesN s) = false) :
    Calls Tryd.prog 22 #[.string s] w fun e w' => e = .returned (.tuple #[.slice none 0 0, .int .i64 2]) ∧ Below w.heap.size w w' :=
  (rparse_any s w hs).mono fun e w' hp => by
    rcases hp with ⟨h1, _⟩ | ⟨_, h2⟩
    · rw [h] at h1; cases h1
    · exact h2
theorem digsOf_lt (l : List Nat) (h : okP l = true) : ∀ x ∈ digsOf l, x < 10 := fun x hx => by
  unfold digsOf at hx
  rw [List.mem_map] at hx
  obtain ⟨y, hy, rfl⟩ := hx
  unfold okP at h
  rw [Bool.and_eq_true, List.all_eq_true] at h
  have := h.2 y hy
  rw [Bool.and_eq_true, decide_eq_true_iff, decide_eq_true_iff] at this
  omega
theorem dec_len (s : ByteArray) (h : okP (bytesN s) = true) : (digs 10 (dec (digsOf (bytesN s)))).length ≤ s.size ∧ (digs 1000000000 (dec (digsOf (bytesN s)))).length ≤ s.size := by
  have h1 := dec_lt _ (digsOf_lt _ h)
  have h2 : (digsOf (bytesN s)).length = s.size := by unfold digsOf; rw [List.length_map]; exact bytesN_len s
  rw [h2] at h1
  refine ⟨len_le (by omega) h1, len_le (by omega) (Nat.lt_of_lt_of_le h1 (Nat.pow_le_pow_left (by omega) _))⟩
theorem len_pow (m : Nat) : (digs 1000000000 (10 ^ m)).length ≤ m / 9 + 1 := by
  refine len_le (by omega) ?_
  have h1 : 10 ^ (m % 9) ≤ 100000000 := ten_le (m % 9) (by omega)
  rw [pow9 m, Nat.pow_succ]
  exact Nat.mul_lt_mul_of_pos_left (by omega) (Nat.pow_pos (by omega))

set_option maxHeartbeats 4000000 in
set_option maxRecDepth 100000 in
theorem limbParses_walk (s : ByteArray) (w : World) (HT : Tab10 w) (hs : s.size ≤ 1048576) :
    Calls Tryd.prog 4 #[.string s] w fun e w' => e = .returned (.bool true) ∧ Below w.heap.size w w' := by
  have HB := Below.refl w.heap.size w
  cases hok : okP (bytesN s)
  · skip
    go_enter Tryd.func4, Tryd.ntmps4
    have K1 := Lib.hid (shown_any w HT)
    go_wp2_with (go_at_call 14; refine K1.out.mono ?_)
    rintro e w1 ⟨rfl, hb1⟩
    replace HT := HT.below hb1
    replace HB := HB.trans (hb1.mono HB.size)
    have K2 := Lib.hid (parse_no s w1 (by omega) hok)
    go_wp2_with (go_at_call 21; refine K2.out.mono ?_)
    rintro e w2 ⟨rfl, hb2⟩
    replace HT := HT.below hb2
    replace HB := HB.trans (hb2.mono HB.size)
    have K3 := Lib.hid (rparse_no s w2 (by omega) hok)
    go_wp2_with (go_at_call 22; refine K3.out.mono ?_)
    rintro e w3 ⟨rfl, hb3⟩
    replace HT := HT.below hb3
    replace HB := HB.trans (hb3.mono HB.size)
    have K4 := Lib.hid (lawTo_any none 0 0 0 w3 (.none0 rfl (digs_zero 10)) (by omega))
    go_wp2_with (go_at_call 20; refine K4.out.mono ?_)
    rintro e w4 ⟨vR, rfl, oR, hb4⟩
    replace HT := HT.below hb4
    replace HB := HB.trans (hb4.mono HB.size)
    replace oR := oR.asList (show _ = [] by rw [digs_zero])
    obtain ⟨AR, cR, rfl, _, rR, _⟩ := oR.rd
    have K5 := Lib.hid (same_true none _ 0 0 _ cR [] [] w4 (.none0 rfl rfl) rR (by omega) (by decide) rfl)
    go_wp2_with (go_at_call 19; refine K5.out.mono ?_)
    rintro e w5 ⟨rfl, hb5⟩
    replace rR := rR.below hb5
    replace HT := HT.below hb5
    replace HB := HB.trans (hb5.mono HB.size)
    go_wp2
    go_ret
    exact ⟨rfl, HB⟩
  · skip
    obtain ⟨hd1, hd2⟩ := dec_len s hok
    go_enter Tryd.func4, Tryd.ntmps4
    have K1 := Lib.hid (shown_any w HT)
    go_wp2_with (go_at_call 14; refine K1.out.mono ?_)
    rintro e w1 ⟨rfl, hb1⟩
    replace HT := HT.below hb1
    replace HB := HB.trans (hb1.mono HB.size)
    have K2 := Lib.hid (parse_ok s w1 (by omega) hok)
    go_wp2_with (go_at_call 21; refine K2.out.mono ?_)
    rintro e w2 ⟨vP, rfl, oP, hb2⟩
    replace HT := HT.below hb2
    replace HB := HB.trans (hb2.mono HB.size)
    obtain ⟨AP, cP, rfl, _, rP, _⟩ := oP.rd
    have K3 := Lib.hid (rparse_ok s w2 (by omega) hok)
    go_wp2_with (go_at_call 22; refine K3.out.mono ?_)
    rintro e w3 ⟨vQ, rfl, oQ, hb3⟩
    replace rP := rP.below hb3
    replace HT := HT.below hb3
    replace HB := HB.trans (hb3.mono HB.size)
    obtain ⟨AQ, cQ, rfl, _, rQ, _⟩ := oQ.rd
    have K4 := Lib.hid (lawTo_any AQ _ cQ (dec (digsOf (bytesN s))) w3 rQ (by omega))
    go_wp2_with (go_at_call 20; refine K4.out.mono ?_)
    rintro e w4 ⟨vR, rfl, oR, hb4⟩
    replace rP := rP.below hb4
    replace rQ := rQ.below hb4
    replace HT := HT.below hb4
    replace HB := HB.trans (hb4.mono HB.size)
    obtain ⟨AR, cR, rfl, _, rR, _⟩ := oR.rd
    have K5 := Lib.hid (same_true _ _ _ cP _ cR _ _ w4 rP rR (by first | omega | decide) (by first | omega | decide) rfl)
    go_wp2_with (go_at_call 19; refine K5.out.mono ?_)
    rintro e w5 ⟨rfl, hb5⟩
    replace rP := rP.below hb5
    replace rQ := rQ.below hb5
    replace rR := rR.below hb5
    replace HT := HT.below hb5
    replace HB := HB.trans (hb5.mono HB.size)
    go_wp2
    go_ret
    exact ⟨rfl, HB⟩
set_option maxHeartbeats 4000000 in
set_option maxRecDepth 100000 in
theorem limbShifts_walk (A0 : Option Addr) (n0 cap0 : Nat) (l0 : List Nat) (m : Int) (w : World) (HT : Tab10 w) (r0 : RdN .u32 w A0 n0 l0) (h0 : ∀ x ∈ l0, x < 4294967296) :
    Calls Tryd.prog 12 #[.slice A0 n0 cap0, .int .i64 m] w fun e w' => e = .returned (.bool true) ∧ Below w.heap.size w w' := by
  have HB := Below.refl w.heap.size w
  have q0 : n0 ≤ 40 → (digs 1000000000 (val 1000000000 l0)).length ≤ 41 := fun h => by have := digs_val_len l0 h0; have := r0.1; omega
  by_cases g0 : 40 < n0
  · skip
    go_enter Tryd.func12, Tryd.ntmps12
    have K1 := Lib.hid (shown_any w HT)
    go_wp2_with (go_at_call 14; refine K1.out.mono ?_)
    rintro e w1 ⟨rfl, hb1⟩
    replace r0 := r0.below hb1
    replace HT := HT.below hb1
    replace HB := HB.trans (hb1.mono HB.size)
    have K2 := Lib.hid (great_yes A0 n0 cap0 w1 g0)
    go_wp2_with (go_at_call 15; refine K2.out.mono ?_; rintro e w2 ⟨rfl, rfl⟩)
    go_wp2
    go_ret
    exact ⟨rfl, HB⟩
  · skip
    replace g0 : n0 ≤ 40 := by omega
    replace q0 := q0 g0
    have t0 := len_ten q0
    by_cases hbad : m < 0 ∨ 30000 < m
    · rcases hbad with hbad | hbad
      · skip
        go_enter Tryd.func12, Tryd.ntmps12
        have K1 := Lib.hid (shown_any w HT)
        go_wp2_with (go_at_call 14; refine K1.out.mono ?_)
        rintro e w1 ⟨rfl, hb1⟩
        replace r0 := r0.below hb1
        replace HT := HT.below hb1
        replace HB := HB.trans (hb1.mono HB.size)
        have K2 := Lib.hid (great_no A0 n0 cap0 w1 (by omega))
        go_wp2_with (go_at_call 15; refine K2.out.mono ?_; rintro e w2 ⟨rfl, rfl⟩)
        have K3 := Lib.hid (shift_bad A0 n0 cap0 m w1 (.inl hbad))
        go_wp2_with (go_at_call 37; refine K3.out.mono ?_; rintro e w3 ⟨rfl, rfl⟩)
        have K4 := Lib.hid (cut_bad A0 n0 cap0 m w1 (.inl hbad))
        go_wp2_with (go_at_call 38; refine K4.out.mono ?_; rintro e w4 ⟨rfl, rfl⟩)
        go_wp2
        go_ret
        exact ⟨rfl, HB⟩
      · skip
        have hm0 : 0 ≤ m := by omega
        go_enter Tryd.func12, Tryd.ntmps12
        have K1 := Lib.hid (shown_any w HT)
        go_wp2_with (go_at_call 14; refine K1.out.mono ?_)
        rintro e w1 ⟨rfl, hb1⟩
        replace r0 := r0.below hb1
        replace HT := HT.below hb1
        replace HB := HB.trans (hb1.mono HB.size)
        have K2 := Lib.hid (great_no A0 n0 cap0 w1 (by omega))
        go_wp2_with (go_at_call 15; refine K2.out.mono ?_; rintro e w2 ⟨rfl, rfl⟩)
        have K3 := Lib.hid (shift_bad A0 n0 cap0 m w1 (.inr hbad))
        go_wp2_with (go_at_call 37; refine K3.out.mono ?_; rintro e w3 ⟨rfl, rfl⟩)
        have K4 := Lib.hid (cut_bad A0 n0 cap0 m w1 (.inr hbad))
        go_wp2_with (go_at_call 38; refine K4.out.mono ?_; rintro e w4 ⟨rfl, rfl⟩)
        go_wp2
        go_ret
        exact ⟨rfl, HB⟩
    · skip
      obtain ⟨k, rfl⟩ : ∃ k : Nat, m = k := ⟨m.toNat, by omega⟩
      have hk : k ≤ 30000 := by omega
      clear hbad
      have qs := len_mul q0 (len_pow k)
      have ts := len_ten qs
      have qd := len_mono (Nat.div_le_self (val 1000000000 l0) (10 ^ k)) q0
      have td := len_ten qd
      have qr := len_mono (Nat.mod_le (val 1000000000 l0) (10 ^ k)) q0
      have tr := len_ten qr
      go_enter Tryd.func12, Tryd.ntmps12
      have K1 := Lib.hid (shown_any w HT)
      go_wp2_with (go_at_call 14; refine K1.out.mono ?_)
      rintro e w1 ⟨rfl, hb1⟩
      replace r0 := r0.below hb1
      replace HT := HT.below hb1
      replace HB := HB.trans (hb1.mono HB.size)
      have K2 := Lib.hid (great_no A0 n0 cap0 w1 (by omega))
      go_wp2_with (go_at_call 15; refine K2.out.mono ?_; rintro e w2 ⟨rfl, rfl⟩)
      have K3 := Lib.hid (shift_any A0 n0 cap0 l0 k w1 r0 (by omega) h0 hk)
      go_wp2_with (go_at_call 37; refine K3.out.mono ?_)
      rintro e w3 ⟨vS, rfl, oS, hb3⟩
      replace r0 := r0.below hb3
      replace HT := HT.below hb3
      replace HB := HB.trans (hb3.mono HB.size)
      obtain ⟨AS, cS, rfl, _, rS, _⟩ := oS.rd
      have K4 := Lib.hid (cut_any A0 n0 cap0 l0 k w3 r0 (by omega) h0 hk)
      go_wp2_with (go_at_call 38; refine K4.out.mono ?_)
      rintro e w4 ⟨vD, vE, rfl, oD, oE, hb4⟩
      replace r0 := r0.below hb4
      replace rS := rS.below hb4
      replace HT := HT.below hb4
      replace HB := HB.trans (hb4.mono HB.size)
      obtain ⟨AD, cD, rfl, _, rD, _⟩ := oD.rd
      obtain ⟨AE, cE, rfl, _, rE, _⟩ := oE.rd
      have K5 := Lib.hid (lawOf_any A0 n0 cap0 l0 w4 r0 (by omega) h0)
      go_wp2_with (go_at_call 17; refine K5.out.mono ?_)
      rintro e w5 ⟨vP, rfl, oP, hb5⟩
      replace r0 := r0.below hb5
      replace rS := rS.below hb5
      replace rD := rD.below hb5
      replace rE := rE.below hb5
      replace HT := HT.below hb5
      replace HB := HB.trans (hb5.mono HB.size)
      obtain ⟨AP, cP, rfl, _, rP, _⟩ := oP.rd
      have K6 := Lib.hid (rcut_any (.slice AP _ cP) _ _ k w5 oP (by omega) (by omega))
      go_wp2_with (go_at_call 39; refine K6.out.mono ?_)
      rintro e w6 ⟨AF, nF, cF, AG, nG, cG, rfl, rF, rG, hb6⟩
      replace r0 := r0.below hb6
      replace rS := rS.below hb6
      replace rD := rD.below hb6
      replace rE := rE.below hb6
      replace rP := rP.below hb6
      replace oP := oP.below hb6
      replace HT := HT.below hb6
      replace HB := HB.trans (hb6.mono HB.size)
      have nF0 := rF.1
      have nG0 := rG.1
      have K7 := Lib.hid (rshift_any (.slice AP _ cP) _ _ k w6 oP (by omega) (by omega))
      go_wp2_with (go_at_call 40; refine K7.out.mono ?_)
      rintro e w7 ⟨vH, rfl, oH, hb7⟩
      replace r0 := r0.below hb7
      replace rS := rS.below hb7
      replace rD := rD.below hb7
      replace rE := rE.below hb7
      replace rP := rP.below hb7
      replace oP := oP.below hb7
      replace rF := rF.below hb7
      replace rG := rG.below hb7
      replace HT := HT.below hb7
      replace HB := HB.trans (hb7.mono HB.size)
      obtain ⟨AH, cH, rfl, _, rH, _⟩ := oH.rd
      have K8 := Lib.hid (lawTo_any AH _ cH (val 1000000000 l0 * 10 ^ k) w7 rH (by omega))
      go_wp2_with (go_at_call 20; refine K8.out.mono ?_)
      rintro e w8 ⟨vI, rfl, oI, hb8⟩
      replace r0 := r0.below hb8
      replace rS := rS.below hb8
      replace rD := rD.below hb8
      replace rE := rE.below hb8
      replace rP := rP.below hb8
      replace oP := oP.below hb8
      replace rF := rF.below hb8
      replace rG := rG.below hb8
      replace rH := rH.below hb8
      replace HT := HT.below hb8
      replace HB := HB.trans (hb8.mono HB.size)
      obtain ⟨AI, cI, rfl, _, rI, _⟩ := oI.rd
      have K9 := Lib.hid (same_true _ _ _ cS _ cI _ _ w8 rS rI (by first | omega | decide) (by first | omega | decide) rfl)
      go_wp2_with (go_at_call 19; refine K9.out.mono ?_)
      rintro e w9 ⟨rfl, hb9⟩
      replace r0 := r0.below hb9
      replace rS := rS.below hb9
      replace rD := rD.below hb9
      replace rE := rE.below hb9
      replace rP := rP.below hb9
      replace oP := oP.below hb9
      replace rF := rF.below hb9
      replace rG := rG.below hb9
      replace rH := rH.below hb9
      replace rI := rI.below hb9
      replace HT := HT.below hb9
      replace HB := HB.trans (hb9.mono HB.size)
      have K10 := Lib.hid (lawTo_any AF nF cF (val 1000000000 l0 / 10 ^ k) w9 rF (by omega))
      go_wp2_with (go_at_call 20; refine K10.out.mono ?_)
      rintro e w10 ⟨vJ, rfl, oJ, hb10⟩
      replace r0 := r0.below hb10
      replace rS := rS.below hb10
      replace rD := rD.below hb10
      replace rE := rE.below hb10
      replace rP := rP.below hb10
      replace oP := oP.below hb10
      replace rF := rF.below hb10
      replace rG := rG.below hb10
      replace rH := rH.below hb10
      replace rI := rI.below hb10
      replace HT := HT.below hb10
      replace HB := HB.trans (hb10.mono HB.size)
      obtain ⟨AJ, cJ, rfl, _, rJ, _⟩ := oJ.rd
      have K11 := Lib.hid (same_true _ _ _ cD _ cJ _ _ w10 rD rJ (by first | omega | decide) (by first | omega | decide) rfl)
      go_wp2_with (go_at_call 19; refine K11.out.mono ?_)
      rintro e w11 ⟨rfl, hb11⟩
      replace r0 := r0.below hb11
      replace rS := rS.below hb11
      replace rD := rD.below hb11
      replace rE := rE.below hb11
      replace rP := rP.below hb11
      replace oP := oP.below hb11
      replace rF := rF.below hb11
      replace rG := rG.below hb11
      replace rH := rH.below hb11
      replace rI := rI.below hb11
      replace rJ := rJ.below hb11
      replace HT := HT.below hb11
      replace HB := HB.trans (hb11.mono HB.size)
      have K12 := Lib.hid (lawTo_any AG nG cG (val 1000000000 l0 % 10 ^ k) w11 rG (by omega))
      go_wp2_with (go_at_call 20; refine K12.out.mono ?_)
      rintro e w12 ⟨vK, rfl, oK, hb12⟩
      replace r0 := r0.below hb12
      replace rS := rS.below hb12
      replace rD := rD.below hb12
      replace rE := rE.below hb12
      replace rP := rP.below hb12
      replace oP := oP.below hb12
      replace rF := rF.below hb12
      replace rG := rG.below hb12
      replace rH := rH.below hb12
      replace rI := rI.below hb12
      replace rJ := rJ.below hb12
      replace HT := HT.below hb12
      replace HB := HB.trans (hb12.mono HB.size)
      obtain ⟨AK, cK, rfl, _, rK, _⟩ := oK.rd
      have K13 := Lib.hid (same_true _ _ _ cE _ cK _ _ w12 rE rK (by first | omega | decide) (by first | omega | decide) rfl)
      go_wp2_with (go_at_call 19; refine K13.out.mono ?_)
      rintro e w13 ⟨rfl, hb13⟩
      replace r0 := r0.below hb13
      replace rS := rS.below hb13
      replace rD := rD.below hb13
      replace rE := rE.below hb13
      replace rP := rP.below hb13
      replace oP := oP.below hb13
      replace rF := rF.below hb13
      replace rG := rG.below hb13
      replace rH := rH.below hb13
      replace rI := rI.below hb13
      replace rJ := rJ.below hb13
      replace rK := rK.below hb13
      replace HT := HT.below hb13
      replace HB := HB.trans (hb13.mono HB.size)
      go_wp2
      go_ret
      exact ⟨rfl, HB⟩
set_option maxHeartbeats 4000000 in
set_option maxRecDepth 100000 in
theorem limbRing_walk (A0 A1 A2 : Option Addr) (n0 cap0 n1 cap1 n2 cap2 : Nat) (l0 l1 l2 : List Nat) (w : World) (HT : Tab10 w) (r0 : RdN .u32 w A0 n0 l0) (r1 : RdN .u32 w A1 n1 l1) (r2 : RdN .u32 w A2 n2 l2) (h0 : ∀ x ∈ l0, x < 4294967296) (h1 : ∀ x ∈ l1, x < 4294967296) (h2 : ∀ x ∈ l2, x < 4294967296) :
    Calls Tryd.prog 10 #[.slice A0 n0 cap0, .slice A1 n1 cap1, .slice A2 n2 cap2] w fun e w' => e = .returned (.bool true) ∧ Below w.heap.size w w' := by
  have HB := Below.refl w.heap.size w
  have q0 : n0 ≤ 40 → (digs 1000000000 (val 1000000000 l0)).length ≤ 41 := fun h => by have := digs_val_len l0 h0; have := r0.1; omega
  have q1 : n1 ≤ 40 → (digs 1000000000 (val 1000000000 l1)).length ≤ 41 := fun h => by have := digs_val_len l1 h1; have := r1.1; omega
  have q2 : n2 ≤ 40 → (digs 1000000000 (val 1000000000 l2)).length ≤ 41 := fun h => by have := digs_val_len l2 h2; have := r2.1; omega
  by_cases g0 : 40 < n0
  · skip
    go_enter Tryd.func10, Tryd.ntmps10
    have K1 := Lib.hid (shown_any w HT)
    go_wp2_with (go_at_call 14; refine K1.out.mono ?_)
    rintro e w1 ⟨rfl, hb1⟩
    replace r0 := r0.below hb1
    replace r1 := r1.below hb1
    replace r2 := r2.below hb1
    replace HT := HT.below hb1
    replace HB := HB.trans (hb1.mono HB.size)
    have K2 := Lib.hid (great_yes A0 n0 cap0 w1 g0)
    go_wp2_with (go_at_call 15; refine K2.out.mono ?_; rintro e w2 ⟨rfl, rfl⟩)
    go_wp2
    go_ret
    exact ⟨rfl, HB⟩
  · skip
    by_cases g1 : 40 < n1
    · skip
      go_enter Tryd.func10, Tryd.ntmps10
      have K1 := Lib.hid (shown_any w HT)
      go_wp2_with (go_at_call 14; refine K1.out.mono ?_)
      rintro e w1 ⟨rfl, hb1⟩
      replace r0 := r0.below hb1
      replace r1 := r1.below hb1
      replace r2 := r2.below hb1
      replace HT := HT.below hb1
      replace HB := HB.trans (hb1.mono HB.size)
      have K2 := Lib.hid (great_no A0 n0 cap0 w1 (by omega))
      go_wp2_with (go_at_call 15; refine K2.out.mono ?_; rintro e w2 ⟨rfl, rfl⟩)
      have K3 := Lib.hid (great_yes A1 n1 cap1 w1 g1)
      go_wp2_with (go_at_call 15; refine K3.out.mono ?_; rintro e w3 ⟨rfl, rfl⟩)
      go_wp2
      go_ret
      exact ⟨rfl, HB⟩
    · skip
      by_cases g2 : 40 < n2
      · skip
        go_enter Tryd.func10, Tryd.ntmps10
        have K1 := Lib.hid (shown_any w HT)
        go_wp2_with (go_at_call 14; refine K1.out.mono ?_)
        rintro e w1 ⟨rfl, hb1⟩
        replace r0 := r0.below hb1
        replace r1 := r1.below hb1
        replace r2 := r2.below hb1
        replace HT := HT.below hb1
        replace HB := HB.trans (hb1.mono HB.size)
        have K2 := Lib.hid (great_no A0 n0 cap0 w1 (by omega))
        go_wp2_with (go_at_call 15; refine K2.out.mono ?_; rintro e w2 ⟨rfl, rfl⟩)
        have K3 := Lib.hid (great_no A1 n1 cap1 w1 (by omega))
        go_wp2_with (go_at_call 15; refine K3.out.mono ?_; rintro e w3 ⟨rfl, rfl⟩)
        have K4 := Lib.hid (great_yes A2 n2 cap2 w1 g2)
        go_wp2_with (go_at_call 15; refine K4.out.mono ?_; rintro e w4 ⟨rfl, rfl⟩)
        go_wp2
        go_ret
        exact ⟨rfl, HB⟩
      · skip
        replace g0 : n0 ≤ 40 := by omega
        replace q0 := q0 g0
        have t0 := len_ten q0
        replace g1 : n1 ≤ 40 := by omega
        replace q1 := q1 g1
        have t1 := len_ten q1
        replace g2 : n2 ≤ 40 := by omega
        replace q2 := q2 g2
        have t2 := len_ten q2
        have qs := len_add q0 q1
        have qt := len_add q1 q2
        have qu := len_add qs (Nat.le_trans q2 (show 41 ≤ 41 + 1 by omega))
        have qm := len_mul q0 q1
        have qn := len_mul qm q2
        have qo := len_mul q1 q2
        have qp := len_mul qs q2
        have qv := len_mul q0 q2
        go_enter Tryd.func10, Tryd.ntmps10
        have K1 := Lib.hid (shown_any w HT)
        go_wp2_with (go_at_call 14; refine K1.out.mono ?_)
        rintro e w1 ⟨rfl, hb1⟩
        replace r0 := r0.below hb1
        replace r1 := r1.below hb1
        replace r2 := r2.below hb1
        replace HT := HT.below hb1
        replace HB := HB.trans (hb1.mono HB.size)
        have K2 := Lib.hid (great_no A0 n0 cap0 w1 (by omega))
        go_wp2_with (go_at_call 15; refine K2.out.mono ?_; rintro e w2 ⟨rfl, rfl⟩)
        have K3 := Lib.hid (great_no A1 n1 cap1 w1 (by omega))
        go_wp2_with (go_at_call 15; refine K3.out.mono ?_; rintro e w3 ⟨rfl, rfl⟩)
        have K4 := Lib.hid (great_no A2 n2 cap2 w1 (by omega))
        go_wp2_with (go_at_call 15; refine K4.out.mono ?_; rintro e w4 ⟨rfl, rfl⟩)
        have K5 := Lib.hid (add_any A0 A1 n0 cap0 n1 cap1 l0 l1 w1 r0 r1 (by omega) (by omega) h0 h1)
        go_wp2_with (go_at_call 29; refine K5.out.mono ?_)
        rintro e w5 ⟨vS, rfl, oS, hb5⟩
        replace r0 := r0.below hb5
        replace r1 := r1.below hb5
        replace r2 := r2.below hb5
        replace HT := HT.below hb5
        replace HB := HB.trans (hb5.mono HB.size)
        obtain ⟨AS, cS, rfl, _, rS, _⟩ := oS.rd
        have K6 := Lib.hid (sub_ok AS A1 _ cS n1 cap1 _ l1 w5 rS r1 (by omega) (by omega) (digs_u32 _) h1 (by rw [vdig]; omega))
        go_wp2_with (go_at_call 28; refine K6.out.mono ?_)
        rintro e w6 ⟨vB, rfl, oB, hb6⟩
        replace r0 := r0.below hb6
        replace r1 := r1.below hb6
        replace r2 := r2.below hb6
        replace rS := rS.below hb6
        replace HT := HT.below hb6
        replace HB := HB.trans (hb6.mono HB.size)
        replace oB := oB.asList (show _ = digs 1000000000 (val 1000000000 l0) by rw [vdig, Nat.add_sub_cancel])
        obtain ⟨AB, cB, rfl, _, rB, _⟩ := oB.rd
        have K7 := Lib.hid (add_any A1 A0 n1 cap1 n0 cap0 l1 l0 w6 r1 r0 (by omega) (by omega) h1 h0)
        go_wp2_with (go_at_call 29; refine K7.out.mono ?_)
        rintro e w7 ⟨vC, rfl, oC, hb7⟩
        replace r0 := r0.below hb7
        replace r1 := r1.below hb7
        replace r2 := r2.below hb7
        replace rS := rS.below hb7
        replace rB := rB.below hb7
        replace HT := HT.below hb7
        replace HB := HB.trans (hb7.mono HB.size)
        replace oC := oC.asList (show _ = digs 1000000000 (val 1000000000 l0 + val 1000000000 l1) by rw [Nat.add_comm])
        obtain ⟨AC, cC, rfl, _, rC, _⟩ := oC.rd
        have K8 := Lib.hid (same_true _ _ _ cS _ cC _ _ w7 rS rC (by first | omega | decide) (by first | omega | decide) rfl)
        go_wp2_with (go_at_call 19; refine K8.out.mono ?_)
        rintro e w8 ⟨rfl, hb8⟩
        replace r0 := r0.below hb8
        replace r1 := r1.below hb8
        replace r2 := r2.below hb8
        replace rS := rS.below hb8
        replace rB := rB.below hb8
        replace rC := rC.below hb8
        replace HT := HT.below hb8
        replace HB := HB.trans (hb8.mono HB.size)
        have K9 := Lib.hid (mul_any A0 A1 n0 cap0 n1 cap1 l0 l1 w8 r0 r1 (by omega) (by omega) h0 h1)
        go_wp2_with (go_at_call 35; refine K9.out.mono ?_)
        rintro e w9 ⟨vD, rfl, oD, hb9⟩
        replace r0 := r0.below hb9
        replace r1 := r1.below hb9
        replace r2 := r2.below hb9
        replace rS := rS.below hb9
        replace rB := rB.below hb9
        replace rC := rC.below hb9
        replace HT := HT.below hb9
        replace HB := HB.trans (hb9.mono HB.size)
        obtain ⟨AD, cD, rfl, _, rD, _⟩ := oD.rd
        have K10 := Lib.hid (mul_any A1 A0 n1 cap1 n0 cap0 l1 l0 w9 r1 r0 (by omega) (by omega) h1 h0)
        go_wp2_with (go_at_call 35; refine K10.out.mono ?_)
        rintro e w10 ⟨vE, rfl, oE, hb10⟩
        replace r0 := r0.below hb10
        replace r1 := r1.below hb10
        replace r2 := r2.below hb10
        replace rS := rS.below hb10
        replace rB := rB.below hb10
        replace rC := rC.below hb10
        replace rD := rD.below hb10
        replace HT := HT.below hb10
        replace HB := HB.trans (hb10.mono HB.size)
        replace oE := oE.asList (show _ = digs 1000000000 (val 1000000000 l0 * val 1000000000 l1) by rw [Nat.mul_comm])
        obtain ⟨AE, cE, rfl, _, rE, _⟩ := oE.rd
        have K11 := Lib.hid (same_true _ _ _ cD _ cE _ _ w10 rD rE (by first | omega | decide) (by first | omega | decide) rfl)
        go_wp2_with (go_at_call 19; refine K11.out.mono ?_)
        rintro e w11 ⟨rfl, hb11⟩
        replace r0 := r0.below hb11
        replace r1 := r1.below hb11
        replace r2 := r2.below hb11
        replace rS := rS.below hb11
        replace rB := rB.below hb11
        replace rC := rC.below hb11
        replace rD := rD.below hb11
        replace rE := rE.below hb11
        replace HT := HT.below hb11
        replace HB := HB.trans (hb11.mono HB.size)
        have K12 := Lib.hid (add_any AS A2 _ cS n2 cap2 _ l2 w11 rS r2 (by omega) (by omega) (digs_u32 _) h2)
        go_wp2_with (go_at_call 29; refine K12.out.mono ?_)
        rintro e w12 ⟨vF, rfl, oF, hb12⟩
        replace r0 := r0.below hb12
        replace r1 := r1.below hb12
        replace r2 := r2.below hb12
        replace rS := rS.below hb12
        replace rB := rB.below hb12
        replace rC := rC.below hb12
        replace rD := rD.below hb12
        replace rE := rE.below hb12
        replace HT := HT.below hb12
        replace HB := HB.trans (hb12.mono HB.size)
        replace oF := oF.asList (show _ = digs 1000000000 (val 1000000000 l0 + val 1000000000 l1 + val 1000000000 l2) by rw [vdig])
        obtain ⟨AF, cF, rfl, _, rF, _⟩ := oF.rd
        have K13 := Lib.hid (add_any A1 A2 n1 cap1 n2 cap2 l1 l2 w12 r1 r2 (by omega) (by omega) h1 h2)
        go_wp2_with (go_at_call 29; refine K13.out.mono ?_)
        rintro e w13 ⟨vG, rfl, oG, hb13⟩
        replace r0 := r0.below hb13
        replace r1 := r1.below hb13
        replace r2 := r2.below hb13
        replace rS := rS.below hb13
        replace rB := rB.below hb13
        replace rC := rC.below hb13
        replace rD := rD.below hb13
        replace rE := rE.below hb13
        replace rF := rF.below hb13
        replace HT := HT.below hb13
        replace HB := HB.trans (hb13.mono HB.size)
        obtain ⟨AG, cG, rfl, _, rG, _⟩ := oG.rd
        have K14 := Lib.hid (add_any A0 AG n0 cap0 _ cG l0 _ w13 r0 rG (by omega) (by omega) h0 (digs_u32 _))
        go_wp2_with (go_at_call 29; refine K14.out.mono ?_)
        rintro e w14 ⟨vH, rfl, oH, hb14⟩
        replace r0 := r0.below hb14
        replace r1 := r1.below hb14
        replace r2 := r2.below hb14
        replace rS := rS.below hb14
        replace rB := rB.below hb14
        replace rC := rC.below hb14
        replace rD := rD.below hb14
        replace rE := rE.below hb14
        replace rF := rF.below hb14
        replace rG := rG.below hb14
        replace HT := HT.below hb14
        replace HB := HB.trans (hb14.mono HB.size)
        replace oH := oH.asList (show _ = digs 1000000000 (val 1000000000 l0 + val 1000000000 l1 + val 1000000000 l2) by rw [vdig, Nat.add_assoc])
        obtain ⟨AH, cH, rfl, _, rH, _⟩ := oH.rd
        have K15 := Lib.hid (same_true _ _ _ cF _ cH _ _ w14 rF rH (by first | omega | decide) (by first | omega | decide) rfl)
        go_wp2_with (go_at_call 19; refine K15.out.mono ?_)
        rintro e w15 ⟨rfl, hb15⟩
        replace r0 := r0.below hb15
        replace r1 := r1.below hb15
        replace r2 := r2.below hb15
        replace rS := rS.below hb15
        replace rB := rB.below hb15
        replace rC := rC.below hb15
        replace rD := rD.below hb15
        replace rE := rE.below hb15
        replace rF := rF.below hb15
        replace rG := rG.below hb15
        replace rH := rH.below hb15
        replace HT := HT.below hb15
        replace HB := HB.trans (hb15.mono HB.size)
        have K16 := Lib.hid (mul_any A0 A1 n0 cap0 n1 cap1 l0 l1 w15 r0 r1 (by omega) (by omega) h0 h1)
        go_wp2_with (go_at_call 35; refine K16.out.mono ?_)
        rintro e w16 ⟨vI, rfl, oI, hb16⟩
        replace r0 := r0.below hb16
        replace r1 := r1.below hb16
        replace r2 := r2.below hb16
        replace rS := rS.below hb16
        replace rB := rB.below hb16
        replace rC := rC.below hb16
        replace rD := rD.below hb16
        replace rE := rE.below hb16
        replace rF := rF.below hb16
        replace rG := rG.below hb16
        replace rH := rH.below hb16
        replace HT := HT.below hb16
        replace HB := HB.trans (hb16.mono HB.size)
        obtain ⟨AI, cI, rfl, _, rI, _⟩ := oI.rd
        have K17 := Lib.hid (mul_any AI A2 _ cI n2 cap2 _ l2 w16 rI r2 (by omega) (by omega) (digs_u32 _) h2)
        go_wp2_with (go_at_call 35; refine K17.out.mono ?_)
        rintro e w17 ⟨vJ, rfl, oJ, hb17⟩
        replace r0 := r0.below hb17
        replace r1 := r1.below hb17
        replace r2 := r2.below hb17
        replace rS := rS.below hb17
        replace rB := rB.below hb17
        replace rC := rC.below hb17
        replace rD := rD.below hb17
        replace rE := rE.below hb17
        replace rF := rF.below hb17
        replace rG := rG.below hb17
        replace rH := rH.below hb17
        replace rI := rI.below hb17
        replace HT := HT.below hb17
        replace HB := HB.trans (hb17.mono HB.size)
        replace oJ := oJ.asList (show _ = digs 1000000000 (val 1000000000 l0 * val 1000000000 l1 * val 1000000000 l2) by rw [vdig])
        obtain ⟨AJ, cJ, rfl, _, rJ, _⟩ := oJ.rd
        have K18 := Lib.hid (mul_any A1 A2 n1 cap1 n2 cap2 l1 l2 w17 r1 r2 (by omega) (by omega) h1 h2)
        go_wp2_with (go_at_call 35; refine K18.out.mono ?_)
        rintro e w18 ⟨vK, rfl, oK, hb18⟩
        replace r0 := r0.below hb18
        replace r1 := r1.below hb18
        replace r2 := r2.below hb18
        replace rS := rS.below hb18
        replace rB := rB.below hb18
        replace rC := rC.below hb18
        replace rD := rD.below hb18
        replace rE := rE.below hb18
        replace rF := rF.below hb18
        replace rG := rG.below hb18
        replace rH := rH.below hb18
        replace rI := rI.below hb18
        replace rJ := rJ.below hb18
        replace HT := HT.below hb18
        replace HB := HB.trans (hb18.mono HB.size)
        obtain ⟨AK, cK, rfl, _, rK, _⟩ := oK.rd
        have K19 := Lib.hid (mul_any A0 AK n0 cap0 _ cK l0 _ w18 r0 rK (by omega) (by omega) h0 (digs_u32 _))
        go_wp2_with (go_at_call 35; refine K19.out.mono ?_)
        rintro e w19 ⟨vL, rfl, oL, hb19⟩
        replace r0 := r0.below hb19
        replace r1 := r1.below hb19
        replace r2 := r2.below hb19
        replace rS := rS.below hb19
        replace rB := rB.below hb19
        replace rC := rC.below hb19
        replace rD := rD.below hb19
        replace rE := rE.below hb19
        replace rF := rF.below hb19
        replace rG := rG.below hb19
        replace rH := rH.below hb19
        replace rI := rI.below hb19
        replace rJ := rJ.below hb19
        replace rK := rK.below hb19
        replace HT := HT.below hb19
        replace HB := HB.trans (hb19.mono HB.size)
        replace oL := oL.asList (show _ = digs 1000000000 (val 1000000000 l0 * val 1000000000 l1 * val 1000000000 l2) by rw [vdig, Nat.mul_assoc])
        obtain ⟨AL, cL, rfl, _, rL, _⟩ := oL.rd
        have K20 := Lib.hid (same_true _ _ _ cJ _ cL _ _ w19 rJ rL (by first | omega | decide) (by first | omega | decide) rfl)
        go_wp2_with (go_at_call 19; refine K20.out.mono ?_)
        rintro e w20 ⟨rfl, hb20⟩
        replace r0 := r0.below hb20
        replace r1 := r1.below hb20
        replace r2 := r2.below hb20
        replace rS := rS.below hb20
        replace rB := rB.below hb20
        replace rC := rC.below hb20
        replace rD := rD.below hb20
        replace rE := rE.below hb20
        replace rF := rF.below hb20
        replace rG := rG.below hb20
        replace rH := rH.below hb20
        replace rI := rI.below hb20
        replace rJ := rJ.below hb20
        replace rK := rK.below hb20
        replace rL := rL.below hb20
        replace HT := HT.below hb20
        replace HB := HB.trans (hb20.mono HB.size)
        have K21 := Lib.hid (mul_any AS A2 _ cS n2 cap2 _ l2 w20 rS r2 (by omega) (by omega) (digs_u32 _) h2)
        go_wp2_with (go_at_call 35; refine K21.out.mono ?_)
        rintro e w21 ⟨vM, rfl, oM, hb21⟩
        replace r0 := r0.below hb21
        replace r1 := r1.below hb21
        replace r2 := r2.below hb21
        replace rS := rS.below hb21
        replace rB := rB.below hb21
        replace rC := rC.below hb21
        replace rD := rD.below hb21
        replace rE := rE.below hb21
        replace rF := rF.below hb21
        replace rG := rG.below hb21
        replace rH := rH.below hb21
        replace rI := rI.below hb21
        replace rJ := rJ.below hb21
        replace rK := rK.below hb21
        replace rL := rL.below hb21
        replace HT := HT.below hb21
        replace HB := HB.trans (hb21.mono HB.size)
        replace oM := oM.asList (show _ = digs 1000000000 ((val 1000000000 l0 + val 1000000000 l1) * val 1000000000 l2) by rw [vdig])
        obtain ⟨AM, cM, rfl, _, rM, _⟩ := oM.rd
        have K22 := Lib.hid (mul_any A0 A2 n0 cap0 n2 cap2 l0 l2 w21 r0 r2 (by omega) (by omega) h0 h2)
        go_wp2_with (go_at_call 35; refine K22.out.mono ?_)
        rintro e w22 ⟨vN, rfl, oN, hb22⟩
        replace r0 := r0.below hb22
        replace r1 := r1.below hb22
        replace r2 := r2.below hb22
        replace rS := rS.below hb22
        replace rB := rB.below hb22
        replace rC := rC.below hb22
        replace rD := rD.below hb22
        replace rE := rE.below hb22
        replace rF := rF.below hb22
        replace rG := rG.below hb22
        replace rH := rH.below hb22
        replace rI := rI.below hb22
        replace rJ := rJ.below hb22
        replace rK := rK.below hb22
        replace rL := rL.below hb22
        replace rM := rM.below hb22
        replace HT := HT.below hb22
        replace HB := HB.trans (hb22.mono HB.size)
        obtain ⟨AN, cN, rfl, _, rN, _⟩ := oN.rd
        have K23 := Lib.hid (mul_any A1 A2 n1 cap1 n2 cap2 l1 l2 w22 r1 r2 (by omega) (by omega) h1 h2)
        go_wp2_with (go_at_call 35; refine K23.out.mono ?_)
        rintro e w23 ⟨vO, rfl, oO, hb23⟩
        replace r0 := r0.below hb23
        replace r1 := r1.below hb23
        replace r2 := r2.below hb23
        replace rS := rS.below hb23
        replace rB := rB.below hb23
        replace rC := rC.below hb23
        replace rD := rD.below hb23
        replace rE := rE.below hb23
        replace rF := rF.below hb23
        replace rG := rG.below hb23
        replace rH := rH.below hb23
        replace rI := rI.below hb23
        replace rJ := rJ.below hb23
        replace rK := rK.below hb23
        replace rL := rL.below hb23
        replace rM := rM.below hb23
        replace rN := rN.below hb23
        replace HT := HT.below hb23
        replace HB := HB.trans (hb23.mono HB.size)
        obtain ⟨AO, cO, rfl, _, rO, _⟩ := oO.rd
        have K24 := Lib.hid (add_any AN AO _ cN _ cO _ _ w23 rN rO (by omega) (by omega) (digs_u32 _) (digs_u32 _))
        go_wp2_with (go_at_call 29; refine K24.out.mono ?_)
        rintro e w24 ⟨vP, rfl, oP, hb24⟩
        replace r0 := r0.below hb24
        replace r1 := r1.below hb24
        replace r2 := r2.below hb24
        replace rS := rS.below hb24
        replace rB := rB.below hb24
        replace rC := rC.below hb24
        replace rD := rD.below hb24
        replace rE := rE.below hb24
        replace rF := rF.below hb24
        replace rG := rG.below hb24
        replace rH := rH.below hb24
        replace rI := rI.below hb24
        replace rJ := rJ.below hb24
        replace rK := rK.below hb24
        replace rL := rL.below hb24
        replace rM := rM.below hb24
        replace rN := rN.below hb24
        replace rO := rO.below hb24
        replace HT := HT.below hb24
        replace HB := HB.trans (hb24.mono HB.size)
        replace oP := oP.asList (show _ = digs 1000000000 ((val 1000000000 l0 + val 1000000000 l1) * val 1000000000 l2) by rw [vdig, vdig, Nat.add_mul])
        obtain ⟨AP, cP, rfl, _, rP, _⟩ := oP.rd
        have K25 := Lib.hid (same_true _ _ _ cM _ cP _ _ w24 rM rP (by first | omega | decide) (by first | omega | decide) rfl)
        go_wp2_with (go_at_call 19; refine K25.out.mono ?_)
        rintro e w25 ⟨rfl, hb25⟩
        replace r0 := r0.below hb25
        replace r1 := r1.below hb25
        replace r2 := r2.below hb25
        replace rS := rS.below hb25
        replace rB := rB.below hb25
        replace rC := rC.below hb25
        replace rD := rD.below hb25
        replace rE := rE.below hb25
        replace rF := rF.below hb25
        replace rG := rG.below hb25
        replace rH := rH.below hb25
        replace rI := rI.below hb25
        replace rJ := rJ.below hb25
        replace rK := rK.below hb25
        replace rL := rL.below hb25
        replace rM := rM.below hb25
        replace rN := rN.below hb25
        replace rO := rO.below hb25
        replace rP := rP.below hb25
        replace HT := HT.below hb25
        replace HB := HB.trans (hb25.mono HB.size)
        have K26 := Lib.hid (norm_any A0 n0 cap0 l0 w25 r0 (by omega) h0)
        go_wp2_with (go_at_call 23; refine K26.out.mono ?_)
        rintro e w26 ⟨vQ, rfl, oQ, hb26⟩
        replace r0 := r0.below hb26
        replace r1 := r1.below hb26
        replace r2 := r2.below hb26
        replace rS := rS.below hb26
        replace rB := rB.below hb26
        replace rC := rC.below hb26
        replace rD := rD.below hb26
        replace rE := rE.below hb26
        replace rF := rF.below hb26
        replace rG := rG.below hb26
        replace rH := rH.below hb26
        replace rI := rI.below hb26
        replace rJ := rJ.below hb26
        replace rK := rK.below hb26
        replace rL := rL.below hb26
        replace rM := rM.below hb26
        replace rN := rN.below hb26
        replace rO := rO.below hb26
        replace rP := rP.below hb26
        replace HT := HT.below hb26
        replace HB := HB.trans (hb26.mono HB.size)
        obtain ⟨AQ, cQ, rfl, _, rQ, _⟩ := oQ.rd
        have K27 := Lib.hid (same_true _ _ _ cB _ cQ _ _ w26 rB rQ (by first | omega | decide) (by first | omega | decide) rfl)
        go_wp2_with (go_at_call 19; refine K27.out.mono ?_)
        rintro e w27 ⟨rfl, hb27⟩
        replace r0 := r0.below hb27
        replace r1 := r1.below hb27
        replace r2 := r2.below hb27
        replace rS := rS.below hb27
        replace rB := rB.below hb27
        replace rC := rC.below hb27
        replace rD := rD.below hb27
        replace rE := rE.below hb27
        replace rF := rF.below hb27
        replace rG := rG.below hb27
        replace rH := rH.below hb27
        replace rI := rI.below hb27
        replace rJ := rJ.below hb27
        replace rK := rK.below hb27
        replace rL := rL.below hb27
        replace rM := rM.below hb27
        replace rN := rN.below hb27
        replace rO := rO.below hb27
        replace rP := rP.below hb27
        replace rQ := rQ.below hb27
        replace HT := HT.below hb27
        replace HB := HB.trans (hb27.mono HB.size)
        go_wp2
        go_ret
        exact ⟨rfl, HB⟩
end Go.Proofs.YtmmlclgmehfmhaaDoor
