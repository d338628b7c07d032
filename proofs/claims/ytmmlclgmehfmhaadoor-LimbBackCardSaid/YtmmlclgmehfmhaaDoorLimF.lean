/-
  The walks of cmp.Compare at uint32 and int, of limb's order.
-/
import Derived.Test.YtmmlclgmehfmhaaDoorLimE
namespace Go.Proofs.YtmmlclgmehfmhaaDoor
open Go.RowKit

set_option maxHeartbeats 400000 in
set_option maxRecDepth 100000 in
theorem cmpU32_any (x y : Nat) (c : Int) (hc : cmpN x y = c) (w : World) :
    Calls Tryd.prog 64 #[.int .u32 x, .int .u32 y] w fun e w' => e = .returned (.int .i64 c) ∧ w = w' := by
  unfold cmpN at hc
  by_cases h : x < y
  · rw [if_pos h] at hc
    subst hc
    go_enter Tryd.func64, Tryd.ntmps64
    go_wp2
    go_ret
    exact ⟨rfl, rfl⟩
  · rw [if_neg h] at hc
    by_cases h2 : y < x
    · rw [if_pos h2] at hc
      subst hc
      go_enter Tryd.func64, Tryd.ntmps64
      go_wp2
      go_ret
      exact ⟨rfl, rfl⟩
    · rw [if_neg h2] at hc
      subst hc
      obtain rfl : x = y := by omega
      go_enter Tryd.func64, Tryd.ntmps64
      go_wp2
      go_ret
      exact ⟨rfl, rfl⟩

set_option maxHeartbeats 400000 in
set_option maxRecDepth 100000 in
theorem cmpInt_any (x y : Nat) (c : Int) (hc : cmpN x y = c) (w : World) :
    Calls Tryd.prog 63 #[.int .i64 x, .int .i64 y] w fun e w' => e = .returned (.int .i64 c) ∧ w = w' := by
  unfold cmpN at hc
  by_cases h : x < y
  · rw [if_pos h] at hc
    subst hc
    go_enter Tryd.func63, Tryd.ntmps63
    go_wp2
    go_ret
    exact ⟨rfl, rfl⟩
  · rw [if_neg h] at hc
    by_cases h2 : y < x
    · rw [if_pos h2] at hc
      subst hc
      go_enter Tryd.func63, Tryd.ntmps63
      go_wp2
      go_ret
      exact ⟨rfl, rfl⟩
    · rw [if_neg h2] at hc
      subst hc
      obtain rfl : x = y := by omega
      go_enter Tryd.func63, Tryd.ntmps63
      go_wp2
      go_ret
      exact ⟨rfl, rfl⟩

theorem cmpN_lt {x y : Nat} (h : x < y) : cmpN x y = -1 := by unfold cmpN; rw [if_pos h]
theorem cmpN_gt {x y : Nat} (h : y < x) : cmpN x y = 1 := by unfold cmpN; rw [if_neg (by omega), if_pos h]
theorem cmpN_eq (x : Nat) : cmpN x x = 0 := by unfold cmpN; rw [if_neg (by omega), if_neg (by omega)]

theorem digs_at_lt (B x y i : Nat) (hB : 2 ≤ B) (hlen : (digs B x).length = (digs B y).length) (hi : i < (digs B x).length) (he : (digs B x).drop (i + 1) = (digs B y).drop (i + 1)) (h : (digs B x).getD i 0 < (digs B y).getD i 0) : x < y := by
  have := cmp_at B (digs B x) (digs B y) i (digs_lt B hB x) hlen hi he h
  rwa [val_digs B hB, val_digs B hB] at this

set_option maxHeartbeats 1000000 in
set_option maxRecDepth 100000 in
theorem order_any (x y : Nat) (A A2 : Option Addr) (n cap n2 cap2 : Nat) (w : World) (hR : RdN .u32 w A n (digs 1000000000 x)) (hR2 : RdN .u32 w A2 n2 (digs 1000000000 y)) (hn : n ≤ 1099511627776) (hn2 : n2 ≤ 1099511627776) :
    Calls Tryd.prog 44 #[.slice A n cap, .slice A2 n2 cap2] w fun e w' => e = .returned (.int .i64 (cmpN x y)) ∧ Below w.heap.size w w' := by
  have hl1 := hR.1
  have hl2 := hR2.1
  by_cases h : n = n2
  · subst h
    have hlen : (digs 1000000000 x).length = (digs 1000000000 y).length := by rw [hl1, hl2]
    have h0 := cmpInt_any n n 0 (cmpN_eq n)
    have H0 := Lib.hid h0
    have HD := Lib.hid (fun i => digs_at_lt 1000000000 x y i (by omega) hlen)
    have HD2 := Lib.hid (fun i => digs_at_lt 1000000000 y x i (by omega) hlen.symm)
    have HST := Lib.hid (fun i => drop_step (digs 1000000000 x) (digs 1000000000 y) i)
    have HV1 := Lib.hid (val_digs 1000000000 (by omega) x)
    have HV2 := Lib.hid (val_digs 1000000000 (by omega) y)
    have HR := Lib.hid hR
    have HR2 := Lib.hid hR2
    have HL1 := Lib.hid hl1
    have HL2 := Lib.hid hl2
    clear h0 hR hR2 hl1 hl2 hlen
    generalize digs 1000000000 x = l at *
    generalize digs 1000000000 y = m at *
    have KL := Lib.hid (@cmpN_lt x y)
    have KG := Lib.hid (@cmpN_gt x y)
    have KE := Lib.hid (cmpN_eq x)
    generalize hc : cmpN x y = C
    have HC := Lib.hid hc
    clear hc
    go_enter Tryd.func44, Tryd.ntmps44
    go_wp2_with (go_at_call 63; refine (H0.out _).mono ?_; rintro e w1 ⟨rfl, rfl⟩)
    go_loopw [6] (fun v wr => ∃ k : Nat, k ≤ n ∧ v = .int .i64 ((k : Int) - 1) ∧ Hid (l.drop k = m.drop k) ∧ Below w.heap.size w wr) (fun v _ => (intOf v + 1).toNat)
    case atStart => exact ⟨n, Nat.le_refl _, rfl, by show _ = _; rw [List.drop_of_length_le (by rw [HL1.out]; omega), List.drop_of_length_le (by rw [HL2.out]; omega)], Below.refl _ _⟩
    case round =>
      obtain ⟨k, hk, rfl, hv, hb⟩ := hrel
      by_cases h0 : k = 0
      · subst h0
        go_wp2
        go_ret
        refine ⟨?_, hb⟩
        have e := hv.out
        rw [List.drop_zero, List.drop_zero] at e
        have : x = y := by rw [← HV1.out, ← HV2.out, e]
        rw [← HC.out, ← this, KE.out]; rfl
      · obtain ⟨k, rfl⟩ : ∃ j, k = j + 1 := ⟨k - 1, by omega⟩
        obtain ⟨b1, o1, rfl, hbl1, hc1⟩ := HR.out.2 (by omega)
        obtain ⟨b2, o2, rfl, hbl2, hc2⟩ := HR2.out.2 (by omega)
        have c1 := (hb.cell (p := ⟨b1, o1 + k, none⟩) hbl1).trans (hc1 k (by omega))
        have c2 := (hb.cell (p := ⟨b2, o2 + k, none⟩) hbl2).trans (hc2 k (by omega))
        have D1 := Lib.hid (HD.out k (by rw [HL1.out]; omega) hv.out)
        have D2 := Lib.hid (HD2.out k (by rw [HL2.out]; omega) hv.out.symm)
        have ST := Lib.hid (HST.out k (by rw [HL1.out]; omega) (by rw [HL2.out]; omega) hv.out)
        clear hc1 hc2
        generalize l.getD k 0 = a at c1 D1 D2 ST
        generalize m.getD k 0 = b at c2 D1 D2 ST
        have hkn : (k : Int) < n := by omega
        have hk1 : (k : Int) + 1 - 1 = k := by omega
        rcases Nat.lt_trichotomy a b with hab | hab | hab
        · have K1 := Lib.hid (fun j : Nat => quiet_left (cmpU32_any a b (-1) (cmpN_lt hab) (wr.drewN j)))
          have HA := Lib.hid hab
          clear hab
          go_wp2
          go_quiet ((go_at_call 64; with_reducible exact K1.out _))
          go_wp2
          go_ret
          exact ⟨by rw [← HC.out, KL.out (D1.out HA.out)]; rfl, below_drewN hb _⟩
        · have K1 := Lib.hid (fun j : Nat => quiet_left (cmpU32_any a b 0 (by rw [hab]; exact cmpN_eq b) (wr.drewN j)))
          have HA := Lib.hid hab
          clear hab
          go_wp2
          go_quiet ((go_at_call 64; with_reducible exact K1.out _))
          go_wp2
          go_roundw
          case rel => exact ⟨k, by omega, by go_num, ST.out HA.out, below_drewN hb _⟩
          case measure => simp [intOf]
        · have K1 := Lib.hid (fun j : Nat => quiet_left (cmpU32_any a b 1 (cmpN_gt hab) (wr.drewN j)))
          have HA := Lib.hid hab
          clear hab
          go_wp2
          go_quiet ((go_at_call 64; with_reducible exact K1.out _))
          go_wp2
          go_ret
          exact ⟨by rw [← HC.out, KG.out (D2.out HA.out)]; rfl, below_drewN hb _⟩
  · have hne : ∃ c : Int, cmpN n n2 = c ∧ cmpN x y = c ∧ c ≠ 0 := by
      rcases Nat.lt_or_ge n n2 with h1 | h1
      · exact ⟨-1, cmpN_lt h1, cmpN_lt (cmpN_len 1000000000 (by omega) x y (by rw [hl1, hl2]; exact h1)), by omega⟩
      · exact ⟨1, cmpN_gt (by omega), cmpN_gt (cmpN_len 1000000000 (by omega) y x (by rw [hl1, hl2]; omega)), by omega⟩
    obtain ⟨c, e1, e2, hc0⟩ := hne
    have H0 := Lib.hid (cmpInt_any n n2 c e1)
    have hne : (c != 0) = true := by simpa [bne_iff_ne] using hc0
    rw [e2]
    clear e1 e2 hc0 hl1 hl2 hR hR2
    go_enter Tryd.func44, Tryd.ntmps44
    go_wp2_with (go_at_call 63; refine (H0.out _).mono ?_; rintro e w1 ⟨rfl, rfl⟩)
    go_ret
    exact ⟨rfl, Below.refl _ _⟩
end Go.Proofs.YtmmlclgmehfmhaaDoor
