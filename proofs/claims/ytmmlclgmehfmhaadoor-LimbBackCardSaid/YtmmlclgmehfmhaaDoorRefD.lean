/-
  The walks of the document's answer for layer 1: From, To.
-/
import Derived.Test.YtmmlclgmehfmhaaDoorRefC
namespace Go.Proofs.YtmmlclgmehfmhaaDoor
open Go.RowKit

theorem digs10_u32_len (l : List Nat) (hl : ∀ x ∈ l, x < 4294967296) : (digs 10 (val 1000000000 l)).length ≤ 9 * l.length + 1 := by
  rw [← digs_len 10 (by omega)]
  have h1 := val_u32 l hl
  have e : 1000000000 ^ l.length = 10 ^ (9 * l.length) := by rw [Nat.pow_mul]
  rw [e] at h1
  rw [Nat.pow_succ]
  have hp : 0 < 10 ^ (9 * l.length) := Nat.pow_pos (by omega)
  omega

set_option maxHeartbeats 2000000 in
set_option maxRecDepth 100000 in
theorem from_any (A : Option Addr) (n cap : Nat) (l : List Nat) (w : World) (hR : RdN .u32 w A n l) (hn : n ≤ 100000) (hl : ∀ x ∈ l, x < 4294967296) :
    Calls Tryd.prog 47 #[.slice A n cap] w fun e w' => IsRef (val 1000000000 l) w w' e := by
  have HR := Lib.hid hR
  have HLN := Lib.hid hR.1
  have HL := Lib.hid hl
  clear hR hl
  go_enter Tryd.func47, Tryd.ntmps47
  go_wp2
  go_loopw [3, 4] (fun v iv wr => ∃ k : Nat, k ≤ n ∧ iv = .int .i64 k ∧ OwnN .u8 5 w.heap.size wr v (digs 10 (val 1000000000 (l.take k))) ∧ Below w.heap.size w wr) (fun _ iv _ => n - (intOf iv).toNat)
  case atStart => exact ⟨0, Nat.zero_le _, rfl, by rw [List.take_zero, val, digs_zero]; exact OwnN.nil _ _ _ _, Below.refl _ _⟩
  case round =>
    obtain ⟨k, hk, rfl, hown, hb⟩ := hrel
    have hz := hb.size
    by_cases hlt : k < n
    · obtain ⟨b1, o1, rfl, hbl1, hcl1⟩ := HR.out.2 (by omega)
      have cx := (hb.cell (p := ⟨b1, o1 + k, none⟩) hbl1).trans (hcl1 k (by omega))
      have hx := getD_lt (by omega) HL.out k
      have hd := digs10_u32_len (l.take k) (fun z hz => HL.out z (List.mem_of_mem_take hz))
      rw [List.length_take] at hd
      have HV := Lib.hid (show val 1000000000 (l.take (k + 1)) = val 1000000000 (l.take k) + l.getD k 0 * 10 ^ (9 * k) by
        rw [val_take_succ, Nat.pow_mul, Nat.mul_comm])
      clear hcl1
      have hown1 := hown
      obtain ⟨B1, c1, rfl, _, hrd1, _⟩ := hown.rd
      generalize hv0 : val 1000000000 (l.take k) = V at *
      generalize l.getD k 0 = x at *
      have HV0 := Lib.hid hv0
      clear hv0
      have KS := Lib.hid (small_any x wr (by omega))
      have hdx : (digs 10 x).length ≤ 20 := (digs_len 10 (by omega) x 20).1 (by omega)
      have kh := fun v base u (h : OwnN .u8 5 base u v (digs 10 x)) => rshift_any v base x (9 * k) u h (by omega) (by omega)
      rw [show ((9 * k : Nat) : Int) = 9 * (k : Int) by omega] at kh
      have KH := Lib.hid kh
      have hdl : (digs 10 (x * 10 ^ (9 * k))).length ≤ 1099511627776 := by
        have : x * 10 ^ (9 * k) < 10 ^ (20 + 9 * k) := by
          rw [Nat.pow_add]
          exact Nat.mul_lt_mul_of_pos_right (by omega) (Nat.pow_pos (by omega))
        have := (digs_len 10 (by omega) _ _).1 this
        omega
      have H9 := Lib.hid (digs_lt 10 (by omega) V)
      have HVV := Lib.hid (val_digs 10 (by omega) V)
      have H92 := Lib.hid (digs_lt 10 (by omega) (x * 10 ^ (9 * k)))
      have HVV2 := Lib.hid (val_digs 10 (by omega) (x * 10 ^ (9 * k)))
      clear kh
      have hk9 : 9 * (k : Int) ≤ 900000 := by omega
      go_wp2_with (go_at_call 25; refine KS.out.mono ?_)
      rintro e w1 ⟨v1, rfl, hown2, hb1⟩
      go_wp2_with (go_at_call 40; refine (KH.out _ _ _ hown2).mono ?_)
      rintro e w2 ⟨v2, rfl, hown3, hb2⟩
      obtain ⟨B3, c3, rfl, _, hrd3, _⟩ := hown3.rd
      have hb12 := hb1.trans (hb2.mono hb1.size)
      have hlV : (digs 10 V).length ≤ 1099511627776 := by omega
      have KA := Lib.hid (radd_any B1 B3 _ c1 _ c3 _ _ w2 (hrd1.below hb12) hrd3 hlV hdl H9.out H92.out)
      rw [HVV.out, HVV2.out] at KA
      have HB12 := Lib.hid hb12
      clear hdl hlV hdx hd hrd1 hrd3 hown1 hown2 hown3 hb1 hb2 hb12
      go_wp2_with (go_at_call 30; refine KA.out.mono ?_)
      rintro e w3 ⟨v3, rfl, hown4, hb3⟩
      have hz2 := HB12.out.size
      go_wp2
      go_roundw
      case rel => exact ⟨k + 1, by omega, by go_num, (hown4.asList (by rw [HV.out])).more (by omega), (hb.trans (HB12.out.mono hz)).trans (hb3.mono (by omega))⟩
      case measure => simp [intOf]; omega
    · obtain rfl : k = n := by omega
      have HT := Lib.hid (show l.take k = l from List.take_of_length_le (by rw [HLN.out]; exact Nat.le_refl _))
      rw [HT.out] at hown
      go_wp2
      go_ret
      exact ⟨_, rfl, hown, hb⟩

set_option maxHeartbeats 2000000 in
set_option maxRecDepth 100000 in
theorem to_any (A : Option Addr) (n cap x : Nat) (w : World) (hR : RdN .u8 w A n (digs 10 x)) (hn : n ≤ 1099511627776) :
    Calls Tryd.prog 50 #[.slice A n cap] w fun e w' => IsNum x w w' e := by
  obtain ⟨i0, hi0, hz0, hz1, hz2⟩ := info_parts info_u32
  have HR := Lib.hid hR
  have HLN := Lib.hid hR.1
  have H9 := Lib.hid (digs_lt 10 (by omega) x)
  have HMORE := Lib.hid (to_more x)
  have HDONE := Lib.hid (to_done x)
  have HST := Lib.hid (nine_step x)
  have HFIN := Lib.hid (nine_done x)
  have HLT := Lib.hid (nine_lt x)
  clear hR
  go_enter Tryd.func50, Tryd.ntmps50
  go_wp2
  go_loopw [3, 4] (fun v iv wr => ∃ (j : Nat) (acc : List Nat), 9 * j < n + 9 ∧ iv = .int .i64 (9 * (j : Int)) ∧ acc.length ≤ j ∧ OwnN .u32 61 w.heap.size wr v acc ∧ Hid (acc = (digs 1000000000 x).take j) ∧ Below w.heap.size w wr) (fun _ iv _ => n + 9 - (intOf iv).toNat)
  case atStart => exact ⟨0, [], by omega, rfl, by simp, OwnN.nil _ _ _ _, by show _ = _; rw [List.take_zero], Below.refl _ _⟩
  case round =>
    obtain ⟨j, acc, hj, rfl, hal, hown, hacc, hb⟩ := hrel
    have hz := hb.size
    by_cases hlt : 9 * (j : Int) < n
    · have HM := Lib.hid (HMORE.out j (by rw [HLN.out]; omega))
      go_wp2
      go_loop [5, 6] (fun nv iv => ∃ k t : Nat, k ≤ 9 ∧ iv = .int .i64 ((k : Int) - 1) ∧ nv = .int .u32 t ∧ t < 1000000000 ∧ Hid (t = x / 10 ^ (9 * j + k) % 10 ^ (9 - k))) (fun _ iv => (intOf iv + 1).toNat)
      case atStart => exact ⟨9, 0, by omega, rfl, rfl, by omega, by show _ = _; rw [Nat.sub_self, Nat.pow_zero, Nat.mod_one]⟩
      case round =>
        obtain ⟨k, t, hk, rfl, rfl, ht, hv⟩ := hrel
        by_cases hk0 : k = 0
        · subst hk0
          have HT := Lib.hid (show acc ++ [t] = (digs 1000000000 x).take (j + 1) by rw [HM.out, hv.out, HFIN.out, hacc.out])
          have hlit := OwnN.lit .u32 61 wr.heap.size wr t (Nat.le_refl _)
          go_wp2_with (at_builtin; refine wpList_append_rd _ rfl _ _ 22 rfl w.heap.size wr.heap.size .u32 61 i0 (.int .u32 0) 4 Tryd.underlying22 hi0 hz0 hz1 hz2 rfl _ _ acc [t] rfl rfl (hown.below (below_alloc0 wr _)) hlit ?c1 ?c2 ?c3 ?_)
          case c1 => show acc.length + 1 ≤ _; unfold maxLen; omega
          case c2 => show (acc.length + 1) * 4 ≤ _; omega
          case c3 => first | omega | exact Nat.le_trans hz (below_alloc0 wr _).size
          intro v' w' hown' hgrow
          go_wp2
          go_roundw
          case rel =>
            refine ⟨j + 1, acc ++ [t], by omega, by go_num, by simp; omega, hown', HT.out, (hb.alloc hz _).grown hgrow (Nat.le_trans hz (below_alloc0 wr _).size) (fun q hq => (hown.block_ge q hq).1)⟩
          case measure => simp [intOf]; omega
        · obtain ⟨k, rfl⟩ : ∃ q, k = q + 1 := ⟨k - 1, by omega⟩
          have hsx := HST.out (9 * j) k (by omega)
          have ht8 : t < 100000000 := by
            rw [hv.out]
            have h1 := Nat.mod_lt (x / 10 ^ (9 * j + (k + 1))) (y := 10 ^ (9 - (k + 1))) (Nat.pow_pos (by omega))
            have h2 : 10 ^ (9 - (k + 1)) ≤ 10 ^ 8 := Nat.pow_le_pow_right (by decide) (show 9 - (k + 1) ≤ 8 by omega)
            omega
          rw [← hv.out] at hsx
          have hd := getD_lt (by omega) H9.out (9 * j + k)
          have kd := rdig_any A n cap (digs 10 x) (9 * j + k) wr (HR.out.below hb) (by omega) (fun z hz => by have := H9.out z hz; omega)
          rw [show ((9 * j + k : Nat) : Int) = 9 * (j : Int) + k by omega] at kd
          have KD := Lib.hid kd
          have HSX := Lib.hid hsx
          have hkk : ((k + 1 : Nat) : Int) - 1 = k := by omega
          clear kd hsx hv
          generalize (digs 10 x).getD (9 * j + k) 0 = d at *
          go_wp2_with (go_at_call 56; refine KD.out.mono ?_; rintro e w1 ⟨rfl, rfl⟩)
          go_round
          case rel => exact ⟨k, 10 * t + d, by omega, by go_num, by go_num, by omega, HSX.out⟩
          case measure => simp [intOf]
    · have HT := Lib.hid (HDONE.out j (by rw [HLN.out]; omega))
      go_wp2
      go_ret
      exact ⟨_, rfl, hown.asList (by rw [hacc.out, HT.out]), hb⟩
end Go.Proofs.YtmmlclgmehfmhaaDoor
