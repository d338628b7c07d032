/-
  The walk of limb's Mul.
-/
import Derived.Test.YtmmlclgmehfmhaaDoorLimI
import Derived.Test.YtmmlclgmehfmhaaDoorNum3
namespace Go.Proofs.YtmmlclgmehfmhaaDoor
open Go.RowKit

theorem mulNat_le (v y : Nat) (hv : v < 1000000000) (hy : y < 1000000000) : (v : Int) * y ≤ 999999999 * 999999999 := by
  have h : v * y ≤ 999999999 * 999999999 := Nat.mul_le_mul (by omega) (by omega)
  rw [← Int.natCast_mul]
  omega
theorem cast_mod (c o v y : Nat) : ((c : Int) + (o + v * y)) % 1000000000 = (((c + (o + v * y)) % 1000000000 : Nat) : Int) := by
  rw [Int.natCast_emod, Int.natCast_add, Int.natCast_add, Int.natCast_mul]; rfl
theorem cast_div (c o v y : Nat) : ((c : Int) + (o + v * y)) / 1000000000 = (((c + (o + v * y)) / 1000000000 : Nat) : Int) := by
  rw [Int.natCast_ediv, Int.natCast_add, Int.natCast_add, Int.natCast_mul]; rfl

set_option maxHeartbeats 2000000 in
set_option maxRecDepth 100000 in
theorem mul_any (A A2 : Option Addr) (n cap n2 cap2 : Nat) (l l2 : List Nat) (w : World) (hR : RdN .u32 w A n l) (hR2 : RdN .u32 w A2 n2 l2) (hn : n ≤ 549755813888) (hn2 : n2 ≤ 549755813888) (hl : ∀ x ∈ l, x < 4294967296) (hl2 : ∀ x ∈ l2, x < 4294967296) :
    Calls Tryd.prog 35 #[.slice A n cap, .slice A2 n2 cap2] w fun e w' => IsNum (val 1000000000 l * val 1000000000 l2) w w' e := by
  have K1 := Lib.hid (norm_any A n cap l w hR (by omega) hl)
  have K2 := Lib.hid (fun u hu => norm_any A2 n2 cap2 l2 u (hR2.below hu) (by omega) hl2)
  have hd : (digs 1000000000 (val 1000000000 l)).length ≤ 549755813889 := by have := digs_val_len l hl; have := hR.1; omega
  have hd2 : (digs 1000000000 (val 1000000000 l2)).length ≤ 549755813889 := by have := digs_val_len l2 hl2; have := hR2.1; omega
  clear hR hR2 hl hl2
  generalize val 1000000000 l = x at *
  generalize val 1000000000 l2 = y at *
  have HLT := Lib.hid (digs_lt 1000000000 (by omega) x)
  have HLT2 := Lib.hid (digs_lt 1000000000 (by omega) y)
  have HV1 := Lib.hid (val_digs 1000000000 (by omega) x)
  have HV2 := Lib.hid (val_digs 1000000000 (by omega) y)
  go_enter Tryd.func35, Tryd.ntmps35
  go_wp2_with (go_at_call 23; refine K1.out.mono ?_)
  rintro e w1 ⟨v1, rfl, hown1, hb1⟩
  obtain ⟨B1, c1, rfl, hcap1, hrd1, hge1⟩ := hown1.rd
  have K3 := Lib.hid (K2.out w1 hb1)
  go_wp2_with (go_at_call 23; refine K3.out.mono ?_)
  rintro e w2 ⟨v2, rfl, hown2, hb2⟩
  obtain ⟨B2, c2, rfl, hcap2, hrd2, hge2⟩ := hown2.rd
  have hrd1' := hrd1.below hb2
  clear hown1 hown2 hrd1 hge1 hge2 hcap1 hcap2
  generalize digs 1000000000 x = X at *
  generalize digs 1000000000 y = Y at *
  have HR1 := Lib.hid hrd1'
  have HR2 := Lib.hid hrd2
  generalize hXn : X.length = a at *
  generalize hYn : Y.length = b at *
  have HX := Lib.hid hXn
  have HY := Lib.hid hYn
  clear hrd1' hrd2 hXn hYn
  have hmk := make_u32 (a + b + 1) (a + b + 1) (Nat.le_refl _) (by omega) w2
  have hown0 := OwnN.made (a + b + 1) w2 (by unfold maxLen; omega)
  have hbm := below_alloc0 w2 (.cells (madeCells #[.int .u32 0] (a + b + 1)) 61)
  simp only [Int.natCast_add, Int.cast_ofNat_Int] at hmk
  generalize hw0 : w2.alloc (.cells (madeCells #[.int .u32 0] (a + b + 1)) 61) = w0 at *
  have HW0 := Lib.hid hw0
  clear hw0
  go_wp2
  go_loopw [25] (fun iv wr => ∃ (i : Nat) (L : List Nat), i ≤ a ∧ iv = .int .i64 i ∧ L.length = a + b + 1 ∧ OwnN .u32 61 w2.heap.size wr (.slice (some ⟨w2.heap.size, 0, none⟩) (a + b + 1) (a + b + 1)) L ∧ Hid (MulOut X (val 1000000000 Y) i L) ∧ Below w2.heap.size w2 wr) (fun iv _ => a - (intOf iv).toNat)
  case atStart => exact ⟨0, _, Nat.zero_le _, rfl, List.length_replicate, hown0, MulOut.zero _ _ _, hbm⟩
  case round =>
    obtain ⟨i, L, hi, rfl, hL, hown, hmo, hb⟩ := hrel
    by_cases hlt : i < a
    · obtain ⟨p1, o1, rfl, hbl1, hc1⟩ := HR1.out.2 (by omega)
      have cx := (hb.cell (p := ⟨p1, o1 + i, none⟩) hbl1).trans (hc1 i hlt)
      have HB := Lib.hid (hmo.out.begin (X.getD i 0))
      have hv := getD_lt (by omega) HLT.out i
      have HDN := Lib.hid (fun c L => @MulIn.done X Y i c (b + 1) L HLT.out HLT2.out (by rw [HX.out]; exact hlt) (by rw [HY.out]))
      clear hc1 hmo
      generalize X.getD i 0 = v at *
      generalize val 1000000000 (X.take i) * val 1000000000 Y = V at *
      have hL' := hL
      have hown' := hown
      clear hown hL
      have HBB := Lib.hid hb
      go_wp2
      go_loopw [10, 33] (fun cv kv wr => ∃ (k c : Nat) (L : List Nat), k ≤ b + 1 ∧ kv = .int .i64 k ∧ cv = .int .u64 c ∧ c < 1000000000 ∧ L.length = a + b + 1 ∧ OwnN .u32 61 w2.heap.size wr (.slice (some ⟨w2.heap.size, 0, none⟩) (a + b + 1) (a + b + 1)) L ∧ Hid (MulIn V i v Y k c L) ∧ Below w2.heap.size w2 wr) (fun _ kv _ => b + 1 - (intOf kv).toNat)
      case atStart => exact ⟨0, 0, L, Nat.zero_le _, rfl, rfl, by omega, hL', hown', HB, hb⟩
      case round =>
        clear hb HB
        obtain ⟨k, c, L, hk, rfl, rfl, hc, hL, hown, hmi, hb⟩ := hrel
        by_cases hk2 : k < b + 1
        · have hy := getD_lt (by omega) HLT2.out k
          have K5 := Lib.hid (fun j : Nat => quiet_left (at_any B2 b c2 Y k (wr.drewN j) (((HR2.out.below hb).drewN j)) (by omega) (fun z hz => by have := HLT2.out z hz; omega)))
          have ho := getD_lt (by omega) hmi.out.1 (i + k)
          have HS := Lib.hid (hmi.out.step (by rw [hL]; omega))
          obtain ⟨cc, ff⟩ := hown.cellAt (i := i + k) (by rw [hL]; omega)
          have hca := MulIn.carry c (L.getD (i + k) 0) v (Y.getD k 0) hc ho hv hy
          clear hmi
          generalize Y.getD k 0 = yy at *
          generalize L.getD (i + k) 0 = old at *
          have hp0 : 0 ≤ (v : Int) * yy := Int.mul_nonneg (by omega) (by omega)
          have hp1 := mulNat_le v yy hv hy
          go_wp2
          go_quiet ((go_at_call 55; with_reducible exact K5.out _))
          go_wp2
          rw [cast_mod]
          refine ⟨⟨k + 1, (c + (old + v * yy)) / 1000000000, L.set (i + k) ((c + (old + v * yy)) % 1000000000), by omega, by go_num, by rw [cast_div], by omega, by rw [List.length_set]; exact hL, ?_, HS.out, ?_⟩, by simp [intOf]; omega⟩
          · exact (hown.drewN nq).set (i := i + k) (by rw [hL]; omega)
          · exact (below_drewN hb nq).setCell (Nat.le_refl _) _
        · obtain rfl : k = b + 1 := by omega
          have HD := Lib.hid (HDN.out c L hmi.out)
          go_wp2
          go_roundw
          case rel => exact ⟨i + 1, L, by omega, by go_num, hL, hown, HD.out, hb⟩
          case measure => simp [intOf]; omega
    · have hia : a ≤ i := by omega
      have HT := Lib.hid (hmo.out.done (by rw [HX.out]; exact hia))
      rw [HV1.out, HV2.out] at HT
      obtain ⟨A', cap', hv', hcap', hrd', _⟩ := hown.rd
      injection hv' with e1 e2 e3
      subst e1 e3
      rw [hL] at hrd'
      clear e2 hcap'
      have K6 := Lib.hid (trim_any _ (a + b + 1) (a + b + 1) L wr hrd' (by omega) (by omega))
      clear hrd'
      have HB1 := Lib.hid hb1
      have HB2 := Lib.hid hb2
      have HBW := Lib.hid hb
      go_wp2_with (go_at_call 41; refine K6.out.mono ?_; rintro e w3 ⟨rfl, rfl⟩)
      go_ret
      refine ⟨_, rfl, ?_, (HB1.out.trans (HB2.out.mono HB1.out.size)).trans (HBW.out.mono (by have := HB1.out.size; have := HB2.out.size; omega))⟩
      have := hown.trim
      rw [HT.out] at this
      rw [HT.out]
      exact this.more (by have := HB1.out.size; have := HB2.out.size; omega)
end Go.Proofs.YtmmlclgmehfmhaaDoor
