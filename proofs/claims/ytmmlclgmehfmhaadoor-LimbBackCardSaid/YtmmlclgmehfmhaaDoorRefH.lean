/-
  The walk of the document's answer for layer 1: Mul.
-/
import Derived.Test.YtmmlclgmehfmhaaDoorRefG
namespace Go.Proofs.YtmmlclgmehfmhaaDoor
open Go.RowKit

theorem info_int : (Tryd.prog.info? 3).map (fun i => (i.zero, i.size, i.bytes)) = some (some (.int .i64 0), 1, 8) := by kernel_rfl
theorem make_ints (n c : Nat) (hnc : n ≤ c) (hc : c ≤ 17592186044416) (u : World) : (Instr.makeSlice 80 (.int .i64 (n : Int)) (.int .i64 (c : Int))).run Tryd.prog u = .ok (.slice (some ⟨u.heap.size, 0, none⟩) n c) (u.alloc (.cells (madeCells #[.int .i64 0] c) 3)) := by
  obtain ⟨i0, hi, hz0, hz1, hz2⟩ := info_parts info_int
  have h := run_make (P := Tryd.prog) u 80 3 i0 (.int .i64 0) Tryd.underlying80 hi hz0 .i64 .i64 (n : Int) (c : Int) (by omega) (by omega) (by rw [hz2]; omega) (by omega)
  simpa [hz1, Value.cells] using h
theorem OwnN.madeI (n : Nat) (w : World) (hn : n ≤ maxLen) : OwnN .i64 3 w.heap.size (w.alloc (.cells (madeCells #[.int .i64 0] n) 3)) (.slice (some ⟨w.heap.size, 0, none⟩) n n) (List.replicate n 0) := by
  unfold OwnN
  rw [List.length_replicate]
  refine ⟨by simp [nums], .inr ⟨w.heap.size, n, madeCells #[.int .i64 0] n, rfl, Nat.le_refl _, by rw [World.alloc]; exact Array.getElem?_push_size, Nat.le_refl _, hn, by simp [madeCells], ?_⟩⟩
  apply List.ext_getElem
  · simp [nums, madeCells]
  · intro i h1 h2
    simp [nums, madeCells, Nat.mod_one]

set_option maxHeartbeats 2000000 in
set_option maxRecDepth 100000 in
theorem rmul_any (x y : Nat) (A A2 : Option Addr) (n cap n2 cap2 : Nat) (w : World) (hR : RdN .u8 w A n (digs 10 x)) (hR2 : RdN .u8 w A2 n2 (digs 10 y)) (hn : n ≤ 100000) (hn2 : n2 ≤ 100000) :
    Calls Tryd.prog 36 #[.slice A n cap, .slice A2 n2 cap2] w fun e w' => IsRef (x * y) w w' e := by
  have HR := Lib.hid hR
  have HR2 := Lib.hid hR2
  have HXN := Lib.hid hR.1
  have HYN := Lib.hid hR2.1
  have HLT := Lib.hid (digs_lt 10 (by omega) x)
  have HLT2 := Lib.hid (digs_lt 10 (by omega) y)
  have HV := Lib.hid (val_digs 10 (by omega) x)
  have HV2 := Lib.hid (val_digs 10 (by omega) y)
  clear hR hR2
  generalize digs 10 x = X at *
  generalize digs 10 y = Y at *
  have hmk := make_ints (n + n2 + 1) (n + n2 + 1) (Nat.le_refl _) (by omega) w
  have hown0 := OwnN.madeI (n + n2 + 1) w (by unfold maxLen; omega)
  have hbm := below_alloc0 w (.cells (madeCells #[.int .i64 0] (n + n2 + 1)) 3)
  simp only [Int.natCast_add, Int.cast_ofNat_Int] at hmk
  generalize hH : w.heap.size = H at *
  go_enter Tryd.func36, Tryd.ntmps36
  go_wp2
  go_loopw [6] (fun iv wr => ∃ (i : Nat) (L : List Nat), i ≤ n ∧ iv = .int .i64 i ∧ L.length = n + n2 + 1 ∧ OwnN .i64 3 H wr (.slice (some ⟨H, 0, none⟩) (n + n2 + 1) (n + n2 + 1)) L ∧ Hid (SumIn X Y i 0 L) ∧ Below H w wr) (fun iv _ => n - (intOf iv).toNat)
  case atStart => exact ⟨0, _, Nat.zero_le _, rfl, List.length_replicate, hown0, SumIn.zero _ _ _, hbm⟩
  case round =>
    obtain ⟨i, L, hi, rfl, hL, hown, hsum, hb⟩ := hrel
    by_cases hlt : i < n
    · obtain ⟨p1, o1, rfl, hbl1, hc1⟩ := HR.out.2 (by omega)
      have hin : i * Y.length ≤ 100000 * 100000 := Nat.mul_le_mul (by omega) (by rw [HYN.out]; omega)
      have hx := getD_lt (by omega) HLT.out i
      have HC1 := Lib.hid (hc1 i hlt)
      clear hc1
      have HSUM := Lib.hid hsum.out
      go_wp2
      go_loopw [7] (fun kv wr => ∃ (k : Nat) (L : List Nat), k ≤ n2 ∧ kv = .int .i64 k ∧ L.length = n + n2 + 1 ∧ OwnN .i64 3 H wr (.slice (some ⟨H, 0, none⟩) (n + n2 + 1) (n + n2 + 1)) L ∧ Hid (SumIn X Y i k L) ∧ Below H w wr) (fun kv _ => n2 - (intOf kv).toNat)
      case atStart => exact ⟨0, L, Nat.zero_le _, rfl, hL, hown, HSUM, hb⟩
      case round =>
        clear hL hown hb HSUM hsum
        obtain ⟨k, L, hk, rfl, hL, hown, hsum, hb⟩ := hrel
        by_cases hlt2 : k < n2
        · obtain ⟨p2, o2, rfl, hbl2, hc2⟩ := HR2.out.2 (by omega)
          have cx := (hb.cell (p := ⟨p1, o1 + i, none⟩) (by rw [← hH]; exact hbl1)).trans HC1.out
          have cy := (hb.cell (p := ⟨p2, o2 + k, none⟩) (by rw [← hH]; exact hbl2)).trans (hc2 k hlt2)
          have hy := getD_lt (by omega) HLT2.out k
          have hj : i + k < L.length := by rw [hL]; omega
          have HST := Lib.hid (hsum.out.step hx hy hj)
          have hold : L.getD (i + k) 0 ≤ 81 * (i * Y.length + k) := hsum.out.1 _ (by rw [List.getD, List.getElem?_eq_getElem hj]; exact List.getElem_mem _)
          obtain ⟨cc, ff⟩ := hown.cellAt hj
          have hset := hown.set (i := i + k) (x := L.getD (i + k) 0 + X.getD i 0 * Y.getD k 0) hj
          have hp : X.getD i 0 * Y.getD k 0 ≤ 9 * 9 := Nat.mul_le_mul (by omega) (by omega)
          have hb2 := hb.setCell (p := ⟨H, i + k, none⟩) (Nat.le_refl _) (.int .i64 ((L.getD (i + k) 0 + X.getD i 0 * Y.getD k 0 : Nat) : Int))
          rw [Int.natCast_add, Int.natCast_mul] at hset hb2
          have hp' : (X.getD i 0 : Int) * (Y.getD k 0 : Int) ≤ 81 := by rw [← Int.natCast_mul]; omega
          have hp0 : 0 ≤ (X.getD i 0 : Int) * (Y.getD k 0 : Int) := Int.mul_nonneg (by omega) (by omega)
          have hold2 : L.getD (i + k) 0 ≤ 900000000000 := by omega
          have hik1 : i + k < n + n2 + 1 := by omega
          clear hc2 hsum hold hp hin hown hb
          generalize X.getD i 0 = x1 at *
          generalize Y.getD k 0 = y1 at *
          generalize L.getD (i + k) 0 = old at *
          go_wp2
          go_region
          all_goals
            go_wp2
            go_roundw
            case rel => exact ⟨k + 1, L.set (i + k) (old + x1 * y1), by omega, by go_num, by rw [List.length_set]; exact hL, hset, HST.out, hb2.drew⟩
            case measure => simp [intOf]; omega
        · obtain rfl : k = n2 := by omega
          have hnx := hsum.out
          rw [← HYN.out] at hnx
          have HNX := Lib.hid hnx.next
          clear hnx
          go_wp2
          go_roundw
          case rel => exact ⟨i + 1, L, by omega, by go_num, hL, hown, HNX.out, hb⟩
          case measure => simp [intOf]; omega
    · obtain rfl : i = n := by omega
      have hdn := hsum.out
      rw [← HXN.out] at hdn
      have hdone := hdn.done
      have hvl := mul_lt10 X Y L HLT.out HLT2.out (by rw [hL, HXN.out, HYN.out]) hdone
      have HM := Lib.hid (show ∀ z ∈ L, z ≤ 900000000000 from fun z hz => by
        have h1 := hsum.out.1 z hz
        have h2 : i * Y.length ≤ 100000 * 100000 := Nat.mul_le_mul (by omega) (by rw [HYN.out]; omega)
        omega)
      rw [HV.out, HV2.out] at hdone
      have HFL := Lib.hid (fun c acc (h : CarB 10 (fun i => L.getD i 0) L.length c acc) => h.flat (by omega) hvl)
      rw [hdone, hL] at HFL
      have hrd := hown.rd
      obtain ⟨A', cap', hv', _, hrd', _⟩ := hrd
      injection hv' with e1 e2 e3
      subst e1
      rw [hL] at hrd'
      clear e2 e3 hdn hdone hvl hsum hmk hown0 hbm
      generalize hN : i + n2 + 1 = N at *
      have hmk := make_u8 N N (Nat.le_refl _) (by omega) wr
      have hown1 := OwnN.made8 N wr (by unfold maxLen; omega)
      have hb1 := below_alloc0 wr (.cells (madeCells #[.int .u8 0] N) 5)
      have hbz := hb.size
      generalize hG : wr.heap.size = G at *
      have HRD := Lib.hid hrd'
      have HBW := Lib.hid hb
      clear hown hrd' hb
      go_wp2
      go_loopw [9, 10] (fun cv iv wx => ∃ (k c : Nat) (acc : List Nat), k ≤ N ∧ iv = .int .i64 k ∧ cv = .int .i64 c ∧ c ≤ 900000000000 ∧ acc.length = k ∧ OwnN .u8 5 G wx (.slice (some ⟨G, 0, none⟩) N N) (acc ++ List.replicate (N - k) 0) ∧ Hid (CarB 10 (fun i => L.getD i 0) k c acc) ∧ Below G wr wx) (fun _ iv _ => N - (intOf iv).toNat)
      case atStart => exact ⟨0, 0, [], Nat.zero_le _, rfl, rfl, by omega, rfl, hown1, CarB.zero _ _, hb1⟩
      case round =>
        obtain ⟨k, c, acc, hk, rfl, rfl, hc, hal, hown, hcar, hb⟩ := hrel
        by_cases hkn : k < N
        · obtain ⟨p3, o3, e3, hbl3, hc3⟩ := (HRD.out.below (by rw [hG]; exact hb)).2 (by omega)
          injection e3 with e3
          injection e3 with e3 e4
          subst e3 e4
          have cx := hc3 k hkn
          rw [Nat.zero_add] at cx
          have hLk : L.getD k 0 ≤ 900000000000 := HM.out _ (by rw [List.getD, List.getElem?_eq_getElem (by omega)]; exact List.getElem_mem _)
          have HC := Lib.hid (hcar.out.step (by omega))
          clear hc3 hcar
          generalize L.getD k 0 = z at *
          obtain ⟨cc, ff⟩ := hown.cellAt (i := k) (by simp; omega)
          have hst := hown.set (i := k) (x := (c + z) % 10) (by simp; omega)
          rw [set_mid acc N k _ hal hkn] at hst
          have hb2 := hb.setCell (p := ⟨G, k, none⟩) (Nat.le_refl _) (.int .u8 (((c + z) % 10 : Nat) : Int))
          have e5 : (((c + z) % 10 : Nat) : Int) = ((c : Int) + z) % 10 := by omega
          rw [e5] at hst hb2
          clear e5
          go_wp2
          go_roundw
          case rel => exact ⟨k + 1, (c + z) / 10, acc ++ [(c + z) % 10], by omega, by go_num, by go_num, by omega, by simp [hal], hst, HC.out, hb2⟩
          case measure => simp [intOf]; omega
        · obtain rfl : k = N := by omega
          have HF := Lib.hid (HFL.out c acc hcar.out)
          rw [Nat.sub_self, List.replicate_zero, List.append_nil] at hown
          have KT := Lib.hid (rtrim_any _ G acc wr hown (by omega))
          have HB := Lib.hid (show Below H w wr from HBW.out.trans (hb.mono (by omega)))
          go_wp2_with (go_at_call 48; refine KT.out.mono ?_)
          rintro e w3 ⟨v3, rfl, hown3, rfl⟩
          go_wp2
          go_ret
          exact ⟨_, rfl, (hown3.asList HF.out).more (by omega), by rw [hH]; exact HB.out⟩
end Go.Proofs.YtmmlclgmehfmhaaDoor
