/-
  The walks of the document's answer for layer 1: Cmp, Add, Sub, Shift.
-/
import Derived.Test.YtmmlclgmehfmhaaDoorRefA
namespace Go.Proofs.YtmmlclgmehfmhaaDoor
open Go.RowKit

theorem make_u8 (n c : Nat) (hnc : n ≤ c) (hc : c ≤ 35184372088832) (u : World) : (Instr.makeSlice 29 (.int .i64 (n : Int)) (.int .i64 (c : Int))).run Tryd.prog u = .ok (.slice (some ⟨u.heap.size, 0, none⟩) n c) (u.alloc (.cells (madeCells #[.int .u8 0] c) 5)) := by
  obtain ⟨i0, hi, hz0, hz1, hz2⟩ := info_parts info_u8
  have h := run_make (P := Tryd.prog) u 29 5 i0 (.int .u8 0) Tryd.underlying29 hi hz0 .i64 .i64 (n : Int) (c : Int) (by omega) (by omega) (by rw [hz2]; omega) (by omega)
  simpa [hz1, Value.cells] using h
theorem OwnN.made8 (n : Nat) (w : World) (hn : n ≤ maxLen) : OwnN .u8 5 w.heap.size (w.alloc (.cells (madeCells #[.int .u8 0] n) 5)) (.slice (some ⟨w.heap.size, 0, none⟩) n n) (List.replicate n 0) := by
  unfold OwnN
  rw [List.length_replicate]
  refine ⟨by simp [nums], .inr ⟨w.heap.size, n, madeCells #[.int .u8 0] n, rfl, Nat.le_refl _, by rw [World.alloc]; exact Array.getElem?_push_size, Nat.le_refl _, hn, by simp [madeCells], ?_⟩⟩
  apply List.ext_getElem
  · simp [nums, madeCells]
  · intro i h1 h2
    simp [nums, madeCells, Nat.mod_one]

set_option maxHeartbeats 2000000 in
set_option maxRecDepth 100000 in
theorem rcmp_any (x y : Nat) (A A2 : Option Addr) (n cap n2 cap2 : Nat) (w : World) (hR : RdN .u8 w A n (digs 10 x)) (hR2 : RdN .u8 w A2 n2 (digs 10 y)) (hn : n ≤ 1099511627776) (hn2 : n2 ≤ 1099511627776) :
    Calls Tryd.prog 27 #[.slice A n cap, .slice A2 n2 cap2] w fun e w' => e = .returned (.int .i64 (cmpN x y)) ∧ Below w.heap.size w w' := by
  have hl1 := hR.1
  have hl2 := hR2.1
  by_cases h : n = n2
  · subst h
    have hlen : (digs 10 x).length = (digs 10 y).length := by rw [hl1, hl2]
    have HD := Lib.hid (fun i => digs_at_lt 10 x y i (by omega) hlen)
    have HD2 := Lib.hid (fun i => digs_at_lt 10 y x i (by omega) hlen.symm)
    have HST := Lib.hid (fun i => drop_step (digs 10 x) (digs 10 y) i)
    have HV1 := Lib.hid (val_digs 10 (by omega) x)
    have HV2 := Lib.hid (val_digs 10 (by omega) y)
    have HR := Lib.hid hR
    have HR2 := Lib.hid hR2
    have HL1 := Lib.hid hl1
    have HL2 := Lib.hid hl2
    clear hR hR2 hl1 hl2 hlen
    generalize digs 10 x = l at *
    generalize digs 10 y = m at *
    have KL := Lib.hid (@cmpN_lt x y)
    have KG := Lib.hid (@cmpN_gt x y)
    have KE := Lib.hid (cmpN_eq x)
    generalize hc : cmpN x y = C
    have HC := Lib.hid hc
    clear hc
    go_enter Tryd.func27, Tryd.ntmps27
    go_wp2
    go_loopw [5] (fun v wr => ∃ k : Nat, k ≤ n ∧ v = .int .i64 ((k : Int) - 1) ∧ Hid (l.drop k = m.drop k) ∧ Below w.heap.size w wr) (fun v _ => (intOf v + 1).toNat)
    case atStart => exact ⟨n, Nat.le_refl _, rfl, by show _ = _; rw [List.drop_of_length_le (by rw [HL1.out]; omega), List.drop_of_length_le (by rw [HL2.out]; omega)], Below.refl _ _⟩
    case round =>
      obtain ⟨k, hk, rfl, hv, hb⟩ := hrel
      by_cases h0 : k = 0
      · subst h0
        go_wp2
        go_ret
        refine ⟨?_, hb⟩
        have e := hv.out
        rw [List.drop_zero, List.drop_zero] at e
        have : x = y := by rw [← HV1.out, ← HV2.out, e]
        rw [← HC.out, ← this, KE.out]; rfl
      · obtain ⟨k, rfl⟩ : ∃ j, k = j + 1 := ⟨k - 1, by omega⟩
        obtain ⟨b1, o1, rfl, hbl1, hc1⟩ := HR.out.2 (by omega)
        obtain ⟨b2, o2, rfl, hbl2, hc2⟩ := HR2.out.2 (by omega)
        have c1 := (hb.cell (p := ⟨b1, o1 + k, none⟩) hbl1).trans (hc1 k (by omega))
        have c2 := (hb.cell (p := ⟨b2, o2 + k, none⟩) hbl2).trans (hc2 k (by omega))
        have D1 := Lib.hid (HD.out k (by rw [HL1.out]; omega) hv.out)
        have D2 := Lib.hid (HD2.out k (by rw [HL2.out]; omega) hv.out.symm)
        have ST := Lib.hid (HST.out k (by rw [HL1.out]; omega) (by rw [HL2.out]; omega) hv.out)
        clear hc1 hc2
        generalize l.getD k 0 = a at c1 D1 D2 ST
        generalize m.getD k 0 = b at c2 D1 D2 ST
        have hkn : (k : Int) < n := by omega
        have hk1 : (k : Int) + 1 - 1 = k := by omega
        rcases Nat.lt_trichotomy a b with hab | hab | hab
        · have HA := Lib.hid (KL.out (D1.out hab))
          go_wp2
          go_quiet (fail)
          go_wp2
          go_ret
          exact ⟨by rw [← HC.out, HA.out]; rfl, by first | exact below_drewN hb _ | exact below_drewN (below_drewN hb _) _⟩
        · subst hab
          have HA := Lib.hid (ST.out rfl)
          have hlt : ¬ (a : Int) < a := by omega
          go_wp2
          go_quiet (fail)
          go_wp2
          go_quiet (fail)
          go_wp2
          go_roundw
          case rel => exact ⟨k, by omega, by go_num, HA.out, by first | exact below_drewN hb _ | exact below_drewN (below_drewN hb _) _⟩
          case measure => simp [intOf]
        · have HA := Lib.hid (KG.out (D2.out hab))
          have hlt : ¬ (a : Int) < b := by omega
          go_wp2
          go_quiet (fail)
          go_wp2
          go_quiet (fail)
          go_wp2
          go_ret
          exact ⟨by rw [← HC.out, HA.out]; rfl, by first | exact below_drewN hb _ | exact below_drewN (below_drewN hb _) _⟩
  · have hnn' : ((n : Int) == n2) = false := by simp; omega
    by_cases hlt : n < n2
    · have hc : cmpN x y = -1 := cmpN_lt (cmpN_len 10 (by omega) x y (by omega))
      rw [hc]
      clear hR hR2 hl1 hl2
      go_enter Tryd.func27, Tryd.ntmps27
      go_wp2
      go_ret
      exact ⟨rfl, Below.refl _ _⟩
    · have hc : cmpN x y = 1 := cmpN_gt (cmpN_len 10 (by omega) y x (by omega))
      rw [hc]
      clear hR hR2 hl1 hl2
      go_enter Tryd.func27, Tryd.ntmps27
      go_wp2
      go_ret
      exact ⟨rfl, Below.refl _ _⟩

set_option maxHeartbeats 2000000 in
set_option maxRecDepth 100000 in
theorem radd_any (A A2 : Option Addr) (n cap n2 cap2 : Nat) (l l2 : List Nat) (w : World) (hR : RdN .u8 w A n l) (hR2 : RdN .u8 w A2 n2 l2) (hn : n ≤ 1099511627776) (hn2 : n2 ≤ 1099511627776) (hl : ∀ x ∈ l, x < 10) (hl2 : ∀ x ∈ l2, x < 10) :
    Calls Tryd.prog 30 #[.slice A n cap, .slice A2 n2 cap2] w fun e w' => IsRef (val 10 l + val 10 l2) w w' e := by
  obtain ⟨i0, hi0, hz0, hz1, hz2⟩ := info_parts info_u8
  have HR := Lib.hid hR
  have HR2 := Lib.hid hR2
  have HL1 := Lib.hid hR.1
  have HL2 := Lib.hid hR2.1
  have H9 := Lib.hid hl
  have H92 := Lib.hid hl2
  clear hR hR2 hl hl2
  go_enter Tryd.func30, Tryd.ntmps30
  go_wp2
  go_loopw [5, 6, 7] (fun v cv iv wr => ∃ (k c : Nat) (acc : List Nat), iv = .int .i64 k ∧ cv = .int .i64 c ∧ c ≤ 1 ∧ k ≤ n + n2 + 1 ∧ (0 < c → k ≤ n ∨ k ≤ n2) ∧ acc.length ≤ k ∧ OwnN .u8 5 w.heap.size wr v acc ∧ Hid (CarB 10 (fun i => l.getD i 0 + l2.getD i 0) k c acc) ∧ Below w.heap.size w wr) (fun _ _ iv _ => n + n2 + 2 - (intOf iv).toNat)
  case atStart => exact ⟨0, 0, [], rfl, rfl, by omega, by omega, by omega, by simp, OwnN.nil _ _ _ _, CarB.zero _ _, Below.refl _ _⟩
  case round =>
    obtain ⟨k, c, acc, rfl, rfl, hc1, hk, hck, hal, hown, hcar, hb⟩ := hrel
    have hz := hb.size
    have KA := Lib.hid (rdig_any A n cap l k wr (HR.out.below hb) (by omega) (fun z hz => by have := H9.out z hz; omega))
    have KB := Lib.hid (rdig_any A2 n2 cap2 l2 k wr (HR2.out.below hb) (by omega) (fun z hz => by have := H92.out z hz; omega))
    have hx := getD_lt (by omega) H9.out k
    have hy := getD_lt (by omega) H92.out k
    have HC := Lib.hid (hcar.out.step (by omega))
    have hx2 : n ≤ k → l.getD k 0 = 0 := fun h => by rw [List.getD, List.getElem?_eq_none (by rw [HL1.out]; exact h)]; rfl
    have hy2 : n2 ≤ k → l2.getD k 0 = 0 := fun h => by rw [List.getD, List.getElem?_eq_none (by rw [HL2.out]; exact h)]; rfl
    by_cases hex : n ≤ k ∧ n2 ≤ k ∧ c = 0
    · obtain ⟨h1, h2, rfl⟩ := hex
      have HS := Lib.hid (hcar.out.sum (by omega) (by rw [HL1.out]; exact h1) (by rw [HL2.out]; exact h2))
      have KT := Lib.hid (fun v (h : OwnN .u8 5 w.heap.size wr v acc) => rtrim_any v w.heap.size acc wr h (by omega))
      clear hx2 hy2 hx hy HC KA KB
      go_wp2_with (go_at_call 48; refine (KT.out _ hown).mono ?_)
      rintro e w1 ⟨v', rfl, hown', rfl⟩
      go_wp2
      go_ret
      exact ⟨_, rfl, hown'.asList HS.out, hb⟩
    · generalize l.getD k 0 = x at *
      generalize l2.getD k 0 = y at *
      have hlit := OwnN.lit .u8 5 wr.heap.size wr ((c + (x + y)) % 10) (Nat.le_refl _)
      rw [show (((c + (x + y)) % 10 : Nat) : Int) = ((x : Int) + y + c) % 10 by omega] at hlit
      have HL := Lib.hid hlit
      clear hlit hcar
      by_cases h1 : (k : Int) < n
      · skip
        go_wp2_with (first | (go_at_call 56; with_reducible refine KA.out.mono ?_; rintro e w' ⟨rfl, rfl⟩) | (go_at_call 56; with_reducible refine KB.out.mono ?_; rintro e w' ⟨rfl, rfl⟩) | (at_builtin; refine wpList_append_rd _ rfl _ _ 29 rfl w.heap.size wr.heap.size .u8 5 i0 (.int .u8 0) 1 Tryd.underlying29 hi0 hz0 hz1 hz2 rfl _ _ acc [(c + (x + y)) % 10] rfl rfl (hown.below (below_alloc0 wr _)) HL.out ?c1 ?c2 ?c3 ?_))
        case c1 => show acc.length + 1 ≤ _; unfold maxLen; omega
        case c2 => show (acc.length + 1) * 1 ≤ _; omega
        case c3 => first | omega | exact Nat.le_trans hz (below_alloc0 wr _).size
        intro v' w' hown' hgrow
        go_wp2
        go_roundw
        case rel =>
          refine ⟨k + 1, (c + (x + y)) / 10, acc ++ [(c + (x + y)) % 10], by go_num, by go_num, by omega, by omega, by omega, by simp; omega, hown', HC.out, (hb.alloc hz _).grown hgrow (Nat.le_trans hz (below_alloc0 wr _).size) (fun q hq => (hown.block_ge q hq).1)⟩
        case measure => simp [intOf]; omega
      · by_cases h2 : (k : Int) < n2
        · skip
          go_wp2_with (first | (go_at_call 56; with_reducible refine KA.out.mono ?_; rintro e w' ⟨rfl, rfl⟩) | (go_at_call 56; with_reducible refine KB.out.mono ?_; rintro e w' ⟨rfl, rfl⟩) | (at_builtin; refine wpList_append_rd _ rfl _ _ 29 rfl w.heap.size wr.heap.size .u8 5 i0 (.int .u8 0) 1 Tryd.underlying29 hi0 hz0 hz1 hz2 rfl _ _ acc [(c + (x + y)) % 10] rfl rfl (hown.below (below_alloc0 wr _)) HL.out ?c1 ?c2 ?c3 ?_))
          case c1 => show acc.length + 1 ≤ _; unfold maxLen; omega
          case c2 => show (acc.length + 1) * 1 ≤ _; omega
          case c3 => first | omega | exact Nat.le_trans hz (below_alloc0 wr _).size
          intro v' w' hown' hgrow
          go_wp2
          go_roundw
          case rel =>
            refine ⟨k + 1, (c + (x + y)) / 10, acc ++ [(c + (x + y)) % 10], by go_num, by go_num, by omega, by omega, by omega, by simp; omega, hown', HC.out, (hb.alloc hz _).grown hgrow (Nat.le_trans hz (below_alloc0 wr _).size) (fun q hq => (hown.block_ge q hq).1)⟩
          case measure => simp [intOf]; omega
        · have h3 : (0 : Int) < c := by omega
          have HX0 := Lib.hid (show x = 0 ∧ y = 0 from ⟨hx2 (by omega), hy2 (by omega)⟩)
          clear hx2 hy2
          skip
          go_wp2_with (first | (go_at_call 56; with_reducible refine KA.out.mono ?_; rintro e w' ⟨rfl, rfl⟩) | (go_at_call 56; with_reducible refine KB.out.mono ?_; rintro e w' ⟨rfl, rfl⟩) | (at_builtin; refine wpList_append_rd _ rfl _ _ 29 rfl w.heap.size wr.heap.size .u8 5 i0 (.int .u8 0) 1 Tryd.underlying29 hi0 hz0 hz1 hz2 rfl _ _ acc [(c + (x + y)) % 10] rfl rfl (hown.below (below_alloc0 wr _)) HL.out ?c1 ?c2 ?c3 ?_))
          case c1 => show acc.length + 1 ≤ _; unfold maxLen; omega
          case c2 => show (acc.length + 1) * 1 ≤ _; omega
          case c3 => first | omega | exact Nat.le_trans hz (below_alloc0 wr _).size
          intro v' w' hown' hgrow
          go_wp2
          go_roundw
          case rel =>
            refine ⟨k + 1, (c + (x + y)) / 10, acc ++ [(c + (x + y)) % 10], by go_num, by go_num, by have := HX0.out; omega, by omega, by have := HX0.out; omega, by simp; omega, hown', HC.out, (hb.alloc hz _).grown hgrow (Nat.le_trans hz (below_alloc0 wr _).size) (fun q hq => (hown.block_ge q hq).1)⟩
          case measure => simp [intOf]; omega
end Go.Proofs.YtmmlclgmehfmhaaDoor
