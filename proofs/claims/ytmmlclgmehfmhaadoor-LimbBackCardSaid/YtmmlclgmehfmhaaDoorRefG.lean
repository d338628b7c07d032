/-
  The walk of the document's answer for layer 1: Div.
-/
import Derived.Test.YtmmlclgmehfmhaaDoorRefF
namespace Go.Proofs.YtmmlclgmehfmhaaDoor
open Go.RowKit

/-- what the document's Div answers -/
def IsRDiv (x y : Nat) (w w' : World) (e : Ending) : Prop :=
  ∃ q r, e = .returned (.tuple #[q, r]) ∧ OwnN .u8 5 w.heap.size w' q (digs 10 (x / y)) ∧ OwnN .u8 5 w.heap.size w' r (digs 10 (x % y)) ∧ Below w.heap.size w w'

theorem set_self0 (q : List Nat) (k : Nat) (h : q.getD k 0 = 0) : q.set k 0 = q := by
  by_cases hk : k < q.length
  · rw [List.getD, List.getElem?_eq_getElem hk] at h
    simp only [Option.getD_some] at h
    conv => lhs; rw [← h]
    exact List.set_getElem_self hk
  · rw [List.set_eq_of_length_le (by omega)]
theorem getD_set_far (q : List Nat) (k i z : Nat) (h : i ≠ k) : (q.set k z).getD i 0 = q.getD i 0 := by
  rw [List.getD, List.getElem?_set_ne (Ne.symm h)]; rfl
theorem getD_set_at (q : List Nat) (k z : Nat) (h : k < q.length) : (q.set k z).getD k 0 = z := by
  rw [List.getD, List.getElem?_set_self h]; rfl

set_option maxHeartbeats 1500000 in
set_option maxRecDepth 100000 in
theorem rdiv_any (x y : Nat) (A A2 : Option Addr) (n cap n2 cap2 : Nat) (w : World) (hR : RdN .u8 w A n (digs 10 x)) (hR2 : RdN .u8 w A2 n2 (digs 10 y)) (hn : n ≤ 549755813888) (hn2 : n2 ≤ 549755813888) (hy : 0 < y) :
    Calls Tryd.prog 18 #[.slice A n cap, .slice A2 n2 cap2] w fun e w' => IsRDiv x y w w' e := by
  obtain ⟨i0, hi0, hz0, hz1, hz2⟩ := info_parts info_u8
  have HR := Lib.hid hR
  have HR2 := Lib.hid hR2
  have HXN := Lib.hid hR.1
  have HYN := Lib.hid hR2.1
  have HLT := Lib.hid (digs_lt 10 (by omega) x)
  have HV := Lib.hid (val_digs 10 (by omega) x)
  have HY := Lib.hid hy
  clear hR hR2
  generalize digs 10 x = X at *
  have hmk := make_u8 n n (Nat.le_refl _) (by omega) w
  have hown0 := OwnN.made8 n w (by unfold maxLen; omega)
  have hbm := below_alloc0 w (.cells (madeCells #[.int .u8 0] n) 5)
  go_enter Tryd.func18, Tryd.ntmps18
  go_wp2
  generalize hH : w.heap.size = H at *
  go_loopw [7, 8] (fun rv iv wr => ∃ (k R : Nat) (q : List Nat), k ≤ n ∧ iv = .int .i64 ((k : Int) - 1) ∧ OwnN .u8 5 H wr (.slice (some ⟨H, 0, none⟩) n n) q ∧ Hid (∀ i, i < k → q.getD i 0 = 0) ∧ OwnN .u8 5 (H + 1) wr rv (digs 10 R) ∧ Hid (DivIn 10 X y k R q) ∧ Below H w wr ∧ H + 1 ≤ wr.heap.size) (fun _ iv _ => (intOf iv + 1).toNat)
  case atStart =>
    refine ⟨n, 0, List.replicate n 0, Nat.le_refl _, rfl, hown0, fun i hi => ?_, by rw [digs_zero]; exact OwnN.nil _ _ _ _, ?_, hbm, ?_⟩
    · rw [List.getD, List.getElem?_replicate]; split <;> rfl
    · have := DivIn.zero 10 (by omega) X y HY.out
      rw [HXN.out] at this
      exact this
    · rw [← hH]; simp
  case round =>
    obtain ⟨k, R, q, hk, rfl, hq, hqz, hr, hdiv, hb, hsz⟩ := hrel
    have hql : q.length = n := by rw [hdiv.out.2.1, HXN.out]
    by_cases h0 : k = 0
    · subst h0
      have hdn := hdiv.out.done (by omega)
      rw [HV.out] at hdn
      have HDN := Lib.hid hdn
      have KT := Lib.hid (rtrim_any _ H q wr hq (by omega))
      have HR3 := Lib.hid hr
      have hm1 : ((0 : Nat) : Int) - 1 = -1 := by omega
      clear hdn hdiv hq hr
      go_wp2_with (go_at_call 48; refine KT.out.mono ?_)
      rintro e w1 ⟨v', rfl, hown', rfl⟩
      go_wp2
      go_ret2
      exact ⟨_, _, rfl, (hown'.asList HDN.out.1).more (by omega), (HR3.out.asList (by rw [HDN.out.2])).more (by omega), by rw [hH]; exact hb⟩
    · obtain ⟨k, rfl⟩ : ∃ j, k = j + 1 := ⟨k - 1, by omega⟩
      obtain ⟨p1, o1, rfl, hbl1, hc1⟩ := HR.out.2 (by omega)
      have cx := (hb.cell (p := ⟨p1, o1 + k, none⟩) (by rw [← hH]; exact hbl1)).trans (hc1 k (by omega))
      have hv := getD_lt (by omega) HLT.out k
      have HST := Lib.hid (hdiv.out.step (by rw [HXN.out]; omega) hv)
      have HLOW := Lib.hid (hdiv.out.low hv)
      have HTC := Lib.hid (trimL_cons_digs 10 (by omega) (X.getD k 0) R hv)
      have HRY := Lib.hid hdiv.out.2.2.2
      have hqk := hqz.out k (by omega)
      have HQS := Lib.hid (set_self0 q k hqk)
      have hrl : (digs 10 R).length ≤ 549755813888 := by
        have := digs_mono 10 (by omega) R y (Nat.le_of_lt HRY.out)
        rw [HYN.out] at this; omega
      clear hc1 hdiv
      generalize X.getD k 0 = t at *
      generalize hT : t + 10 * R = T at *
      have HT := Lib.hid hT
      clear hT
      have hTl : (digs 10 T).length ≤ 549755813890 := by
        have h1 := digs_mono 10 (by omega) T (10 ^ 1 * y) (Nat.le_of_lt (by simpa using HLOW.out))
        rw [digs_up 10 (by omega) 1 y (by omega), List.length_append, List.length_replicate, HYN.out] at h1
        omega
      have hka : k < n := by omega
      have hkk : ((k + 1 : Nat) : Int) - 1 = k := by omega
      rw [hkk]
      have hcr : (t :: digs 10 R).length = (digs 10 R).length + 1 := rfl
      go_wp2_with (at_builtin; refine wpList_append_rd _ rfl _ _ 29 rfl (H + 1) (H + 1) .u8 5 i0 (.int .u8 0) 1 Tryd.underlying29 hi0 hz0 hz1 hz2 rfl _ _ [t] (digs 10 R) rfl rfl (OwnN.lit .u8 5 (H + 1) wr t hsz) (hr.below (below_alloc0 wr _)) ?c1 ?c2 ?c3 ?_)
      case c1 => simp; unfold maxLen; omega
      case c2 => simp; omega
      case c3 => first | omega | exact Nat.le_trans hsz (below_alloc0 wr _).size
      intro v5 w5 hown5 hgrow5
      replace hown5 : OwnN .u8 5 (H + 1) w5 v5 (t :: digs 10 R) := hown5
      have hb5 : Below wr.heap.size wr w5 := (below_alloc0 wr _).grown hgrow5 (below_alloc0 wr _).size (fun j hj => by
        have : wr.heap.size = j := by simpa [Value.ownBlock] using hj
        omega)
      have KT := Lib.hid (rtrim_any v5 (H + 1) _ w5 hown5 (by rw [hcr]; omega))
      rw [HTC.out] at KT
      have hq5 := hq.below hb5
      have hbw5 := hb.trans (hb5.mono (by omega))
      have hs5 := hb5.size
      clear hown5 hgrow5 hq hr
      go_wp2_with (go_at_call 48; refine KT.out.mono ?_)
      rintro e w6 ⟨v6, rfl, hown6, rfl⟩
      go_wp2
      go_loopg [7] T (fun gx rv wx => ∃ j : Nat, y * j ≤ T ∧ T - y * j ≤ gx ∧ OwnN .u8 5 (H + 1) wx rv (digs 10 (T - y * j)) ∧ OwnN .u8 5 H wx (.slice (some ⟨H, 0, none⟩) n n) (q.set k j) ∧ Below H w wx ∧ H + 1 ≤ wx.heap.size)
      case atStart => exact ⟨0, by simp, by simp, by simpa using hown6, by rw [HQS.out]; exact hq5, hbw5, by omega⟩
      case round =>
        clear hb hsz
        obtain ⟨j, hj, hgx, hrx, hqx, hb, hsz⟩ := hrel
        have hjn : y * (j + 1) = y * j + y := Nat.mul_succ y j
        have hj9 : y * j + y ≤ T → j + 1 ≤ 10 := fun h => by
          have h1 : y * (j + 1) < y * 10 := by rw [Nat.mul_comm y 10]; have := HLOW.out; omega
          have := Nat.lt_of_mul_lt_mul_left h1
          omega
        have hdl := digs_mono 10 (by omega) (T - y * j) T (by omega)
        have hqo := Lib.hid (quo_of T y j hj)
        obtain ⟨B7, c7, rfl, _, hrd7, _⟩ := hrx.rd
        have hry := HR2.out.below (by rw [hH]; exact hb)
        have KC := Lib.hid (rcmp_any (T - y * j) y B7 A2 _ c7 n2 cap2 wr hrd7 hry (by omega) (by omega))
        by_cases hge : y ≤ T - y * j
        · have hc : 0 ≤ cmpN (T - y * j) y := by unfold cmpN; rw [if_neg (by omega)]; split <;> omega
          generalize cmpN (T - y * j) y = C at *
          have KS := Lib.hid (fun (u : World) (hu : Below wr.heap.size wr u) => rsub_any (T - y * j) y B7 A2 _ c7 n2 cap2 u (hrd7.below hu) (hry.below hu) (by omega) (by omega) hge)
          have hj10 := hj9 (by omega)
          have HG := Lib.hid hge
          have HJN := Lib.hid hjn
          clear hqo hj9 hge hjn hrd7 hry hrx
          go_wp2_with (go_at_call 27; refine KC.out.mono ?_)
          rintro e w8 ⟨rfl, hb8⟩
          have hs8 := hb8.size
          go_wp2_with (go_at_call 31; refine (KS.out _ hb8).mono ?_)
          rintro e w9 ⟨v9, rfl, hown9, hb9⟩
          have hb89 := hb8.trans (hb9.mono hs8)
          have hs9 := hb89.size
          have hq9 := hqx.below hb89
          obtain ⟨cc, ff⟩ := hq9.cellAt (i := k) (by rw [List.length_set, hql]; exact hka)
          rw [getD_set_at q k j (by rw [hql]; exact hka)] at cc
          have hq10 := hq9.set (i := k) (x := j + 1) (by rw [List.length_set, hql]; exact hka)
          rw [List.set_set] at hq10
          have h910 := (hown9.more (base' := H + 1) (by omega)).putBelow (H := H) (i := k) (x := .int .u8 ((j + 1 : Nat) : Int)) (by omega)
          have hb10 := (hb.trans (hb89.mono (by omega))).setCell (p := ⟨H, k, none⟩) (Nat.le_refl _) (.int .u8 ((j + 1 : Nat) : Int))
          have hjj : ((j + 1 : Nat) : Int) = (j : Int) + 1 := by omega
          rw [hjj] at hq10 h910 hb10
          have HJJ := Lib.hid hjj
          clear hq9 hqx hown9 hjj
          go_wp2
          go_roundg (T - y * (j + 1))
          case measure => have := HG.out; have := HJN.out; have := HY.out; omega
          case rel =>
            refine ⟨j + 1, by have := HG.out; have := HJN.out; omega, Nat.le_refl _, ?_, hq10, hb10, ?_⟩
            · have e : T - y * j - y = T - y * (j + 1) := by have := HJN.out; omega
              rw [e] at h910
              exact h910
            · rw [World.size_setCell]; omega
        · obtain ⟨hj1, hj2⟩ := hqo.out (by omega)
          have hc : cmpN (T - y * j) y = -1 := cmpN_lt (by omega)
          rw [hc] at KC
          have HJ1 := Lib.hid hj1
          have HJ2 := Lib.hid hj2
          clear hqo hj9 hjn hrd7 hry hc hj1 hj2
          go_wp2_with (go_at_call 27; refine KC.out.mono ?_)
          rintro e w8 ⟨rfl, hb8⟩
          have hs8 := hb8.size
          go_wp2
          go_roundw
          case rel =>
            refine ⟨k, T % y, q.set k j, by omega, by go_num, hqx.below hb8, fun i hi => by rw [getD_set_far q k i j (by omega)]; exact hqz.out i (by omega), ?_, by show DivIn _ _ _ _ _ _; rw [HJ1.out]; exact HST.out, hb.trans (hb8.mono (by omega)), by omega⟩
            exact (hrx.below hb8).asList (by rw [HJ2.out])
          case measure => simp [intOf]
end Go.Proofs.YtmmlclgmehfmhaaDoor
