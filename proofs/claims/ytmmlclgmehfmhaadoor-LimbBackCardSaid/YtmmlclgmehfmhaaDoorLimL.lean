/-
  The walk of limb's DivMod.
-/
import Derived.Test.YtmmlclgmehfmhaaDoorLimK
import Derived.Test.YtmmlclgmehfmhaaDoorApp
import Derived.Deep.CutRange
import Derived.Deep.LoopGhost
namespace Go.Proofs.YtmmlclgmehfmhaaDoor
open Go.RowKit

/-- what DivMod answers -/
def IsDiv (x y : Nat) (w w' : World) (e : Ending) : Prop :=
  (y = 0 ∧ e = .returned (.tuple #[.slice none 0 0, .slice none 0 0, .int .i64 4]) ∧ Below w.heap.size w w') ∨
  (0 < y ∧ ∃ q r, e = .returned (.tuple #[q, r, .int .i64 0]) ∧ OwnN .u32 61 w.heap.size w' q (digs 1000000000 (x / y)) ∧ OwnN .u32 61 w.heap.size w' r (digs 1000000000 (x % y)) ∧ Below w.heap.size w w')

set_option maxHeartbeats 4000000 in
set_option maxRecDepth 100000 in
theorem divmod_any (A A2 : Option Addr) (n cap n2 cap2 : Nat) (l l2 : List Nat) (w : World) (hR : RdN .u32 w A n l) (hR2 : RdN .u32 w A2 n2 l2) (hn : n ≤ 549755813888) (hn2 : n2 ≤ 549755813888) (hl : ∀ x ∈ l, x < 4294967296) (hl2 : ∀ x ∈ l2, x < 4294967296) :
    Calls Tryd.prog 16 #[.slice A n cap, .slice A2 n2 cap2] w fun e w' => IsDiv (val 1000000000 l) (val 1000000000 l2) w w' e := by
  obtain ⟨i0, hi0, hz0, hz1, hz2⟩ := info_parts info_u32
  have K1 := Lib.hid (norm_any A n cap l w hR (by omega) hl)
  have K2 := Lib.hid (fun u hu => norm_any A2 n2 cap2 l2 u (hR2.below hu) (by omega) hl2)
  have hd : (digs 1000000000 (val 1000000000 l)).length ≤ 549755813889 := by have := digs_val_len l hl; have := hR.1; omega
  have hd2 : (digs 1000000000 (val 1000000000 l2)).length ≤ 549755813889 := by have := digs_val_len l2 hl2; have := hR2.1; omega
  clear hR hR2 hl hl2
  generalize val 1000000000 l = x at *
  generalize val 1000000000 l2 = y at *
  by_cases hy : y = 0
  · subst hy
    rw [digs_zero] at hd2
    go_enter Tryd.func16, Tryd.ntmps16
    go_wp2_with (go_at_call 23; refine K1.out.mono ?_)
    rintro e w1 ⟨v1, rfl, hown1, hb1⟩
    obtain ⟨B1, c1, rfl, hcap1, hrd1, hge1⟩ := hown1.rd
    have K3 := Lib.hid (K2.out w1 hb1)
    go_wp2_with (go_at_call 23; refine K3.out.mono ?_)
    rintro e w2 ⟨v2, rfl, hown2, hb2⟩
    rw [digs_zero] at hown2
    obtain ⟨B2, c2, rfl, hcap2, hrd2, hge2⟩ := hown2.rd
    go_wp2
    go_ret3
    exact .inl ⟨rfl, rfl, (hb1.trans (hb2.mono hb1.size)).alloc (by have := hb1.size; have := hb2.size; omega) _⟩
  · have hy0 : 0 < y := by omega
    have hne : (digs 1000000000 y).length ≠ 0 := fun h => hy ((digs_nil 1000000000 y (by omega)).1 (List.eq_nil_of_length_eq_zero h))
    have HLT := Lib.hid (digs_lt 1000000000 (by omega) x)
    have HV1 := Lib.hid (val_digs 1000000000 (by omega) x)
    have HY0 := Lib.hid hy0
    have HL2 := Lib.hid (digs_lt 1000000000 (by omega) y)
    go_enter Tryd.func16, Tryd.ntmps16
    go_wp2_with (go_at_call 23; refine K1.out.mono ?_)
    rintro e w1 ⟨v1, rfl, hown1, hb1⟩
    obtain ⟨B1, c1, rfl, hcap1, hrd1, hge1⟩ := hown1.rd
    have K3 := Lib.hid (K2.out w1 hb1)
    go_wp2_with (go_at_call 23; refine K3.out.mono ?_)
    rintro e w2 ⟨v2, rfl, hown2, hb2⟩
    obtain ⟨B2, c2, rfl, hcap2, hrd2, hge2⟩ := hown2.rd
    have hrd1' := hrd1.below hb2
    have HR1 := Lib.hid hrd1'
    have HR2 := Lib.hid hrd2
    have HB12 := Lib.hid (show Below w.heap.size w w2 from hb1.trans (hb2.mono hb1.size))
    have HX := Lib.hid hd
    have HY := Lib.hid hd2
    clear hown1 hown2 hrd1 hge1 hge2 hcap1 hcap2 hrd1' hrd2
    have hmk := make_u32 (digs 1000000000 x).length (digs 1000000000 x).length (Nat.le_refl _) (by omega) (w2.alloc (.cells #[.slice B2 (digs 1000000000 y).length c2] 22))
    have hown0 := OwnN.made (digs 1000000000 x).length (w2.alloc (.cells #[.slice B2 (digs 1000000000 y).length c2] 22)) (by unfold maxLen; omega)
    generalize hb0 : (digs 1000000000 y).length = b at *
    generalize hXL : digs 1000000000 x = X at *
    generalize hXn : X.length = a at *
    have HXL := Lib.hid hXL
    have HXN := Lib.hid hXn
    have HBN := Lib.hid hb0
    clear hXL hXn hb0
    go_wp2
    have hbz : ((b : Int) == 0) = false := by simp; omega
    simp only [hbz]
    generalize hH2 : w2.heap.size + 1 + 1 = H2 at *
    generalize hH1 : w2.heap.size + 1 = H1 at *
    go_loopg [11] a (fun kx iv wr => ∃ (k R : Nat) (q : List Nat) (rv : Value), k ≤ kx ∧ k ≤ a ∧ iv = .int .i64 ((k : Int) - 1) ∧ OwnN .u32 61 H1 wr (.slice (some ⟨H1, 0, none⟩) a a) q ∧ wr.cell? ⟨H2, 0, none⟩ = some rv ∧ wr.frozen? ⟨H2, 0, none⟩ = false ∧ OwnN .u32 61 (H2 + 1) wr rv (digs 1000000000 R) ∧ Hid (DivIn 1000000000 X y k R q) ∧ wr.cell? ⟨w2.heap.size, 0, none⟩ = some (.slice B2 b c2) ∧ Below w2.heap.size w2 wr ∧ H2 + 1 ≤ wr.heap.size)
    case atStart =>
      refine ⟨a, 0, List.replicate a 0, .slice none 0 0, Nat.le_refl _, Nat.le_refl _, rfl, ?_, ?_, ?_, ?_, ?_, ?_, ?_, ?_⟩
      · have := hown0.below (below_alloc0 _ (.cells #[.slice none 0 0] 22))
        have e : (w2.alloc (.cells #[.slice B2 b c2] 22)).heap.size = H1 := by simp; omega
        rw [e] at this
        exact this
      · rw [World.cell?_alloc_at (hn := by simp; omega)]; rfl
      · rw [World.frozen?_alloc_at (hn := by simp; omega)]
      · rw [digs_zero]; exact OwnN.nil _ _ _ _
      · have := DivIn.zero 1000000000 (by omega) X y HY0.out
        rw [HXN.out] at this
        exact this
      · rw [World.cell?_alloc_past (hn := by simp; omega), World.cell?_alloc_past (hn := by simp), World.cell?_alloc_at (hn := rfl)]; rfl
      · exact ((below_alloc0 w2 _).alloc (by simp) _).alloc (by simp; omega) _
      · simp; omega
    case round =>
      obtain ⟨k, R, q, rv, hkx, hk, rfl, hq, hcr, hfr, hr, hdiv, hcy, hb, hsz⟩ := hrel
      by_cases h0 : k = 0
      · subst h0
        have hql : q.length = a := by rw [hdiv.out.2.1, HXN.out]
        have hdn := hdiv.out.done (by omega)
        rw [HV1.out] at hdn
        obtain ⟨A', cap', hv', hcap', hrd', _⟩ := hq.rd
        injection hv' with e1 e2 e3
        subst e1 e3
        rw [hql] at hrd'
        clear e2 hcap'
        have K6 := Lib.hid (fun j : Nat => quiet_left (trim_any (some ⟨H1, 0, none⟩) a a q (wr.drewN j) (hrd'.drewN j) (Nat.le_refl _) (by omega)))
        have HDN := Lib.hid hdn
        have HQ := Lib.hid hq
        have HRR := Lib.hid hr
        have HBW := Lib.hid (HB12.out.trans (hb.mono HB12.out.size))
        have hws := HB12.out.size
        clear hrd' hdn hq hr hdiv
        have hm1 : ((0 : Nat) : Int) - 1 = -1 := by omega
        go_wp2
        go_quiet ((go_at_call 41; with_reducible exact K6.out _))
        go_wp2
        go_ret3
        refine .inr ⟨HY0.out, _, _, rfl, ?_, ?_, below_drewN HBW.out _⟩
        · exact ((HQ.out.trim.asList HDN.out.1).more (by omega)).drewN _
        · exact ((HRR.out.asList (by rw [HDN.out.2])).more (by omega)).drewN _
      · obtain ⟨k, rfl⟩ : ∃ j, k = j + 1 := ⟨k - 1, by omega⟩
        obtain ⟨p1, o1, rfl, hbl1, hc1⟩ := HR1.out.2 (by omega)
        have cx := (hb.cell (p := ⟨p1, o1 + k, none⟩) hbl1).trans (hc1 k (by omega))
        have hv := getD_lt (by omega) HLT.out k
        have HST := Lib.hid (hdiv.out.step (by rw [HXN.out]; omega) hv)
        have HLOW := Lib.hid (hdiv.out.low hv)
        have HDG := Lib.hid (hdiv.out.digit hv)
        have HTC := Lib.hid (trimL_cons_digs 1000000000 (by omega) (X.getD k 0) R hv)
        have HRY := Lib.hid hdiv.out.2.2.2
        clear hc1 hdiv
        generalize X.getD k 0 = t at *
        have hkk : ((k + 1 : Nat) : Int) - 1 = k := by omega
        rw [hkk]
        generalize hT : t + 1000000000 * R = T at *
        have HT := Lib.hid hT
        clear hT
        have hrl : (digs 1000000000 R).length ≤ 549755813889 := by
          have := digs_mono 1000000000 (by omega) R y (Nat.le_of_lt HRY.out)
          rw [HBN.out] at this; omega
        have hka : k < a := by omega
        go_upto_region 9 with fail
        go_cut [] from 26 to 52 (fun wx => ∃ rv', wx.cell? ⟨H2, 0, none⟩ = some rv' ∧ wx.frozen? ⟨H2, 0, none⟩ = false ∧ OwnN .u32 61 (H2 + 1) wx rv' (digs 1000000000 T) ∧ OwnN .u32 61 H1 wx (.slice (some ⟨H1, 0, none⟩) a a) q ∧ wx.cell? ⟨w2.heap.size, 0, none⟩ = some (.slice B2 b c2) ∧ Below w2.heap.size w2 wx ∧ H2 + 1 ≤ wx.heap.size)
        case first =>
          have hcr2 : (wr.alloc (.cells #[.int .u32 (t : Int)] 61)).cell? ⟨H2, 0, none⟩ = some rv := by rw [World.cell?_alloc_past (hn := by omega)]; exact hcr
          have hfr2 : (wr.alloc (.cells #[.int .u32 (t : Int)] 61)).frozen? ⟨H2, 0, none⟩ = false := by rw [World.frozen?_alloc_past (hn := by omega)]; exact hfr
          go_region_law (first
            | (refine step_append_rd _ rfl (.tmp 34) (.tmp 35) 22 rfl (H2 + 1) (H2 + 1) .u32 61 i0 (.int .u32 0) 4 Tryd.underlying22 hi0 hz0 hz1 hz2 rfl (.slice (some ⟨wr.heap.size, 0, none⟩) 1 1) rv [t] (digs 1000000000 R) (by simp [Act.eval]) (by simp [Act.eval]) (OwnN.lit .u32 61 (H2 + 1) wr.drew t hsz) (hr.below ((Below.refl _ wr).drew.alloc (Nat.le_refl _) _)) (by unfold maxLen; simp; omega) (by simp; omega) (by simp; omega) ?_; intro v5 w5 hown5 hgrow5; replace hown5 : OwnN .u32 61 (H2 + 1) w5 v5 (t :: digs 1000000000 R) := hown5; obtain ⟨B5, c5, rfl, hcap5, hrd5, _⟩ := hown5.rd)
            | (go_simp; go_at_call 41; have hle5 : (t :: digs 1000000000 R).length ≤ 9223372036854775807 := (by rw [List.length_cons]; omega); have hb5 := below_litapp hgrow5; have hcr5 := (hb5.cell (p := ⟨H2, 0, none⟩) hsz).trans hcr; have hfr5 := frozen_below hb5 (p := ⟨H2, 0, none⟩) hsz hfr; refine (trim_any B5 _ c5 _ w5 hrd5 hcap5 hle5).mono ?_; rintro e w6 ⟨rfl, rfl⟩))
          all_goals
            go_wp2_with fail
            go_meet
            case rel =>
              have h6 := hown5.trim.asList HTC.out
              have hq5 := hq.below hb5
              have hs5 := hb5.size
              refine ⟨_, World.cell?_setCell_same _ _ _ hcr5, by rw [World.frozen?_setCell]; exact hfr5, h6.putBelow (by omega), hq5.putOff (by omega), ?_, ?_, ?_⟩
              · exact cell_far (by show H2 ≠ w2.heap.size; omega) ((hb5.cell (p := ⟨w2.heap.size, 0, none⟩) (by show w2.heap.size < wr.heap.size; omega)).trans hcy)
              · exact (hb.trans (hb5.mono hb.size)).setCell (by show w2.heap.size ≤ H2; omega) _
              · rw [World.size_setCell]; omega
        case rest =>
          clear hq hcr hfr hr hcy
          obtain ⟨rv, hcr, hfr, hr, hq, hcy, hbc, hszc⟩ := hcut
          have hdl : (digs 1000000000 T).length ≤ 549755813890 := by
            have h1 := digs_mono 1000000000 (by omega) T (y * 1000000000) (by rw [Nat.mul_comm]; exact Nat.le_of_lt HLOW.out)
            have h2 := digs_mul_len y 1000000000 b (by rw [HBN.out]; exact Nat.le_refl _) (by omega)
            omega
          obtain ⟨B6, c6, rfl, hcap6, hrd6, _⟩ := hr.rd
          have hS := search_any 43 #[.pointer (some ⟨w2.heap.size, 0, none⟩), .pointer (some ⟨H2, 0, none⟩)] 1000000000 (T / y + 1) wc (by omega) (by have := HDG.out; omega) enters43
            (fun w' i hi hb' => by
              have h := dm1_any B2 B6 b c2 (digs 1000000000 T).length c6 y T w2.heap.size H2 i w' (HR2.out.below (hbc.trans (hb'.mono hbc.size))) (hrd6.below hb') (by omega) hdl (by omega) ((hb'.cell (p := ⟨w2.heap.size, 0, none⟩) (by show w2.heap.size < wc.heap.size; omega)).trans hcy) ((hb'.cell (p := ⟨H2, 0, none⟩) (by show H2 < wc.heap.size; omega)).trans hcr) (by have := hb'.size; omega) (by have := hb'.size; omega)
              have e : decide (T < y * i) = decide (T / y + 1 ≤ i) := by
                apply decide_eq_decide.2
                rw [Nat.mul_comm, ← Nat.div_lt_iff_lt_mul HY0.out]
                exact Iff.rfl
              rw [e] at h
              exact h)
          have HMD := Lib.hid (show T - y * (T / y) = T % y by have := Nat.div_add_mod T y; omega)
          have HLE := Lib.hid (Nat.mul_div_le T y)
          generalize hQ : T / y = Q at *
          clear hQ
          have HS := Lib.hid hS
          clear hS
          have hqq : ((Q + 1 : Nat) : Int) - 1 = Q := by omega
          have hQ9 : Q < 1000000000 := HDG.out
          go_wp2_with (go_at_call 42; refine HS.out.mono ?_)
          rintro e w7 ⟨rfl, hb7⟩
          have hs7 := hb7.size
          have hql : q.length = a := by have := HST.out.2.1; rw [List.length_set, HXN.out] at this; exact this
          have hq7 := hq.below hb7
          obtain ⟨cc, ff⟩ := hq7.cellAt (i := k) (by rw [hql]; exact hka)
          have hq8 := hq7.set (i := k) (x := Q) (by rw [hql]; exact hka)
          have hr8 := (hr.below hb7).putBelow (H := H1) (i := k) (x := .int .u32 (Q : Int)) (by omega)
          have hcr8 := cell_far (p := ⟨H1, k, none⟩) (a := ⟨H2, 0, none⟩) (v := .int .u32 (Q : Int)) (by show H1 ≠ H2; omega) ((hb7.cell (p := ⟨H2, 0, none⟩) (by show H2 < wc.heap.size; omega)).trans hcr)
          have hcy8 := cell_far (p := ⟨H1, k, none⟩) (a := ⟨w2.heap.size, 0, none⟩) (v := .int .u32 (Q : Int)) (by show H1 ≠ w2.heap.size; omega) ((hb7.cell (p := ⟨w2.heap.size, 0, none⟩) (by show w2.heap.size < wc.heap.size; omega)).trans hcy)
          have hfr8 : (w7.setCell ⟨H1, k, none⟩ (.int .u32 (Q : Int))).frozen? ⟨H2, 0, none⟩ = false := by rw [World.frozen?_setCell]; exact frozen_below hb7 (p := ⟨H2, 0, none⟩) (by show H2 < wc.heap.size; omega) hfr
          have hb8 := (hbc.trans (hb7.mono hbc.size)).setCell (p := ⟨H1, k, none⟩) (by show w2.heap.size ≤ H1; omega) (.int .u32 (Q : Int))
          have hs8 : (w7.setCell ⟨H1, k, none⟩ (.int .u32 (Q : Int))).heap.size = w7.heap.size := World.size_setCell ..
          clear hq hcr hfr hr hcy
          go_upto_region 12 with fail
          generalize w7.setCell ⟨H1, k, none⟩ (.int .u32 (Q : Int)) = w8 at *
          have hrd8 := hr8.rd
          obtain ⟨B6', c6', hv6, _, hrd8, _⟩ := hr8.rd
          injection hv6 with e1 e2 e3
          subst e1
          clear e2 e3
          have HB8 := Lib.hid hb8
          have KT := Lib.hid (times_any B2 b c2 (digs 1000000000 y) Q w8.drew (HR2.out.below hb8.drew) (by omega) (digs_u32 y) (by have := HDG.out; omega))
          rw [val_digs 1000000000 (by omega)] at KT
          have KL := Lib.hid (fun (w9 : World) (hb9 : Below w8.drew.heap.size w8.drew w9) (B9 : Option Addr) (n9 c9 : Nat) (h9 : RdN .u32 w9 B9 n9 (digs 1000000000 (y * Q))) => less_any T (y * Q) B6 B9 (digs 1000000000 T).length c6 n9 c9 w9 (hrd8.below ((Below.refl w8.heap.size w8).drew.trans hb9)) h9 (by omega) (by rw [← h9.1]; have := digs_mono 1000000000 (by omega) _ _ HLE.out; omega) HLE.out)
          have hwA : IntKind.i64.wrap (Q : Int) = Q := by rw [IntKind.wrap_i64]; omega
          have hwB : IntKind.u64.wrap (Q : Int) = Q := by rw [IntKind.wrap_u64]; omega
          go_region_law (first
            | (go_simp; go_at_call 45; refine KT.out.mono ?_; rintro e w9 ⟨v9, rfl, hown9, hb9⟩; obtain ⟨B9, c9, rfl, hcap9, hrd9, _⟩ := hown9.rd; have hcr9 := (hb9.cell (p := ⟨H2, 0, none⟩) (by show H2 < w8.heap.size; omega)).trans hcr8)
            | (go_simp; go_at_call 46; refine (KL.out _ hb9 _ _ _ hrd9).mono ?_; rintro e w10 ⟨v10, rfl, hown10, hb10⟩; obtain ⟨B10, c10, rfl, _, _, _⟩ := hown10.rd; have hb89 := hb9.trans (hb10.mono hb9.size); have hcr10 := (hb89.cell (p := ⟨H2, 0, none⟩) (by show H2 < w8.heap.size; omega)).trans hcr8; have hfr10 := frozen_below hb89 (p := ⟨H2, 0, none⟩) (by show H2 < w8.heap.size; omega) hfr8))
          all_goals
            have hs89 := hb89.size
            have hs9 := hb9.size
            have hb810 := (Below.refl w8.heap.size w8).drew.trans hb89
            have hso : w8.drew.heap.size = w8.heap.size := rfl
            go_wp2
            go_roundg k
            case measure => omega
            case rel =>
              refine ⟨k, T % y, q.set k Q, _, Nat.le_refl _, by omega, by go_num, (hq8.below hb810).putOff (by omega), World.cell?_setCell_same _ _ _ hcr10, by rw [World.frozen?_setCell]; exact hfr10, ?_, HST.out, ?_, ?_, ?_⟩
              · exact ((hown10.asList (by rw [HMD.out])).more (by omega)).putBelow (by omega)
              · exact cell_far (by show H2 ≠ w2.heap.size; omega) ((hb810.cell (p := ⟨w2.heap.size, 0, none⟩) (by show w2.heap.size < w8.heap.size; omega)).trans hcy8)
              · exact (HB8.out.trans (hb810.mono (by omega))).setCell (by show w2.heap.size ≤ H2; omega) _
              · rw [World.size_setCell]; omega
end Go.Proofs.YtmmlclgmehfmhaaDoor
