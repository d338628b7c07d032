/-
  The walks of slices.Clone and of limb's Cut.
-/
import Derived.Test.YtmmlclgmehfmhaaDoorLimM
import Derived.Deep.DeepCutAuto
namespace Go.Proofs.YtmmlclgmehfmhaaDoor
open Go.RowKit

theorem OwnN.lit0 (k : IntKind) (E : TypeId) (base : Nat) (w : World) (hb : base ≤ w.heap.size) : OwnN k E base (w.alloc (.cells #[] E)) (.slice (some ⟨w.heap.size, 0, none⟩) 0 0) [] :=
  World.ownsRow_lit w #[] 0 hb (by unfold maxLen; omega) rfl

set_option maxHeartbeats 1000000 in
set_option maxRecDepth 100000 in
theorem clone_any (v : Value) (base : Nat) (l : List Nat) (w : World) (hown : OwnN .u32 61 base w v l) (hn : l.length ≤ 1099511627776) :
    Calls Tryd.prog 62 #[v] w fun e w' => ∃ v', e = .returned v' ∧ OwnN .u32 61 w.heap.size w' v' l ∧ Below w.heap.size w w' := by
  obtain ⟨i0, hi0, hz0, hz1, hz2⟩ := info_parts info_u32
  rcases hown.rd' with ⟨rfl, rfl⟩ | ⟨g, cap, rfl, hrd⟩
  · have he : ∀ u : World, (binOp .eql 22 (.slice none 0 0) (.slice none 0 0)).run Tryd.prog u = .ok (.bool true) u := fun _ => rfl
    go_enter Tryd.func62, Tryd.ntmps62
    go_wp2
    go_ret
    exact ⟨_, rfl, OwnN.nil _ _ _ _, Below.refl _ _⟩
  · have he : ∀ u : World, (binOp .eql 22 (.slice (some ⟨g, 0, none⟩) l.length cap) (.slice none 0 0)).run Tryd.prog u = .ok (.bool false) u := fun _ => rfl
    go_enter Tryd.func62, Tryd.ntmps62
    go_wp2_with (at_builtin; refine wpList_append_rd _ rfl _ _ 22 rfl w.heap.size base .u32 61 i0 (.int .u32 0) 4 Tryd.underlying22 hi0 hz0 hz1 hz2 rfl _ _ [] l rfl rfl (OwnN.lit0 _ _ _ _ (Nat.le_refl _)) (hown.below (below_alloc0 w _)) ?c1 ?c2 ?c3 ?_)
    case c1 => simp; unfold maxLen; omega
    case c2 => simp; omega
    case c3 => simp
    intro v' w' hown' hgrow
    go_wp2
    go_ret
    refine ⟨_, rfl, hown', (below_alloc0 w _).grown hgrow (by simp) (fun k hk => ?_)⟩
    have : w.heap.size = k := by simpa [Value.ownBlock] using hk
    omega

theorem RdN.drop {k : IntKind} {w : World} {g o n i : Nat} {l : List Nat} (h : RdN k w (some ⟨g, o, none⟩) n l) : RdN k w (some ⟨g, o + i, none⟩) (n - i) (l.drop i) := by
  refine ⟨by rw [List.length_drop, h.1], fun h0 => ?_⟩
  obtain ⟨b, off, e, hlt, hc⟩ := h.2 (by omega)
  injection e with e
  injection e with e1 e2
  subst e1 e2
  refine ⟨g, o + i, rfl, hlt, fun j hj => ?_⟩
  have h3 := hc (i + j) (by omega)
  rw [Nat.add_assoc, h3]
  simp only [List.getD, List.getElem?_drop]
theorem RdN.none0 {k : IntKind} {w : World} {A : Option Addr} {n : Nat} {l : List Nat} (hn : n = 0) (hl : l = []) : RdN k w A n l := ⟨by rw [hl, hn]; rfl, fun h => by omega⟩

/-- what Cut answers within its bounds -/
def IsCut (x n : Nat) (w w' : World) (e : Ending) : Prop := ∃ q r, e = .returned (.tuple #[q, r, .int .i64 0]) ∧ OwnN .u32 61 w.heap.size w' q (digs 1000000000 (x / 10 ^ n)) ∧ OwnN .u32 61 w.heap.size w' r (digs 1000000000 (x % 10 ^ n)) ∧ Below w.heap.size w w'

set_option maxHeartbeats 1000000 in
set_option maxRecDepth 100000 in
theorem cut_bad (A : Option Addr) (n cap : Nat) (m : Int) (w : World) (hm : m < 0 ∨ 30000 < m) :
    Calls Tryd.prog 38 #[.slice A n cap, .int .i64 m] w fun e w' => e = .returned (.tuple #[.slice none 0 0, .slice none 0 0, .int .i64 1]) ∧ w = w' := by
  go_enter Tryd.func38, Tryd.ntmps38
  rcases hm with hm | hm
  · go_wp2
    go_ret3
    exact ⟨rfl, rfl⟩
  · have hm0 : ¬ m < 0 := by omega
    go_wp2
    go_ret3
    exact ⟨rfl, rfl⟩

set_option maxHeartbeats 2000000 in
set_option maxRecDepth 100000 in
theorem cut_any (A : Option Addr) (n cap : Nat) (l : List Nat) (m : Nat) (w : World) (hR : RdN .u32 w A n l) (hn : n ≤ 549755813888) (hl : ∀ x ∈ l, x < 4294967296) (hm : m ≤ 30000) :
    Calls Tryd.prog 38 #[.slice A n cap, .int .i64 m] w fun e w' => IsCut (val 1000000000 l) m w w' e := by
  obtain ⟨i0, hi0, hz0, hz1, hz2⟩ := info_parts info_u32
  have K1 := Lib.hid (norm_any A n cap l w hR (by omega) hl)
  have hd : (digs 1000000000 (val 1000000000 l)).length ≤ 549755813889 := by have := digs_val_len l hl; have := hR.1; omega
  clear hR hl
  generalize val 1000000000 l = x at *
  have kt := fun u : World => ten_any (m % 9) u (by omega)
  rw [show ((m % 9 : Nat) : Int) = (m : Int) % 9 by omega] at kt
  have KT := Lib.hid kt
  clear kt
  have h10 := ten_le (m % 9) (by omega)
  have h11 : 0 < 10 ^ (m % 9) := Nat.pow_pos (by omega)
  have h9 : m / 9 ≤ 3333 := by omega
  have hmq : ((m / 9 : Nat) : Int) = (m : Int) / 9 := by omega
  have HLT := Lib.hid (digs_lt 1000000000 (by omega) x)
  have HLO := Lib.hid (cut_low x m)
  have HQU := Lib.hid (cut_quo x m)
  have HRE := Lib.hid (cut_rest x m)
  have HTX := Lib.hid (trimL_digs_self 1000000000 (by omega) x)
  generalize hp : 10 ^ (m % 9) = p at *
  clear hp
  by_cases hlow : (digs 1000000000 x).length < m / 9
  · have HC := Lib.hid (HLO.out hlow)
    have hmin : ¬ ((m : Int) / 9 ≤ (digs 1000000000 x).length) := by omega
    have hmin2 : (((digs 1000000000 x).length : Nat) : Int) < (m : Int) / 9 := by omega
    go_enter Tryd.func38, Tryd.ntmps38
    go_wp2_with (go_at_call 23; refine K1.out.mono ?_)
    rintro e w1 ⟨v1, rfl, hown1, hb1⟩
    generalize hXX : digs 1000000000 x = X at *
    have HXX := Lib.hid hXX
    clear hXX
    obtain ⟨B1, c1, rfl, hcap1, hrd1, hge1⟩ := hown1.rd
    have KC := Lib.hid (fun u hu => clone_any _ w.heap.size X u (hown1.below hu) (by omega))
    have HB1 := Lib.hid hb1
    go_upto_region 5 with fail
    go_cut [9] from 28 (fun lo wx => OwnN .u32 61 w.heap.size wx lo X ∧ Below w.heap.size w wx)
    case first =>
      rcases hown1.rd' with ⟨e1, h0⟩ | ⟨g, c1', e1, _⟩
      · injection e1 with e1 e2 e3
        subst e1 e3 h0
        go_region_law (first | (go_simp; go_at_call 62; refine (KC.out _ (Below.refl _ _).drew).mono ?_; rintro e w2 ⟨v2, rfl, hown2, hb2⟩))
        all_goals
          go_wp2_with fail
          go_meet
          case rel => exact ⟨hown2.more HB1.out.size, HB1.out.trans ((Below.refl _ w1).drew.trans hb2 |>.mono HB1.out.size)⟩
      · injection e1 with e1 e2 e3
        subst e1 e3
        by_cases hcc : c1 = X.length
        · subst hcc
          go_region_law (first | (go_simp; go_at_call 62; refine (KC.out _ (Below.refl _ _).drew).mono ?_; rintro e w2 ⟨v2, rfl, hown2, hb2⟩))
          all_goals
            go_wp2_with fail
            go_meet
            case rel => exact ⟨hown2.more HB1.out.size, HB1.out.trans ((Below.refl _ w1).drew.trans hb2 |>.mono HB1.out.size)⟩
        · skip
          go_region_law (first | (go_simp; go_at_call 62; refine (KC.out _ (Below.refl _ _).drew).mono ?_; rintro e w2 ⟨v2, rfl, hown2, hb2⟩))
          all_goals
            go_wp2_with fail
            go_meet
            case rel => exact ⟨hown2.more HB1.out.size, HB1.out.trans ((Below.refl _ w1).drew.trans hb2 |>.mono HB1.out.size)⟩
    case rest =>
      obtain ⟨hlo, hbc⟩ := hcut
      obtain ⟨B3, c3, rfl, hcap3, hrd3, _⟩ := hlo.rd
      have K6 := Lib.hid (fun u (hu : Below wc.heap.size wc u) => trim_any B3 X.length c3 X u (hrd3.below hu) hcap3 (by omega))
      go_wp2_with (first | (go_at_call 61; refine (KT.out _).mono ?_; rintro e w1' ⟨rfl, rfl⟩) | (go_at_call 41; refine (K6.out _ (Below.refl _ _)).mono ?_; rintro e w3 ⟨rfl, rfl⟩))
      go_ret3
      refine ⟨_, _, rfl, by rw [HC.out.1, digs_zero]; exact OwnN.nil _ _ _ _, ?_, hbc⟩
      rw [HC.out.2]
      exact hlo.trim.asList (HTX.out.trans HXX.out.symm)
  · have HRE2 := Lib.hid (HRE.out (by omega))
    generalize m / 9 = W at *
    have hmq2 : (m : Int) / 9 = W := hmq.symm
    clear hmq HLO HRE
    have hWl : W ≤ (digs 1000000000 x).length := by omega
    clear hlow
    go_enter Tryd.func38, Tryd.ntmps38
    go_wp2_with (go_at_call 23; refine K1.out.mono ?_)
    rintro e w1 ⟨v1, rfl, hown1, hb1⟩
    generalize hXX : digs 1000000000 x = X at *
    have HXX := Lib.hid hXX
    clear hXX
    obtain ⟨B1, c1, rfl, hcap1, hrd1, hge1⟩ := hown1.rd
    have hW1 : W ≤ c1 := by omega
    have htl : (X.take W).length = W := by rw [List.length_take]; omega
    have KC := Lib.hid (fun u hu => clone_any (.slice B1 W c1) w.heap.size (X.take W) u ((hown1.cut hWl).below hu) (by omega))
    have HB1 := Lib.hid hb1
    go_upto_region 5 with fail
    go_cut [9, 10] from 28 (fun lo hi wx => ∃ Ah ch, hi = .slice Ah (X.length - W) ch ∧ OwnN .u32 61 w.heap.size wx lo (X.take W) ∧ RdN .u32 wx Ah (X.length - W) (X.drop W) ∧ Below w.heap.size w wx)
    case first =>
      rcases hown1.rd' with ⟨e1, h0⟩ | ⟨g, c1', e1, _⟩
      · injection e1 with e1 e2 e3
        subst e1 e3 h0
        obtain rfl : W = 0 := by omega
        go_region_law (first | (go_simp; go_at_call 62; refine (KC.out _ (Below.refl _ _).drew).mono ?_; rintro e w2 ⟨v2, rfl, hown2, hb2⟩))
        all_goals
          go_wp2_with fail
          go_meet
          case rel => exact ⟨_, _, rfl, hown2.more HB1.out.size, .none0 rfl rfl, HB1.out.trans ((Below.refl _ w1).drew.trans hb2 |>.mono HB1.out.size)⟩
      · injection e1 with e1 e2 e3
        subst e1 e3
        by_cases hcc : c1 = W
        · subst hcc
          go_region_law (first | (go_simp; go_at_call 62; refine (KC.out _ (Below.refl _ _).drew).mono ?_; rintro e w2 ⟨v2, rfl, hown2, hb2⟩))
          all_goals
            go_wp2_with fail
            go_meet
            case rel => exact ⟨some ⟨g, 0, none⟩, 0, by rw [show X.length - c1 = 0 by omega], hown2.more HB1.out.size, .none0 (by omega) (List.drop_of_length_le (by omega)), HB1.out.trans ((Below.refl _ w1).drew.trans hb2 |>.mono HB1.out.size)⟩
        · go_region_law (first | (go_simp; go_at_call 62; refine (KC.out _ (Below.refl _ _).drew).mono ?_; rintro e w2 ⟨v2, rfl, hown2, hb2⟩))
          all_goals
            go_wp2_with fail
            go_meet
            case rel =>
              refine ⟨_, _, rfl, hown2.more HB1.out.size, ?_, HB1.out.trans ((Below.refl _ w1).drew.trans hb2 |>.mono HB1.out.size)⟩
              have hdr := (hrd1.below ((Below.refl _ w1).drew.trans hb2)).drop (i := W)
              rw [Nat.zero_add] at hdr
              exact hdr
    case rest =>
      obtain ⟨Ah, ch, rfl, hlo, hhi, hbc⟩ := hcut
      have hhb : X.length - W ≤ 549755813889 := by omega
      have HLH := Lib.hid (show ∀ z ∈ X.drop W, z < 1000000000 from fun z hz => HLT.out z (List.mem_of_mem_drop hz))
      have hws := hbc.size
      generalize hh0 : X.length - W = h at *
      have HHL := Lib.hid (show (X.drop W).length = h by rw [List.length_drop]; exact hh0)
      clear hh0 hown1 hcap1 hrd1 hge1 KC HB1 hb1 hWl hd
      generalize X.drop W = H at *
      generalize hLL : X.take W = L at *
      have hLn : L.length ≤ 3333 := by omega
      obtain ⟨B3, c3, rfl, hcap3, hrd3, _⟩ := hlo.rd
      have hmk := make_u32 h h (Nat.le_refl _) (by omega) wc
      have hown0 := OwnN.made h wc (by unfold maxLen; omega)
      have hbm := below_alloc0 wc (.cells (madeCells #[.int .u32 0] h) 61)
      have HHI := Lib.hid hhi
      have HLO := Lib.hid hlo
      have HBC := Lib.hid hbc
      clear hhi hlo hbc hrd3
      go_wp2_with (go_at_call 61; refine (KT.out _).mono ?_; rintro e w1' ⟨rfl, rfl⟩)
      generalize hG : wc.heap.size = G at *
      go_loopg [13, 14] h (fun kx rv iv wr => ∃ (k R : Nat) (q : List Nat), k ≤ kx ∧ k ≤ h ∧ iv = .int .i64 ((k : Int) - 1) ∧ rv = .int .u64 R ∧ R < p ∧ OwnN .u32 61 G wr (.slice (some ⟨G, 0, none⟩) h h) q ∧ Hid (DivIn 1000000000 H p k R q) ∧ Below G wc wr)
      case atStart =>
        refine ⟨h, 0, List.replicate h 0, Nat.le_refl _, Nat.le_refl _, by go_num, rfl, h11, hown0, ?_, hbm⟩
        have := DivIn.zero 1000000000 (by omega) H p h11
        rw [HHL.out] at this
        exact this
      case round =>
        obtain ⟨k, R, q, hkx, hk, rfl, rfl, hRp, hq, hdiv, hb⟩ := hrel
        have hql : q.length = h := by rw [hdiv.out.2.1, HHL.out]
        by_cases h0 : k = 0
        · subst h0
          have hdn := hdiv.out.done (by omega)
          obtain ⟨A', cap', hv', hcap', hrd', _⟩ := hq.rd
          injection hv' with e1 e2 e3
          subst e1 e3
          rw [hql] at hrd'
          clear e2 hcap'
          have K6 := Lib.hid (trim_any (some ⟨G, 0, none⟩) h h q wr hrd' (Nat.le_refl _) (by omega))
          have HDN := Lib.hid hdn
          have hm1 : ((0 : Nat) : Int) - 1 = -1 := by omega
          have hR9 : R < 1000000000 := by omega
          have HLR := Lib.hid (HLO.out.below (hb.mono (by omega)))
          have hGr := hb.size
          clear hrd' hdn hdiv
          have hlr := HLR.out
          rw [htl] at hlr
          go_wp2_with (first
            | (go_at_call 41; refine K6.out.mono ?_; rintro e w3 ⟨rfl, rfl⟩)
            | (at_builtin; refine wpList_append_rd _ rfl _ _ 22 rfl w.heap.size wr.heap.size .u32 61 i0 (.int .u32 0) 4 Tryd.underlying22 hi0 hz0 hz1 hz2 rfl _ _ L [R] rfl rfl (hlr.below (below_alloc0 wr _)) (OwnN.lit .u32 61 wr.heap.size wr R (Nat.le_refl _)) ?c1 ?c2 ?c3 ?_))
          case c1 => simp; unfold maxLen; omega
          case c2 => simp; omega
          case c3 => simp; omega
          intro v' w' hown' hgrow
          have hLR : (L ++ [R]).length = W + 1 := by rw [List.length_append, htl]; rfl
          obtain ⟨B5, c5, hv5, hcap5, hrd5, _⟩ := hown'.rd
          rw [hLR] at hv5 hcap5 hrd5
          subst hv5
          have K7 := Lib.hid (trim_any B5 (W + 1) c5 (L ++ [R]) w' hrd5 hcap5 (by omega))
          have HHG := Lib.hid (hown'.trim.asList (by rw [HDN.out.2, HRE2.out]))
          have hbl : ∀ k, (Value.slice B3 W c3).ownBlock = some k → w.heap.size ≤ k := fun k hk => (hlr.block_ge k hk).1
          have HFB := Lib.hid (show Below w.heap.size w w' from ((HBC.out.trans (hb.mono (by omega))).alloc (by omega) _).grown hgrow (by simp; omega) hbl)
          have hq2 := (hq.below (below_alloc0 wr (.cells #[.int .u32 (R : Int)] 61))).grown hgrow (fun b hb e => by
            have h1 := (HLO.out.block_ge b (by rw [htl]; exact e.symm)).2
            have h2 : G = b := by simpa [Value.ownBlock] using hb
            omega)
          have HQQ := Lib.hid (hq2.trim.asList (by rw [HDN.out.1, ← HQU.out]))
          clear hq2 hgrow hbl hlr hq hown' hrd5 hcap5
          go_wp2_with (go_at_call 41; refine K7.out.mono ?_; rintro e w4 ⟨rfl, rfl⟩)
          go_ret3
          exact ⟨_, _, rfl, HQQ.out.more hws, HHG.out, HFB.out⟩
        · obtain ⟨k, rfl⟩ : ∃ j, k = j + 1 := ⟨k - 1, by omega⟩
          obtain ⟨p1, o1, rfl, hbl1, hc1⟩ := HHI.out.2 (by omega)
          have cx := (hb.cell (p := ⟨p1, o1 + k, none⟩) (by rw [← hG]; exact hbl1)).trans (hc1 k (by omega))
          have hv := getD_lt (by omega) HLH.out k
          have HST := Lib.hid (hdiv.out.step (by rw [HHL.out]; omega) hv)
          have hdg := hdiv.out.digit hv
          clear hc1 hdiv
          generalize H.getD k 0 = t at *
          have hkk : ((k + 1 : Nat) : Int) - 1 = k := by omega
          rw [hkk]
          have hka : k < h := by omega
          have hT : t + 1000000000 * R < 1000000000000000000 := by omega
          obtain ⟨cc, ff⟩ := hq.cellAt (i := k) (by rw [hql]; exact hka)
          go_wp2
          have e1 : (R : Int) * 1000000000 + t = ((t + 1000000000 * R : Nat) : Int) := by omega
          have e2 : (((t + 1000000000 * R : Nat) : Int) / (p : Int)) % 4294967296 = (((t + 1000000000 * R) / p : Nat) : Int) := by
            rw [← Int.natCast_ediv]
            generalize (t + 1000000000 * R) / p = Q at hdg
            omega
          have e3 : ((t + 1000000000 * R : Nat) : Int) % (p : Int) = (((t + 1000000000 * R) % p : Nat) : Int) := (Int.natCast_emod ..).symm
          rw [e1, e2, e3]
          go_roundg k
          case measure => omega
          case rel => exact ⟨k, (t + 1000000000 * R) % p, q.set k ((t + 1000000000 * R) / p), Nat.le_refl _, by omega, rfl, rfl, Nat.mod_lt _ h11, hq.set (by rw [hql]; exact hka), HST.out, hb.setCell (Nat.le_refl _) _⟩
end Go.Proofs.YtmmlclgmehfmhaaDoor
