/-
  The walk of the law SyntaxDepths (chapter 15).
-/
import Derived.Test.YtbgmdkjhegacjaaGreatDoorPSynLa
import Derived.OrdersHeld
import Derived.Deep.RegionHeld
import Derived.Deep.MidRow
namespace Go.Proofs.YtbgmdkjhegacjaaGreatDoor
open Go.RowKit
theorem y_agg (t : Ny) (kv : Value) : yAgg t kv = .agg (yCells t kv).toArray := rfl
end Go.Proofs.YtbgmdkjhegacjaaGreatDoor

namespace Go.Proofs.YtbgmdkjhegacjaaGreatDoor
open Go.RowKit
set_option maxHeartbeats 4000000 in
set_option maxRecDepth 100000 in
theorem yRefDepth_any : ∀ (left : Nat) (t : Ny) (A : Option Addr) (c : Nat) (w : World), left ≤ 2000 → YS maxLen t → YT w t A c → Calls Tryz.prog 11 #[yAgg t (.slice A t.kids.length c), .int .i64 (left : Int)] w (RetY (.int .i64 (depY left t : Int)) fun w' => Below w.heap.size w w')
  | 0, t, A, c, w, hl, hs, h => by
    simp only [yAgg]
    go_enter Tryz.func11, Tryz.ntmps11
    go_wp2
    go_ret
    exact ⟨rfl, (Below.refl _ w).alloc (Nat.le_refl _) _⟩
  | left + 1, t, A, c, w, hl, hs, h => by
    have IH := Lib.hid (fun (k : Ny) (hk : k ∈ t.kids) (A : Option Addr) (c : Nat) (w : World) (h : YT w k A c) => yRefDepth_any left k A c w (by omega) (hs.kid k hk) h)
    have H1 := Lib.hid h
    have hn0 := hs.len
    have hd : depY (left + 1) t = maxDY left t.kids 0 + 1 := rfl
    rw [hd]
    clear h hs hd
    obtain ⟨M, hM⟩ : ∃ M, M = maxDY left t.kids 0 := ⟨_, rfl⟩
    rw [← hM]
    have HMX := Lib.hid hM
    clear hM
    generalize hn : t.kids.length = n at *
    have HN := Lib.hid hn
    have hmax : n ≤ 9223372036854775807 := by unfold maxLen at hn0; exact hn0
    clear hn hn0
    have zl : ((left + 1 : Nat) : Int) ≠ 0 := by omega
    have zl2 : (((left + 1 : Nat) : Int) == 0) = false := beq_false_of_ne zl
    obtain ⟨lf, hlf⟩ : ∃ lf : Int, lf = ((left + 1 : Nat) : Int) := ⟨_, rfl⟩
    have hl1 : lf - 1 = (left : Int) := by omega
    have hlr : 1 ≤ lf ∧ lf ≤ 2000 := by omega
    rw [← hlf] at zl zl2 ⊢
    clear hlf
    have hx0 : (w.alloc (.cells (yCells t (.slice A n c)).toArray TN)).heap[w.heap.size]? = some (.cells (yCells t (.slice A n c)).toArray TN (0, 0)) := Go.heap_alloc_new w _
    have hb0 : Below w.heap.size w (w.alloc (.cells (yCells t (.slice A n c)).toArray TN)) := (Below.refl _ w).alloc (Nat.le_refl _) _
    have B0 := Lib.hid hb0
    have C0 := Lib.hid (show (w.alloc (.cells (yCells t (.slice A n c)).toArray TN)).cell? ⟨w.heap.size, 2, none⟩ = some (.slice A n c) by rw [Lib.cell_of_heap hx0]; rfl)
    have L0 := Lib.hid (show w.heap.size < (w.alloc (.cells (yCells t (.slice A n c)).toArray TN)).heap.size by rw [World.size_alloc]; omega)
    clear hx0 hb0
    simp only [yAgg]
    go_enter Tryz.func11, Tryz.ntmps11
    go_wp2
    go_loopg [5, 6] (n + 1) (fun kx v5 v13 wr => ∃ i m : Nat, v13 = .int .i64 (i : Int) ∧ v5 = .int .i64 (m : Int) ∧ m ≤ 2001 ∧ i ≤ n ∧ n - i ≤ kx ∧ Hid (M = maxDY left (t.kids.drop i) m) ∧ Below w.heap.size w wr ∧ wr.cell? ⟨w.heap.size, 2, none⟩ = some (.slice A n c) ∧ w.heap.size < wr.heap.size)
    case atStart => exact ⟨0, 0, rfl, rfl, by omega, Nat.zero_le _, by omega, HMX, B0.out, C0.out, L0.out⟩
    case round =>
      obtain ⟨i, m, rfl, rfl, hm, hi, hik, hrel, hb, c2r, hlr⟩ := hrel
      have HB := Lib.hid hb
      clear hb
      by_cases hlt : i < n
      · have z1 : decide ((i : Int) < (n : Int)) = true := decide_eq_true (by omega)
        have hne : t.kids ≠ [] := fun e => by have := HN.out; rw [e] at this; simp at this; omega
        obtain ⟨q1, o1, rfl, hv1⟩ := YT.kid (YX.below H1.out HB.out) hne
        have hlt' : i < t.kids.length := by rw [HN.out]; exact hlt
        obtain ⟨k, hk⟩ : ∃ k, k = t.kids[i] := ⟨_, rfl⟩
        have hki : t.kids[i]? = some k := by rw [hk]; exact List.getElem?_eq_getElem hlt'
        have hkm : k ∈ t.kids := List.mem_of_getElem? hki
        have hdr : t.kids.drop i = k :: t.kids.drop (i + 1) := by rw [hk]; exact List.drop_eq_getElem_cons hlt'
        have HST := Lib.hid (show M = maxDY left (t.kids.drop (i + 1)) (max m (depY left k)) by rw [hrel.out, hdr, maxDY_cons])
        have hdl := depY_le left k
        obtain ⟨A1, c1', r1, k1'⟩ := hv1 i k hki
        have KC := Lib.hid (fun (W : World) (h : YT W k A1 c1') => IH.out k hkm A1 c1' W h)
        have K1 := Lib.hid k1'
        clear hv1 hk hki hkm k1' hne hdr hrel
        generalize depY left k = dk at *
        obtain ⟨e0, e1, e2⟩ := y_at r1
        clear r1
        have i0 : (0 : Int) ≤ (i : Int) := by omega
        have i1 : (i : Int) < (n : Int) := by omega
        simp only [yAgg] at KC
        have hws := HB.out.size
        go_wp2_with (go_at_call 11; refine (KC.out _ K1.out).mono ?_)
        rintro e w3 ⟨rfl, hb3⟩
        have hb4 := Lib.hid (HB.out.trans (hb3.mono hws))
        have c24 := (hb3.cell (p := ⟨w.heap.size, 2, none⟩) hlr).trans c2r
        have hlr4 := Nat.lt_of_lt_of_le hlr hb3.size
        clear hb3 c2r
        by_cases hgt : m < dk
        · have y1 : decide ((m : Int) < (dk : Int)) = true := decide_eq_true (by omega)
          have hmx : max m dk = dk := by omega
          rw [hmx] at HST
          go_wp2_with fail
          go_roundg (n - (i + 1))
          case measure => omega
          case rel => exact ⟨i + 1, dk, by go_num, rfl, by omega, by omega, Nat.le_refl _, HST, hb4.out, c24, hlr4⟩
        · have y1 : decide ((m : Int) < (dk : Int)) = false := decide_eq_false (by omega)
          have hmx : max m dk = m := by omega
          rw [hmx] at HST
          go_wp2_with fail
          go_roundg (n - (i + 1))
          case measure => omega
          case rel => exact ⟨i + 1, m, by go_num, rfl, by omega, by omega, Nat.le_refl _, HST, hb4.out, c24, hlr4⟩
      · have z1 : decide ((i : Int) < (n : Int)) = false := decide_eq_false (by omega)
        have hme : M = m := by rw [hrel.out, List.drop_eq_nil_of_le (by rw [HN.out]; omega)]; rfl
        have HME := Lib.hid hme
        clear hrel hme
        go_wp2
        go_ret
        exact ⟨by rw [HME.out]; go_num, HB.out⟩

end Go.Proofs.YtbgmdkjhegacjaaGreatDoor

namespace Go.Proofs.YtbgmdkjhegacjaaGreatDoor
theorem parseV_ok {numE : List UInt8 → Nat} {l : List UInt8} {n : Nd} {a : Nat} (h : parseV numE l = (n, a, 0)) : (tokensV l).2.2 = 0 ∧ parseT numE (tokensV l).1 l.length = (n, a, 0) := by
  unfold parseV at h
  by_cases h0 : (tokensV l).2.2 = 0
  · rw [if_neg (fun e => e h0)] at h; exact ⟨h0, h⟩
  · rw [if_pos h0] at h; injection h with _ h; injection h with _ h; exact absurd h h0
theorem parseT_ok {numE : List UInt8 → Nat} {l : List Tk} {en : Nat} {n : Nd} {a : Nat} (hF : FitY numE l en) (h : parseT numE l en = (n, a, 0)) : ∃ s, (knotF numE l en (l.length + 1)).pipe ⟨0, 0⟩ = .ok n s ∧ l.length ≤ s.at' ∧ depN 200 n ≤ 200 ∧ a = 0 := by
  unfold parseT at h
  cases hr : (knotF numE l en (l.length + 1)).pipe ⟨0, 0⟩ with
  | bad x e =>
    rw [hr] at h
    have := ((knot_ok hF (l.length + 1)).pipe ⟨0, 0⟩ (Nat.zero_le _) (by simp)).bad x e hr
    injection h with _ h; injection h with _ h
    have h4 := this.2.2
    omega
  | ok x s =>
    rw [hr] at h
    simp only at h
    by_cases h1 : s.at' < l.length
    · rw [if_pos h1] at h; injection h with _ h; injection h with _ h; cases h
    rw [if_neg h1] at h
    by_cases h2 : 200 < depN 200 x
    · rw [if_pos h2] at h; injection h with _ h; injection h with _ h; cases h
    rw [if_neg h2] at h
    injection h with h3 h; injection h with h4 _
    subst h3
    exact ⟨s, rfl, by omega, by omega, h4.symm⟩
end Go.Proofs.YtbgmdkjhegacjaaGreatDoor

namespace Go.Proofs.YtbgmdkjhegacjaaGreatDoor
open Go.RowKit
theorem parseV_depth (L : List UInt8) {n : Nd} {a : Nat} (h : parseV numE L = (n, a, 0)) : depN 200 n ≤ 200 := by
  obtain ⟨_, h1⟩ := parseV_ok h
  obtain ⟨_, _, _, h4, _⟩ := parseT_ok (tokens_fit L) h1
  exact h4

/-- two nodes in variables of their own -/
structure TwH (w W : World) (b g : Nat) (t X : Ny) (A : Option Addr) (c : Nat) (A1 : Option Addr) (c1 : Nat) : Prop where
  below : Below w.heap.size w W
  p0 : YP W b t A c
  p1 : YP W g X A1 c1
theorem TwH.call {w W W' : World} {b g : Nat} {t X : Ny} {A : Option Addr} {c : Nat} {A1 : Option Addr} {c1 : Nat} (H : TwH w W b g t X A c A1 c1) (hb : Below W.heap.size W W') : TwH w W' b g t X A c A1 c1 :=
  ⟨H.below.trans (hb.mono H.below.size), H.p0.below hb, H.p1.below hb⟩
theorem yields_ny {S : World → Prop} {ops : Array Oper} {op : Oper} {a : Act} {q o : Nat} {x : Ny} {A : Option Addr} {n c : Nat} (hS : ∀ W, S W → W.rangeAt q o (yCells x (.slice A n c))) (hw : Region.wanted op (yielded ops a.tmps) = true) (y : Operand) (ho : op.op = .load TN y) (hx : a.eval y = .pointer (some ⟨q, o, none⟩)) : YieldsIf Tryz.prog ops S op (yAgg x (.slice A n c)) a := by
  obtain ⟨d, hd, hrow⟩ := underN
  rw [y_agg]
  exact yieldsIf_load_mid hw TN y ho q o hx (yCells x (.slice A n c)) d hS hd hrow (by rw [sizeN]; rfl)
set_option maxHeartbeats 4000000 in
set_option maxRecDepth 100000 in
theorem syntaxDepths_walk (t : Ny) (A : Option Addr) (c : Nat) (s : ByteArray) (w : World) (hst : YS maxLen t) (ht : YT w t A c) (hs : s.size ≤ maxLen) (hT : Tabs w) (h10 : Tab10 w) : Calls Tryz.prog 3 #[yAgg t (.slice A t.kids.length c), .string s] w fun e w' => e = .returned (.bool true) ∧ Below w.heap.size w w' := by
  obtain ⟨n, r⟩ : ∃ n, n = parseV numE s.data.toList := ⟨_, rfl⟩
  obtain ⟨n, a, e⟩ := n
  obtain ⟨g1, g2⟩ := parseV_places _ r.symm
  have kp := fun W hb => par_ys hT h10 (L := s.data.toList) (by rw [str_len]; exact hs) r.symm W hb
  rw [str_back] at kp
  have hg1 : e = 0 → depY 200 (toY n) ≤ 200 := fun h0 => by subst h0; rw [depY_to]; exact parseV_depth _ r.symm
  have hg2 : e ≠ 0 → (toY n).kind = 0 := fun h0 => by rw [(g2 h0).1]; rfl
  generalize toY n = X1 at kp hg1 hg2
  have KP := Lib.hid kp
  have KS := Lib.hid (fun W (hb : Below w.heap.size w W) => syShown_any W (hT.below hb (Nat.le_refl _)) (h10.below hb))
  have G1 := Lib.hid hg1
  have G2 := Lib.hid hg2
  have k1 := fun (W : World) (h : YT W t A c) => yDepthTop t A c W hst h
  have k2 := fun (W : World) (h : YT W t A c) => yRefDepth_any 200 t A c W (by omega) hst h
  generalize depY 200 t = dk at k1 k2
  simp only [yAgg] at k1 k2
  have K1 := Lib.hid k1
  have K2 := Lib.hid (show ∀ W : World, YT W t A c → Calls Tryz.prog 11 #[.agg #[.int .i64 t.kind, .string ⟨t.text.toArray⟩, .slice A t.kids.length c], .int .i64 200] W (RetY (.int .i64 (dk : Int)) fun w' => Below W.heap.size W w') from k2)
  obtain ⟨W0, hW0⟩ : ∃ W0, W0 = w.alloc (.cells (yCells t (.slice A t.kids.length c)).toArray TN) := ⟨_, rfl⟩
  have P0 := Lib.hid (show YP W0 w.heap.size t A c by rw [hW0]; exact YP.made ht)
  have b0 := show Below w.heap.size w W0 by rw [hW0]; exact (Below.refl _ w).alloc (Nat.le_refl _) _
  have eW0 : W0 = w.alloc (.cells #[.int .i64 t.kind, .string ⟨t.text.toArray⟩, .slice A t.kids.length c] TN) := hW0
  clear g1 g2 hg1 hg2 kp hT h10 hs r k1 k2 ht hst hW0
  simp only [yAgg]
  go_enter Tryz.func3, Tryz.ntmps3
  go_upto_region 1 with fail
  rw [← eW0]
  clear eW0
  go_wp2_with (go_at_call 7; with_reducible refine (KS.out _ b0).mono ?_)
  rintro x w0 ⟨rfl, hb0⟩
  have B0 := Lib.hid (b0.trans (hb0.mono b0.size))
  have P0 := Lib.hid (P0.out.below hb0)
  clear b0 hb0
  obtain ⟨b, kg⟩ := syGreat_b s
  have KG := Lib.hid kg
  clear kg
  cases b
  case true =>
    go_wp2_with (go_at_call 8; with_reducible refine (KG.out _).mono ?_)
    rintro x w1 ⟨rfl, rfl⟩
    go_wp2
    go_ret
    exact ⟨rfl, B0.out⟩
  go_wp2_with (go_at_call 8; with_reducible refine (KG.out _).mono ?_)
  rintro x w1 ⟨rfl, rfl⟩
  clear KG
  go_wp2_with (go_at_call 9; with_reducible refine (KP.out _ B0.out).mono ?_)
  rintro x w1 ⟨⟨A1, c1, rfl, hk1, hb1⟩, hs1⟩
  obtain ⟨V1, hV1⟩ : ∃ V, V = w1.alloc (.cells (yCells X1 (.slice A1 X1.kids.length c1)).toArray TN) := ⟨_, rfl⟩
  have P1 := Lib.hid (show YP V1 w1.heap.size X1 A1 c1 by rw [hV1]; exact YP.made hk1)
  have s1 : Below w0.heap.size w0 V1 := by rw [hV1]; exact hb1.alloc hb1.size _
  have B1 := Lib.hid (B0.out.trans (s1.mono B0.out.size))
  have P0 := Lib.hid (P0.out.below s1)
  clear hk1 hb1 s1 B0
  simp only [yAgg]
  go_upto_region 5 with fail
  have e1 : V1 = w1.alloc (.cells #[.int .i64 X1.kind, .string ⟨X1.text.toArray⟩, .slice A1 X1.kids.length c1] TN) := hV1
  rw [← e1]
  clear e1 hV1
  have HH := Lib.hid (show TwH w V1.drew w.heap.size w1.heap.size t X1 A c A1 c1 from ⟨B1.out.drew, P0.out.below (Below.refl _ V1).drew, P1.out.below (Below.refl _ V1).drew⟩)
  clear P0 P1 B1
  generalize w1.heap.size = q1 at *
  by_cases h0 : e = 0
  · have hd := G1.out h0
    subst h0
    have k3 := fun (W : World) (h : YT W X1 A1 c1) => yDepthTop X1 A1 c1 W hs1 h
    generalize depY 200 X1 = dm at k3 hd
    simp only [yAgg] at k3
    have K3 := Lib.hid k3
    have z2 : decide ((dm : Int) ≤ 200) = true := decide_eq_true (by omega)
    clear G1 G2 hs1 k3 hd KP KS
    refine wp_region_held_drew (S := (fun Y => TwH w Y w.heap.size q1 t X1 A c A1 c1)) (by kernel_rfl) HH.out (fun hS0 => ?_)
    refine wpAnyH_take (i := 0) (v := Value.bool true) rfl (by kernel_rfl) (by kernel_rfl) (by kernel_rfl) (fun _ _ _ h => h) (.inl ⟨by kernel_rfl, fun _ _ => by go_simp⟩) hS0 ?_
    refine wpAnyH_take (i := 1) (v := Value.bool true) rfl (by kernel_rfl) (by kernel_rfl) (by kernel_rfl) (fun _ _ _ h => h) (.inl ⟨by kernel_rfl, fun _ _ => by go_simp⟩) hS0 ?_
    refine wpAnyH_take (i := 2) (v := yAgg t (.slice A t.kids.length c)) rfl (by kernel_rfl) (by kernel_rfl) (by kernel_rfl) (fun _ _ _ h => h) (yields_ny (fun _ H => range_of H.p0.heap) (by kernel_rfl) (.tmp 2) (by kernel_rfl) (by kernel_rfl)) hS0 ?_
    refine wpAnyH_take (i := 4) (v := yAgg t (.slice A t.kids.length c)) rfl (by kernel_rfl) (by kernel_rfl) (by kernel_rfl) (fun _ _ _ h => h) (yields_ny (fun _ H => range_of H.p0.heap) (by kernel_rfl) (.tmp 2) (by kernel_rfl) (by kernel_rfl)) hS0 ?_
    try simp only [yAgg]
    refine wpAnyH_ready (rs := [3]) (by kernel_rfl) (by simp) ?_
    refine AllReadyH.cons rfl ?_ AllReadyH.nil
    intro K hK
    go_simp
    go_at_call 10
    with_reducible refine (K1.out _ hS0.p0.kids).mono ?_
    rintro x w5 ⟨rfl, hb5⟩
    try dsimp only
    refine hK.out _ _ (hS0.call hb5) (fun hS0 => ?_)
    clear hK K
    try simp only [yAgg]
    refine wpAnyH_ready (rs := [5]) (by kernel_rfl) (by simp) ?_
    refine AllReadyH.cons rfl ?_ AllReadyH.nil
    intro K hK
    go_simp
    go_at_call 11
    with_reducible refine (K2.out _ hS0.p0.kids).mono ?_
    rintro x w6 ⟨rfl, hb6⟩
    try dsimp only
    refine hK.out _ _ (hS0.call hb6) (fun hS0 => ?_)
    clear hK K
    refine wpAnyH_take (i := 6) (v := Value.bool true) rfl (by kernel_rfl) (by kernel_rfl) (by kernel_rfl) (fun _ _ _ h => h) (.inl ⟨by kernel_rfl, fun _ _ => by go_simp⟩) hS0 ?_
    refine wpAnyH_take (i := 7) (v := Value.bool true) rfl (by kernel_rfl) (by kernel_rfl) (by kernel_rfl) (fun _ _ _ h => h) (.inl ⟨by kernel_rfl, fun _ _ => by go_simp⟩) hS0 ?_
    refine wpAnyH_take (i := 8) (v := Value.bool true) rfl (by kernel_rfl) (by kernel_rfl) (by kernel_rfl) (fun _ _ _ h => h) (.inl ⟨by kernel_rfl, fun _ _ => by go_simp⟩) hS0 ?_
    refine wpAnyH_take (i := 9) (v := Value.int .i64 0) rfl (by kernel_rfl) (by kernel_rfl) (by kernel_rfl) (fun _ _ _ h => h) (.inl ⟨by kernel_rfl, fun _ _ => by go_simp⟩) hS0 ?_
    refine wpAnyH_take (i := 10) (v := Value.bool false) rfl (by kernel_rfl) (by kernel_rfl) (by kernel_rfl) (fun _ _ _ h => h) (.inl ⟨by kernel_rfl, fun _ _ => by go_simp⟩) hS0 ?_
    refine wpAnyH_take (i := 11) (v := Value.bool false) rfl (by kernel_rfl) (by kernel_rfl) (by kernel_rfl) (fun _ _ _ h => h) (.inl ⟨by kernel_rfl, fun _ _ => by go_simp⟩) hS0 ?_
    refine wpAnyH_take (i := 12) (v := undef) rfl (by kernel_rfl) (by kernel_rfl) (by kernel_rfl) (fun _ _ _ h => h) (.inr ⟨by kernel_rfl, rfl⟩) hS0 ?_
    refine wpAnyH_take (i := 13) (v := undef) rfl (by kernel_rfl) (by kernel_rfl) (by kernel_rfl) (fun _ _ _ h => h) (.inr ⟨by kernel_rfl, rfl⟩) hS0 ?_
    refine wpAnyH_take (i := 14) (v := undef) rfl (by kernel_rfl) (by kernel_rfl) (by kernel_rfl) (fun _ _ _ h => h) (.inr ⟨by kernel_rfl, rfl⟩) hS0 ?_
    refine wpAnyH_take (i := 15) (v := Value.bool false) rfl (by kernel_rfl) (by kernel_rfl) (by kernel_rfl) (fun _ _ _ h => h) (.inl ⟨by kernel_rfl, fun _ _ => by go_simp⟩) hS0 ?_
    refine wpAnyH_take (i := 16) (v := Value.bool false) rfl (by kernel_rfl) (by kernel_rfl) (by kernel_rfl) (fun _ _ _ h => h) (.inl ⟨by kernel_rfl, fun _ _ => by go_simp⟩) hS0 ?_
    refine wpAnyH_take (i := 17) (v := Value.int .i64 0) rfl (by kernel_rfl) (by kernel_rfl) (by kernel_rfl) (fun _ _ _ h => h) (.inl ⟨by kernel_rfl, fun _ _ => by go_simp⟩) hS0 ?_
    refine wpAnyH_take (i := 18) (v := Value.bool true) rfl (by kernel_rfl) (by kernel_rfl) (by kernel_rfl) (fun _ _ _ h => h) (.inl ⟨by kernel_rfl, fun _ _ => by go_simp⟩) hS0 ?_
    refine wpAnyH_take (i := 19) (v := Value.bool true) rfl (by kernel_rfl) (by kernel_rfl) (by kernel_rfl) (fun _ _ _ h => h) (.inl ⟨by kernel_rfl, fun _ _ => by go_simp⟩) hS0 ?_
    refine wpAnyH_take (i := 20) (v := yAgg X1 (.slice A1 X1.kids.length c1)) rfl (by kernel_rfl) (by kernel_rfl) (by kernel_rfl) (fun _ _ _ h => h) (yields_ny (fun _ H => range_of H.p1.heap) (by kernel_rfl) (.tmp 6) (by kernel_rfl) (by kernel_rfl)) hS0 ?_
    try simp only [yAgg]
    refine wpAnyH_ready (rs := [21]) (by kernel_rfl) (by simp) ?_
    refine AllReadyH.cons rfl ?_ AllReadyH.nil
    intro K hK
    go_simp
    go_at_call 10
    with_reducible refine (K3.out _ hS0.p1.kids).mono ?_
    rintro x w7 ⟨rfl, hb7⟩
    try dsimp only
    refine hK.out _ _ (hS0.call hb7) (fun hS0 => ?_)
    clear hK K
    refine wpAnyH_take (i := 22) (v := Value.bool true) rfl (by kernel_rfl) (by kernel_rfl) (by kernel_rfl) (fun _ _ _ h => h) (.inl ⟨by kernel_rfl, fun _ _ => by go_simp⟩) hS0 ?_
    refine wpAnyH_take (i := 23) (v := Value.bool true) rfl (by kernel_rfl) (by kernel_rfl) (by kernel_rfl) (fun _ _ _ h => h) (.inl ⟨by kernel_rfl, fun _ _ => by go_simp⟩) hS0 ?_
    refine wpAnyH_take (i := 24) (v := Value.bool true) rfl (by kernel_rfl) (by kernel_rfl) (by kernel_rfl) (fun _ _ _ h => h) (.inl ⟨by kernel_rfl, fun _ _ => by go_simp⟩) hS0 ?_
    refine wpAnyH_take (i := 25) (v := Value.bool true) rfl (by kernel_rfl) (by kernel_rfl) (by kernel_rfl) (fun _ _ _ h => h) (.inl ⟨by kernel_rfl, fun _ _ => by go_simp⟩) hS0 ?_
    have HF := Lib.hid hS0
    refine wpAnyH_ready (rs := [26]) (by kernel_rfl) (by simp) ?_
    refine AllReadyH.cons rfl ?_ AllReadyH.nil
    intro K hK
    go_simp
    try dsimp only
    refine hK.out _ _ hS0 (fun hS0 => ?_)
    clear hK K
    refine wpAnyH_done (by kernel_rfl) ?_ _
    go_wp2
    go_ret
    exact ⟨rfl, HF.out.below⟩
  · have hk := G2.out h0
    have x0 : ((e : Int) == 0) = false := beq_false_of_ne (by omega)
    have x1 : ¬ (e : Int) = 0 := by omega
    clear G1 G2 hs1 KP KS
    refine wp_region_held_drew (S := (fun Y => TwH w Y w.heap.size q1 t X1 A c A1 c1)) (by kernel_rfl) HH.out (fun hS0 => ?_)
    refine wpAnyH_take (i := 0) (v := Value.bool true) rfl (by kernel_rfl) (by kernel_rfl) (by kernel_rfl) (fun _ _ _ h => h) (.inl ⟨by kernel_rfl, fun _ _ => by go_simp⟩) hS0 ?_
    refine wpAnyH_take (i := 1) (v := Value.bool true) rfl (by kernel_rfl) (by kernel_rfl) (by kernel_rfl) (fun _ _ _ h => h) (.inl ⟨by kernel_rfl, fun _ _ => by go_simp⟩) hS0 ?_
    refine wpAnyH_take (i := 2) (v := yAgg t (.slice A t.kids.length c)) rfl (by kernel_rfl) (by kernel_rfl) (by kernel_rfl) (fun _ _ _ h => h) (yields_ny (fun _ H => range_of H.p0.heap) (by kernel_rfl) (.tmp 2) (by kernel_rfl) (by kernel_rfl)) hS0 ?_
    refine wpAnyH_take (i := 4) (v := yAgg t (.slice A t.kids.length c)) rfl (by kernel_rfl) (by kernel_rfl) (by kernel_rfl) (fun _ _ _ h => h) (yields_ny (fun _ H => range_of H.p0.heap) (by kernel_rfl) (.tmp 2) (by kernel_rfl) (by kernel_rfl)) hS0 ?_
    try simp only [yAgg]
    refine wpAnyH_ready (rs := [3]) (by kernel_rfl) (by simp) ?_
    refine AllReadyH.cons rfl ?_ AllReadyH.nil
    intro K hK
    go_simp
    go_at_call 10
    with_reducible refine (K1.out _ hS0.p0.kids).mono ?_
    rintro x w5 ⟨rfl, hb5⟩
    try dsimp only
    refine hK.out _ _ (hS0.call hb5) (fun hS0 => ?_)
    clear hK K
    try simp only [yAgg]
    refine wpAnyH_ready (rs := [5]) (by kernel_rfl) (by simp) ?_
    refine AllReadyH.cons rfl ?_ AllReadyH.nil
    intro K hK
    go_simp
    go_at_call 11
    with_reducible refine (K2.out _ hS0.p0.kids).mono ?_
    rintro x w6 ⟨rfl, hb6⟩
    try dsimp only
    refine hK.out _ _ (hS0.call hb6) (fun hS0 => ?_)
    clear hK K
    refine wpAnyH_take (i := 6) (v := Value.bool true) rfl (by kernel_rfl) (by kernel_rfl) (by kernel_rfl) (fun _ _ _ h => h) (.inl ⟨by kernel_rfl, fun _ _ => by go_simp⟩) hS0 ?_
    refine wpAnyH_take (i := 7) (v := Value.bool true) rfl (by kernel_rfl) (by kernel_rfl) (by kernel_rfl) (fun _ _ _ h => h) (.inl ⟨by kernel_rfl, fun _ _ => by go_simp⟩) hS0 ?_
    refine wpAnyH_take (i := 8) (v := Value.bool true) rfl (by kernel_rfl) (by kernel_rfl) (by kernel_rfl) (fun _ _ _ h => h) (.inl ⟨by kernel_rfl, fun _ _ => by go_simp⟩) hS0 ?_
    refine wpAnyH_take (i := 9) (v := Value.int .i64 (e : Int)) rfl (by kernel_rfl) (by kernel_rfl) (by kernel_rfl) (fun _ _ _ h => h) (.inl ⟨by kernel_rfl, fun _ _ => by go_simp⟩) hS0 ?_
    refine wpAnyH_take (i := 10) (v := Value.bool true) rfl (by kernel_rfl) (by kernel_rfl) (by kernel_rfl) (fun _ _ _ h => h) (.inl ⟨by kernel_rfl, fun _ _ => by go_simp⟩) hS0 ?_
    refine wpAnyH_take (i := 11) (v := Value.bool true) rfl (by kernel_rfl) (by kernel_rfl) (by kernel_rfl) (fun _ _ _ h => h) (.inl ⟨by kernel_rfl, fun _ _ => by go_simp⟩) hS0 ?_
    refine wpAnyH_take (i := 12) (v := Value.pointer (some ⟨q1, 0, none⟩)) rfl (by kernel_rfl) (by kernel_rfl) (by kernel_rfl) (fun _ _ _ h => h) (.inl ⟨by kernel_rfl, fun _ _ => by go_simp⟩) hS0 ?_
    refine wpAnyH_take (i := 13) (v := Value.int .i64 0) rfl (by kernel_rfl) (by kernel_rfl) (by kernel_rfl) (fun _ _ _ h => h) (.inl ⟨by kernel_rfl, fun _ H => by have cX := (H.p1.all.1.trans (by rw [hk])); go_simp⟩) hS0 ?_
    refine wpAnyH_take (i := 14) (v := Value.bool true) rfl (by kernel_rfl) (by kernel_rfl) (by kernel_rfl) (fun _ _ _ h => h) (.inl ⟨by kernel_rfl, fun _ _ => by go_simp⟩) hS0 ?_
    refine wpAnyH_take (i := 15) (v := Value.bool true) rfl (by kernel_rfl) (by kernel_rfl) (by kernel_rfl) (fun _ _ _ h => h) (.inl ⟨by kernel_rfl, fun _ _ => by go_simp⟩) hS0 ?_
    refine wpAnyH_take (i := 16) (v := Value.bool true) rfl (by kernel_rfl) (by kernel_rfl) (by kernel_rfl) (fun _ _ _ h => h) (.inl ⟨by kernel_rfl, fun _ _ => by go_simp⟩) hS0 ?_
    refine wpAnyH_take (i := 17) (v := undef) rfl (by kernel_rfl) (by kernel_rfl) (by kernel_rfl) (fun _ _ _ h => h) (.inr ⟨by kernel_rfl, rfl⟩) hS0 ?_
    refine wpAnyH_take (i := 18) (v := undef) rfl (by kernel_rfl) (by kernel_rfl) (by kernel_rfl) (fun _ _ _ h => h) (.inr ⟨by kernel_rfl, rfl⟩) hS0 ?_
    refine wpAnyH_take (i := 19) (v := undef) rfl (by kernel_rfl) (by kernel_rfl) (by kernel_rfl) (fun _ _ _ h => h) (.inr ⟨by kernel_rfl, rfl⟩) hS0 ?_
    refine wpAnyH_take (i := 20) (v := undef) rfl (by kernel_rfl) (by kernel_rfl) (by kernel_rfl) (fun _ _ _ h => h) (.inr ⟨by kernel_rfl, rfl⟩) hS0 ?_
    refine wpAnyH_take (i := 21) (v := undef) rfl (by kernel_rfl) (by kernel_rfl) (by kernel_rfl) (fun _ _ _ h => h) (.inr ⟨by kernel_rfl, rfl⟩) hS0 ?_
    refine wpAnyH_take (i := 22) (v := undef) rfl (by kernel_rfl) (by kernel_rfl) (by kernel_rfl) (fun _ _ _ h => h) (.inr ⟨by kernel_rfl, rfl⟩) hS0 ?_
    refine wpAnyH_take (i := 23) (v := undef) rfl (by kernel_rfl) (by kernel_rfl) (by kernel_rfl) (fun _ _ _ h => h) (.inr ⟨by kernel_rfl, rfl⟩) hS0 ?_
    refine wpAnyH_take (i := 24) (v := Value.bool true) rfl (by kernel_rfl) (by kernel_rfl) (by kernel_rfl) (fun _ _ _ h => h) (.inl ⟨by kernel_rfl, fun _ _ => by go_simp⟩) hS0 ?_
    refine wpAnyH_take (i := 25) (v := Value.bool true) rfl (by kernel_rfl) (by kernel_rfl) (by kernel_rfl) (fun _ _ _ h => h) (.inl ⟨by kernel_rfl, fun _ _ => by go_simp⟩) hS0 ?_
    have HF := Lib.hid hS0
    refine wpAnyH_ready (rs := [26]) (by kernel_rfl) (by simp) ?_
    refine AllReadyH.cons rfl ?_ AllReadyH.nil
    intro K hK
    go_simp
    try dsimp only
    refine hK.out _ _ hS0 (fun hS0 => ?_)
    clear hK K
    refine wpAnyH_done (by kernel_rfl) ?_ _
    go_wp2
    go_ret
    exact ⟨rfl, HF.out.below⟩

end Go.Proofs.YtbgmdkjhegacjaaGreatDoor
