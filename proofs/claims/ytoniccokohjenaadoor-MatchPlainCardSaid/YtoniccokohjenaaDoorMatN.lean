/-
  The walk of match's alt, its lay given (chapter 19).
-/
import Derived.Test.YtoniccokohjenaaDoorMatM
namespace Go.Proofs.YtoniccokohjenaaDoor
open Go.RowKit

/-- what was laid behind zs -/
def LaidP (w0 : World) (g : Nat) (zs : List (Stp × Value)) (f : Nat → List Stp) (w w' : World) : Prop := ∃ new, MkB w0 w' g (zs ++ new) ∧ new.map Prod.fst = f zs.length ∧ OffM w w'
def LayOk (w0 : World) (x : Rx) : Prop := ∀ (g : Nat) (zs : List (Stp × Value)) (A : Option Addr) (c : Nat) (w : World), MkB w0 w g zs → KT w0 x A c → zs.length + (layR x 0).length ≤ 30000 →
  Calls Tryd.prog 13 #[.pointer (some ⟨g, 0, none⟩), rxAgg x (.slice A x.kids.length c)] w (RetE (.tuple #[]) (LaidP w0 g zs (layR x) w))
/-- parts in a row of w0 -/
def KidsAt (w0 : World) (q o : Nat) (ks : List Rx) : Prop := ∀ i k, ks[i]? = some k → ∃ A' c', w0.rangeAt q (o + i * 10) (rxCells k (.slice A' k.kids.length c')) ∧ KT w0 k A' c'
theorem KidsAt.tail {w0 : World} {q o : Nat} {k : Rx} {ks : List Rx} (h : KidsAt w0 q o (k :: ks)) : KidsAt w0 q (o + 10) ks := fun i y hi => by
  obtain ⟨A, c, h1, h2⟩ := h (i + 1) y hi
  exact ⟨A, c, by rw [show o + 10 + i * 10 = o + (i + 1) * 10 by omega]; exact h1, h2⟩
theorem range_below {w0 w : World} {q o : Nat} {vs : List Value} (h : w0.rangeAt q o vs) (hb : Below w0.heap.size w0 w) : w.rangeAt q o vs := fun j v hj => by
  have h1 := h j v hj
  exact (hb.cell (p := ⟨q, o + j, none⟩) (World.block_lt_of_cell? w0 ⟨q, o + j, none⟩ h1)).trans h1
theorem MkB.slice {w0 W : World} {g : Nat} {zs : List (Stp × Value)} (h : MkB w0 W g zs) : ∃ A cap, W.cell? ⟨g, 0, none⟩ = some (.slice A zs.length cap) := by
  obtain ⟨A, cap, h1, _⟩ := h.row
  exact ⟨A, cap, mk_cell h1⟩
/-- one way is stored -/
theorem sts_set1 (zs : List (Stp × Value)) (i a : Nat) (h : i < zs.length) : (stsCells zs).set (i * 13 + 11) (.int .i64 (a : Int)) = stsCells (zs.set i (stWays zs[i] a zs[i].1.b)) := by
  rw [← sts_set zs i a zs[i].1.b h]
  have hb : ((stsCells zs).set (i * 13 + 11) (.int .i64 (a : Int)))[i * 13 + 12]? = some (.int .i64 (zs[i].1.b : Int)) := by
    rw [List.getElem?_set_ne (by omega)]
    clear a
    induction zs generalizing i with
    | nil => exact absurd h (Nat.not_lt_zero _)
    | cons z zs ih =>
      have e : stsCells (z :: zs) = stCells z ++ stsCells zs := rfl
      have hl : (stCells z).length = 13 := rfl
      cases i with
      | zero => rw [e, List.getElem?_append_left (by rw [hl]; omega)]; rfl
      | succ i =>
        rw [e, List.getElem?_append_right (by rw [hl]; omega), hl, show (i + 1) * 13 + 12 - 13 = i * 13 + 12 by omega]
        exact ih i (by simpa using h)
  have hlt := (List.getElem?_eq_some_iff.1 hb).1
  have hv := (List.getElem?_eq_some_iff.1 hb).2
  conv => lhs; rw [← List.set_getElem_self hlt]
  rw [hv]
theorem MkB.jumped {w0 W : World} {g : Nat} {zs : List (Stp × Value)} (h : MkB w0 W g zs) {i : Nat} {z : Stp × Value} (hi : zs[i]? = some z) (a : Nat) :
    ∃ q cap, W.heap[g]? = some (.cells #[.slice (some ⟨q, 0, none⟩) zs.length cap] TMk (0, 0)) ∧ q ≠ g ∧ zs.length ≤ cap ∧ (∃ cs, W.heap[q]? = some (.cells cs TS (0, 0)) ∧ i * 13 + 12 < cs.size) ∧
      MkB w0 (W.setCell ⟨q, i * 13 + 11, none⟩ (.int .i64 (a : Int))) g (zs.set i (stWays z a z.1.b)) ∧ OffM W (W.setCell ⟨q, i * 13 + 11, none⟩ (.int .i64 (a : Int))) := by
  obtain ⟨hil, hz⟩ := getE hi
  obtain ⟨A, cap, hg, hrow⟩ := h.row
  rcases hrow.2 with ⟨_, h0⟩ | ⟨q, cap', cur, hv, hq, hh, hcap, hmx, hcs, htk⟩
  · omega
  injection hv with e1 e2 e3
  subst e1 e3
  have r1 := (hrow.stored (i * 13 + 11) (.int .i64 (a : Int))).1
  have hqg : q ≠ g := by omega
  refine ⟨q, cap, hg, hqg, hcap, ⟨cur, hh, ?_⟩, ⟨h.below.setCell (p := ⟨q, i * 13 + 11, none⟩) (by have := h.lo; show w0.heap.size ≤ q; omega) _, h.lo, ⟨some ⟨q, 0, none⟩, cap, ?_, ?_⟩, ?_⟩, ?_⟩
  · rw [hcs]
    have : (i + 1) * 13 ≤ cap * 13 := Nat.mul_le_mul_right _ (by omega)
    omega
  · rw [List.length_set]
    exact (rheap_far (p := ⟨q, i * 13 + 11, none⟩) hqg).trans hg
  · rw [List.length_set]
    rw [sts_set1 zs i a hil, hz] at r1
    exact r1
  · intro y hy
    rcases List.mem_or_eq_of_mem_set hy with hy | rfl
    · exact h.form y hy
    · obtain ⟨A', c', e, hk⟩ := h.form z (List.mem_of_getElem? hi)
      exact ⟨A', c', e, hk⟩
  · intro k c T zz h1 h2 hk
    have hkq : q ≠ k := fun e => by subst e; rw [hh] at hk; injection hk with hk; injection hk with _ hk _; exact h2 hk.symm
    exact (rheap_far (p := ⟨q, i * 13 + 11, none⟩) hkq).trans hk

def AltOk' (w0 : World) (ks : List Rx) : Prop := ∀ (g : Nat) (zs : List (Stp × Value)) (q o cap : Nat) (w : World), MkB w0 w g zs → KidsAt w0 q o ks → ks.length ≤ cap → cap ≤ 9223372036854775807 → zs.length + (layAlt ks 0).length ≤ 30000 →
  Calls Tryd.prog 26 #[.pointer (some ⟨g, 0, none⟩), .slice (some ⟨q, o, none⟩) ks.length cap] w (RetE (.tuple #[]) (LaidP w0 g zs (layAlt ks) w))
theorem kid_len (k : Rx) (ks : List Rx) (h : ks ≠ []) : (layAlt (k :: ks) 0).length = (layR k 0).length + (layAlt ks 0).length + 2 := by
  rw [layAlt]
  have : ks.isEmpty = false := by cases ks with
    | nil => exact absurd rfl h
    | cons _ _ => rfl
  rw [this]
  simp only [Bool.false_eq_true, if_false, List.length_cons, List.length_append]
  rw [lay_len k (0 + 1), altL_len ks (0 + 1 + (layR k 0).length + 1)]
  omega

set_option maxHeartbeats 4000000 in
set_option maxRecDepth 100000 in
theorem mtAlt_one (w0 : World) (k : Rx) (hk : LayOk w0 k) : AltOk' w0 [k] := fun g zs q o cap w h hks hcl hc hlen => by
  have hl : layAlt [k] = layR k := by funext p; rw [layAlt]; rfl
  rw [hl] at hlen ⊢
  obtain ⟨A, c, r1, k1⟩ := hks 0 k rfl
  rw [Nat.zero_mul, Nat.add_zero] at r1
  have KC := Lib.hid (hk g zs A c w h k1 hlen)
  obtain ⟨e0, e1, e2, e3, e4, e5, e6, e7, e8, e9⟩ := rx_at (range_below r1 h.below)
  clear hks r1 k1 h hk hl
  simp only [rxAgg] at KC
  simp only [List.length_singleton]
  go_enter Tryd.func26, Tryd.ntmps26
  go_wp2_with (go_at_call 13; with_reducible refine (KC.out).mono ?_)
  rintro e w1 ⟨rfl, h1⟩
  have H1 := Lib.hid h1
  clear h1
  go_wp2
  refine bodyPost_ret (v := .tuple #[]) (by simp [results, Tryd.results26]) rfl ?_
  exact ⟨rfl, H1.out⟩


theorem alt_list {α : Type} (zs n1 n2 : List α) (F0 F J0 J : α) (i j : Nat) (hi : i = zs.length) (hj : j = zs.length + 1 + n1.length) : ((((zs ++ [F0] ++ n1 ++ [J0]).set i F) ++ n2).set j J) = zs ++ (F :: (n1 ++ J :: n2)) := by
  subst hi hj
  have h1 : zs ++ [F0] ++ n1 ++ [J0] = zs ++ (F0 :: (n1 ++ [J0])) := by simp
  rw [h1, List.set_append_right _ _ (Nat.le_refl _), Nat.sub_self, List.set_cons_zero]
  have h2 : zs ++ (F :: (n1 ++ [J0])) ++ n2 = (zs ++ [F] ++ n1) ++ (J0 :: n2) := by simp
  have hl : (zs ++ [F] ++ n1).length = zs.length + 1 + n1.length := by simp; omega
  rw [h2, List.set_append_right _ _ (by omega), hl, Nat.sub_self, List.set_cons_zero]
  simp
def zF0 : Stp × Value := (⟨1, rxNone, 0, 0⟩, .slice none 0 0)
def zJ0 : Stp × Value := (⟨2, rxNone, 0, 0⟩, .slice none 0 0)

set_option maxHeartbeats 4000000 in
set_option maxRecDepth 100000 in
theorem mtAlt_step (w0 : World) (k : Rx) (ks : List Rx) (hne : ks ≠ []) (hk : LayOk w0 k) (ih : AltOk' w0 ks) : AltOk' w0 (k :: ks) := fun g zs q o cap w h hks hcl hc hlen => by
  rw [kid_len k ks hne] at hlen
  obtain ⟨A, c, r1, k1⟩ := hks 0 k rfl
  rw [Nat.zero_mul, Nat.add_zero] at r1
  have HR1 := Lib.hid r1
  have HK1 := Lib.hid k1
  have HKT := Lib.hid hks.tail
  have HKL := Lib.hid hk
  have HIH := Lib.hid ih
  have hll := lay_len k
  have hal := altL_len ks
  have HLL := Lib.hid hll
  have HAL := Lib.hid hal
  obtain ⟨n, hn⟩ : ∃ n, n = ks.length := ⟨_, rfl⟩
  have hn1 : 1 ≤ n := by rw [hn]; exact List.length_pos_iff.2 hne
  have HN := Lib.hid hn
  have hl1 : (k :: ks).length = n + 1 := by rw [List.length_cons, hn]
  rw [hl1] at hcl ⊢
  have HNE := Lib.hid hne
  have z1 : (((n + 1 : Nat) : Int) == 1) = false := beq_false_of_ne (by omega)
  obtain ⟨lk, hlk⟩ : ∃ m, m = (layR k 0).length := ⟨_, rfl⟩
  obtain ⟨lr, hlr⟩ : ∃ m, m = (layAlt ks 0).length := ⟨_, rfl⟩
  rw [← hlk, ← hlr] at hlen
  have HLK := Lib.hid hlk
  have HLR := Lib.hid hlr
  obtain ⟨L0, hL0⟩ : ∃ m, m = zs.length := ⟨_, rfl⟩
  rw [← hL0] at hlen
  have HL0 := Lib.hid hL0
  have KP1 := Lib.hid (show Calls Tryd.prog 14 #[.pointer (some ⟨g, 0, none⟩), .agg #[.int .i64 1, .int .i64 0, .int .i64 0, .int .i64 0, .slice none 0 0, .int .i64 0, .int .i64 0, .bool false, .bool false, .int .i64 0, .string ⟨#[]⟩, .int .i64 0, .int .i64 0]] w (RetE (.int .i64 (L0 : Int)) fun w' => MkB w0 w' g (zs ++ [zF0]) ∧ OffM w w') from by
    rw [hL0]; exact mtPut_any zF0 w h (TzS.plain w0 1 0 0) (by omega))
  clear hks r1 k1 h hk ih hne hll hal hlk hlr hL0 hn hl1
  go_enter Tryd.func26, Tryd.ntmps26
  go_wp2_with (go_at_call 14; with_reducible refine (KP1.out).mono ?_)
  rintro e w1 ⟨rfl, h1, o1⟩
  have H1 := Lib.hid h1
  have O1 := Lib.hid o1
  have hzl1 : (zs ++ [zF0]).length = L0 + 1 := by rw [List.length_append, HL0.out]; rfl
  have HZ1 := Lib.hid hzl1
  have KL := Lib.hid (HKL.out g (zs ++ [zF0]) A c w1 h1 HK1.out (by rw [hzl1, ← HLK.out]; omega))
  obtain ⟨e0, e1, e2, e3, e4, e5, e6, e7, e8, e9⟩ := rx_at (range_below HR1.out h1.below)
  simp only [rxAgg] at KL
  clear h1 o1 hzl1 KP1
  go_wp2_with (go_at_call 13; with_reducible refine (KL.out).mono ?_)
  rintro e w2 ⟨rfl, n1, h2, m2, o2⟩
  have hnl : n1.length = lk := by
    have := congrArg List.length m2
    rw [List.length_map, HLL.out] at this
    rw [this]; exact HLK.out.symm
  obtain ⟨p2, hp2⟩ : ∃ p, p = L0 + 1 + lk := ⟨_, rfl⟩
  have hzl2 : (zs ++ [zF0] ++ n1).length = p2 := by rw [List.length_append, HZ1.out, hnl, hp2]
  have HP2 := Lib.hid hp2
  have hp2b : p2 ≤ 30000 := by omega
  have KP2 := Lib.hid (show Calls Tryd.prog 14 #[.pointer (some ⟨g, 0, none⟩), .agg #[.int .i64 2, .int .i64 0, .int .i64 0, .int .i64 0, .slice none 0 0, .int .i64 0, .int .i64 0, .bool false, .bool false, .int .i64 0, .string ⟨#[]⟩, .int .i64 0, .int .i64 0]] w2 (RetE (.int .i64 (p2 : Int)) fun w' => MkB w0 w' g (zs ++ [zF0] ++ n1 ++ [zJ0]) ∧ OffM w2 w') from by
    rw [← hzl2]; exact mtPut_any zJ0 w2 h2 (TzS.plain w0 2 0 0) (by omega))
  have M2 := Lib.hid (show n1.map Prod.fst = layR k (L0 + 1) by rw [m2, HZ1.out])
  have O2 := Lib.hid (O1.out.trans o2)
  have HZ2 := Lib.hid hzl2
  have HNL := Lib.hid hnl
  clear h2 m2 o2 O1 H1 KL hzl2 hnl hp2 e0 e1 e2 e3 e4 e5 e6 e7 e8 e9
  go_wp2_with (go_at_call 14; with_reducible refine (KP2.out).mono ?_)
  rintro e w3 ⟨rfl, h3, o3⟩
  obtain ⟨p3, hp3⟩ : ∃ p, p = p2 + 1 := ⟨_, rfl⟩
  have hzl3 : (zs ++ [zF0] ++ n1 ++ [zJ0]).length = p3 := by rw [List.length_append, HZ2.out, hp3]; rfl
  have HP3 := Lib.hid hp3
  have hf0 : (zs ++ [zF0] ++ n1 ++ [zJ0])[L0]? = some zF0 := by
    rw [HL0.out]; simp
  have KF := Lib.hid (show Calls Tryd.prog 34 #[.pointer (some ⟨g, 0, none⟩), .int .i64 (L0 : Int), .int .i64 ((L0 + 1 : Nat) : Int), .int .i64 (p3 : Int), .bool false] w3 (RetE (.tuple #[]) fun w' => MkB w0 w' g ((zs ++ [zF0] ++ n1 ++ [zJ0]).set L0 (stWays zF0 (L0 + 1) p3)) ∧ OffM w3 w') from
    mtFork_any L0 (L0 + 1) p3 false w3 h3 hf0)
  obtain ⟨gA, gc, cG⟩ := h3.slice
  rw [hzl3] at cG
  have O3 := Lib.hid (O2.out.trans o3)
  have e1 : ((L0 + 1 : Nat) : Int) = (L0 : Int) + 1 := by omega
  rw [e1] at KF
  clear h3 o3 O2 KP2 hf0 e1 hp3
  go_wp2_with (go_at_call 34; with_reducible refine (KF.out).mono ?_)
  rintro e w4 ⟨rfl, h4, o4⟩
  have hzl4 : ((zs ++ [zF0] ++ n1 ++ [zJ0]).set L0 (stWays zF0 (L0 + 1) p3)).length = p3 := by rw [List.length_set, hzl3]
  have KA := Lib.hid (HIH.out g _ q (o + 10) (cap - 1) w4 h4 HKT.out (by rw [← HN.out]; omega) (by omega) (by rw [hzl4, ← HLR.out]; have := HP3.out; have := HP2.out; omega))
  rw [← HN.out] at KA
  have O4 := Lib.hid (O3.out.trans o4)
  have HZ4 := Lib.hid hzl4
  clear h4 o4 O3 KF cG hzl3 hzl4
  clear z1
  go_wp2_with (go_at_call 26; with_reducible refine (KA.out).mono ?_)
  rintro e w5 ⟨rfl, n2, h5, m5, o5⟩
  have hnr : n2.length = lr := by
    have := congrArg List.length m5
    rw [List.length_map, HAL.out] at this
    rw [this]; exact HLR.out.symm
  obtain ⟨z5, hz5⟩ : ∃ l, l = (zs ++ [zF0] ++ n1 ++ [zJ0]).set L0 (stWays zF0 (L0 + 1) p3) ++ n2 := ⟨_, rfl⟩
  obtain ⟨p5, hp5⟩ : ∃ p, p = p3 + lr := ⟨_, rfl⟩
  have hzl5 : z5.length = p5 := by rw [hz5, List.length_append, HZ4.out, hnr, hp5]
  have hj5 : z5[p2]? = some zJ0 := by
    have e1 : (zs ++ [zF0] ++ n1 ++ [zJ0])[p2]? = some zJ0 := by rw [← HZ2.out]; simp
    have hlt : p2 < (zs ++ [zF0] ++ n1 ++ [zJ0]).length := (List.getElem?_eq_some_iff.1 e1).1
    rw [hz5, List.getElem?_append_left (by rw [List.length_set]; exact hlt), List.getElem?_set_ne (by have := HP2.out; omega)]
    exact e1
  rw [← hz5] at h5
  obtain ⟨q5, cap5, hg5, hqg5, hcap5, hcs5, hm5, hoff5⟩ := h5.jumped hj5 p5
  rw [hzl5] at hg5 hcap5
  have HG5 := Lib.hid hg5
  have HQG := Lib.hid hqg5
  have HCS := Lib.hid hcs5
  have HM := Lib.hid hm5
  have HOF := Lib.hid ((O4.out.trans o5).trans hoff5)
  have M5 := Lib.hid (show n2.map Prod.fst = layAlt ks p3 by rw [m5, HZ4.out])
  have HZ5 := Lib.hid hz5
  have HZL5 := Lib.hid hzl5
  have HP5 := Lib.hid hp5
  have b1 : (0 : Int) ≤ (p2 : Int) := by omega
  have b2 : (p2 : Int) < (p5 : Int) := by have := HP3.out; omega
  clear h5 m5 o5 O4 KA hz5 hp5 hzl5 hj5 hg5 hqg5 hcs5 hm5 hoff5 hnr
  go_upto_region 7 with fail
  refine wp_region_held_drew (S := (fun Y => Y.heap[g]? = some (.cells #[.slice (some ⟨q5, 0, none⟩) p5 cap5] TMk (0, 0)) ∧ ∃ cs, Y.heap[q5]? = some (.cells cs TS (0, 0)) ∧ p2 * 13 + 12 < cs.size)) (by kernel_rfl) ⟨HG5.out, HCS.out⟩ (fun hS0 => ?_)
  refine wpAnyH_take (i := 0) (v := Value.pointer (some ⟨g, 0, none⟩)) rfl (by kernel_rfl) (by kernel_rfl) (by kernel_rfl) (fun _ _ _ h => h) (.inl ⟨by kernel_rfl, fun _ _ => by go_simp⟩) hS0 ?_
  refine wpAnyH_take (i := 1) (v := Value.pointer (some ⟨g, 0, none⟩)) rfl (by kernel_rfl) (by kernel_rfl) (by kernel_rfl) (fun _ _ _ h => h) (.inl ⟨by kernel_rfl, fun _ _ => by go_simp⟩) hS0 ?_
  refine wpAnyH_take (i := 2) (v := Value.pointer (some ⟨g, 0, none⟩)) rfl (by kernel_rfl) (by kernel_rfl) (by kernel_rfl) (fun _ _ _ h => h) (.inl ⟨by kernel_rfl, fun _ _ => by go_simp⟩) hS0 ?_
  refine wpAnyH_take (i := 3) (v := Value.slice (some ⟨q5, 0, none⟩) p5 cap5) rfl (by kernel_rfl) (by kernel_rfl) (by kernel_rfl) (fun _ _ _ h => h) (.inl ⟨by kernel_rfl, fun _ H => by have cX := (mk_cell H.1); go_simp⟩) hS0 ?_
  refine wpAnyH_take (i := 4) (v := Value.int .i64 (p2 : Int)) rfl (by kernel_rfl) (by kernel_rfl) (by kernel_rfl) (fun _ _ _ h => h) (.inl ⟨by kernel_rfl, fun _ _ => by go_simp⟩) hS0 ?_
  refine wpAnyH_take (i := 5) (v := Value.pointer (some ⟨g, 0, none⟩)) rfl (by kernel_rfl) (by kernel_rfl) (by kernel_rfl) (fun _ _ _ h => h) (.inl ⟨by kernel_rfl, fun _ _ => by go_simp⟩) hS0 ?_
  refine wpAnyH_take (i := 6) (v := Value.pointer (some ⟨g, 0, none⟩)) rfl (by kernel_rfl) (by kernel_rfl) (by kernel_rfl) (fun _ _ _ h => h) (.inl ⟨by kernel_rfl, fun _ _ => by go_simp⟩) hS0 ?_
  refine wpAnyH_take (i := 7) (v := Value.pointer (some ⟨g, 0, none⟩)) rfl (by kernel_rfl) (by kernel_rfl) (by kernel_rfl) (fun _ _ _ h => h) (.inl ⟨by kernel_rfl, fun _ _ => by go_simp⟩) hS0 ?_
  refine wpAnyH_take (i := 8) (v := Value.slice (some ⟨q5, 0, none⟩) p5 cap5) rfl (by kernel_rfl) (by kernel_rfl) (by kernel_rfl) (fun _ _ _ h => h) (.inl ⟨by kernel_rfl, fun _ H => by have cX := (mk_cell H.1); go_simp⟩) hS0 ?_
  refine wpAnyH_take (i := 9) (v := Value.int .i64 (p5 : Int)) rfl (by kernel_rfl) (by kernel_rfl) (by kernel_rfl) (fun _ _ _ h => h) (.inl ⟨by kernel_rfl, fun _ _ => by go_simp⟩) hS0 ?_
  refine wpAnyH_take (i := 10) (v := Value.pointer (some ⟨q5, p2 * 13, none⟩)) rfl (by kernel_rfl) (by kernel_rfl) (by kernel_rfl) (fun _ _ _ h => h) (.inl ⟨by kernel_rfl, fun _ _ => by go_simp⟩) hS0 ?_
  refine wpAnyH_take (i := 11) (v := Value.pointer (some ⟨q5, p2 * 13 + 11, none⟩)) rfl (by kernel_rfl) (by kernel_rfl) (by kernel_rfl) (fun _ _ _ h => h) (.inl ⟨by kernel_rfl, fun _ _ => by go_simp⟩) hS0 ?_
  obtain ⟨⟨u1, c1⟩, f1⟩ := cells_at hS0.2 (j := p2 * 13 + 11) (by omega)
  refine wpAnyH_ready (rs := [12]) (by kernel_rfl) (by simp) ?_
  refine AllReadyH.cons rfl ?_ AllReadyH.nil
  intro K hK
  go_simp
  try dsimp only
  refine hK.out _ _ ⟨(rheap_far (p := ⟨q5, p2 * 13 + 11, none⟩) HQG.out).trans hS0.1, cells_set hS0.2⟩ (fun hS0 => ?_)
  clear hK K
  clear c1 f1
  refine wpAnyH_done (by kernel_rfl) ?_ _
  go_wp2
  refine bodyPost_ret (v := .tuple #[]) (by simp [results, Tryd.results26]) rfl ?_
  have hfin := alt_list zs n1 n2 zF0 (stWays zF0 (L0 + 1) p3) zJ0 (stWays zJ0 p5 zJ0.1.b) L0 p2 HL0.out (by rw [HNL.out, ← HL0.out]; exact HP2.out)
  have hmk := HM.out.drew
  rw [HZ5.out, hfin] at hmk
  refine ⟨rfl, _, hmk, ?_, HOF.out⟩
  have hie : ks.isEmpty = false := by
    have := HNE.out
    cases ks with
    | nil => exact absurd rfl this
    | cons _ _ => rfl
  rw [layAlt, hie, ← HL0.out]
  simp only [Bool.false_eq_true, if_false, List.map_cons, List.map_append]
  rw [M2.out, M5.out, HLL.out (L0 + 1), HAL.out (L0 + 1 + (layR k 0).length + 1)]
  have e1 : L0 + 1 + (layR k 0).length + 1 = p3 := by rw [← HLK.out]; have := HP3.out; have := HP2.out; omega
  have e2 : p3 + (layAlt ks 0).length = p5 := by rw [← HLR.out]; exact HP5.out.symm
  rw [e1, e2]
  rfl

end Go.Proofs.YtoniccokohjenaaDoor
