/-
  The walk of match's size (chapter 19).
-/
import Derived.Test.YtoniccokohjenaaDoorMatC
import Derived.Test.YtoniccokohjenaaDoorMatZ
import Derived.Test.YtoniccokohjenaaDoorRegHl
namespace Go.Proofs.YtoniccokohjenaaDoor
open Go.RowKit

theorem LfS.gd {x : Rx} (h : LfS x) : Gd x := .leaf h.1 (by have := h.2; omega)
theorem Gd.kid {x : Rx} (h : Gd x) : ∀ k ∈ x.kids, Gd k := by
  cases h with
  | leaf h1 _ => rw [h1]; intro k hk; cases hk
  | set _ h2 => exact fun k hk => (h2 k hk).gd
  | seq _ h2 => exact h2
  | alt _ _ h2 => exact h2
  | rep _ h2 h3 _ _ => rw [h2]; intro k hk; obtain rfl := List.mem_singleton.1 hk; exact h3
  | grp _ h2 h3 => rw [h2]; intro k hk; obtain rfl := List.mem_singleton.1 hk; exact h3
theorem size_hi (x : Rx) : sizeR x ≤ 20001 := by
  obtain ⟨kind, rune, tt, kids, mn, mx, z, n, g, nm⟩ := x
  rw [size_eq]; unfold capS; split <;> omega
theorem sizes_hi : ∀ (ks : List Rx), sizesR ks ≤ 20001 * (ks.length : Int)
  | [] => by rw [sizesR]; simp
  | k :: ks => by
    have h1 := size_hi k
    have h2 := sizes_hi ks
    rw [sizesR, List.length_cons]; push_cast; omega
/-- what stands at the end of size -/
def sizeV (x : Rx) (n : Int) : Int :=
  if x.kind = 0 ∨ x.kind = 6 then n else if x.kind = 7 then n + 2 * ((x.kids.length : Int) - 1) else if x.kind = 9 then n + 2 else if x.kind = 8 then (if x.max < 0 then (x.min + 1) * n + 2 else x.max * n + x.max - x.min) else 1
theorem size_v (x : Rx) : sizeR x = capS (sizeV x (sizesR x.kids)) := by
  obtain ⟨kind, rune, tt, kids, mn, mx, z, n, g, nm⟩ := x
  rw [size_eq]; rfl
theorem capS_min (v : Int) : capS v = min v 20001 := by unfold capS; omega

set_option maxHeartbeats 4000000 in
set_option maxRecDepth 100000 in
theorem mtSize_step {m : Nat} (hm : m ≤ 1002) (t : Rx) (hg : Gd t) (hl : t.kids.length ≤ m) (ih : ∀ k ∈ t.kids, Gd k → ∀ (A : Option Addr) (c : Nat) (w : World), KT w k A c → Calls Tryd.prog 12 #[rxAgg k (.slice A k.kids.length c)] w (RetE (.int .i64 (sizeR k)) fun w' => Below w.heap.size w w'))
    (A : Option Addr) (c : Nat) (w : World) (h1 : KT w t A c) : Calls Tryd.prog 12 #[rxAgg t (.slice A t.kids.length c)] w (RetE (.int .i64 (sizeR t)) fun w' => Below w.heap.size w w') := by
  have H1 := Lib.hid h1
  have IH := Lib.hid (fun k hk => ih k hk (hg.kid k hk))
  have hnn : ∀ ks : List Rx, (∀ k ∈ ks, Gd k) → 0 ≤ sizesR ks := fun ks h => (sz_kids ks (fun k hk => lay_size (h k hk))).1
  have HNN := Lib.hid hnn
  have HGK := Lib.hid hg.kid
  have hsv := size_v t
  have hhi := sizes_hi t.kids
  have hlo := hnn t.kids hg.kid
  have hrep : t.kind = 8 → t.kids.length = 1 ∧ 0 ≤ t.min ∧ t.min ≤ 255 ∧ (t.max = -1 ∨ (t.min ≤ t.max ∧ t.max ≤ 255)) := fun h8 => by
    cases hg with
    | leaf h1 h2 => omega
    | set h1 _ => omega
    | seq h1 _ => omega
    | alt h1 _ _ => omega
    | rep _ h2 _ h4 h5 => exact ⟨by rw [h2]; rfl, h4.1, h4.2, h5⟩
    | grp h1 _ _ => omega
  have halt : t.kind = 7 → 1 ≤ t.kids.length := fun h7 => by
    cases hg with
    | leaf h1 h2 => omega
    | set h1 _ => omega
    | seq h1 _ => omega
    | alt _ h2 _ => exact List.length_pos_iff.2 h2
    | rep h1 _ _ _ _ => omega
    | grp h1 _ _ => omega
  clear h1 ih hnn
  simp only [rxAgg]
  have hx0 : (w.alloc (.cells (rxCells t (.slice A t.kids.length c)).toArray TRx)).heap[w.heap.size]? = some (.cells (rxCells t (.slice A t.kids.length c)).toArray TRx (0, 0)) := Go.heap_alloc_new w _
  have hb0 : Below w.heap.size w (w.alloc (.cells (rxCells t (.slice A t.kids.length c)).toArray TRx)) := (Below.refl _ w).alloc (Nat.le_refl _) _
  have B0 := Lib.hid hb0
  have X0 := Lib.hid hx0
  clear hx0 hb0
  obtain ⟨S, hS⟩ : ∃ S, S = sizesR t.kids := ⟨_, rfl⟩
  rw [← hS] at hsv hhi hlo
  have HS := Lib.hid hS
  have HSV := Lib.hid hsv
  clear hS hsv
  generalize hn : t.kids.length = n at *
  have HN := Lib.hid hn
  clear hn
  go_enter Tryd.func12, Tryd.ntmps12
  go_wp2
  go_loopg [3, 9] (n + 1) (fun kx v3 v9 wr => ∃ (i : Nat) (a : Int), v9 = .int .i64 (i : Int) ∧ v3 = .int .i64 a ∧ 0 ≤ a ∧ a ≤ 20001 * (i : Int) ∧ i ≤ n ∧ n - i ≤ kx ∧ Hid (S = a + sizesR (t.kids.drop i)) ∧ Below w.heap.size w wr ∧ wr.heap[w.heap.size]? = some (.cells (rxCells t (.slice A n c)).toArray TRx (0, 0)))
  case atStart => exact ⟨0, 0, rfl, rfl, by omega, by omega, Nat.zero_le _, by omega, by show S = 0 + sizesR t.kids; rw [HS.out]; omega, B0.out, X0.out⟩
  case round =>
    obtain ⟨i, a, rfl, rfl, ha0, ha1, hi, hik, hrel, hb, hx⟩ := hrel
    have HB := Lib.hid hb
    have HX := Lib.hid hx
    clear hb
    by_cases hlt : i < n
    · clear hx
      have z1 : decide ((i : Int) < (n : Int)) = true := decide_eq_true (by omega)
      have hne : t.kids ≠ [] := fun e => by have := HN.out; rw [e] at this; simp at this; omega
      obtain ⟨q1, o1, rfl, hv1⟩ := KT.kid (KX.below H1.out HB.out) hne
      have hlt' : i < t.kids.length := by rw [HN.out]; exact hlt
      obtain ⟨k, hk⟩ : ∃ k, k = t.kids[i] := ⟨_, rfl⟩
      have hki : t.kids[i]? = some k := by rw [hk]; exact List.getElem?_eq_getElem hlt'
      have hkm : k ∈ t.kids := List.mem_of_getElem? hki
      have hdr : t.kids.drop i = k :: t.kids.drop (i + 1) := by rw [hk]; exact List.drop_eq_getElem_cons hlt'
      have HST := Lib.hid (show S = (a + sizeR k) + sizesR (t.kids.drop (i + 1)) by rw [hrel.out, hdr, sizesR]; omega)
      have hk0 := (lay_size (HGK.out k hkm)).1
      have hk1 := size_hi k
      obtain ⟨A1, c1', r1, k1'⟩ := hv1 i k hki
      have KC := Lib.hid (fun (W : World) (h : KT W k A1 c1') => IH.out k hkm A1 c1' W h)
      have K1 := Lib.hid k1'
      clear hv1 hk hki hkm k1' hne hdr hrel
      generalize sizeR k = dk at *
      obtain ⟨e0, e1, e2, e3, e4, e5, e6, e7, e8, e9⟩ := rx_at r1
      clear r1
      have i0 : (0 : Int) ≤ (i : Int) := by omega
      have i1 : (i : Int) < (n : Int) := by omega
      simp only [rxAgg] at KC
      have hws := HB.out.size
      go_wp2_with (go_at_call 12; refine (KC.out _ (KX.below K1.out ((Below.refl _ wr).alloc (Nat.le_refl _) _))).mono ?_)
      rintro e w3 ⟨rfl, hb3⟩
      have hb4 := Lib.hid ((HB.out.alloc hws _).trans (hb3.mono (by rw [World.size_alloc]; omega)))
      have hx4 := Lib.hid (heap_call ((Below.heap_alloc wr (.cells (rxCells k (.slice A1 k.kids.length c1')).toArray TRx) w.heap.size (Array.getElem?_eq_some_iff.1 HX.out).1).trans HX.out) hb3)
      clear hb3
      go_wp2_with fail
      go_roundg (n - (i + 1))
      case measure => omega
      case rel => exact ⟨i + 1, a + dk, by go_num, by go_num, by omega, by push_cast; omega, by omega, Nat.le_refl _, HST, hb4.out, hx4.out⟩
    · have z1 : decide ((i : Int) < (n : Int)) = false := decide_eq_false (by omega)
      have hme : a = S := by rw [hrel.out, List.drop_eq_nil_of_le (by rw [HN.out]; omega), sizesR]; omega
      subst hme
      have c0 : wr.cell? ⟨w.heap.size, 0, none⟩ = some (.int .i64 (t.kind : Int)) := by rw [Lib.cell_of_heap hx]; rfl
      have c3 : wr.cell? ⟨w.heap.size, 3, none⟩ = some (.slice A n c) := by rw [Lib.cell_of_heap hx]; rfl
      have c4 : wr.cell? ⟨w.heap.size, 4, none⟩ = some (.int .i64 t.min) := by rw [Lib.cell_of_heap hx]; rfl
      have c5 : wr.cell? ⟨w.heap.size, 5, none⟩ = some (.int .i64 t.max) := by rw [Lib.cell_of_heap hx]; rfl
      clear hrel hx
      have fin : ∀ v, sizeV t a = v → sizeR t = min v 20001 := fun v h => by rw [HSV.out, h, capS_min]
      by_cases k0 : t.kind = 0
      · have HF := Lib.hid (fin a (by unfold sizeV; rw [if_pos (.inl k0)]))
        rw [k0] at c0
        clear fin hrep halt k0
        go_wp2
        all_goals (go_ret; exact ⟨by rw [HF.out]; first | rfl | (congr 2; done) | (congr 2; omega), HB.out⟩)
      by_cases k6 : t.kind = 6
      · have HF := Lib.hid (fin a (by unfold sizeV; rw [if_pos (.inr k6)]))
        rw [k6] at c0
        clear fin hrep halt k0 k6
        go_wp2
        all_goals (go_ret; exact ⟨by rw [HF.out]; first | rfl | (congr 2; done) | (congr 2; omega), HB.out⟩)
      by_cases k7 : t.kind = 7
      · have HF := Lib.hid (fin (a + 2 * ((n : Int) - 1)) (by unfold sizeV; rw [if_neg (by omega), if_pos k7, HN.out]))
        have h7 := halt k7
        rw [k7] at c0
        clear fin hrep halt k0 k6 k7
        go_wp2
        all_goals (go_ret; exact ⟨by rw [HF.out]; first | rfl | (congr 2; done) | (congr 2; omega), HB.out⟩)
      by_cases k9 : t.kind = 9
      · have HF := Lib.hid (fin (a + 2) (by unfold sizeV; rw [if_neg (by omega), if_neg k7, if_pos k9]))
        rw [k9] at c0
        clear fin hrep halt k0 k6 k7 k9
        go_wp2
        all_goals (go_ret; exact ⟨by rw [HF.out]; first | rfl | (congr 2; done) | (congr 2; omega), HB.out⟩)
      by_cases k8 : t.kind = 8
      · obtain ⟨h1, h2, h3, h4⟩ := hrep k8
        have ha : a ≤ 20001 := by omega
        by_cases hmx : t.max < 0
        · have HF := Lib.hid (fin ((t.min + 1) * a + 2) (by unfold sizeV; rw [if_neg (by omega), if_neg k7, if_neg k9, if_pos k8, if_pos hmx]))
          rw [k8] at c0
          have p0 : 0 ≤ (t.min + 1) * a := Int.mul_nonneg (by omega) ha0
          have p1 : (t.min + 1) * a ≤ 256 * 20001 := Int.mul_le_mul (by omega) ha ha0 (by omega)
          clear fin hrep halt k0 k6 k7 k9 k8
          go_wp2
          all_goals (go_ret; exact ⟨by rw [HF.out]; first | rfl | (congr 2; done) | (congr 2; omega), HB.out⟩)
        · have HF := Lib.hid (fin (t.max * a + t.max - t.min) (by unfold sizeV; rw [if_neg (by omega), if_neg k7, if_neg k9, if_pos k8, if_neg hmx]))
          rw [k8] at c0
          have hx0 : 0 ≤ t.max ∧ t.max ≤ 255 ∧ t.min ≤ t.max := by omega
          have p0 : 0 ≤ t.max * a := Int.mul_nonneg (by omega) ha0
          have p1 : t.max * a ≤ 255 * 20001 := Int.mul_le_mul (by omega) ha ha0 (by omega)
          clear fin hrep halt k0 k6 k7 k9 k8
          go_wp2
          all_goals (go_ret; exact ⟨by rw [HF.out]; first | rfl | (congr 2; done) | (congr 2; omega), HB.out⟩)
      · have HF := Lib.hid (fin 1 (by unfold sizeV; rw [if_neg (by omega), if_neg k7, if_neg k9, if_neg k8]))
        have y0 : ((t.kind : Int) == 0) = false := beq_false_of_ne (by omega)
        have y6 : ((t.kind : Int) == 6) = false := beq_false_of_ne (by omega)
        have y7 : ((t.kind : Int) == 7) = false := beq_false_of_ne (by omega)
        have y9 : ((t.kind : Int) == 9) = false := beq_false_of_ne (by omega)
        have y8 : ((t.kind : Int) == 8) = false := beq_false_of_ne (by omega)
        clear fin hrep halt k0 k6 k7 k9 k8
        go_wp2
        all_goals (go_ret; exact ⟨by rw [HF.out]; first | rfl | (congr 2; done) | (congr 2; omega), HB.out⟩)

theorem mtSize_any {m : Nat} (hm : m ≤ 1002) {t : Rx} (h : Sm m t) : Gd t → ∀ (A : Option Addr) (c : Nat) (w : World), KT w t A c → Calls Tryd.prog 12 #[rxAgg t (.slice A t.kids.length c)] w (RetE (.int .i64 (sizeR t)) fun w' => Below w.heap.size w w') := by
  induction h with
  | mk hl _ ih => exact fun hg => mtSize_step hm _ hg hl ih

end Go.Proofs.YtoniccokohjenaaDoor
