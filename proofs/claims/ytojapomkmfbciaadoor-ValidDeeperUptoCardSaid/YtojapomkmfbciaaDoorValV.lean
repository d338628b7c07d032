/-
  The walks of the reference's Same and of the law ValidDeeper (chapter 9).
-/
import Derived.Test.YtojapomkmfbciaaDoorValWd
namespace Go.Proofs.YtojapomkmfbciaaDoor
open Go.RowKit

set_option maxHeartbeats 2000000 in
set_option maxRecDepth 100000 in
theorem valSame_any (A B : Option Addr) (c1 c2 : Nat) (L M : List (Nat × Nat)) (w : World) (hL : L.length ≤ 1073741824) (h1 : RdS w (.slice A L.length c1) L) (h2 : RdS w (.slice B M.length c2) M) :
    Calls Tryd.prog 23 #[.slice A L.length c1, .slice B M.length c2] w fun e w' => e = .returned (.bool (decide (L = M))) ∧ ∃ j, w' = w.drewN j := by
  have H1 := Lib.hid h1
  have H2 := Lib.hid h2
  clear h1 h2
  by_cases hlen : L.length = M.length
  · have HLen := Lib.hid hlen
    have hb : ((L.length : Int) != (M.length : Int)) = false := by rw [hlen]; simp
    go_enter Tryd.func23, Tryd.ntmps23
    clear hlen
    go_wp2
    go_loopw [5] (fun x wr => ∃ k j : Nat, k ≤ L.length ∧ x = .int .i64 (k : Int) ∧ wr = w.drewN j ∧ Hid (L.take k = M.take k)) (fun x _ => L.length - (intOf x).toNat)
    case atStart => exact ⟨0, 0, Nat.zero_le _, rfl, rfl, rfl⟩
    case round =>
      obtain ⟨k, j, hk, rfl, rfl, hT⟩ := hrel
      by_cases hkl : k < L.length
      · have hkm : k < M.length := by rw [← HLen.out]; exact hkl
        rcases H1.out with ⟨e, _⟩ | ⟨g, cp, hv, _, hc⟩
        · rw [e] at hkl; exact absurd hkl (Nat.not_lt_zero _)
        rcases H2.out with ⟨e, _⟩ | ⟨g', cp', hv', _, hc'⟩
        · rw [e] at hkm; exact absurd hkm (Nat.not_lt_zero _)
        have e1 : A = some ⟨g, 0, none⟩ := by injection hv
        have e2 : B = some ⟨g', 0, none⟩ := by injection hv'
        subst e1
        subst e2
        obtain ⟨⟨a0, a1⟩, ha⟩ : ∃ p, L[k]? = some p := ⟨_, List.getElem?_eq_getElem hkl⟩
        obtain ⟨⟨b0, b1⟩, hb2⟩ : ∃ p, M[k]? = some p := ⟨_, List.getElem?_eq_getElem hkm⟩
        obtain ⟨p0, p1⟩ := hc k _ ha
        obtain ⟨q0, q1⟩ := hc' k _ hb2
        have HKM := Lib.hid hkm
        have HA := Lib.hid ha
        have HB := Lib.hid hb2
        clear hc hc' hkm ha hb2 hv hv'
        simp only [] at p0 p1 q0 q1
        have hkm2 : (k : Int) < (M.length : Int) := by have := HKM.out; omega
        by_cases h0 : a0 = b0
        · subst h0
          by_cases h1 : a1 = b1
          · subst h1
            go_wp2
            go_region
            all_goals
              go_wp2
              go_roundw
              case rel =>
                refine ⟨k + 1, j + 1, by omega, by go_num, by simp, Lib.hid ?_⟩
                rw [List.take_add_one, List.take_add_one, hT.out, HA.out, HB.out]
              case measure => simp [intOf]; omega
          · have n1 : ¬ (a1 : Int) = (b1 : Int) := by omega
            have HN1 := Lib.hid h1
            clear h1
            go_wp2
            go_region
            all_goals
              go_wp2
              go_ret
              refine ⟨ret_bool (decide_eq_false (fun e => ?_)).symm, j + 1, by simp⟩
              have h2 := HA.out
              rw [e, HB.out] at h2
              injection h2 with h2; injection h2 with _ h2
              exact HN1.out h2.symm
        · have n0 : ¬ (a0 : Int) = (b0 : Int) := by omega
          have HN0 := Lib.hid h0
          clear h0
          go_wp2
          go_region
          all_goals
            go_wp2
            go_ret
            refine ⟨ret_bool (decide_eq_false (fun e => ?_)).symm, j + 1, by simp⟩
            have h2 := HA.out
            rw [e, HB.out] at h2
            injection h2 with h2; injection h2 with h2 _
            exact HN0.out h2.symm
      · obtain rfl : k = L.length := by omega
        go_wp2
        go_ret
        refine ⟨ret_bool (decide_eq_true ?_).symm, j, rfl⟩
        have h := hT.out
        rw [List.take_length, HLen.out, List.take_length] at h
        exact h
  · have hb : ((L.length : Int) != (M.length : Int)) = true := by simp; omega
    have HN := Lib.hid (show ¬ L = M from fun e => hlen (by rw [e]))
    clear hlen
    go_enter Tryd.func23, Tryd.ntmps23
    go_wp2
    go_ret
    exact ⟨ret_bool (decide_eq_false HN.out).symm, 0, rfl⟩

theorem below_dN {B : Nat} {a w : World} (h : Below B a w) (n : Nat) : Below B a (w.drewN n) := h.trans ⟨rfl, rfl, rfl, Nat.le_refl _, fun _ _ => rfl⟩
theorem clampV_le (d : Int) : clampV d ≤ 200 := by unfold clampV; omega
theorem clampV_nat (d : Nat) (h : d ≤ 200) : clampV (d : Int) = d := by unfold clampV; omega
theorem clampV_add (d u : Nat) (h : d ≤ 200) : d ≤ clampV ((d : Int) + (u : Int)) := by unfold clampV; omega

set_option maxHeartbeats 8000000 in
set_option maxRecDepth 100000 in
theorem validDeeper_walk (A : Option Addr) (n cap : Nat) (l : List UInt8) (dd : Int) (u : Nat) (w : World) (hT : Tabs w) (hR : RdB w A n l) (hn : n ≤ 1048576) (hcap : n ≤ cap) (hu : u < 256) :
    Calls Tryd.prog 10 #[.slice A n cap, .int .i64 dd, .int .u8 (u : Int)] w fun e w' => e = .returned (.bool true) ∧ Below w.heap.size w w' := by
  have HT := Lib.hid hT
  have HR := Lib.hid hR
  have K0 := Lib.hid (fun (W : World) (h : Tabs W) => valShown_any W h)
  obtain ⟨d, hd⟩ : ∃ d, clampV dd = d := ⟨_, rfl⟩
  have hd2 : d ≤ 200 := by rw [← hd]; exact clampV_le dd
  have hmm : max 0 (min dd 200) = (d : Int) := by unfold clampV at hd; omega
  have k1 := fun (W : World) (h : Tabs W) (hr : RdB W A n l) => valCheck_rd A n cap l (d : Int) W h hr (by omega) hcap
  have k2 := fun (W : World) (h : Tabs W) (hr : RdB W A n l) => valCheck_rd A n cap l ((d : Int) + (u : Int)) W h hr (by omega) hcap
  rw [clampV_nat d hd2] at k1
  obtain ⟨g1, g2⟩ := check_deeper l d (clampV ((d : Int) + (u : Int))) (clampV_add d u hd2)
  have hll : (checkV l d).1.length ≤ 1073741824 := by
    obtain ⟨e, h1, h2, h3, h4⟩ := check_run l d
    have : (checkV l d).1 = e.spans := by unfold checkV; rw [h4]; exact (end_cases l e).1
    rw [this]
    have h5 := h3.2
    have h6 := h3.1.2.1
    rw [hR.1] at h6
    split at h5 <;> omega
  generalize checkV l (clampV ((d : Int) + (u : Int))) = C2 at *
  generalize checkV l d = C1 at *
  obtain ⟨L, p, y⟩ := C1
  obtain ⟨M, p2, y2⟩ := C2
  simp only [] at k1 k2 g1 g2 hll
  have K1 := Lib.hid k1
  have K2 := Lib.hid k2
  have HMM := Lib.hid hmm
  have KS := Lib.hid (fun (B1 B2 : Option Addr) (c1 c2 : Nat) (W : World) (h1 : RdS W (.slice B1 L.length c1) L) (h2 : RdS W (.slice B2 M.length c2) M) => valSame_any B1 B2 c1 c2 L M W hll h1 h2)
  have G1 := Lib.hid g1
  have G2 := Lib.hid g2
  clear hT hR k1 k2 g1 g2 hd hmm hll
  go_enter Tryd.func10, Tryd.ntmps10
  go_wp2_with (go_at_call 20; refine (K0.out _ HT.out).mono ?_)
  rintro e w1 ⟨rfl, b1⟩
  go_upto_region 3 with fail
  rw [HMM.out]
  go_wp2_with (go_at_call 21; refine (K1.out _ (HT.out.below b1 (Nat.le_refl _)) (HR.out.below b1)).mono ?_)
  rintro e w2 ⟨B2, c2, rfl, r2, b2⟩
  go_upto_region 4 with fail
  have y2' := b1.trans (b2.mono b1.size)
  have f0 := cells2_new w2 (.int .i64 (p : Int)) (.int .i64 (y : Int)) 37
  have y3 := y2'.alloc y2'.size (.cells #[.int .i64 (p : Int), .int .i64 (y : Int)] 37)
  have s3 : w2.heap.size < (w2.alloc (.cells #[.int .i64 (p : Int), .int .i64 (y : Int)] 37)).heap.size := by rw [World.size_alloc]; omega
  have R3 := Lib.hid (r2.below ((Below.refl _ w2).alloc (Nat.le_refl _) (.cells #[.int .i64 (p : Int), .int .i64 (y : Int)] 37)))
  clear r2 b2 y2' b1
  generalize w2.heap.size = g2 at *
  generalize w2.alloc (.cells #[.int .i64 (p : Int), .int .i64 (y : Int)] 37) = W2 at *
  clear w2 w1
  have Y3 := Lib.hid y3
  have S3 := Lib.hid s3
  have F0 := Lib.hid f0
  clear y3 s3 f0
  go_wp2_with (go_at_call 21; refine (K2.out _ (HT.out.below Y3.out (Nat.le_refl _)) (HR.out.below Y3.out)).mono ?_)
  rintro e w4 ⟨B4, c4, rfl, r4, b4⟩
  go_upto_region 5 with fail
  have y5 := (Y3.out.trans (b4.mono Y3.out.size)).alloc (Nat.le_trans Y3.out.size b4.size) (.cells #[.int .i64 (p2 : Int), .int .i64 (y2 : Int)] 37)
  obtain ⟨m0, m1⟩ := cells2_later F0.out S3.out (b4.alloc b4.size (.cells #[.int .i64 (p2 : Int), .int .i64 (y2 : Int)] 37))
  obtain ⟨q0, q1⟩ := cells2_new w4 (.int .i64 (p2 : Int)) (.int .i64 (y2 : Int)) 37
  have R5 := Lib.hid (R3.out.below (b4.alloc b4.size (.cells #[.int .i64 (p2 : Int), .int .i64 (y2 : Int)] 37)))
  have R6 := Lib.hid (r4.below ((Below.refl _ w4).alloc (Nat.le_refl _) (.cells #[.int .i64 (p2 : Int), .int .i64 (y2 : Int)] 37)))
  clear r4 b4
  generalize w4.heap.size = g4 at *
  generalize w4.alloc (.cells #[.int .i64 (p2 : Int), .int .i64 (y2 : Int)] 37) = W4 at *
  clear w4
  have Y5 := Lib.hid y5
  clear y5
  by_cases h3 : y = 3
  · subst h3
    obtain ⟨h4, h5⟩ := G2.out rfl
    have KS' := KS.out B2 B4 c2 c4 W4 R5.out R6.out
    generalize decide (L = M) = sm at KS'
    have KS'' := Lib.hid KS'
    clear KS'
    generalize L.length = ll at *
    generalize M.length = ml at *
    go_wp2_with (go_at_call 23; refine KS''.out.mono ?_; rintro e w5 ⟨rfl, j, rfl⟩)
    go_ret
    exact ⟨by simp, below_dN Y5.out j⟩
  · have h := G1.out h3
    injection h with e1 e2
    injection e2 with e2 e3
    subst e1; subst e2; subst e3
    have KS' := KS.out B2 B4 c2 c4 W4 R5.out R6.out
    rw [decide_eq_true rfl] at KS'
    have KS'' := Lib.hid KS'
    have b3 : ((y2 : Int) != 3) = true := by simp; omega
    clear KS' h3
    generalize M.length = ml at *
    go_wp2_with (go_at_call 23; refine KS''.out.mono ?_; rintro e w5 ⟨rfl, j, rfl⟩)
    go_ret
    exact ⟨by simp, below_dN Y5.out j⟩

end Go.Proofs.YtojapomkmfbciaaDoor
