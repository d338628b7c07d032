/-
  The walk of the law ValidPrefix (chapter 9).
-/
import Derived.Test.YtojapomkmfbciaaDoorValWd
namespace Go.Proofs.YtojapomkmfbciaaDoor
open Go.RowKit

/-- a copy of a part of bytes, checked -/
theorem check_copy (l : List UInt8) (hl : l.length ≤ 1073741824) (dd : Int) (L : List (Nat × Nat)) (a y : Nat) (hc : checkV l (clampV dd) = (L, (a, y))) (g cap : Nat) (W : World) (hT : Tabs W) (hle : l.length ≤ cap) (hR : RdB W (some ⟨g, 0, none⟩) l.length l) :
    Calls Tryd.prog 21 #[.slice (some ⟨g, 0, none⟩) l.length cap, .int .i64 dd] W fun e w' => ∃ B c, e = .returned (.tuple #[.slice B L.length c, .agg #[.int .i64 (a : Int), .int .i64 (y : Int)]]) ∧ RdS w' (.slice B L.length c) L ∧ Below W.heap.size W w' := by
  have h := valCheck_rd (some ⟨g, 0, none⟩) l.length cap l dd W hT hR hl hle
  rw [hc] at h
  exact h

set_option maxHeartbeats 8000000 in
set_option maxRecDepth 100000 in
theorem validPrefix_whole (A : Option Addr) (n cap : Nat) (l : List UInt8) (dd : Int) (A2 : Option Addr) (n2 cap2 : Nat) (w : World) (hT : Tabs w) (hR : RdB w A n l) (hn : n ≤ 1048576) (hcap : n ≤ cap) (hy : (checkV l (clampV dd)).2.2 = 0 ∨ (checkV l (clampV dd)).2.2 = 2) :
    Calls Tryd.prog 7 #[.slice A n cap, .int .i64 dd, .slice A2 n2 cap2] w fun e w' => e = .returned (.bool true) ∧ Below w.heap.size w w' := by
  have HT := Lib.hid hT
  have HR := Lib.hid hR
  obtain ⟨i0, hi, hz0, hz1, hz2⟩ := info_parts infoByte
  have K0 := Lib.hid (fun (W : World) (h : Tabs W) => valShown_any W h)
  have k1 := fun (W : World) (h : Tabs W) (hr : RdB W A n l) => valCheck_rd A n cap l dd W h hr (by omega) hcap
  have hp := (check_prefix l (clampV dd)).2.1 hy
  rw [hR.1] at hp
  have htk : l.take n = l := by rw [← hR.1]; exact List.take_length
  have k2 := fun (L : List (Nat × Nat)) (a y : Nat) (hc : checkV l (clampV dd) = (L, (a, y))) => check_copy l (by rw [hR.1]; omega) dd L a y hc
  generalize checkV l (clampV dd) = C at *
  obtain ⟨L, p, y⟩ := C
  simp only [] at k1 hp hy
  subst hp
  replace k2 := k2 L p y rfl
  have K1 := Lib.hid k1
  have K2 := Lib.hid k2
  have hRk := fun (W : World) (hb : Below w.heap.size w W) => (hR.below hb).hi (k := p) (Nat.le_refl _) hcap
  rw [htk] at hRk
  have HRK := Lib.hid hRk
  have HLL := Lib.hid hR.1
  have hs1 := fun (W : World) => sl_hi A p cap p (Nat.le_refl _) hcap W
  have hs2 := fun (W : World) => sl_hiAt A p cap p (Nat.le_refl _) hcap W
  clear hT hR k1 k2 htk hRk
  go_enter Tryd.func7, Tryd.ntmps7
  go_wp2_with (go_at_call 20; refine (K0.out _ HT.out).mono ?_)
  rintro e w1 ⟨rfl, b1⟩
  go_wp2_with (go_at_call 21; refine (K1.out _ (HT.out.below b1 (Nat.le_refl _)) (HR.out.below b1)).mono ?_)
  rintro e w2 ⟨B2, c2, rfl, r2, b2⟩
  go_upto_region 3 with fail
  have y2 := b1.trans (b2.mono b1.size)
  obtain ⟨f0, f1⟩ := cells2_new w2 (.int .i64 (p : Int)) (.int .i64 (y : Int)) 37
  have y3 := y2.alloc y2.size (.cells #[.int .i64 (p : Int), .int .i64 (y : Int)] 37)
  have s3 : w2.heap.size < (w2.alloc (.cells #[.int .i64 (p : Int), .int .i64 (y : Int)] 37)).heap.size := by rw [World.size_alloc]; omega
  clear r2 b2 y2 b1
  generalize w2.heap.size = g2 at *
  generalize w2.alloc (.cells #[.int .i64 (p : Int), .int .i64 (y : Int)] 37) = W2 at *
  clear w2 w1
  have Y3 := Lib.hid y3
  have S3 := Lib.hid s3
  have F0 := Lib.hid f0
  have F1 := Lib.hid f1
  clear y3 s3
  have d1 : decide ((p : Int) < 0) = false := decide_eq_false (by omega)
  have hcases : (((y : Int) == 0) = true ∧ ((y : Int) != 0) = false) ∨ (((y : Int) == 0) = false ∧ ((y : Int) != 0) = true ∧ ((y : Int) == 2) = true ∧ ((y : Int) != 2) = false) := by
    rcases hy with rfl | rfl
    · exact .inl ⟨rfl, rfl⟩
    · exact .inr ⟨rfl, rfl, rfl, rfl⟩
  clear hy
  rcases hcases with ⟨x1, x2⟩ | ⟨x1, x2, x3, x4⟩
  all_goals
    obtain ⟨e0, e1⟩ := cells2_later ⟨F0.out, F1.out⟩ S3.out ((Below.refl _ W2).alloc (Nat.le_refl _) (.cells #[] 5))
    go_wp2_with (at_builtin; refine wpList_append_conv2 _ rfl _ _ 26 5 rfl W2.heap.size i0 (.int .u8 0) Tryd.underlying26 hi hz0 hz1 hz2 rfl _ [] l (hiA A cap) p cap rfl rfl (conv_nil W2) (HRK.out _ (Y3.out.alloc Y3.out.size _)) (by simp; omega) (by simp) ?_)
    intro v3 w3 hc3 hb3
    obtain ⟨g, cap4, rfl, hle4, hrd4⟩ := hc3.rd
    have y4 := (Y3.out.alloc Y3.out.size (.cells #[] 5)).trans (hb3.mono Y3.out.size)
    have f4 := cells2_later ⟨F0.out, F1.out⟩ S3.out (((Below.refl _ W2).alloc (Nat.le_refl _) (.cells #[] 5)).trans hb3)
    have Y4 := Lib.hid y4
    have HLE4 := Lib.hid hle4
    have HRD4 := Lib.hid hrd4
    have F4 := Lib.hid f4
    have S4 := Lib.hid (show g2 < w3.heap.size by have h1 := S3.out; have h2 := hb3.size; rw [World.size_alloc] at h2; omega)
    clear hc3 hb3 y4 hle4 hrd4 f4 f0 f1 e0 e1
    go_wp2_with (go_at_call 21; refine (K2.out g cap4 _ (HT.out.below Y4.out (Nat.le_refl _)) HLE4.out HRD4.out).mono ?_)
    rintro e w5 ⟨B5, c5, rfl, r5, b5⟩
    go_upto_region 6 with fail
    have y5 := (Y4.out.trans (b5.mono Y4.out.size)).alloc (Nat.le_trans Y4.out.size b5.size) (.cells #[.int .i64 (p : Int), .int .i64 (y : Int)] 37)
    obtain ⟨m0, m1⟩ := cells2_later F4.out S4.out (b5.alloc b5.size (.cells #[.int .i64 (p : Int), .int .i64 (y : Int)] 37))
    obtain ⟨q0, q1⟩ := cells2_new w5 (.int .i64 (p : Int)) (.int .i64 (y : Int)) 37
    clear r5 b5
    generalize w5.heap.size = g5 at *
    generalize w5.alloc (.cells #[.int .i64 (p : Int), .int .i64 (y : Int)] 37) = W5 at *
    have Y5 := Lib.hid y5
    clear y5
    go_wp2
    go_ret
    exact ⟨rfl, Y5.out⟩

set_option maxHeartbeats 4000000 in
set_option maxRecDepth 100000 in
theorem validPrefix_byte (A : Option Addr) (n cap : Nat) (l : List UInt8) (dd : Int) (A2 : Option Addr) (n2 cap2 : Nat) (l2 : List UInt8) (w : World) (hT : Tabs w) (hR : RdB w A n l) (hR2 : RdB w A2 n2 l2) (hn : n ≤ 1048576) (hn2 : n2 ≤ 1048576) (hcap : n ≤ cap) (hy0 : (checkV l (clampV dd)).2.2 ≠ 0) (hy2 : (checkV l (clampV dd)).2.2 ≠ 2) :
    Calls Tryd.prog 7 #[.slice A n cap, .int .i64 dd, .slice A2 n2 cap2] w fun e w' => e = .returned (.bool true) ∧ Below w.heap.size w w' := by
  have HT := Lib.hid hT
  have HR := Lib.hid hR
  have HR2 := Lib.hid hR2
  obtain ⟨i0, hi, hz0, hz1, hz2⟩ := info_parts infoByte
  have K0 := Lib.hid (fun (W : World) (h : Tabs W) => valShown_any W h)
  have k1 := fun (W : World) (h : Tabs W) (hr : RdB W A n l) => valCheck_rd A n cap l dd W h hr (by omega) hcap
  obtain ⟨hq1, hq2, ⟨hg1, hg2⟩, hp3⟩ := check_prefix l (clampV dd)
  clear hq1 hq2
  obtain ⟨hpn, hall⟩ := hp3 hy0 hy2
  rw [hR.1] at hpn
  generalize hC : checkV l (clampV dd) = C at *
  obtain ⟨L, p, y⟩ := C
  simp only [] at k1 hy0 hy2 hg1 hg2 hpn hall
  have hl1 : (l.take p).length = p := by rw [List.length_take, hR.1]; omega
  have k2 := check_copy (l.take p) (by rw [hl1]; omega) dd (checkV (l.take p) (clampV dd)).1 p (checkV (l.take p) (clampV dd)).2.2 (Prod.ext rfl (Prod.ext hg1 rfl))
  have hl3 : (l.take (p + 1) ++ l2).length = p + 1 + n2 := by rw [List.length_append, List.length_take, hR.1, hR2.1]; omega
  have k3 := fun (hb : bt l p ≤ 127) => check_copy (l.take (p + 1) ++ l2) (by rw [hl3]; omega) dd (checkV (l.take (p + 1) ++ l2) (clampV dd)).1 p y (Prod.ext rfl (hall hb l2))
  generalize (checkV (l.take (p + 1) ++ l2) (clampV dd)).1 = L3 at k3
  generalize (checkV (l.take p) (clampV dd)).1 = L2 at k2
  generalize (checkV (l.take p) (clampV dd)).2.2 = y2 at k2 hg2
  have hl4 : (l.take (p + 1)).length = p + 1 := by rw [List.length_take, hR.1]; omega
  have hRk := fun (W : World) (hb : Below w.heap.size w W) => (hR.below hb).hi (k := p) (by omega) hcap
  have hRk3 := fun (W : World) (hb : Below w.heap.size w W) => (hR.below hb).hi (k := p + 1) (by omega) hcap
  generalize l.take p = t1 at *
  generalize l.take (p + 1) = t3 at *
  obtain ⟨L4, hL4⟩ : ∃ L4, t3 ++ l2 = L4 := ⟨_, rfl⟩
  rw [hL4] at k3 hl3
  have HL4 := Lib.hid hL4
  have K1 := Lib.hid k1
  have K2 := Lib.hid k2
  have K3 := Lib.hid k3
  have HRK := Lib.hid hRk
  have HRK3 := Lib.hid hRk3
  have HLL := Lib.hid hR.1
  have HL1 := Lib.hid hl1
  have HL3 := Lib.hid hl4
  have hs1 := fun (W : World) => sl_hi A n cap p (by omega) hcap W
  have hs2 := fun (W : World) => sl_hiAt A n cap p (by omega) hcap W
  have hs3 : ∀ W : World, (Instr.slice 26 (.slice A n cap) none (some (.int .i64 ((p : Int) + 1))) none).run Tryd.prog W = .ok (.slice (hiA A cap) (p + 1) cap) W := fun W => sl_hi A n cap (p + 1) (by omega) hcap W
  have hs4 : ∀ W : World, (Instr.sliceAt 26 (.slice A n cap) none (some (.int .i64 ((p : Int) + 1))) none).run Tryd.prog W = .ok (.slice (hiA A cap) (p + 1) cap) W := fun W => sl_hiAt A n cap (p + 1) (by omega) hcap W
  have d1 : decide ((p : Int) < 0) = false := decide_eq_false (by omega)
  have b1 : ((y : Int) == 0) = false := by simp; omega
  have b2 : ((y : Int) == 2) = false := by simp; omega
  have hcases : (((y2 : Int) == 0) = true ∧ ((y2 : Int) != 0) = false) ∨ (((y2 : Int) == 0) = false ∧ ((y2 : Int) != 0) = true ∧ ((y2 : Int) == 2) = true ∧ ((y2 : Int) != 2) = false) := by
    rcases hg2 with rfl | rfl
    · exact .inl ⟨rfl, rfl⟩
    · exact .inr ⟨rfl, rfl, rfl, rfl⟩
  have hcb : ∃ b off, A = some ⟨b, off, none⟩ ∧ b < w.heap.size ∧ w.cell? ⟨b, off + p, none⟩ = some (.int .u8 (bt l p : Nat)) := by
    obtain ⟨b, off, e, h1, h2⟩ := hR.2 (by omega)
    exact ⟨b, off, e, h1, h2 p hpn⟩
  clear hT hR k1 k2 k3 hRk hRk3 hg2 hg1 hall hy0 hy2 hC hp3 hl1 hl3 hl4 hL4 hR2
  obtain ⟨b, off, hA, hbw, hcb⟩ := hcb
  have HA := Lib.hid hA
  have HCB := Lib.hid hcb
  have HBW := Lib.hid hbw
  have hx := bt_lt l p
  clear hA hcb hbw
  go_enter Tryd.func7, Tryd.ntmps7
  go_wp2_with (go_at_call 20; refine (K0.out _ HT.out).mono ?_)
  rintro e w1 ⟨rfl, b1'⟩
  go_wp2_with (go_at_call 21; refine (K1.out _ (HT.out.below b1' (Nat.le_refl _)) (HR.out.below b1')).mono ?_)
  rintro e w2 ⟨B2, c2, rfl, r2, b2'⟩
  go_upto_region 3 with fail
  have y2' := b1'.trans (b2'.mono b1'.size)
  obtain ⟨f0, f1⟩ := cells2_new w2 (.int .i64 (p : Int)) (.int .i64 (y : Int)) 37
  have y3 := y2'.alloc y2'.size (.cells #[.int .i64 (p : Int), .int .i64 (y : Int)] 37)
  have s3 : w2.heap.size < (w2.alloc (.cells #[.int .i64 (p : Int), .int .i64 (y : Int)] 37)).heap.size := by rw [World.size_alloc]; omega
  clear r2 b2' y2' b1'
  generalize w2.heap.size = g2 at *
  generalize w2.alloc (.cells #[.int .i64 (p : Int), .int .i64 (y : Int)] 37) = W2 at *
  clear w2 w1
  have Y3 := Lib.hid y3
  have S3 := Lib.hid s3
  have F0 := Lib.hid f0
  have F1 := Lib.hid f1
  clear y3 s3
  rcases hcases with ⟨x1, x2⟩ | ⟨x1, x2, x3, x4⟩
  all_goals
    obtain ⟨e0, e1⟩ := cells2_later ⟨F0.out, F1.out⟩ S3.out ((Below.refl _ W2).alloc (Nat.le_refl _) (.cells #[] 5))
    go_wp2_with (at_builtin; refine wpList_append_conv2 _ rfl _ _ 26 5 rfl W2.heap.size i0 (.int .u8 0) Tryd.underlying26 hi hz0 hz1 hz2 rfl _ [] t1 (hiA A cap) p cap rfl rfl (conv_nil W2) (HRK.out _ (Y3.out.alloc Y3.out.size _)) (by simp; omega) (by simp) ?_)
    intro v3 w3 hc3 hb3
    obtain ⟨g, cap4, rfl, hle4, hrd4⟩ := hc3.rd
    have y4 := (Y3.out.alloc Y3.out.size (.cells #[] 5)).trans (hb3.mono Y3.out.size)
    have f4 := cells2_later ⟨F0.out, F1.out⟩ S3.out (((Below.refl _ W2).alloc (Nat.le_refl _) (.cells #[] 5)).trans hb3)
    have Y4 := Lib.hid y4
    have HLE4 := Lib.hid hle4
    have HRD4 := Lib.hid hrd4
    have F4 := Lib.hid f4
    have S4 := Lib.hid (show g2 < w3.heap.size by have h1 := S3.out; have h2 := hb3.size; rw [World.size_alloc] at h2; omega)
    clear hc3 hb3 y4 hle4 hrd4 f4 f0 f1 e0 e1
    go_wp2_with (go_at_call 21; refine (K2.out g cap4 _ (HT.out.below Y4.out (Nat.le_refl _)) HLE4.out HRD4.out).mono ?_)
    rintro e w5 ⟨B5, c5, rfl, r5, b5⟩
    go_upto_region 6 with fail
    have y5 := (Y4.out.trans (b5.mono Y4.out.size)).alloc (Nat.le_trans Y4.out.size b5.size) (.cells #[.int .i64 (p : Int), .int .i64 (y2 : Int)] 37)
    have f5 := cells2_later F4.out S4.out (b5.alloc b5.size (.cells #[.int .i64 (p : Int), .int .i64 (y2 : Int)] 37))
    obtain ⟨q0, q1⟩ := cells2_new w5 (.int .i64 (p : Int)) (.int .i64 (y2 : Int)) 37
    have S5 := Lib.hid (show g2 < (w5.alloc (.cells #[.int .i64 (p : Int), .int .i64 (y2 : Int)] 37)).heap.size by rw [World.size_alloc]; have := S4.out; have := b5.size; omega)
    clear r5 b5
    generalize w5.heap.size = g5 at *
    generalize w5.alloc (.cells #[.int .i64 (p : Int), .int .i64 (y2 : Int)] 37) = W5 at *
    have Y5 := Lib.hid y5
    have F5 := Lib.hid f5
    obtain ⟨m0, m1⟩ := f5
    have hcw : W5.cell? ⟨b, off + p, none⟩ = some (.int .u8 (bt l p : Nat)) := (y5.cell (p := ⟨b, off + p, none⟩) HBW.out).trans HCB.out
    clear y5
    by_cases h127 : 127 < bt l p
    · obtain rfl : A = some ⟨b, off, none⟩ := HA.out
      generalize bt l p = c at *
      go_wp2
      go_ret
      exact ⟨rfl, Y5.out⟩
    · have K3' := Lib.hid (K3.out (by omega))
      have h127' : bt l p ≤ 127 := by omega
      obtain rfl : A = some ⟨b, off, none⟩ := HA.out
      clear h127
      generalize bt l p = c at *
      have e2 := cells2_later ⟨m0, m1⟩ S5.out ((Below.refl _ W5).alloc (Nat.le_refl _) (.cells #[] 5))
      obtain ⟨e0, e1⟩ := e2
      go_wp2_with (at_builtin; refine wpList_append_conv2 _ rfl _ _ 26 5 rfl W5.heap.size i0 (.int .u8 0) Tryd.underlying26 hi hz0 hz1 hz2 rfl _ [] t3 (hiA (some ⟨b, off, none⟩) cap) (p + 1) cap rfl rfl (conv_nil W5) (HRK3.out _ (Y5.out.alloc Y5.out.size _)) (by simp; omega) (by simp) ?_)
      intro v6 w6 hc6 hb6
      have y6 := (Y5.out.alloc Y5.out.size (.cells #[] 5)).trans (hb6.mono Y5.out.size)
      have Y6 := Lib.hid y6
      have F6 := Lib.hid (cells2_later F5.out S5.out (((Below.refl _ W5).alloc (Nat.le_refl _) (.cells #[] 5)).trans hb6))
      have S6 := Lib.hid (show W5.heap.size ≤ w6.heap.size by have h2 := hb6.size; rw [World.size_alloc] at h2; omega)
      have hrm := HR2.out.below y6
      clear hb6 y6 e0 e1 m0 m1 q0 q1
      go_wp2_with (at_builtin; refine wpList_append_conv2 _ rfl _ _ 26 5 rfl W5.heap.size i0 (.int .u8 0) Tryd.underlying26 hi hz0 hz1 hz2 rfl v6 ([] ++ t3) l2 A2 n2 cap2 rfl rfl hc6 hrm (by rw [List.nil_append, HL3.out]; omega) S6.out ?_)
      intro v7 w7 hc7 hb7
      have hc8 : Conv W5.heap.size 5 w7 v7 L4 := by rw [← HL4.out]; exact hc7
      obtain ⟨g8, cap8, rfl, hle8, hrd8⟩ := hc8.rd
      have Y7 := Lib.hid (Y6.out.trans (hb7.mono Y5.out.size))
      have F7 := Lib.hid (cells2_later F6.out S5.out hb7)
      have S7 := Lib.hid (show g2 < w7.heap.size by have h1 := S5.out; have h2 := S6.out; have h3 := hb7.size; omega)
      have HLE8 := Lib.hid hle8
      have HRD8 := Lib.hid hrd8
      clear hc7 hc8 hb7 hle8 hrd8 hc6 hrm
      go_wp2_with (go_at_call 21; refine (K3'.out g8 cap8 _ (HT.out.below Y7.out (Nat.le_refl _)) HLE8.out HRD8.out).mono ?_)
      rintro e w9 ⟨B9, c9, rfl, r9, b9⟩
      go_upto_region 13 with fail
      have y9 := (Y7.out.trans (b9.mono Y7.out.size)).alloc (Nat.le_trans Y7.out.size b9.size) (.cells #[.int .i64 (p : Int), .int .i64 (y : Int)] 37)
      obtain ⟨m0, m1⟩ := cells2_later F7.out S7.out (b9.alloc b9.size (.cells #[.int .i64 (p : Int), .int .i64 (y : Int)] 37))
      obtain ⟨q0, q1⟩ := cells2_new w9 (.int .i64 (p : Int)) (.int .i64 (y : Int)) 37
      clear r9 b9
      generalize w9.heap.size = g9 at *
      generalize w9.alloc (.cells #[.int .i64 (p : Int), .int .i64 (y : Int)] 37) = W9 at *
      have Y9 := Lib.hid y9
      clear y9
      go_wp2
      go_ret
      exact ⟨by simp, Y9.out⟩

theorem validPrefix_walk (A : Option Addr) (n cap : Nat) (l : List UInt8) (dd : Int) (A2 : Option Addr) (n2 cap2 : Nat) (l2 : List UInt8) (w : World) (hT : Tabs w) (hR : RdB w A n l) (hR2 : RdB w A2 n2 l2) (hn : n ≤ 1048576) (hn2 : n2 ≤ 1048576) (hcap : n ≤ cap) :
    Calls Tryd.prog 7 #[.slice A n cap, .int .i64 dd, .slice A2 n2 cap2] w fun e w' => e = .returned (.bool true) ∧ Below w.heap.size w w' := by
  by_cases h : (checkV l (clampV dd)).2.2 = 0 ∨ (checkV l (clampV dd)).2.2 = 2
  · exact validPrefix_whole A n cap l dd A2 n2 cap2 w hT hR hn hcap h
  · exact validPrefix_byte A n cap l dd A2 n2 cap2 l2 w hT hR hR2 hn hn2 hcap (fun e => h (.inl e)) (fun e => h (.inr e))

end Go.Proofs.YtojapomkmfbciaaDoor
