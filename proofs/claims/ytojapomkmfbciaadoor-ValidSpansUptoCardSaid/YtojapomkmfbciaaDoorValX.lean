/-
  The walk of the law ValidSpans (chapter 9).
-/
import Derived.Test.YtojapomkmfbciaaDoorValV
namespace Go.Proofs.YtojapomkmfbciaaDoor
open Go.RowKit

/-- a copy of one text, asked -/
theorem one_copy (l : List UInt8) (hl : l.length ≤ 1073741824) (ho : oneV l = true) (g cap : Nat) (W : World) (hT : Tabs W) (hle : l.length ≤ cap) (hR : RdB W (some ⟨g, 0, none⟩) l.length l) :
    Calls Tryd.prog 22 #[.slice (some ⟨g, 0, none⟩) l.length cap] W fun e w' => e = .returned (.bool true) ∧ Below W.heap.size W w' := by
  have h := valOne_any (some ⟨g, 0, none⟩) l.length cap l W hT hR hl hle
  rw [ho] at h
  exact h

set_option maxHeartbeats 8000000 in
set_option maxRecDepth 100000 in
theorem validSpans_walk (A : Option Addr) (n cap : Nat) (l : List UInt8) (dd : Int) (w : World) (hT : Tabs w) (hR : RdB w A n l) (hn : n ≤ 1048576) (hcap : n ≤ cap) :
    Calls Tryd.prog 8 #[.slice A n cap, .int .i64 dd] w fun e w' => e = .returned (.bool true) ∧ Below w.heap.size w w' := by
  have HT := Lib.hid hT
  have HR := Lib.hid hR
  obtain ⟨i0, hi, hz0, hz1, hz2⟩ := info_parts infoByte
  have K0 := Lib.hid (fun (W : World) (h : Tabs W) => valShown_any W h)
  have k1 := fun (W : World) (h : Tabs W) (hr : RdB W A n l) => valCheck_rd A n cap l dd W h hr (by omega) hcap
  obtain ⟨hrise, hmem⟩ := check_spans l (clampV dd) (clampV_le dd)
  have hple := (check_prefix l (clampV dd)).1
  rw [hR.1] at hple
  have hll : (checkV l (clampV dd)).1.length ≤ 1073741824 := by
    obtain ⟨e, h1, h2, h3, h4⟩ := check_run l (clampV dd)
    have : (checkV l (clampV dd)).1 = e.spans := by unfold checkV; rw [h4]; exact (end_cases l e).1
    rw [this]
    have h5 := h3.2
    have h6 := h3.1.2.1
    rw [hR.1] at h6
    split at h5 <;> omega
  generalize checkV l (clampV dd) = C at *
  obtain ⟨L, p, y⟩ := C
  simp only [] at k1 hrise hmem hple hll
  have K1 := Lib.hid k1
  have HM := Lib.hid hmem
  have HRI := Lib.hid hrise
  have HLL := Lib.hid hR.1
  clear hT hR k1 hmem hrise
  go_enter Tryd.func8, Tryd.ntmps8
  go_wp2_with (go_at_call 20; refine (K0.out _ HT.out).mono ?_)
  rintro e w1 ⟨rfl, b1⟩
  go_wp2_with (go_at_call 21; refine (K1.out _ (HT.out.below b1 (Nat.le_refl _)) (HR.out.below b1)).mono ?_)
  rintro e w2 ⟨B2, c2, rfl, r2, b2⟩
  go_upto_region 3 with fail
  have y2' := b1.trans (b2.mono b1.size)
  have f0 := cells2_new w2 (.int .i64 (p : Int)) (.int .i64 (y : Int)) 37
  have y3 := y2'.alloc y2'.size (.cells #[.int .i64 (p : Int), .int .i64 (y : Int)] 37)
  have s3 : w2.heap.size < (w2.alloc (.cells #[.int .i64 (p : Int), .int .i64 (y : Int)] 37)).heap.size := by rw [World.size_alloc]; omega
  have R3 := Lib.hid (r2.below ((Below.refl _ w2).alloc (Nat.le_refl _) (.cells #[.int .i64 (p : Int), .int .i64 (y : Int)] 37)))
  clear r2 b2 y2' b1
  generalize w2.heap.size = g2 at *
  generalize w2.alloc (.cells #[.int .i64 (p : Int), .int .i64 (y : Int)] 37) = W2 at *
  clear w2 w1
  have Y3 := Lib.hid y3
  have S3 := Lib.hid s3
  have F0 := Lib.hid f0
  clear y3 s3 f0
  go_wp2
  go_loopw [8, 9] (fun z x wr => ∃ (k : Nat) (zi : Int), k ≤ L.length ∧ x = .int .i64 (k : Int) ∧ z = .int .i64 zi ∧ Hid (Below W2.heap.size W2 wr) ∧ Hid (RisesV l zi (L.drop k))) (fun _ x _ => L.length - (intOf x).toNat)
  case atStart => exact ⟨0, -1, Nat.zero_le _, rfl, rfl, Below.refl _ _, HRI.out⟩
  case round =>
    obtain ⟨k, zi, hk, rfl, rfl, hB, hRi⟩ := hrel
    by_cases hkl : k < L.length
    · rcases R3.out with ⟨e, _⟩ | ⟨g, cp, hv, hg, hc⟩
      · rw [e] at hkl; exact absurd hkl (Nat.not_lt_zero _)
      have e1 : B2 = some ⟨g, 0, none⟩ := by injection hv
      subst e1
      obtain ⟨⟨x, yy⟩, ha⟩ : ∃ q, L[k]? = some q := ⟨_, List.getElem?_eq_getElem hkl⟩
      obtain ⟨p0, p1⟩ := hc k _ ha
      have hgx : (L.drop k) = (x, yy) :: L.drop (k + 1) := by
        rw [List.drop_eq_getElem_cons hkl]
        congr 1
        rw [List.getElem?_eq_getElem hkl] at ha
        exact Option.some.inj ha
      have hri := hRi.out
      rw [hgx] at hri
      obtain ⟨ri1, ri2, ri3, ri4⟩ := hri
      have hyp : yy ≤ p := HM.out _ (List.mem_of_getElem? ha)
      simp only [] at p0 p1 ri1 ri2 ri3 ri4
      have RI3 := Lib.hid ri3
      have RI4 := Lib.hid ri4
      have q0 := (hB.out.cell (p := ⟨g, k * 2, none⟩) hg).trans p0
      have q1 := (hB.out.cell (p := ⟨g, k * 2 + 1, none⟩) hg).trans p1
      clear hc p0 p1 ri3 ri4 hgx ha hv
      have Y4 := Lib.hid (Y3.out.trans (hB.out.mono Y3.out.size))
      have F4 := Lib.hid (cells2_later F0.out S3.out hB.out)
      have S4 := Lib.hid (Nat.lt_of_lt_of_le S3.out hB.out.size)
      go_upto_region 8 with fail
      have f5 := cells2_new wr (.int .i64 (x : Int)) (.int .i64 (yy : Int)) 42
      have f6 := cells2_later F4.out S4.out ((Below.refl _ wr).alloc (Nat.le_refl _) (.cells #[.int .i64 (x : Int), .int .i64 (yy : Int)] 42))
      have Y5 := Lib.hid (Y4.out.alloc Y4.out.size (.cells #[.int .i64 (x : Int), .int .i64 (yy : Int)] 42))
      have B5 := Lib.hid (hB.out.alloc hB.out.size (.cells #[.int .i64 (x : Int), .int .i64 (yy : Int)] 42))
      have S5 := Lib.hid (show wr.heap.size < (wr.alloc (.cells #[.int .i64 (x : Int), .int .i64 (yy : Int)] 42)).heap.size by rw [World.size_alloc]; omega)
      have S6 := Lib.hid (show g2 < (wr.alloc (.cells #[.int .i64 (x : Int), .int .i64 (yy : Int)] 42)).heap.size by rw [World.size_alloc]; have := S4.out; omega)
      have SW := Lib.hid (show w.heap.size ≤ wr.heap.size from Y4.out.size)
      clear q0 q1 hg
      generalize wr.heap.size = g5 at *
      generalize wr.alloc (.cells #[.int .i64 (x : Int), .int .i64 (yy : Int)] 42) = W5 at *
      obtain ⟨m0, m1⟩ := f5
      obtain ⟨n0, n1⟩ := f6
      have M5 := Lib.hid m0
      have M6 := Lib.hid m1
      obtain ⟨e0, e1⟩ := cells2_later ⟨m0, m1⟩ S5.out ((Below.refl _ W5).alloc (Nat.le_refl _) (.cells #[] 5))
      have d1 : decide ((x : Int) ≤ zi) = false := decide_eq_false (by omega)
      have d2 : decide (yy ≤ x) = false := decide_eq_false (by omega)
      have d3 : decide (p < yy) = false := decide_eq_false (by omega)
      have hyn : yy ≤ n := by omega
      have hxy : x ≤ yy := by omega
      have hs1 := fun (W : World) => sl_mid A n cap x yy hxy hyn hcap W
      have hs2 := fun (W : World) => sl_midAt A n cap x yy hxy hyn hcap W
      obtain ⟨t, ht⟩ : ∃ t, cutL l x yy = t := ⟨_, rfl⟩
      have htl : t.length = yy - x := by rw [← ht]; unfold cutL; rw [List.length_take, List.length_drop, HLL.out]; omega
      have hrd : RdB (W5.alloc (.cells #[] 5)) (cutA A x cap) (yy - x) t := by
        have h := ((HR.out.below (Y5.out.alloc Y5.out.size (.cells #[] 5))).cut (i := x) (by omega) hcap).take (m := yy - x) (by omega)
        rw [← ht]; exact h
      have hone : oneV t = true := by rw [← ht]; exact RI3.out
      have KO := Lib.hid (one_copy t (by rw [htl]; omega) hone)
      have HTL := Lib.hid htl
      have HRD := Lib.hid hrd
      clear ht htl hrd hone RI3
      have hm : yy - x ≤ 1048576 := by omega
      generalize yy - x = m at *
      go_wp2_with (at_builtin; refine wpList_append_conv2w _ rfl _ _ 26 5 rfl W5.heap.size i0 (.int .u8 0) Tryd.underlying26 hi hz0 hz1 hz2 rfl _ [] t (cutA A x cap) m (cap - x) rfl rfl (conv_nil W5) HRD.out (by have := HTL.out; simp; omega) (by simp) ?_)
      intro v6 w6 hc6 hb6
      obtain ⟨g6, cap6, rfl, hle6, hrd6⟩ := hc6.rd
      have hb6' := ((Below.refl _ W5).alloc (Nat.le_refl _) (.cells #[] 5)).trans hb6
      have Y6 := Lib.hid (Y5.out.trans (hb6'.mono Y5.out.size))
      have HLE6 := Lib.hid hle6
      have HRD6 := Lib.hid hrd6
      have HB6 := Lib.hid hb6'
      clear hc6 hb6 hb6' hle6 hrd6 e0 e1 n0 n1 m0 m1
      go_wp2_with (go_at_call 22; refine (KO.out g6 cap6 _ (HT.out.below Y6.out (Nat.le_refl _)) HLE6.out HRD6.out).mono ?_)
      rintro e w7 ⟨rfl, b7⟩
      have hb7 := HB6.out.trans (b7.mono HB6.out.size)
      obtain ⟨m0, m1⟩ := cells2_later ⟨M5.out, M6.out⟩ S5.out hb7
      have B7 := Lib.hid (B5.out.trans (hb7.mono B5.out.size))
      clear b7 hb7
      go_wp2
      go_roundw
      case rel => exact ⟨k + 1, (yy : Int), by omega, by go_num, rfl, B7.out, RI4.out⟩
      case measure => simp [intOf]; omega
    · go_wp2
      go_ret
      exact ⟨rfl, Y3.out.trans (hB.out.mono Y3.out.size)⟩

end Go.Proofs.YtojapomkmfbciaaDoor
