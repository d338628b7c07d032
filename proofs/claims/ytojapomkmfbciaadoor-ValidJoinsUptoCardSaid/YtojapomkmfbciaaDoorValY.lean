/-
  The walk of the law ValidJoins (chapter 9).
-/
import Derived.Test.YtojapomkmfbciaaDoorValV
namespace Go.Proofs.YtojapomkmfbciaaDoor
open Go.RowKit

theorem fault_later {w w' : World} {g : Nat} {x y : Value} (h : w.cell? ⟨g, 0, none⟩ = some x ∧ w.cell? ⟨g, 1, none⟩ = some y ∧ g < w.heap.size) (hb : Below w.heap.size w w') : w'.cell? ⟨g, 0, none⟩ = some x ∧ w'.cell? ⟨g, 1, none⟩ = some y ∧ g < w'.heap.size :=
  ⟨(hb.cell (p := ⟨g, 0, none⟩) h.2.2).trans h.1, (hb.cell (p := ⟨g, 1, none⟩) h.2.2).trans h.2.1, Nat.lt_of_lt_of_le h.2.2 hb.size⟩
theorem fault_new (w : World) (x y : Value) (T : TypeId) : (w.alloc (.cells #[x, y] T)).cell? ⟨w.heap.size, 0, none⟩ = some x ∧ (w.alloc (.cells #[x, y] T)).cell? ⟨w.heap.size, 1, none⟩ = some y ∧ w.heap.size < (w.alloc (.cells #[x, y] T)).heap.size :=
  ⟨(cells2_new w x y T).1, (cells2_new w x y T).2, by rw [World.size_alloc]; omega⟩
/-- a copy of bytes, checked -/
theorem check_copy2 (l : List UInt8) (hl : l.length ≤ 1073741824) (dd : Int) (L : List (Nat × Nat)) (a y : Nat) (hc : checkV l (clampV dd) = (L, (a, y))) (g cap : Nat) (W : World) (hT : Tabs W) (hle : l.length ≤ cap) (hR : RdB W (some ⟨g, 0, none⟩) l.length l) :
    Calls Tryd.prog 21 #[.slice (some ⟨g, 0, none⟩) l.length cap, .int .i64 dd] W fun e w' => ∃ B c, e = .returned (.tuple #[.slice B L.length c, .agg #[.int .i64 (a : Int), .int .i64 (y : Int)]]) ∧ RdS w' (.slice B L.length c) L ∧ Below W.heap.size W w' := by
  have h := valCheck_rd (some ⟨g, 0, none⟩) l.length cap l dd W hT hR hl hle
  rw [hc] at h
  exact h

/-- an element of a row of spans, wherever new blocks stand behind -/
theorem RdS.at_ {w : World} {A : Option Addr} {c n : Nat} {L : List (Nat × Nat)} (h : RdS w (.slice A n c) L) {k : Nat} {x y : Nat} (hk : L[k]? = some (x, y)) :
    ∃ g, A = some ⟨g, 0, none⟩ ∧ w.cell? ⟨g, k * 2, none⟩ = some (.int .i64 (x : Int)) ∧ w.cell? ⟨g, k * 2 + 1, none⟩ = some (.int .i64 (y : Int)) ∧ ∀ o, (w.alloc o).cell? ⟨g, k * 2, none⟩ = some (.int .i64 (x : Int)) ∧ (w.alloc o).cell? ⟨g, k * 2 + 1, none⟩ = some (.int .i64 (y : Int)) := by
  rcases h with ⟨e, _⟩ | ⟨g, cp, hv, hg, hc⟩
  · rw [e] at hk; simp at hk
  · obtain ⟨a, b⟩ := hc k _ hk
    exact ⟨g, by injection hv, a, b, fun o => ⟨by rw [World.cell?_alloc_past (hn := hg)]; exact a, by rw [World.cell?_alloc_past (hn := hg)]; exact b⟩⟩

theorem rises_mem (l : List UInt8) : ∀ (L : List (Nat × Nat)) (z : Int), RisesV l z L → ∀ q ∈ L, q.1 < q.2
  | [], _, _, _, h => by cases h
  | p :: L, _, h, q, hq => by
    rcases List.mem_cons.1 hq with rfl | hq
    · exact h.2.1
    · exact rises_mem l L _ h.2.2.2 q hq
/-- the contract of Check at a copy of these bytes -/
def CopyC (dd : Int) (T : List UInt8) : Prop := ∀ (L : List (Nat × Nat)) (a y : Nat), checkV T (clampV dd) = (L, (a, y)) → ∀ (g cap : Nat) (W : World), Tabs W → T.length ≤ cap → RdB W (some ⟨g, 0, none⟩) T.length T →
    Calls Tryd.prog 21 #[.slice (some ⟨g, 0, none⟩) T.length cap, .int .i64 dd] W fun e w' => ∃ B c, e = .returned (.tuple #[.slice B L.length c, .agg #[.int .i64 (a : Int), .int .i64 (y : Int)]]) ∧ RdS w' (.slice B L.length c) L ∧ Below W.heap.size W w'

set_option maxHeartbeats 8000000 in
set_option maxRecDepth 100000 in
theorem validJoins_walk (A : Option Addr) (n cap : Nat) (a : List UInt8) (A2 : Option Addr) (n2 cap2 : Nat) (b : List UInt8) (dd : Int) (w : World) (hT : Tabs w) (hR : RdB w A n a) (hR2 : RdB w A2 n2 b) (hn : n ≤ 1048576) (hn2 : n2 ≤ 1048576) (hcap : n ≤ cap) (hcap2 : n2 ≤ cap2) :
    Calls Tryd.prog 9 #[.slice A n cap, .slice A2 n2 cap2, .int .i64 dd] w fun e w' => e = .returned (.bool true) ∧ Below w.heap.size w w' := by
  have HT := Lib.hid hT
  have HR := Lib.hid hR
  have HR2 := Lib.hid hR2
  obtain ⟨i0, hi, hz0, hz1, hz2⟩ := info_parts infoByte
  have K0 := Lib.hid (fun (W : World) (h : Tabs W) => valShown_any W h)
  have k1 := fun (W : World) (h : Tabs W) (hr : RdB W A n a) => valCheck_rd A n cap a dd W h hr (by omega) hcap
  have k2 := fun (W : World) (h : Tabs W) (hr : RdB W A2 n2 b) => valCheck_rd A2 n2 cap2 b dd W h hr (by omega) hcap2
  have hj := check_joins a b (clampV dd)
  have hp2 := (check_prefix b (clampV dd)).1
  obtain ⟨hrise, hmem⟩ := check_spans b (clampV dd) (clampV_le dd)
  have hmb : ∀ e ∈ (checkV b (clampV dd)).1, e.1 ≤ 1073741824 ∧ e.2 ≤ 1073741824 := fun e he => by
    have h1 := rises_mem b _ _ hrise e he
    have h2 := hmem e he
    rw [hR2.1] at hp2
    omega
  clear hrise hmem
  rw [hR2.1] at hp2
  have hlen : ∀ l : List UInt8, (checkV l (clampV dd)).1.length ≤ l.length + 1 := fun l => by
    obtain ⟨e, h1, h2, h3, h4⟩ := check_run l (clampV dd)
    have : (checkV l (clampV dd)).1 = e.spans := by unfold checkV; rw [h4]; exact (end_cases l e).1
    rw [this]
    have h5 := h3.2
    have h6 := h3.1.2.1
    split at h5 <;> omega
  have hl1 := hlen a
  have hl2 := hlen b
  rw [hR.1] at hl1
  rw [hR2.1] at hl2
  obtain ⟨T4, hT4⟩ : ∃ T4, a ++ 32 :: b = T4 := ⟨_, rfl⟩
  have hT4l : T4.length = n + 1 + n2 := by rw [← hT4]; simp [hR.1, hR2.1]; omega
  have k3 : CopyC dd T4 := fun L p y hc => check_copy2 T4 (by omega) dd L p y hc
  rw [hR.1, hT4] at hj
  generalize checkV b (clampV dd) = C2 at *
  generalize checkV a (clampV dd) = C1 at *
  obtain ⟨L, p, y⟩ := C1
  obtain ⟨M, p2, y2⟩ := C2
  simp only [] at k1 k2 hj hp2 hl1 hl2 hmb
  have K1 := Lib.hid k1
  have K2 := Lib.hid k2
  have HJ := Lib.hid hj
  have K3 := Lib.hid k3
  have HRA := Lib.hid (show ∀ W : World, Below w.heap.size w W → RdB W A n a from fun W hb => hR.below hb)
  have HRB := Lib.hid (show ∀ W : World, Below w.heap.size w W → RdB W A2 n2 b from fun W hb => hR2.below hb)
  have HAL := Lib.hid hR.1
  have HMB := Lib.hid hmb
  have HBL := Lib.hid hR2.1
  have HT4 := Lib.hid hT4
  have HT4l := Lib.hid hT4l
  clear hT hR hR2 k1 k2 k3 hmb hj hlen hT4 hT4l
  go_enter Tryd.func9, Tryd.ntmps9
  go_wp2_with (go_at_call 20; refine (K0.out _ HT.out).mono ?_)
  rintro e w1 ⟨rfl, b1⟩
  go_wp2_with (go_at_call 21; refine (K1.out _ (HT.out.below b1 (Nat.le_refl _)) (HRA.out _ b1)).mono ?_)
  rintro e w2 ⟨B1, c1, rfl, r2, b2⟩
  go_upto_region 3 with fail
  have y2' := b1.trans (b2.mono b1.size)
  have F0 := Lib.hid (fault_new w2 (.int .i64 (p : Int)) (.int .i64 (y : Int)) 37)
  have Y3 := Lib.hid (y2'.alloc y2'.size (.cells #[.int .i64 (p : Int), .int .i64 (y : Int)] 37))
  have R3 := Lib.hid (r2.below ((Below.refl _ w2).alloc (Nat.le_refl _) (.cells #[.int .i64 (p : Int), .int .i64 (y : Int)] 37)))
  clear r2 b2 y2' b1
  generalize w2.heap.size = g1 at *
  generalize w2.alloc (.cells #[.int .i64 (p : Int), .int .i64 (y : Int)] 37) = W2 at *
  clear w2 w1
  go_wp2_with (go_at_call 21; refine (K2.out _ (HT.out.below Y3.out (Nat.le_refl _)) (HRB.out _ Y3.out)).mono ?_)
  rintro e w4 ⟨B2, c2, rfl, r4, b4⟩
  go_upto_region 4 with fail
  have b4' := b4.alloc b4.size (.cells #[.int .i64 (p2 : Int), .int .i64 (y2 : Int)] 37)
  have F5 := Lib.hid (fault_later F0.out b4')
  have G5 := Lib.hid (fault_new w4 (.int .i64 (p2 : Int)) (.int .i64 (y2 : Int)) 37)
  have Y5 := Lib.hid (Y3.out.trans (b4'.mono Y3.out.size))
  have R5 := Lib.hid (R3.out.below b4')
  have R6 := Lib.hid (r4.below ((Below.refl _ w4).alloc (Nat.le_refl _) (.cells #[.int .i64 (p2 : Int), .int .i64 (y2 : Int)] 37)))
  clear r4 b4 b4' F0 Y3 R3
  generalize w4.heap.size = g2 at *
  generalize w4.alloc (.cells #[.int .i64 (p2 : Int), .int .i64 (y2 : Int)] 37) = W4 at *
  clear w4
  clear W2
  obtain ⟨m0, m1, _⟩ := F5.out
  by_cases hy : y = 0
  · subst hy
    obtain ⟨j1, j2⟩ := HJ.out rfl
    obtain ⟨N, hN⟩ : ∃ N, L ++ M.map (mv (n + 1)) = N := ⟨_, rfl⟩
    rw [hN] at j1
    have k4 := K3.out N (p2 + (n + 1)) y2 (Prod.ext j1 j2)
    have hqq : ((p2 + (n + 1) : Nat) : Int) = (p2 : Int) + (n : Int) + 1 := by omega
    generalize p2 + (n + 1) = q at *
    have hq : ((q : Int) != (p2 : Int) + (n : Int) + 1) = false := by rw [hqq]; simp
    have HQ := Lib.hid hq
    have K4 := Lib.hid k4
    have HN := Lib.hid hN
    have hNl : N.length = L.length + M.length := by rw [← hN]; simp
    have HNL := Lib.hid (show ((N.length : Int) != (L.length : Int) + (M.length : Int)) = false by rw [hNl, Int.natCast_add]; simp)
    have hNb : N.length ≤ 2097155 := by omega
    have HNN := Lib.hid hNl
    clear hN j1 j2 k4 hqq hq hNl
    have hrA := HRA.out _ (Y5.out.alloc Y5.out.size (.cells #[] 5))
    go_wp2_with (at_builtin; refine wpList_append_conv2 _ rfl _ _ 26 5 rfl W4.heap.size i0 (.int .u8 0) Tryd.underlying26 hi hz0 hz1 hz2 rfl _ [] a A n cap rfl rfl (conv_nil W4) hrA (by simp; omega) (by simp) ?_)
    intro v5 w5 hc5 hb5
    have bb5 := ((Below.refl _ W4).alloc (Nat.le_refl _) (.cells #[] 5)).trans hb5
    have hs5 : W4.heap.size ≤ w5.heap.size := bb5.size
    have hr6 : RdB (w5.alloc (.cells #[.int .u8 32] 5)) (some ⟨w5.heap.size, 0, none⟩) 1 [32] := rdB_new w5 [32] 5 (0, 0)
    have hc6 := hc5.later ((Below.refl _ w5).alloc (Nat.le_refl _) (.cells #[.int .u8 32] 5))
    have BB5 := Lib.hid bb5
    have HR6 := Lib.hid hr6
    have HC6 := Lib.hid hc6
    clear hrA hc5 hb5 bb5 hr6 hc6
    go_wp2_with (at_builtin; refine wpList_append_conv2 _ rfl _ _ 26 5 rfl W4.heap.size i0 (.int .u8 0) Tryd.underlying26 hi hz0 hz1 hz2 rfl v5 ([] ++ a) [32] (some ⟨w5.heap.size, 0, none⟩) 1 1 rfl rfl HC6.out HR6.out (by rw [List.nil_append, HAL.out]; omega) (by rw [World.size_alloc]; omega) ?_)
    intro v7 w7 hc7 hb7
    have bb7 := (BB5.out.alloc BB5.out.size (.cells #[.int .u8 32] 5)).trans hb7
    have BB7 := Lib.hid bb7
    have HC7 := Lib.hid hc7
    have hrB := HRB.out _ (Y5.out.trans (bb7.mono Y5.out.size))
    clear bb7 hc7 hb7 HC6 HR6 BB5
    go_wp2_with (at_builtin; refine wpList_append_conv2 _ rfl _ _ 26 5 rfl W4.heap.size i0 (.int .u8 0) Tryd.underlying26 hi hz0 hz1 hz2 rfl v7 ([] ++ a ++ [32]) b A2 n2 cap2 rfl rfl HC7.out hrB (by rw [List.nil_append, List.length_append, HAL.out, List.length_singleton]; omega) BB7.out.size ?_)
    intro v8 w8 hc8 hb8
    have hc9 : Conv W4.heap.size 5 w8 v8 T4 := by
      rw [← HT4.out]; simpa using hc8
    obtain ⟨g8, cap8, rfl, hle8, hrd8⟩ := hc9.rd
    have bb8 := BB7.out.trans hb8
    have Y8 := Lib.hid (Y5.out.trans (bb8.mono Y5.out.size))
    have BB8 := Lib.hid bb8
    have HLE8 := Lib.hid hle8
    have HRD8 := Lib.hid hrd8
    clear hc8 hb8 hc9 hle8 hrd8 bb8 hrB HC7 BB7 hs5
    go_wp2_with (go_at_call 21; refine (K4.out g8 cap8 _ (HT.out.below Y8.out (Nat.le_refl _)) HLE8.out HRD8.out).mono ?_)
    rintro e w9 ⟨B9, c9, rfl, r9, b9⟩
    go_upto_region 8 with fail
    have b9' := b9.alloc b9.size (.cells #[.int .i64 (q : Int), .int .i64 (y2 : Int)] 37)
    have bb9 := BB8.out.trans (b9'.mono BB8.out.size)
    obtain ⟨q0, q1, _⟩ := fault_later G5.out bb9
    obtain ⟨z0, z1, _⟩ := fault_new w9 (.int .i64 (q : Int)) (.int .i64 (y2 : Int)) 37
    have S5 := Lib.hid (R5.out.below bb9)
    have S6 := Lib.hid (R6.out.below bb9)
    have S9 := Lib.hid (r9.below ((Below.refl _ w9).alloc (Nat.le_refl _) (.cells #[.int .i64 (q : Int), .int .i64 (y2 : Int)] 37)))
    have Y9 := Lib.hid (Y5.out.trans (bb9.mono Y5.out.size))
    clear r9 b9 b9' bb9 m0 m1
    generalize w9.heap.size = g3 at *
    generalize w9.alloc (.cells #[.int .i64 (q : Int), .int .i64 (y2 : Int)] 37) = W9 at *
    have hn1 := HNL.out
    have hq1 := HQ.out
    go_wp2
    clear hn1 hq1 q0 q1 z0 z1
    go_loopw [15] (fun x wr => ∃ k : Nat, k ≤ N.length ∧ x = .int .i64 (k : Int) ∧ Hid (Below W9.heap.size W9 wr)) (fun x _ => N.length - (intOf x).toNat)
    case atStart => exact ⟨0, Nat.zero_le _, rfl, Below.refl _ _⟩
    case round =>
      obtain ⟨k, hk, rfl, hB⟩ := hrel
      by_cases hkn : k < N.length
      · have T9 := Lib.hid (S9.out.below hB.out)
        by_cases hkl : k < L.length
        · obtain ⟨⟨x, yy⟩, hx⟩ : ∃ e, L[k]? = some e := ⟨_, List.getElem?_eq_getElem hkl⟩
          have hxn : N[k]? = some (x, yy) := by rw [← HN.out, List.getElem?_append_left hkl]; exact hx
          obtain ⟨gL, e1, c0, c1, c2'⟩ := (S5.out.below hB.out).at_ hx
          obtain ⟨gN, e2, d0, d1, d2⟩ := T9.out.at_ hxn
          have e0 := fun o => (c2' o).1
          have e0' := fun o => (c2' o).2
          have e3 := fun o => (d2 o).1
          have e3' := fun o => (d2 o).2
          clear hx hxn c2' d2 c0 c1 d0 d1
          subst e1
          subst e2
          go_wp2
          go_region
          all_goals
            go_wp2
            go_roundw
            case rel => exact ⟨k + 1, by omega, by go_num, Lib.hid (hB.out.alloc hB.out.size _).drew⟩
            case measure => simp [intOf]; omega
        · have hll : L.length ≤ k := by omega
          have hkm : k - L.length < M.length := by have := HNN.out; omega
          obtain ⟨⟨x, yy⟩, hx⟩ : ∃ e, M[k - L.length]? = some e := ⟨_, List.getElem?_eq_getElem hkm⟩
          have hxn : N[k]? = some (x + (n + 1), yy + (n + 1)) := by rw [← HN.out, List.getElem?_append_right hll, List.getElem?_map, hx]; rfl
          obtain ⟨hx1, hx2⟩ := HMB.out _ (List.mem_of_getElem? hx)
          obtain ⟨gM, e1, c0, c1, c2'⟩ := (S6.out.below hB.out).at_ hx
          obtain ⟨gN, e2, d0, d1, d2⟩ := T9.out.at_ hxn
          have i1 : ((x + (n + 1) : Nat) : Int) = (x : Int) + (n : Int) + 1 := by omega
          have i2 : ((yy + (n + 1) : Nat) : Int) = (yy : Int) + (n : Int) + 1 := by omega
          simp only [i1, i2] at d2
          have e0 := fun o => (c2' o).1
          have e0' := fun o => (c2' o).2
          have e3 := fun o => (d2 o).1
          have e3' := fun o => (d2 o).2
          simp only [] at hx1 hx2
          have dk : decide ((k : Int) < (L.length : Int)) = false := decide_eq_false (by omega)
          have hb1 : 0 ≤ (k : Int) - (L.length : Int) := by omega
          have hb2 : (k : Int) - (L.length : Int) < (M.length : Int) := by omega
          clear hx hxn c2' d2 c0 c1 d0 d1 i1 i2 hkl hkm
          subst e1
          subst e2
          go_upto_region 19 with fail
          have W10 := Lib.hid (hB.out.alloc hB.out.size (.cells #[.int .i64 ((x : Int) + (n : Int) + 1), .int .i64 ((yy : Int) + (n : Int) + 1)] 42))
          have f1 := e3 (.cells #[.int .i64 ((x : Int) + (n : Int) + 1), .int .i64 ((yy : Int) + (n : Int) + 1)] 42)
          have f2 := e3' (.cells #[.int .i64 ((x : Int) + (n : Int) + 1), .int .i64 ((yy : Int) + (n : Int) + 1)] 42)
          obtain ⟨f3, f4⟩ := cells2_new wr (.int .i64 ((x : Int) + (n : Int) + 1)) (.int .i64 ((yy : Int) + (n : Int) + 1)) 42
          clear e0 e0' e3 e3' dk
          generalize wr.heap.size = g10 at *
          generalize wr.alloc (.cells #[.int .i64 ((x : Int) + (n : Int) + 1), .int .i64 ((yy : Int) + (n : Int) + 1)] 42) = V10 at *
          generalize (x : Int) + (n : Int) + 1 = X1 at *
          generalize (yy : Int) + (n : Int) + 1 = X2 at *
          go_quiet (fail)
          all_goals
            go_wp2
            go_roundw
            case rel => exact ⟨k + 1, by omega, by go_num, Lib.hid (below_dN W10.out _)⟩
            case measure => simp [intOf]; omega
      · go_wp2
        go_ret
        exact ⟨rfl, Y9.out.trans (hB.out.mono Y9.out.size)⟩
  · have by0 : ((y : Int) != 0) = true := by simp; omega
    clear hy
    go_wp2
    go_ret
    exact ⟨rfl, Y5.out⟩

end Go.Proofs.YtojapomkmfbciaaDoor
