/-
The laws of chapter 15: what stands at their head (printed by gen_synla.py).
-/
import Derived.Test.YtbgmdkjhegacjaaGreatDoorPSynX
namespace Go.Proofs.YtbgmdkjhegacjaaGreatDoor
open Go.RowKit
theorem sp1 : parseV numE [46, 97, 32, 43, 32, 49] = (.mk 17 [43] [.mk 10 [] [.mk 1 [] [], .mk 4 [] [.mk 5 [97] []]], .mk 3 [49] []], 0, 0) := by kernel_rfl
theorem sp2 : parseV numE [49, 44, 50, 124, 46] = (.mk 15 [] [.mk 16 [] [.mk 3 [49] [], .mk 3 [50] []], .mk 1 [] []], 0, 0) := by kernel_rfl
theorem sp3 : parseV numE [46, 97, 32, 97, 115, 32, 36, 120] = (ndZero, 8, 5) := by kernel_rfl
theorem sp4 : parseV numE [49, 32, 43, 42, 32, 50] = (ndZero, 3, 2) := by kernel_rfl
def ParY (X : Ny) (a e : Nat) (w : World) (x : Ending) (w' : World) : Prop :=
 ∃ A c, x = .returned (.tuple #[yAgg X (.slice A X.kids.length c), .int .i64 (a : Int), .int .i64 (e : Int)]) ∧ YX (fun q => w.heap.size ≤ q) w' X (.slice A X.kids.length c) ∧ Below w.heap.size w w'
theorem par_y {w0 : World} (hT : Tabs w0) (h10 : Tab10 w0) {L : List UInt8} (hm : L.length ≤ maxLen) {n : Nd} {a e : Nat} (h : parseV numE L = (n, a, e)) (w : World) (hb : Below w0.heap.size w0 w) :
  Calls Tryz.prog 9 #[.string ⟨L.toArray⟩] w (ParY (toY n) a e w) :=
 (syParse_any L w (hT.below hb (Nat.le_refl _)) (h10.below hb) hm).mono (by
  rw [h]
  rintro x w' ⟨kv, rfl, hk, hb⟩
  obtain ⟨A, c, rfl⟩ := hk.slice
  have hy := hk.y
  refine ⟨A, c, ?_, by rw [toY_len]; exact hy, hb⟩
  rw [toY_len, toY_agg])
theorem par_ys {w0 : World} (hT : Tabs w0) (h10 : Tab10 w0) {L : List UInt8} (hm : L.length ≤ maxLen) {n : Nd} {a e : Nat} (h : parseV numE L = (n, a, e)) (w : World) (hb : Below w0.heap.size w0 w) :
  Calls Tryz.prog 9 #[.string ⟨L.toArray⟩] w fun x w' => ParY (toY n) a e w x w' ∧ YS maxLen (toY n) :=
 (syParse_any L w (hT.below hb (Nat.le_refl _)) (h10.below hb) hm).mono (by
  rw [h]
  rintro x w' ⟨kv, rfl, hk, hb⟩
  obtain ⟨A, c, rfl⟩ := hk.slice
  have hy := hk.y
  refine ⟨⟨A, c, ?_, by rw [toY_len]; exact hy, hb⟩, hk.ys⟩
  rw [toY_len, toY_agg])
set_option maxHeartbeats 4000000 in
set_option maxRecDepth 100000 in
theorem syShown_any (w : World) (hT : Tabs w) (h10 : Tab10 w) : Calls Tryz.prog 7 #[] w (RetY (.bool true) fun w' => Below w.heap.size w w') := by
 obtain ⟨X1, u1⟩ : ∃ X, X = toY (.mk 17 [43] [.mk 10 [] [.mk 1 [] [], .mk 4 [] [.mk 5 [97] []]], .mk 3 [49] []]) := ⟨_, rfl⟩
 obtain ⟨X2, u2⟩ : ∃ X, X = toY (.mk 15 [] [.mk 16 [] [.mk 3 [49] [], .mk 3 [50] []], .mk 1 [] []]) := ⟨_, rfl⟩
 obtain ⟨X3, u3⟩ : ∃ X, X = toY ndZero := ⟨_, rfl⟩
 have K1 := Lib.hid (fun W (hb : Below w.heap.size w W) => show Calls Tryz.prog 9 #[.string ⟨#[46, 97, 32, 43, 32, 49]⟩] W (ParY X1 0 0 W) by rw [u1]; exact par_y hT h10 (by decide) sp1 W hb)
 have K2 := Lib.hid (fun W (hb : Below w.heap.size w W) => show Calls Tryz.prog 9 #[.string ⟨#[49, 44, 50, 124, 46]⟩] W (ParY X2 0 0 W) by rw [u2]; exact par_y hT h10 (by decide) sp2 W hb)
 have K3 := Lib.hid (fun W (hb : Below w.heap.size w W) => show Calls Tryz.prog 9 #[.string ⟨#[46, 97, 32, 97, 115, 32, 36, 120]⟩] W (ParY X3 8 5 W) by rw [u3]; exact par_y hT h10 (by decide) sp3 W hb)
 have K4 := Lib.hid (fun W (hb : Below w.heap.size w W) => show Calls Tryz.prog 9 #[.string ⟨#[49, 32, 43, 42, 32, 50]⟩] W (ParY X3 3 2 W) by rw [u3]; exact par_y hT h10 (by decide) sp4 W hb)
 have E1 := Lib.hid u1
 have E2 := Lib.hid u2
 have B0 := Lib.hid (Below.refl w.heap.size w)
 clear hT h10 u1 u2 u3
 go_enter Tryz.func7, Tryz.ntmps7
 go_wp2_with (go_at_call 9; with_reducible refine (K1.out _ B0.out).mono ?_)
 rintro e w1 ⟨A1, c1, rfl, hk1, hb1⟩
 obtain ⟨V1, hV1⟩ : ∃ V, V = w1.alloc (.cells (yCells X1 (.slice A1 X1.kids.length c1)).toArray TN) := ⟨_, rfl⟩
 have P1 := Lib.hid (show YP V1 w1.heap.size X1 A1 c1 by rw [hV1]; exact YP.made hk1)
 have s1 : Below w.heap.size w V1 := by rw [hV1]; exact hb1.alloc hb1.size _
 have B1 := Lib.hid (B0.out.trans (s1.mono B0.out.size))
 clear hk1 hb1 s1 B0
 simp only [yAgg]
 go_upto_region 2 with fail
 have e1 : V1 = w1.alloc (.cells #[.int .i64 X1.kind, .string ⟨X1.text.toArray⟩, .slice A1 X1.kids.length c1] TN) := hV1
 rw [← e1]
 clear e1 hV1
 go_wp2_with (go_at_call 9; with_reducible refine (K2.out _ B1.out).mono ?_)
 rintro e w2 ⟨A2, c2, rfl, hk2, hb2⟩
 obtain ⟨V2, hV2⟩ : ∃ V, V = w2.alloc (.cells (yCells X2 (.slice A2 X2.kids.length c2)).toArray TN) := ⟨_, rfl⟩
 have P2 := Lib.hid (show YP V2 w2.heap.size X2 A2 c2 by rw [hV2]; exact YP.made hk2)
 have s2 : Below V1.heap.size V1 V2 := by rw [hV2]; exact hb2.alloc hb2.size _
 have B2 := Lib.hid (B1.out.trans (s2.mono B1.out.size))
 have P1 := Lib.hid (P1.out.below s2)
 clear hk2 hb2 s2 B1
 simp only [yAgg]
 go_upto_region 3 with fail
 have e2 : V2 = w2.alloc (.cells #[.int .i64 X2.kind, .string ⟨X2.text.toArray⟩, .slice A2 X2.kids.length c2] TN) := hV2
 rw [← e2]
 clear e2 hV2
 go_wp2_with (go_at_call 9; with_reducible refine (K3.out _ B2.out).mono ?_)
 rintro e w3 ⟨A3, c3, rfl, hk3, hb3⟩
 obtain ⟨V3, hV3⟩ : ∃ V, V = w3.alloc (.cells (yCells X3 (.slice A3 X3.kids.length c3)).toArray TN) := ⟨_, rfl⟩
 have P3 := Lib.hid (show YP V3 w3.heap.size X3 A3 c3 by rw [hV3]; exact YP.made hk3)
 have s3 : Below V2.heap.size V2 V3 := by rw [hV3]; exact hb3.alloc hb3.size _
 have B3 := Lib.hid (B2.out.trans (s3.mono B2.out.size))
 have P1 := Lib.hid (P1.out.below s3)
 have P2 := Lib.hid (P2.out.below s3)
 clear hk3 hb3 s3 B2
 simp only [yAgg]
 go_upto_region 4 with fail
 have e3 : V3 = w3.alloc (.cells #[.int .i64 X3.kind, .string ⟨X3.text.toArray⟩, .slice A3 X3.kids.length c3] TN) := hV3
 rw [← e3]
 clear e3 hV3
 go_wp2_with (go_at_call 9; with_reducible refine (K4.out _ B3.out).mono ?_)
 rintro e w4 ⟨A4, c4, rfl, hk4, hb4⟩
 obtain ⟨V4, hV4⟩ : ∃ V, V = w4.alloc (.cells (yCells X3 (.slice A4 X3.kids.length c4)).toArray TN) := ⟨_, rfl⟩
 have P4 := Lib.hid (show YP V4 w4.heap.size X3 A4 c4 by rw [hV4]; exact YP.made hk4)
 have s4 : Below V3.heap.size V3 V4 := by rw [hV4]; exact hb4.alloc hb4.size _
 have B4 := Lib.hid (B3.out.trans (s4.mono B3.out.size))
 have P1 := Lib.hid (P1.out.below s4)
 have P2 := Lib.hid (P2.out.below s4)
 clear hk4 hb4 s4 B3
 simp only [yAgg]
 go_upto_region 5 with fail
 have e4 : V4 = w4.alloc (.cells #[.int .i64 X3.kind, .string ⟨X3.text.toArray⟩, .slice A4 X3.kids.length c4] TN) := hV4
 rw [← e4]
 clear e4 hV4
 have c12 : V4.cell? ⟨w1.heap.size, 2, none⟩ = some (.slice A1 2 c1) := by rw [P1.out.all.2.2, E1.out]; rfl
 have c10 : V4.cell? ⟨w1.heap.size, 0, none⟩ = some (.int .i64 17) := by rw [P1.out.all.1, E1.out]; rfl
 have c11 : V4.cell? ⟨w1.heap.size, 1, none⟩ = some (.string ⟨#[43]⟩) := by rw [P1.out.all.2.1, E1.out]; rfl
 have c22 : V4.cell? ⟨w2.heap.size, 2, none⟩ = some (.slice A2 2 c2) := by rw [P2.out.all.2.2, E2.out]; rfl
 have c20 : V4.cell? ⟨w2.heap.size, 0, none⟩ = some (.int .i64 15) := by rw [P2.out.all.1, E2.out]; rfl
 obtain ⟨q1, o1, rfl, hv1⟩ := P1.out.kids.kid (by rw [E1.out]; simp [toY, toYs, Ny.kids])
 obtain ⟨q2, o2, rfl, hv2⟩ := P2.out.kids.kid (by rw [E2.out]; simp [toY, toYs, Ny.kids])
 obtain ⟨_, _, r1, _⟩ := hv1 0 (toY (.mk 10 [] [.mk 1 [] [], .mk 4 [] [.mk 5 [97] []]])) (by rw [E1.out]; rfl)
 obtain ⟨_, _, r2, _⟩ := hv2 0 (toY (.mk 16 [] [.mk 3 [49] [], .mk 3 [50] []])) (by rw [E2.out]; rfl)
 have a1 : V4.cell? ⟨q1, o1, none⟩ = some (.int .i64 10) := r1 0 _ rfl
 have a2 : V4.cell? ⟨q2, o2, none⟩ = some (.int .i64 16) := r2 0 _ rfl
 clear hv1 hv2 r1 r2
 go_wp2
 go_ret
 exact ⟨rfl, B4.out⟩
theorem syGreat_any (s : ByteArray) (w : World) :
  Calls Tryz.prog 8 #[.string s] w fun e w' => e = .returned (.bool (decide (3000 < s.size ∧ s.size ≤ 100000))) ∧ w = w' := by
 by_cases h1 : 3000 < s.size
 ·by_cases h2 : s.size ≤ 100000
  ·have h1' : decide ((3000 : Int) < (s.size : Int)) = true := decide_eq_true (by omega)
   have h2' : decide ((s.size : Int) ≤ (100000 : Int)) = true := decide_eq_true (by omega)
   go_enter Tryz.func8, Tryz.ntmps8
   go_wp2_with fail
   go_ret
   exact ⟨by rw [decide_eq_true (⟨h1, h2⟩ : 3000 < s.size ∧ s.size ≤ 100000)]; rfl, rfl⟩
  ·have h1' : decide ((3000 : Int) < (s.size : Int)) = true := decide_eq_true (by omega)
   have h2' : decide ((s.size : Int) ≤ (100000 : Int)) = false := decide_eq_false (by omega)
   go_enter Tryz.func8, Tryz.ntmps8
   go_wp2_with fail
   go_ret
   exact ⟨by rw [decide_eq_false (fun h : 3000 < s.size ∧ s.size ≤ 100000 => h2 h.2)]; rfl, rfl⟩
 ·have h1' : decide ((3000 : Int) < (s.size : Int)) = false := decide_eq_false (by omega)
  go_enter Tryz.func8, Tryz.ntmps8
  go_wp2_with fail
  go_ret
  exact ⟨by rw [decide_eq_false (fun h : 3000 < s.size ∧ s.size ≤ 100000 => h1 h.1)]; rfl, rfl⟩
end Go.Proofs.YtbgmdkjhegacjaaGreatDoor
namespace Go.Proofs.YtbgmdkjhegacjaaGreatDoor
open Go.RowKit
set_option maxHeartbeats 4000000 in
set_option maxRecDepth 100000 in
theorem ySame_step (t : Ny) (hl : t.kids.length ≤ maxLen) (ih : ∀ k ∈ t.kids, ∀ (A : Option Addr) (c : Nat) (B : Option Addr) (d : Nat) (w : World), YT w k A c → YT w k B d → Calls Tryz.prog 19 #[yAgg k (.slice A k.kids.length c), yAgg k (.slice B k.kids.length d)] w (RetY (.bool true) fun w' => Below w.heap.size w w'))
  (A : Option Addr) (c : Nat) (B : Option Addr) (d : Nat) (w : World) (h1 : YT w t A c) (h2 : YT w t B d) : Calls Tryz.prog 19 #[yAgg t (.slice A t.kids.length c), yAgg t (.slice B t.kids.length d)] w (RetY (.bool true) fun w' => Below w.heap.size w w') := by
 have H1 := Lib.hid h1
 have H2 := Lib.hid h2
 have IH := Lib.hid ih
 have hmax : t.kids.length ≤ 9223372036854775807 := by unfold maxLen at hl; exact hl
 clear h1 h2 ih hl
 simp only [yAgg]
 go_enter Tryz.func19, Tryz.ntmps19
 have hs1 : (w.alloc (.cells (yCells t (.slice A t.kids.length c)).toArray TN)).heap.size = w.heap.size + 1 := World.size_alloc _ _
 have hb0 : Below w.heap.size w ((w.alloc (.cells (yCells t (.slice A t.kids.length c)).toArray TN)).alloc (.cells (yCells t (.slice B t.kids.length d)).toArray TN)) := ((Below.refl _ w).alloc (Nat.le_refl _) _).alloc (by omega) _
 have hx0 : ((w.alloc (.cells (yCells t (.slice A t.kids.length c)).toArray TN)).alloc (.cells (yCells t (.slice B t.kids.length d)).toArray TN)).heap[w.heap.size]? = some (.cells (yCells t (.slice A t.kids.length c)).toArray TN (0, 0)) := (Below.heap_alloc _ _ w.heap.size (by omega)).trans (Go.heap_alloc_new w _)
 have hy0 : ((w.alloc (.cells (yCells t (.slice A t.kids.length c)).toArray TN)).alloc (.cells (yCells t (.slice B t.kids.length d)).toArray TN)).heap[w.heap.size + 1]? = some (.cells (yCells t (.slice B t.kids.length d)).toArray TN (0, 0)) := by rw [← hs1]; exact Go.heap_alloc_new _ _
 have B0 := Lib.hid hb0
 have X0 := Lib.hid hx0
 have Y0 := Lib.hid hy0
 clear hb0 hx0 hy0 hs1
 generalize hn : t.kids.length = n at *
 have HN := Lib.hid hn
 clear hn
 go_wp2
 go_loopg [5] (n + 1) (fun kx v wr => ∃ i : Nat, v = .int .i64 (i : Int) ∧ i ≤ n ∧ n - i ≤ kx ∧ Below w.heap.size w wr ∧ wr.heap[w.heap.size]? = some (.cells (yCells t (.slice A n c)).toArray TN (0, 0)) ∧ wr.heap[w.heap.size + 1]? = some (.cells (yCells t (.slice B n d)).toArray TN (0, 0)))
 case atStart => exact ⟨0, rfl, Nat.zero_le _, by omega, B0.out, X0.out, Y0.out⟩
 case round =>
  obtain ⟨i, rfl, hi, hik, hb, hx, hy⟩ := hrel
  have c1 : wr.cell? ⟨w.heap.size, 2, none⟩ = some (.slice A n c) := by rw [Lib.cell_of_heap hx]; rfl
  have c2 : wr.cell? ⟨w.heap.size + 1, 2, none⟩ = some (.slice B n d) := by rw [Lib.cell_of_heap hy]; rfl
  have HB := Lib.hid hb
  have HX := Lib.hid hx
  have HY := Lib.hid hy
  clear hb hx hy
  by_cases hlt : i < n
  ·have z1 : decide ((i : Int) < (n : Int)) = true := decide_eq_true (by omega)
   have hne : t.kids ≠ [] := fun e => by have := HN.out; rw [e] at this; simp at this; omega
   obtain ⟨q1, o1, rfl, hv1⟩ := YT.kid (YX.below H1.out HB.out) hne
   obtain ⟨q2, o2, rfl, hv2⟩ := YT.kid (YX.below H2.out HB.out) hne
   have hlt' : i < t.kids.length := by rw [HN.out]; exact hlt
   obtain ⟨k, hk⟩ : ∃ k, k = t.kids[i] := ⟨_, rfl⟩
   have hki : t.kids[i]? = some k := by rw [hk]; exact List.getElem?_eq_getElem hlt'
   have hkm : k ∈ t.kids := List.mem_of_getElem? hki
   obtain ⟨A1, c1', r1, k1⟩ := hv1 i k hki
   obtain ⟨A2, c2', r2, k2⟩ := hv2 i k hki
   have KC := Lib.hid (fun (W : World) (h1 : YT W k A1 c1') (h2 : YT W k A2 c2') => IH.out k hkm A1 c1' A2 c2' W h1 h2)
   have K1 := Lib.hid k1
   have K2 := Lib.hid k2
   clear hv1 hv2 hk hki hkm k1 k2 hne
   obtain ⟨e0, e1, e2⟩ := y_at r1
   obtain ⟨f0, f1, f2⟩ := y_at r2
   clear r1 r2
   have i0 : (0 : Int) ≤ (i : Int) := by omega
   have i1 : (i : Int) < (n : Int) := by omega
   simp only [yAgg] at KC
   go_upto_region 6 with fail
   go_still_tail 10, (by kernel_rfl)
   go_wp2_with (go_at_call 19; refine (KC.out wr.drew (YX.kept (w := wr) (w' := wr.drew) (fun _ _ _ _ _ hh => ⟨hh, trivial⟩) K1.out) (YX.kept (w := wr) (w' := wr.drew) (fun _ _ _ _ _ hh => ⟨hh, trivial⟩) K2.out)).mono ?_)
   rintro e w3 ⟨rfl, hb3⟩
   have hsz := HB.out.size
   have l1 := (Array.getElem?_eq_some_iff.1 HX.out).1
   have l2 := (Array.getElem?_eq_some_iff.1 HY.out).1
   have hb4 := Lib.hid (HB.out.drew.trans (hb3.mono hsz))
   have hx4 := Lib.hid ((hb3.block w.heap.size l1).trans HX.out)
   have hy4 := Lib.hid ((hb3.block (w.heap.size + 1) l2).trans HY.out)
   clear hb3
   go_wp2_with fail
   go_roundg (n - (i + 1))
   case measure => omega
   case rel => exact ⟨i + 1, by go_num, by omega, Nat.le_refl _, hb4.out, hx4.out, hy4.out⟩
  ·have z1 : decide ((i : Int) < (n : Int)) = false := decide_eq_false (by omega)
   go_wp2
   go_ret
   exact ⟨rfl, HB.out⟩
theorem ySame_any {t : Ny} (h : YS maxLen t) : ∀ (A : Option Addr) (c : Nat) (B : Option Addr) (d : Nat) (w : World), YT w t A c → YT w t B d → Calls Tryz.prog 19 #[yAgg t (.slice A t.kids.length c), yAgg t (.slice B t.kids.length d)] w (RetY (.bool true) fun w' => Below w.heap.size w w') := by
 induction h with
 | mk hl _ ih => exact ySame_step _ hl ih
set_option maxHeartbeats 4000000 in
set_option maxRecDepth 100000 in
theorem ysame_any {t : Ny} (hs : YS maxLen t) (A : Option Addr) (c : Nat) (B : Option Addr) (d : Nat) (w : World) (h1 : YT w t A c) (h2 : YT w t B d) : Calls Tryz.prog 12 #[yAgg t (.slice A t.kids.length c), yAgg t (.slice B t.kids.length d)] w (RetY (.bool true) fun w' => Below w.heap.size w w') := by
 have KC := Lib.hid (fun (W : World) (hb : Below w.heap.size w W) => ySame_any hs A c B d W (YX.below h1 hb) (YX.below h2 hb))
 have hb0 := Lib.hid (show Below w.heap.size w ((w.alloc (.cells (yCells t (.slice A t.kids.length c)).toArray TN)).alloc (.cells (yCells t (.slice B t.kids.length d)).toArray TN)) from ((Below.refl _ w).alloc (Nat.le_refl _) _).alloc (by rw [World.size_alloc]; omega) _)
 clear h1 h2 hs
 simp only [yAgg] at KC ⊢
 go_enter Tryz.func12, Tryz.ntmps12
 go_wp2_with (go_at_call 19; refine (KC.out _ hb0.out).mono ?_)
 rintro e w3 ⟨rfl, hb3⟩
 have hb4 := Lib.hid (hb0.out.trans (hb3.mono hb0.out.size))
 clear hb3
 go_wp2_with fail
 go_ret
 exact ⟨rfl, hb4.out⟩
inductive YR : Ny → Prop where
 | mk {t : Ny} : 1 ≤ t.kind → t.kind ≤ 32 → t.kids.length ≤ maxLen → (∀ k ∈ t.kids, YR k) → YR t
set_option maxHeartbeats 4000000 in
set_option maxRecDepth 100000 in
theorem yRight_step (t : Ny) (hk1 : 1 ≤ t.kind) (hk2 : t.kind ≤ 32) (hl : t.kids.length ≤ maxLen) (ih : ∀ k ∈ t.kids, ∀ (A : Option Addr) (c : Nat) (w : World), YT w k A c → Calls Tryz.prog 13 #[yAgg k (.slice A k.kids.length c)] w (RetY (.bool true) fun w' => Below w.heap.size w w'))
  (A : Option Addr) (c : Nat) (w : World) (h1 : YT w t A c) : Calls Tryz.prog 13 #[yAgg t (.slice A t.kids.length c)] w (RetY (.bool true) fun w' => Below w.heap.size w w') := by
 have H1 := Lib.hid h1
 have IH := Lib.hid ih
 have hmax : t.kids.length ≤ 9223372036854775807 := by unfold maxLen at hl; exact hl
 have x1 : decide (t.kind < 1) = false := decide_eq_false (by omega)
 have x2 : decide (32 < t.kind) = false := decide_eq_false (by omega)
 clear h1 ih hl hk1 hk2
 simp only [yAgg]
 go_enter Tryz.func13, Tryz.ntmps13
 have B0 := Lib.hid (show Below w.heap.size w (w.alloc (.cells (yCells t (.slice A t.kids.length c)).toArray TN)) from (Below.refl _ w).alloc (Nat.le_refl _) _)
 have X0 := Lib.hid (show (w.alloc (.cells (yCells t (.slice A t.kids.length c)).toArray TN)).heap[w.heap.size]? = some (.cells (yCells t (.slice A t.kids.length c)).toArray TN (0, 0)) from Go.heap_alloc_new w _)
 generalize hn : t.kids.length = n at *
 have HN := Lib.hid hn
 clear hn
 go_wp2
 go_loopg [3] (n + 1) (fun kx v wr => ∃ i : Nat, v = .int .i64 (i : Int) ∧ i ≤ n ∧ n - i ≤ kx ∧ Below w.heap.size w wr ∧ wr.heap[w.heap.size]? = some (.cells (yCells t (.slice A n c)).toArray TN (0, 0)))
 case atStart => exact ⟨0, rfl, Nat.zero_le _, by omega, B0.out, X0.out⟩
 case round =>
  obtain ⟨i, rfl, hi, hik, hb, hx⟩ := hrel
  have c1 : wr.cell? ⟨w.heap.size, 2, none⟩ = some (.slice A n c) := by rw [Lib.cell_of_heap hx]; rfl
  have HB := Lib.hid hb
  have HX := Lib.hid hx
  clear hb hx
  by_cases hlt : i < n
  ·have z1 : decide ((i : Int) < (n : Int)) = true := decide_eq_true (by omega)
   have hne : t.kids ≠ [] := fun e => by have := HN.out; rw [e] at this; simp at this; omega
   obtain ⟨q1, o1, rfl, hv1⟩ := YT.kid (YX.below H1.out HB.out) hne
   have hlt' : i < t.kids.length := by rw [HN.out]; exact hlt
   obtain ⟨k, hk⟩ : ∃ k, k = t.kids[i] := ⟨_, rfl⟩
   have hki : t.kids[i]? = some k := by rw [hk]; exact List.getElem?_eq_getElem hlt'
   have hkm : k ∈ t.kids := List.mem_of_getElem? hki
   obtain ⟨A1, c1', r1, k1⟩ := hv1 i k hki
   have KC := Lib.hid (fun (W : World) (h1 : YT W k A1 c1') => IH.out k hkm A1 c1' W h1)
   have K1 := Lib.hid k1
   clear hv1 hk hki hkm k1 hne
   obtain ⟨e0, e1, e2⟩ := y_at r1
   clear r1
   have i0 : (0 : Int) ≤ (i : Int) := by omega
   have i1 : (i : Int) < (n : Int) := by omega
   simp only [yAgg] at KC
   go_wp2_with (go_at_call 13; refine (KC.out _ K1.out).mono ?_)
   rintro e w3 ⟨rfl, hb3⟩
   have hsz := HB.out.size
   have l1 := (Array.getElem?_eq_some_iff.1 HX.out).1
   have hb4 := Lib.hid (HB.out.trans (hb3.mono hsz))
   have hx4 := Lib.hid ((hb3.block w.heap.size l1).trans HX.out)
   clear hb3
   go_wp2_with fail
   go_roundg (n - (i + 1))
   case measure => omega
   case rel => exact ⟨i + 1, by go_num, by omega, Nat.le_refl _, hb4.out, hx4.out⟩
  ·have z1 : decide ((i : Int) < (n : Int)) = false := decide_eq_false (by omega)
   go_wp2
   go_ret
   exact ⟨rfl, HB.out⟩
theorem yRight_any {t : Ny} (h : YR t) : ∀ (A : Option Addr) (c : Nat) (w : World), YT w t A c → Calls Tryz.prog 13 #[yAgg t (.slice A t.kids.length c)] w (RetY (.bool true) fun w' => Below w.heap.size w w') := by
 induction h with
 | mk h1 h2 hl _ ih => exact yRight_step _ h1 h2 hl ih
end Go.Proofs.YtbgmdkjhegacjaaGreatDoor
namespace Go.Proofs.YtbgmdkjhegacjaaGreatDoor
open Go.RowKit
theorem markS_5 (l : List UInt8) (s : LS) (k : Nat) (keep : List UInt8) (h : s.err = 0) : (markS l s k keep).err ≠ 5 := by
 unfold markS failS putS
 split <;> simp [h]
theorem flushS_err (s : LS) (n : Nat) (o : List UInt8) : (flushS s n o).err = s.err := by unfold flushS; split <;> rfl
theorem textS_5 (l : List UInt8) (s : LS) (h : s.err = 0) (h5 : (textS l s).err = 5) : (textS l s).pos = l.length := by
 unfold textS at *
 simp only at *
 split at h5
 ·exact absurd h5 (by simp [putS, flushS_err, h])
 ·split at h5
  ·exact absurd h5 (by simp [putS, flushS_err, h])
  ·split at h5
   ·rw [if_neg (by assumption), if_neg (by assumption), if_pos (by assumption)]; rfl
   ·exact absurd h5 (by simp [failS])
theorem signS_5 (l : List UInt8) (s : LS) (t : List UInt8) (h : s.err = 0) (h5 : (signS l s t).err = 5) : (signS l s t).pos = l.length := by
 unfold signS at *
 by_cases h0 : t = []
 ·rw [if_pos h0] at h5; exact absurd h5 (by simp [failS])
 rw [if_neg h0] at h5 ⊢
 cases hx : s.texts with
 | nil => rw [hx] at h5; exact absurd h5 (by simp [putS, h])
 | cons x ts =>
  rw [hx] at h5
  simp only at h5 ⊢
  by_cases h1 : t = [40]
  ·rw [if_pos h1] at h5; exact absurd h5 (by simp [putS, h])
  rw [if_neg h1] at h5 ⊢
  by_cases h2 : t = [41]
  ·rw [if_pos h2] at h5 ⊢
   by_cases h3 : x = 0
   ·rw [if_pos h3] at h5 ⊢
    exact textS_5 l _ (by simp [putS, h]) h5
   ·rw [if_neg h3] at h5; exact absurd h5 (by simp [putS, h])
  ·rw [if_neg h2] at h5; exact absurd h5 (by simp [putS, h])
theorem tokenS_5 (l : List UInt8) (s : LS) (h : s.err = 0) (h5 : (tokenS l s).err = 5) : (tokenS l s).pos = l.length := by
 unfold tokenS at *
 simp only at *
 split at h5
 ·split at h5
  ·exact absurd h5 (by simp [failS])
  ·rw [if_pos (by assumption), if_neg (by assumption)]; exact textS_5 l _ (by simp [putS, h]) h5
 rw [if_neg (by assumption)]
 split at h5
 ·exact absurd h5 (by simp [putS, h])
 rw [if_neg (by assumption)]
 split at h5
 ·exact absurd h5 (by simp [putS, h])
 rw [if_neg (by assumption)]
 split at h5
 ·exact absurd h5 (markS_5 l s _ _ h)
 rw [if_neg (by assumption)]
 split at h5
 ·exact absurd h5 (markS_5 l s _ _ h)
 rw [if_neg (by assumption)]
 split at h5
 ·exact absurd h5 (markS_5 l s _ _ h)
 rw [if_neg (by assumption)]
 exact signS_5 l s _ h h5
theorem tokensV_5 (l : List UInt8) (h : (tokensV l).2.2 = 5) : (tokensV l).2.1 = l.length := by
 have hr : ∀ (f : Nat) (s : LS), s.err = 0 → (runF f l s).err = 5 → (runF f l s).pos = l.length := by
  intro f
  induction f with
  | zero => intro s he h5; exact absurd (he.symm.trans h5) (by decide)
  | succ f ih =>
   intro s he h5
   have hk : (skipS l s).err = 0 := he
   unfold runF at h5 ⊢
   by_cases a : l.length ≤ (skipS l s).pos
   ·rw [if_pos a] at h5; exact absurd (hk.symm.trans h5) (by decide)
   rw [if_neg a] at h5 ⊢
   by_cases b : (tokenS l (skipS l s)).err ≠ 0
   ·rw [if_pos b] at h5 ⊢; exact tokenS_5 l _ hk h5
   rw [if_neg b] at h5 ⊢
   exact ih _ (Decidable.of_not_not b) h5
 unfold tokensV at *
 by_cases c0 : 100000 < l.length
 ·rw [if_pos c0] at h; exact absurd h (by decide)
 rw [if_neg c0] at h ⊢
 by_cases c1 : valid l < l.length
 ·rw [if_pos c1] at h; exact absurd h (by simp)
 rw [if_neg c1] at h ⊢
 by_cases c2 : (runS l).err ≠ 0
 ·rw [if_pos c2] at h ⊢; exact hr _ _ rfl h
 rw [if_neg c2] at h ⊢
 by_cases c3 : (runS l).texts ≠ []
 ·rw [if_pos c3]
 rw [if_neg c3] at h; exact absurd h (by simp)
theorem parseV_places (L : List UInt8) {n : Nd} {a e : Nat} (h : parseV numE L = (n, a, e)) : (e = 0 → RightN n ∧ a = 0) ∧ (e ≠ 0 → n = ndZero ∧ a ≤ L.length ∧ (e = 5 → a = L.length)) := by
 unfold parseV at h
 by_cases h0 : (tokensV L).2.2 ≠ 0
 ·rw [if_pos h0] at h
  injection h with h1 h; injection h with h2 h3
  subst h1 h2 h3
  exact ⟨fun e => absurd e h0, fun _ => ⟨rfl, tokensV_at L, tokensV_5 L⟩⟩
 ·rw [if_neg h0] at h
  unfold parseT at h
  have hk := (knot_ok (tokens_fit L) ((tokensV L).1.length + 1)).pipe ⟨0, 0⟩ (Nat.zero_le _) (by simp)
  cases hr : (knotF numE (tokensV L).1 L.length ((tokensV L).1.length + 1)).pipe ⟨0, 0⟩ with
  | bad x y =>
   rw [hr] at h
   injection h with h1 h; injection h with h2 h3
   subst h1 h2 h3
   obtain ⟨b1, b2, b3⟩ := hk.bad _ _ hr
   exact ⟨fun e => by omega, fun _ => ⟨rfl, b1, b2⟩⟩
  | ok v s =>
   rw [hr] at h
   obtain ⟨q1, q2, q3, q4⟩ := hk.ok v s hr
   simp only at h
   split at h
   ·rename_i hlt
    injection h with h1 h; injection h with h2 h3
    subst h1 h2 h3
    refine ⟨fun e => by omega, fun _ => ⟨rfl, ?_, fun e => by omega⟩⟩
    exact due_pos (tokens_fit L) hlt
   ·split at h
    ·injection h with h1 h; injection h with h2 h3
     subst h1 h2 h3
     exact ⟨fun e => by omega, fun _ => ⟨rfl, Nat.zero_le _, fun e => by omega⟩⟩
    ·injection h with h1 h; injection h with h2 h3
     subst h1 h2 h3
     exact ⟨fun _ => ⟨q4, rfl⟩, fun e => absurd rfl e⟩
theorem right_yr {n : Nd} (h : RightN n) : YS maxLen (toY n) → YR (toY n) := by
 induction h with
 | @mk k t ks h1 h2 _ ih =>
  intro hs
  have hl := hs.len
  have hk := hs.kid
  rw [toY_kids] at hl hk
  refine .mk (by rw [toY_kind]; exact_mod_cast h1) (by rw [toY_kind]; exact_mod_cast h2) (by rw [toY_kids]; exact hl) fun y hy => ?_
  rw [toY_kids] at hy
  obtain ⟨x, hx, rfl⟩ := List.mem_map.1 hy
  exact ih x hx (hk _ (List.mem_map.2 ⟨x, hx, rfl⟩))
theorem str_back (s : ByteArray) : (⟨s.data.toList.toArray⟩ : ByteArray) = s := by cases s; simp
theorem str_len (s : ByteArray) : s.data.toList.length = s.size := Array.length_toList
theorem syGreat_b (s : ByteArray) : ∃ b : Bool, ∀ w : World, Calls Tryz.prog 8 #[.string s] w (RetY (.bool b) fun w' => w = w') :=
 ⟨_, fun w => syGreat_any s w⟩
set_option maxHeartbeats 4000000 in
set_option maxRecDepth 100000 in
theorem syntaxPlaces_walk (s : ByteArray) (w : World) (hs : s.size ≤ maxLen) (hT : Tabs w) (h10 : Tab10 w) : Calls Tryz.prog 5 #[.string s] w fun e w' => e = .returned (.bool true) ∧ Below w.heap.size w w' := by
 obtain ⟨n, r⟩ : ∃ n, n = parseV numE s.data.toList := ⟨_, rfl⟩
 obtain ⟨n, a, e⟩ := n
 obtain ⟨g1, g2⟩ := parseV_places _ r.symm
 rw [str_len] at g2
 have kp := fun W hb => par_ys hT h10 (L := s.data.toList) (by rw [str_len]; exact hs) r.symm W hb
 rw [str_back] at kp
 obtain ⟨X1, hX⟩ : ∃ X, X = toY n := ⟨_, rfl⟩
 rw [← hX] at kp
 have KP := Lib.hid kp
 have KS := Lib.hid (fun W (hb : Below w.heap.size w W) => syShown_any W (hT.below hb (Nat.le_refl _)) (h10.below hb))
 have hg1 : e = 0 → a = 0 ∧ (YS maxLen X1 → YR X1) := fun h0 => ⟨(g1 h0).2, by rw [hX]; exact right_yr (g1 h0).1⟩
 have hg2 : e ≠ 0 → X1 = toY ndZero ∧ a ≤ s.size ∧ (e = 5 → a = s.size) := fun h0 => ⟨by rw [hX, (g2 h0).1], (g2 h0).2⟩
 have G1 := Lib.hid hg1
 have G2 := Lib.hid hg2
 have b0 := Below.refl w.heap.size w
 clear g1 g2 hg1 hg2 kp hT h10 hs r hX
 go_enter Tryz.func5, Tryz.ntmps5
 go_wp2_with (go_at_call 7; with_reducible refine (KS.out _ b0).mono ?_)
 rintro x w0 ⟨rfl, hb0⟩
 have B0 := Lib.hid hb0
 clear b0 hb0
 obtain ⟨b, kg⟩ := syGreat_b s
 have KG := Lib.hid kg
 clear kg
 cases b
 case true =>
  go_wp2_with (go_at_call 8; with_reducible refine (KG.out _).mono ?_)
  rintro x w1 ⟨rfl, rfl⟩
  go_wp2
  go_ret
  exact ⟨rfl, B0.out⟩
 go_wp2_with (go_at_call 8; with_reducible refine (KG.out _).mono ?_)
 rintro x w1 ⟨rfl, rfl⟩
 clear KG
 go_wp2_with (go_at_call 9; with_reducible refine (KP.out _ B0.out).mono ?_)
 rintro x w1 ⟨⟨A1, c1, rfl, hk1, hb1⟩, hs1⟩
 obtain ⟨V1, hV1⟩ : ∃ V, V = w1.alloc (.cells (yCells X1 (.slice A1 X1.kids.length c1)).toArray TN) := ⟨_, rfl⟩
 have P1 := Lib.hid (show YP V1 w1.heap.size X1 A1 c1 by rw [hV1]; exact YP.made hk1)
 have s1 : Below w0.heap.size w0 V1 := by rw [hV1]; exact hb1.alloc hb1.size _
 have B1 := Lib.hid (B0.out.trans (s1.mono B0.out.size))
 clear hk1 hb1 s1 B0
 simp only [yAgg]
 go_upto_region 5 with fail
 have e1 : V1 = w1.alloc (.cells #[.int .i64 X1.kind, .string ⟨X1.text.toArray⟩, .slice A1 X1.kids.length c1] TN) := hV1
 rw [← e1]
 clear e1 hV1
 obtain ⟨y0, y1, y2⟩ := P1.out.all
 by_cases h0 : e = 0
 ·obtain ⟨ha, hr⟩ := G1.out h0
  subst ha
  subst h0
  have KR := Lib.hid (fun W h => yRight_any (hr hs1) A1 c1 W h)
  clear hr hs1
  simp only [yAgg] at KR
  go_wp2_with (go_at_call 13; with_reducible refine (KR.out _ P1.out.kids).mono ?_)
  rintro x w2 ⟨rfl, hb2⟩
  have hb4 := Lib.hid (B1.out.trans (hb2.mono B1.out.size))
  clear hb2
  go_wp2
  go_ret
  exact ⟨rfl, hb4.out⟩
 ·obtain ⟨hx, ha, h5⟩ := G2.out h0
  have KE := Lib.hid (fun W (h : YT W X1 A1 c1) => show Calls Tryz.prog 12 #[.agg #[.int .i64 X1.kind, .string ⟨X1.text.toArray⟩, .slice A1 X1.kids.length c1], .agg #[.int .i64 0, .string ⟨#[]⟩, .slice none 0 0]] W (RetY (.bool true) fun w' => Below W.heap.size W w') by
   subst hx; exact ysame_any hs1 A1 c1 none 0 W h ⟨0, rfl, _, _, rfl⟩)
  have x0 : ((e : Int) == 0) = false := beq_false_of_ne (by omega)
  have x2 : decide (a ≤ s.size) = true := decide_eq_true ha
  clear hx hs1 h0 ha
  by_cases h6 : e = 5
  ·subst h6
   have ha5 := h5 rfl
   subst ha5
   clear h5
   go_wp2_with (go_at_call 12; with_reducible refine (KE.out _ P1.out.kids).mono ?_)
   rintro x w2 ⟨rfl, hb2⟩
   have hb4 := Lib.hid (B1.out.trans (hb2.mono B1.out.size))
   clear hb2
   go_wp2
   go_ret
   exact ⟨rfl, hb4.out⟩
  ·have x3 : ((e : Int) == 5) = false := beq_false_of_ne (by omega)
   have x4 : ¬ (e : Int) = 5 := by omega
   clear h5
   go_wp2_with (go_at_call 12; with_reducible refine (KE.out _ P1.out.kids).mono ?_)
   rintro x w2 ⟨rfl, hb2⟩
   have hb4 := Lib.hid (B1.out.trans (hb2.mono B1.out.size))
   clear hb2
   go_wp2
   go_ret
   exact ⟨rfl, hb4.out⟩
end Go.Proofs.YtbgmdkjhegacjaaGreatDoor
