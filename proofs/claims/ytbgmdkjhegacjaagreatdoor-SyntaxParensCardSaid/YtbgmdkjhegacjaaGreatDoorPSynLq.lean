/-
The laws of chapter 15: what stands at their head (printed by gen_synla.py).
-/
import Derived.Test.YtbgmdkjhegacjaaGreatDoorPSynX
namespace Go.Proofs.YtbgmdkjhegacjaaGreatDoor
open Go.RowKit
theorem sp1 : parseV numE [46, 97, 32, 43, 32, 49] = (.mk 17 [43] [.mk 10 [] [.mk 1 [] [], .mk 4 [] [.mk 5 [97] []]], .mk 3 [49] []], 0, 0) := by kernel_rfl
theorem sp2 : parseV numE [49, 44, 50, 124, 46] = (.mk 15 [] [.mk 16 [] [.mk 3 [49] [], .mk 3 [50] []], .mk 1 [] []], 0, 0) := by kernel_rfl
theorem sp3 : parseV numE [46, 97, 32, 97, 115, 32, 36, 120] = (ndZero, 8, 5) := by kernel_rfl
theorem sp4 : parseV numE [49, 32, 43, 42, 32, 50] = (ndZero, 3, 2) := by kernel_rfl
def ParY (X : Ny) (a e : Nat) (w : World) (x : Ending) (w' : World) : Prop :=
 ∃ A c, x = .returned (.tuple #[yAgg X (.slice A X.kids.length c), .int .i64 (a : Int), .int .i64 (e : Int)]) ∧ YX (fun q => w.heap.size ≤ q) w' X (.slice A X.kids.length c) ∧ Below w.heap.size w w'
theorem par_y {w0 : World} (hT : Tabs w0) (h10 : Tab10 w0) {L : List UInt8} (hm : L.length ≤ maxLen) {n : Nd} {a e : Nat} (h : parseV numE L = (n, a, e)) (w : World) (hb : Below w0.heap.size w0 w) :
  Calls Tryz.prog 9 #[.string ⟨L.toArray⟩] w (ParY (toY n) a e w) :=
 (syParse_any L w (hT.below hb (Nat.le_refl _)) (h10.below hb) hm).mono (by
  rw [h]
  rintro x w' ⟨kv, rfl, hk, hb⟩
  obtain ⟨A, c, rfl⟩ := hk.slice
  have hy := hk.y
  refine ⟨A, c, ?_, by rw [toY_len]; exact hy, hb⟩
  rw [toY_len, toY_agg])
theorem par_ys {w0 : World} (hT : Tabs w0) (h10 : Tab10 w0) {L : List UInt8} (hm : L.length ≤ maxLen) {n : Nd} {a e : Nat} (h : parseV numE L = (n, a, e)) (w : World) (hb : Below w0.heap.size w0 w) :
  Calls Tryz.prog 9 #[.string ⟨L.toArray⟩] w fun x w' => ParY (toY n) a e w x w' ∧ YS maxLen (toY n) :=
 (syParse_any L w (hT.below hb (Nat.le_refl _)) (h10.below hb) hm).mono (by
  rw [h]
  rintro x w' ⟨kv, rfl, hk, hb⟩
  obtain ⟨A, c, rfl⟩ := hk.slice
  have hy := hk.y
  refine ⟨⟨A, c, ?_, by rw [toY_len]; exact hy, hb⟩, hk.ys⟩
  rw [toY_len, toY_agg])
theorem pa_new {F : Nat → Prop} {W w : World} {X : Ny} {A : Option Addr} {c : Nat} (hk : YX F w X (.slice A X.kids.length c)) (hb : Below W.heap.size W w) :
 ∃ V, Hid (w.alloc (.cells #[.int .i64 X.kind, .string ⟨X.text.toArray⟩, .slice A X.kids.length c] TN) = V) ∧ Hid (YP V w.heap.size X A c) ∧ Below W.heap.size W V :=
 ⟨_, Lib.hid rfl, Lib.hid (YP.made hk), hb.alloc hb.size _⟩
set_option maxHeartbeats 4000000 in
set_option maxRecDepth 100000 in
theorem syShown_any (w : World) (hT : Tabs w) (h10 : Tab10 w) : Calls Tryz.prog 7 #[] w (RetY (.bool true) fun w' => Below w.heap.size w w') := by
 obtain ⟨X1, u1⟩ : ∃ X, X = toY (.mk 17 [43] [.mk 10 [] [.mk 1 [] [], .mk 4 [] [.mk 5 [97] []]], .mk 3 [49] []]) := ⟨_, rfl⟩
 obtain ⟨X2, u2⟩ : ∃ X, X = toY (.mk 15 [] [.mk 16 [] [.mk 3 [49] [], .mk 3 [50] []], .mk 1 [] []]) := ⟨_, rfl⟩
 obtain ⟨X3, u3⟩ : ∃ X, X = toY ndZero := ⟨_, rfl⟩
 have K1 := Lib.hid (fun W (hb : Below w.heap.size w W) => show Calls Tryz.prog 9 #[.string ⟨#[46, 97, 32, 43, 32, 49]⟩] W (ParY X1 0 0 W) by rw [u1]; exact par_y hT h10 (by decide) sp1 W hb)
 have K2 := Lib.hid (fun W (hb : Below w.heap.size w W) => show Calls Tryz.prog 9 #[.string ⟨#[49, 44, 50, 124, 46]⟩] W (ParY X2 0 0 W) by rw [u2]; exact par_y hT h10 (by decide) sp2 W hb)
 have K3 := Lib.hid (fun W (hb : Below w.heap.size w W) => show Calls Tryz.prog 9 #[.string ⟨#[46, 97, 32, 97, 115, 32, 36, 120]⟩] W (ParY X3 8 5 W) by rw [u3]; exact par_y hT h10 (by decide) sp3 W hb)
 have K4 := Lib.hid (fun W (hb : Below w.heap.size w W) => show Calls Tryz.prog 9 #[.string ⟨#[49, 32, 43, 42, 32, 50]⟩] W (ParY X3 3 2 W) by rw [u3]; exact par_y hT h10 (by decide) sp4 W hb)
 have E1 := Lib.hid u1
 have E2 := Lib.hid u2
 have B0 := Lib.hid (Below.refl w.heap.size w)
 clear hT h10 u1 u2 u3
 go_enter Tryz.func7, Tryz.ntmps7
 go_wp2_with (go_at_call 9; with_reducible refine (K1.out _ B0.out).mono ?_)
 rintro e w1 ⟨A1, c1, rfl, hk1, hb1⟩
 obtain ⟨V1, Q1, P1, s1⟩ := pa_new hk1 hb1
 have B1 := Lib.hid (B0.out.trans (s1.mono B0.out.size))
 clear hk1 hb1 s1 B0
 simp only [yAgg]
 go_upto_region 2 with fail
 rw [Q1.out]
 clear Q1
 go_wp2_with (go_at_call 9; with_reducible refine (K2.out _ B1.out).mono ?_)
 rintro e w2 ⟨A2, c2, rfl, hk2, hb2⟩
 obtain ⟨V2, Q2, P2, s2⟩ := pa_new hk2 hb2
 have B2 := Lib.hid (B1.out.trans (s2.mono B1.out.size))
 have P1 := Lib.hid (P1.out.below s2)
 clear hk2 hb2 s2 B1
 simp only [yAgg]
 go_upto_region 3 with fail
 rw [Q2.out]
 clear Q2
 go_wp2_with (go_at_call 9; with_reducible refine (K3.out _ B2.out).mono ?_)
 rintro e w3 ⟨A3, c3, rfl, hk3, hb3⟩
 obtain ⟨V3, Q3, P3, s3⟩ := pa_new hk3 hb3
 have B3 := Lib.hid (B2.out.trans (s3.mono B2.out.size))
 have P1 := Lib.hid (P1.out.below s3)
 have P2 := Lib.hid (P2.out.below s3)
 clear hk3 hb3 s3 B2
 simp only [yAgg]
 go_upto_region 4 with fail
 rw [Q3.out]
 clear Q3
 go_wp2_with (go_at_call 9; with_reducible refine (K4.out _ B3.out).mono ?_)
 rintro e w4 ⟨A4, c4, rfl, hk4, hb4⟩
 obtain ⟨V4, Q4, P4, s4⟩ := pa_new hk4 hb4
 have B4 := Lib.hid (B3.out.trans (s4.mono B3.out.size))
 have P1 := Lib.hid (P1.out.below s4)
 have P2 := Lib.hid (P2.out.below s4)
 clear hk4 hb4 s4 B3
 simp only [yAgg]
 go_upto_region 5 with fail
 rw [Q4.out]
 clear Q4
 have c12 : V4.cell? ⟨w1.heap.size, 2, none⟩ = some (.slice A1 2 c1) := by rw [P1.out.all.2.2, E1.out]; rfl
 have c10 : V4.cell? ⟨w1.heap.size, 0, none⟩ = some (.int .i64 17) := by rw [P1.out.all.1, E1.out]; rfl
 have c11 : V4.cell? ⟨w1.heap.size, 1, none⟩ = some (.string ⟨#[43]⟩) := by rw [P1.out.all.2.1, E1.out]; rfl
 have c22 : V4.cell? ⟨w2.heap.size, 2, none⟩ = some (.slice A2 2 c2) := by rw [P2.out.all.2.2, E2.out]; rfl
 have c20 : V4.cell? ⟨w2.heap.size, 0, none⟩ = some (.int .i64 15) := by rw [P2.out.all.1, E2.out]; rfl
 obtain ⟨q1, o1, rfl, hv1⟩ := P1.out.kids.kid (by rw [E1.out]; simp [toY, toYs, Ny.kids])
 obtain ⟨q2, o2, rfl, hv2⟩ := P2.out.kids.kid (by rw [E2.out]; simp [toY, toYs, Ny.kids])
 obtain ⟨_, _, r1, _⟩ := hv1 0 (toY (.mk 10 [] [.mk 1 [] [], .mk 4 [] [.mk 5 [97] []]])) (by rw [E1.out]; rfl)
 obtain ⟨_, _, r2, _⟩ := hv2 0 (toY (.mk 16 [] [.mk 3 [49] [], .mk 3 [50] []])) (by rw [E2.out]; rfl)
 have a1 : V4.cell? ⟨q1, o1, none⟩ = some (.int .i64 10) := r1 0 _ rfl
 have a2 : V4.cell? ⟨q2, o2, none⟩ = some (.int .i64 16) := r2 0 _ rfl
 clear hv1 hv2 r1 r2
 go_wp2
 go_ret
 exact ⟨rfl, B4.out⟩
end Go.Proofs.YtbgmdkjhegacjaaGreatDoor
namespace Go.Proofs.YtbgmdkjhegacjaaGreatDoor
open Go.RowKit
set_option maxHeartbeats 4000000 in
set_option maxRecDepth 100000 in
theorem ySame_step (t : Ny) (hl : t.kids.length ≤ maxLen) (ih : ∀ k ∈ t.kids, ∀ (A : Option Addr) (c : Nat) (B : Option Addr) (d : Nat) (w : World), YT w k A c → YT w k B d → Calls Tryz.prog 19 #[yAgg k (.slice A k.kids.length c), yAgg k (.slice B k.kids.length d)] w (RetY (.bool true) fun w' => Below w.heap.size w w'))
  (A : Option Addr) (c : Nat) (B : Option Addr) (d : Nat) (w : World) (h1 : YT w t A c) (h2 : YT w t B d) : Calls Tryz.prog 19 #[yAgg t (.slice A t.kids.length c), yAgg t (.slice B t.kids.length d)] w (RetY (.bool true) fun w' => Below w.heap.size w w') := by
 have H1 := Lib.hid h1
 have H2 := Lib.hid h2
 have IH := Lib.hid ih
 have hmax : t.kids.length ≤ 9223372036854775807 := by unfold maxLen at hl; exact hl
 clear h1 h2 ih hl
 simp only [yAgg]
 go_enter Tryz.func19, Tryz.ntmps19
 have hs1 : (w.alloc (.cells (yCells t (.slice A t.kids.length c)).toArray TN)).heap.size = w.heap.size + 1 := World.size_alloc _ _
 have hb0 : Below w.heap.size w ((w.alloc (.cells (yCells t (.slice A t.kids.length c)).toArray TN)).alloc (.cells (yCells t (.slice B t.kids.length d)).toArray TN)) := ((Below.refl _ w).alloc (Nat.le_refl _) _).alloc (by omega) _
 have hx0 : ((w.alloc (.cells (yCells t (.slice A t.kids.length c)).toArray TN)).alloc (.cells (yCells t (.slice B t.kids.length d)).toArray TN)).heap[w.heap.size]? = some (.cells (yCells t (.slice A t.kids.length c)).toArray TN (0, 0)) := (Below.heap_alloc _ _ w.heap.size (by omega)).trans (Go.heap_alloc_new w _)
 have hy0 : ((w.alloc (.cells (yCells t (.slice A t.kids.length c)).toArray TN)).alloc (.cells (yCells t (.slice B t.kids.length d)).toArray TN)).heap[w.heap.size + 1]? = some (.cells (yCells t (.slice B t.kids.length d)).toArray TN (0, 0)) := by rw [← hs1]; exact Go.heap_alloc_new _ _
 have B0 := Lib.hid hb0
 have X0 := Lib.hid hx0
 have Y0 := Lib.hid hy0
 clear hb0 hx0 hy0 hs1
 generalize hn : t.kids.length = n at *
 have HN := Lib.hid hn
 clear hn
 go_wp2
 go_loopg [5] (n + 1) (fun kx v wr => ∃ i : Nat, v = .int .i64 (i : Int) ∧ i ≤ n ∧ n - i ≤ kx ∧ Below w.heap.size w wr ∧ wr.heap[w.heap.size]? = some (.cells (yCells t (.slice A n c)).toArray TN (0, 0)) ∧ wr.heap[w.heap.size + 1]? = some (.cells (yCells t (.slice B n d)).toArray TN (0, 0)))
 case atStart => exact ⟨0, rfl, Nat.zero_le _, by omega, B0.out, X0.out, Y0.out⟩
 case round =>
  obtain ⟨i, rfl, hi, hik, hb, hx, hy⟩ := hrel
  have c1 : wr.cell? ⟨w.heap.size, 2, none⟩ = some (.slice A n c) := by rw [Lib.cell_of_heap hx]; rfl
  have c2 : wr.cell? ⟨w.heap.size + 1, 2, none⟩ = some (.slice B n d) := by rw [Lib.cell_of_heap hy]; rfl
  have HB := Lib.hid hb
  have HX := Lib.hid hx
  have HY := Lib.hid hy
  clear hb hx hy
  by_cases hlt : i < n
  ·have z1 : decide ((i : Int) < (n : Int)) = true := decide_eq_true (by omega)
   have hne : t.kids ≠ [] := fun e => by have := HN.out; rw [e] at this; simp at this; omega
   obtain ⟨q1, o1, rfl, hv1⟩ := YT.kid (YX.below H1.out HB.out) hne
   obtain ⟨q2, o2, rfl, hv2⟩ := YT.kid (YX.below H2.out HB.out) hne
   have hlt' : i < t.kids.length := by rw [HN.out]; exact hlt
   obtain ⟨k, hk⟩ : ∃ k, k = t.kids[i] := ⟨_, rfl⟩
   have hki : t.kids[i]? = some k := by rw [hk]; exact List.getElem?_eq_getElem hlt'
   have hkm : k ∈ t.kids := List.mem_of_getElem? hki
   obtain ⟨A1, c1', r1, k1⟩ := hv1 i k hki
   obtain ⟨A2, c2', r2, k2⟩ := hv2 i k hki
   have KC := Lib.hid (fun (W : World) (h1 : YT W k A1 c1') (h2 : YT W k A2 c2') => IH.out k hkm A1 c1' A2 c2' W h1 h2)
   have K1 := Lib.hid k1
   have K2 := Lib.hid k2
   clear hv1 hv2 hk hki hkm k1 k2 hne
   obtain ⟨e0, e1, e2⟩ := y_at r1
   obtain ⟨f0, f1, f2⟩ := y_at r2
   clear r1 r2
   have i0 : (0 : Int) ≤ (i : Int) := by omega
   have i1 : (i : Int) < (n : Int) := by omega
   simp only [yAgg] at KC
   go_upto_region 6 with fail
   go_still_tail 10, (by kernel_rfl)
   go_wp2_with (go_at_call 19; refine (KC.out wr.drew (YX.kept (w := wr) (w' := wr.drew) (fun _ _ _ _ _ hh => ⟨hh, trivial⟩) K1.out) (YX.kept (w := wr) (w' := wr.drew) (fun _ _ _ _ _ hh => ⟨hh, trivial⟩) K2.out)).mono ?_)
   rintro e w3 ⟨rfl, hb3⟩
   have hsz := HB.out.size
   have l1 := (Array.getElem?_eq_some_iff.1 HX.out).1
   have l2 := (Array.getElem?_eq_some_iff.1 HY.out).1
   have hb4 := Lib.hid (HB.out.drew.trans (hb3.mono hsz))
   have hx4 := Lib.hid ((hb3.block w.heap.size l1).trans HX.out)
   have hy4 := Lib.hid ((hb3.block (w.heap.size + 1) l2).trans HY.out)
   clear hb3
   go_wp2_with fail
   go_roundg (n - (i + 1))
   case measure => omega
   case rel => exact ⟨i + 1, by go_num, by omega, Nat.le_refl _, hb4.out, hx4.out, hy4.out⟩
  ·have z1 : decide ((i : Int) < (n : Int)) = false := decide_eq_false (by omega)
   go_wp2
   go_ret
   exact ⟨rfl, HB.out⟩
theorem ySame_any {t : Ny} (h : YS maxLen t) : ∀ (A : Option Addr) (c : Nat) (B : Option Addr) (d : Nat) (w : World), YT w t A c → YT w t B d → Calls Tryz.prog 19 #[yAgg t (.slice A t.kids.length c), yAgg t (.slice B t.kids.length d)] w (RetY (.bool true) fun w' => Below w.heap.size w w') := by
 induction h with
 | mk hl _ ih => exact ySame_step _ hl ih
set_option maxHeartbeats 4000000 in
set_option maxRecDepth 100000 in
theorem ysame_any {t : Ny} (hs : YS maxLen t) (A : Option Addr) (c : Nat) (B : Option Addr) (d : Nat) (w : World) (h1 : YT w t A c) (h2 : YT w t B d) : Calls Tryz.prog 12 #[yAgg t (.slice A t.kids.length c), yAgg t (.slice B t.kids.length d)] w (RetY (.bool true) fun w' => Below w.heap.size w w') := by
 have KC := Lib.hid (fun (W : World) (hb : Below w.heap.size w W) => ySame_any hs A c B d W (YX.below h1 hb) (YX.below h2 hb))
 have hb0 := Lib.hid (show Below w.heap.size w ((w.alloc (.cells (yCells t (.slice A t.kids.length c)).toArray TN)).alloc (.cells (yCells t (.slice B t.kids.length d)).toArray TN)) from ((Below.refl _ w).alloc (Nat.le_refl _) _).alloc (by rw [World.size_alloc]; omega) _)
 clear h1 h2 hs
 simp only [yAgg] at KC ⊢
 go_enter Tryz.func12, Tryz.ntmps12
 go_wp2_with (go_at_call 19; refine (KC.out _ hb0.out).mono ?_)
 rintro e w3 ⟨rfl, hb3⟩
 have hb4 := Lib.hid (hb0.out.trans (hb3.mono hb0.out.size))
 clear hb3
 go_wp2_with fail
 go_ret
 exact ⟨rfl, hb4.out⟩
end Go.Proofs.YtbgmdkjhegacjaaGreatDoor
namespace Go.Proofs.YtbgmdkjhegacjaaGreatDoor
open Go.RowKit
theorem str_back (s : ByteArray) : (⟨s.data.toList.toArray⟩ : ByteArray) = s := by cases s; simp
theorem str_len (s : ByteArray) : s.data.toList.length = s.size := Array.length_toList
end Go.Proofs.YtbgmdkjhegacjaaGreatDoor
