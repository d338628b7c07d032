/-
  The walks of Same, sound, Depth, SameTexts (chapter 18).
-/
import Derived.Test.YtoniccokohjenaaRegLa
import Derived.Test.YtoniccokohjenaaRegSm
namespace Go.Proofs.Ytoniccokohjenaa
open Go.RowKit

abbrev KT (w : World) (t : Rx) (A : Option Addr) (c : Nat) : Prop := KX (fun _ => True) w t (.slice A t.kids.length c)
/-- the parts of a part, one by one -/
theorem KT.kid {w : World} {t : Rx} {A : Option Addr} {c : Nat} (h : KT w t A c) (hne : t.kids ≠ []) : ∃ q o, A = some ⟨q, o, none⟩ ∧ ∀ i k, t.kids[i]? = some k → ∃ A' c', w.rangeAt q (o + i * 10) (rxCells k (.slice A' k.kids.length c')) ∧ KT w k A' c' := by
  obtain ⟨q, o, cap, e, _, _, hv⟩ := h.view hne
  injection e with e _ _
  refine ⟨q, o, e, fun i k hi => ?_⟩
  obtain ⟨A', n, c', h1, rfl, h2⟩ := hv i k hi
  exact ⟨A', c', h1, h2⟩

theorem KT.caps {w : World} {t : Rx} {A : Option Addr} {c : Nat} (h : KT w t A c) (hne : t.kids ≠ []) : t.kids.length ≤ c ∧ c ≤ maxLen := by
  obtain ⟨n, h⟩ := h
  cases n with
  | zero => exact absurd h.1 hne
  | succ n =>
    obtain ⟨A', cap, e, hcp, _⟩ := h
    injection e with _ _ e
    subst e
    exact hcp hne
theorem rx_at {w : World} {q o : Nat} {k : Rx} {A : Option Addr} {c : Nat} (h : w.rangeAt q o (rxCells k (.slice A k.kids.length c))) : w.cell? ⟨q, o, none⟩ = some (.int .i64 (k.kind : Int)) ∧ w.cell? ⟨q, o + 1, none⟩ = some (.int .i64 k.rune) ∧ w.cell? ⟨q, o + 2, none⟩ = some (.int .i64 k.to) ∧ w.cell? ⟨q, o + 3, none⟩ = some (.slice A k.kids.length c) ∧ w.cell? ⟨q, o + 4, none⟩ = some (.int .i64 k.min) ∧ w.cell? ⟨q, o + 5, none⟩ = some (.int .i64 k.max) ∧ w.cell? ⟨q, o + 6, none⟩ = some (.bool k.lazy) ∧ w.cell? ⟨q, o + 7, none⟩ = some (.bool k.not) ∧ w.cell? ⟨q, o + 8, none⟩ = some (.int .i64 (k.group : Int)) ∧ w.cell? ⟨q, o + 9, none⟩ = some (.string ⟨k.name.toArray⟩) :=
  ⟨h 0 _ rfl, h 1 _ rfl, h 2 _ rfl, h 3 _ rfl, h 4 _ rfl, h 5 _ rfl, h 6 _ rfl, h 7 _ rfl, h 8 _ rfl, h 9 _ rfl⟩
set_option maxHeartbeats 4000000 in
set_option maxRecDepth 100000 in
theorem rxSame_step {m : Nat} (hm : m ≤ 1000000) (t : Rx) (hl : t.kids.length ≤ m) (ih : ∀ k ∈ t.kids, ∀ (A : Option Addr) (c : Nat) (B : Option Addr) (d : Nat) (w : World), KT w k A c → KT w k B d → Calls Try.prog 14 #[rxAgg k (.slice A k.kids.length c), rxAgg k (.slice B k.kids.length d)] w (RetE (.bool true) fun w' => Below w.heap.size w w'))
    (A : Option Addr) (c : Nat) (B : Option Addr) (d : Nat) (w : World) (h1 : KT w t A c) (h2 : KT w t B d) : Calls Try.prog 14 #[rxAgg t (.slice A t.kids.length c), rxAgg t (.slice B t.kids.length d)] w (RetE (.bool true) fun w' => Below w.heap.size w w') := by
  have H1 := Lib.hid h1
  have H2 := Lib.hid h2
  have IH := Lib.hid ih
  clear h1 h2 ih
  simp only [rxAgg]
  go_enter Try.func14, Try.ntmps14
  have hs1 : (w.alloc (.cells (rxCells t (.slice A t.kids.length c)).toArray TRx)).heap.size = w.heap.size + 1 := World.size_alloc _ _
  have hb0 : Below w.heap.size w ((w.alloc (.cells (rxCells t (.slice A t.kids.length c)).toArray TRx)).alloc (.cells (rxCells t (.slice B t.kids.length d)).toArray TRx)) := ((Below.refl _ w).alloc (Nat.le_refl _) _).alloc (by omega) _
  have hx0 : ((w.alloc (.cells (rxCells t (.slice A t.kids.length c)).toArray TRx)).alloc (.cells (rxCells t (.slice B t.kids.length d)).toArray TRx)).heap[w.heap.size]? = some (.cells (rxCells t (.slice A t.kids.length c)).toArray TRx (0, 0)) := (Below.heap_alloc _ _ w.heap.size (by omega)).trans (Go.heap_alloc_new w _)
  have hy0 : ((w.alloc (.cells (rxCells t (.slice A t.kids.length c)).toArray TRx)).alloc (.cells (rxCells t (.slice B t.kids.length d)).toArray TRx)).heap[w.heap.size + 1]? = some (.cells (rxCells t (.slice B t.kids.length d)).toArray TRx (0, 0)) := by rw [← hs1]; exact Go.heap_alloc_new _ _
  have B0 := Lib.hid hb0
  have X0 := Lib.hid hx0
  have Y0 := Lib.hid hy0
  clear hb0 hx0 hy0 hs1
  generalize hn : t.kids.length = n at *
  have HN := Lib.hid hn
  clear hn
  go_wp2
  go_loopg [5] (n + 1) (fun kx v wr => ∃ i : Nat, v = .int .i64 (i : Int) ∧ i ≤ n ∧ n - i ≤ kx ∧ Below w.heap.size w wr ∧ wr.heap[w.heap.size]? = some (.cells (rxCells t (.slice A n c)).toArray TRx (0, 0)) ∧ wr.heap[w.heap.size + 1]? = some (.cells (rxCells t (.slice B n d)).toArray TRx (0, 0)))
  case atStart => exact ⟨0, rfl, Nat.zero_le _, by omega, B0.out, X0.out, Y0.out⟩
  case round =>
    obtain ⟨i, rfl, hi, hik, hb, hx, hy⟩ := hrel
    have c1 : wr.cell? ⟨w.heap.size, 3, none⟩ = some (.slice A n c) := by rw [Lib.cell_of_heap hx]; rfl
    have c2 : wr.cell? ⟨w.heap.size + 1, 3, none⟩ = some (.slice B n d) := by rw [Lib.cell_of_heap hy]; rfl
    have HB := Lib.hid hb
    have HX := Lib.hid hx
    have HY := Lib.hid hy
    clear hb hx hy
    by_cases hlt : i < n
    · have z1 : decide ((i : Int) < (n : Int)) = true := decide_eq_true (by omega)
      have hne : t.kids ≠ [] := fun e => by have := HN.out; rw [e] at this; simp at this; omega
      obtain ⟨q1, o1, rfl, hv1⟩ := KT.kid (KX.below H1.out HB.out) hne
      obtain ⟨q2, o2, rfl, hv2⟩ := KT.kid (KX.below H2.out HB.out) hne
      have hlt' : i < t.kids.length := by rw [HN.out]; exact hlt
      obtain ⟨k, hk⟩ : ∃ k, k = t.kids[i] := ⟨_, rfl⟩
      have hki : t.kids[i]? = some k := by rw [hk]; exact List.getElem?_eq_getElem hlt'
      have hkm : k ∈ t.kids := List.mem_of_getElem? hki
      obtain ⟨A1, c1', r1, k1⟩ := hv1 i k hki
      obtain ⟨A2, c2', r2, k2⟩ := hv2 i k hki
      have KC := Lib.hid (fun (W : World) (h1 : KT W k A1 c1') (h2 : KT W k A2 c2') => IH.out k hkm A1 c1' A2 c2' W h1 h2)
      have K1 := Lib.hid k1
      have K2 := Lib.hid k2
      clear hv1 hv2 hk hki hkm k1 k2 hne
      obtain ⟨e0, e1, e2, e3, e4, e5, e6, e7, e8, e9⟩ := rx_at r1
      obtain ⟨f0, f1, f2, f3, f4, f5, f6, f7, f8, f9⟩ := rx_at r2
      clear r1 r2
      have i0 : (0 : Int) ≤ (i : Int) := by omega
      have i1 : (i : Int) < (n : Int) := by omega
      simp only [rxAgg] at KC
      go_upto_region 6 with fail
      go_still_tail 10, (by kernel_rfl)
      go_wp2_with (go_at_call 14; refine (KC.out wr.drew (KX.kept (w := wr) (w' := wr.drew) (fun _ _ _ _ hh => ⟨hh, trivial⟩) K1.out) (KX.kept (w := wr) (w' := wr.drew) (fun _ _ _ _ hh => ⟨hh, trivial⟩) K2.out)).mono ?_)
      rintro e w3 ⟨rfl, hb3⟩
      have hsz := HB.out.size
      have l1 := (Array.getElem?_eq_some_iff.1 HX.out).1
      have l2 := (Array.getElem?_eq_some_iff.1 HY.out).1
      have hb4 := Lib.hid (HB.out.drew.trans (hb3.mono hsz))
      have hx4 := Lib.hid ((hb3.block w.heap.size l1).trans HX.out)
      have hy4 := Lib.hid ((hb3.block (w.heap.size + 1) l2).trans HY.out)
      clear hb3
      go_wp2_with fail
      go_roundg (n - (i + 1))
      case measure => omega
      case rel => exact ⟨i + 1, by go_num, by omega, Nat.le_refl _, hb4.out, hx4.out, hy4.out⟩
    · have z1 : decide ((i : Int) < (n : Int)) = false := decide_eq_false (by omega)
      go_wp2
      go_ret
      exact ⟨rfl, HB.out⟩

/-- two equal trees are found the same -/
theorem rxSame_any {m : Nat} (hm : m ≤ 1000000) {t : Rx} (h : Sm m t) : ∀ (A : Option Addr) (c : Nat) (B : Option Addr) (d : Nat) (w : World), KT w t A c → KT w t B d → Calls Try.prog 14 #[rxAgg t (.slice A t.kids.length c), rxAgg t (.slice B t.kids.length d)] w (RetE (.bool true) fun w' => Below w.heap.size w w') := by
  induction h with
  | mk hl _ ih => exact rxSame_step hm _ hl ih

mutual
theorem soundR_le : ∀ (x : Rx) (k : Nat), k ≤ (soundR x k).2
  | .mk kind rune tt kids min max z n g nm, k => by
    rw [soundR]
    split
    · exact Nat.le_refl _
    split
    · split
      · exact Nat.le_refl _
      · exact Nat.le_trans (Nat.le_succ k) (soundsR_le kids (k + 1))
    · exact soundsR_le kids k
theorem soundsR_le : ∀ (xs : List Rx) (k : Nat), k ≤ (soundsR xs k).2
  | [], k => Nat.le_refl _
  | x :: xs, k => by
    rw [soundsR]
    split
    · exact Nat.le_trans (soundR_le x k) (soundsR_le xs _)
    · exact soundR_le x k
end
theorem Snds.le {xs : List Rx} {k k' : Nat} (h : Snds xs k k') : k ≤ k' := by have := soundsR_le xs k; rw [show soundsR xs k = (true, k') from h] at this; exact this
theorem Snds.uncons {x : Rx} {xs : List Rx} {k k' : Nat} (h : Snds (x :: xs) k k') : ∃ a, Snd x k a ∧ Snds xs a k' := by
  unfold Snds at h; rw [soundsR] at h
  split at h
  · rename_i h1
    exact ⟨(soundR x k).2, Prod.ext h1 rfl, h⟩
  · injection h with h1 _; cases h1
theorem Snd.facts {t : Rx} {k k' : Nat} (h : Snd t k k') : t.kind ≤ 12 ∧ (t.kind = 8 → t.kids.length = 1 ∧ 0 ≤ t.min ∧ -1 ≤ t.max ∧ (0 ≤ t.max → t.min ≤ t.max)) ∧ (t.kind = 4 → t.rune ≤ t.to) ∧ ∃ k1, (t.kind = 9 → t.group = k ∧ t.kids.length = 1 ∧ k1 = k + 1) ∧ (t.kind ≠ 9 → k1 = k) ∧ Snds t.kids k1 k' := by
  obtain ⟨kind, rune, tt, kids, min, max, z, n, g, nm⟩ := t
  unfold Snd at h; rw [soundR] at h
  simp only [Rx.kind, Rx.kids, Rx.min, Rx.max, Rx.rune, Rx.to, Rx.group]
  split at h
  · injection h with h1 _; cases h1
  rename_i hn
  split at h
  · rename_i h9
    split at h
    · injection h with h1 _; cases h1
    · exact ⟨by omega, by omega, by omega, k + 1, by omega, by omega, h⟩
  · rename_i h9
    exact ⟨by omega, by omega, by omega, k, by omega, by omega, h⟩

set_option maxHeartbeats 4000000 in
set_option maxRecDepth 100000 in
theorem rxSound_step {m : Nat} (hm : m ≤ 1000000) (t : Rx) (hl : t.kids.length ≤ m) (ih : ∀ k ∈ t.kids, ∀ (A : Option Addr) (c : Nat) (w : World) (a b : Nat), KT w k A c → Snd k a b → b ≤ 1000000 → Calls Try.prog 17 #[rxAgg k (.slice A k.kids.length c), .int .i64 (a : Int)] w (RetE (.tuple #[.bool true, .int .i64 (b : Int)]) fun w' => Below w.heap.size w w'))
    (A : Option Addr) (c : Nat) (w : World) (a b : Nat) (h1 : KT w t A c) (hs : Snd t a b) (hb : b ≤ 1000000) : Calls Try.prog 17 #[rxAgg t (.slice A t.kids.length c), .int .i64 (a : Int)] w (RetE (.tuple #[.bool true, .int .i64 (b : Int)]) fun w' => Below w.heap.size w w') := by
  obtain ⟨g12, g8, g4, k1, g9, gn9, hks⟩ := hs.facts
  have hk1b := hks.le
  have H1 := Lib.hid h1
  have IH := Lib.hid ih
  have HKS := Lib.hid hks
  have hx0 : (w.alloc (.cells (rxCells t (.slice A t.kids.length c)).toArray TRx)).heap[w.heap.size]? = some (.cells (rxCells t (.slice A t.kids.length c)).toArray TRx (0, 0)) := Go.heap_alloc_new w _
  have hb0 : Below w.heap.size w (w.alloc (.cells (rxCells t (.slice A t.kids.length c)).toArray TRx)) := (Below.refl _ w).alloc (Nat.le_refl _) _
  clear h1 ih hs hks
  generalize hn : t.kids.length = n at *
  have HN := Lib.hid hn
  clear hn
  simp only [rxAgg]
  go_enter Try.func17, Try.ntmps17
  go_upto_region 1 with fail
  obtain ⟨W, hW⟩ : ∃ W, W = w.alloc (.cells (rxCells t (.slice A n c)).toArray TRx) := ⟨_, rfl⟩
  have eW : W = w.alloc (.cells #[.int .i64 (t.kind : Int), .int .i64 t.rune, .int .i64 t.to, .slice A n c, .int .i64 t.min, .int .i64 t.max, .bool t.lazy, .bool t.not, .int .i64 (t.group : Int), .string ⟨t.name.toArray⟩] TRx) := hW
  rw [← eW]
  rw [← hW] at hx0 hb0
  clear eW hW
  have c0 : W.cell? ⟨w.heap.size, 0, none⟩ = some (.int .i64 (t.kind : Int)) := by rw [Lib.cell_of_heap hx0]; rfl
  have c1 : W.cell? ⟨w.heap.size, 1, none⟩ = some (.int .i64 t.rune) := by rw [Lib.cell_of_heap hx0]; rfl
  have c2 : W.cell? ⟨w.heap.size, 2, none⟩ = some (.int .i64 t.to) := by rw [Lib.cell_of_heap hx0]; rfl
  have c3 : W.cell? ⟨w.heap.size, 3, none⟩ = some (.slice A n c) := by rw [Lib.cell_of_heap hx0]; rfl
  have c4 : W.cell? ⟨w.heap.size, 4, none⟩ = some (.int .i64 t.min) := by rw [Lib.cell_of_heap hx0]; rfl
  have c5 : W.cell? ⟨w.heap.size, 5, none⟩ = some (.int .i64 t.max) := by rw [Lib.cell_of_heap hx0]; rfl
  have c8 : W.cell? ⟨w.heap.size, 8, none⟩ = some (.int .i64 (t.group : Int)) := by rw [Lib.cell_of_heap hx0]; rfl
  have HX := Lib.hid hx0
  have HB := Lib.hid hb0
  clear hx0 hb0
  generalize t.kind = kd at *
  generalize t.rune = ru at *
  generalize t.to = tt at *
  generalize t.min = mi at *
  generalize t.max = ma at *
  generalize t.group = gr at *
  go_cut [60] from 8 (fun x wx => x = .bool false ∧ wx = W)
  case first =>
    have z0 : decide ((kd : Int) < 0) = false := decide_eq_false (by omega)
    have z1 : decide ((12 : Int) < (kd : Int)) = false := decide_eq_false (by omega)
    by_cases h8 : kd = 8
    · subst h8
      obtain ⟨q1, q2, q3, q4⟩ := g8 rfl
      subst q1
      have y1 : decide (mi < 0) = false := decide_eq_false (by omega)
      have y2 : decide (ma < -1) = false := decide_eq_false (by omega)
      clear g8 g4 g9 gn9
      by_cases h0 : 0 ≤ ma
      · have y3 : decide ((0 : Int) ≤ ma) = true := decide_eq_true h0
        have y4 : decide (ma < mi) = false := decide_eq_false (by omega)
        clear q2 q3 q4 h0
        go_wp2_with fail
        go_meet
        exact ⟨rfl, rfl⟩
      · have y3 : decide ((0 : Int) ≤ ma) = false := decide_eq_false h0
        clear q2 q3 q4 h0
        go_wp2_with fail
        go_meet
        exact ⟨rfl, rfl⟩
    · have x8 : ((kd : Int) == 8) = false := beq_false_of_ne (by omega)
      by_cases h4 : kd = 4
      · subst h4
        have y1 : decide (tt < ru) = false := decide_eq_false (by have := g4 rfl; omega)
        clear g8 g4 g9 gn9 h8
        go_wp2_with fail
        go_meet
        exact ⟨rfl, rfl⟩
      · have x4 : ((kd : Int) == 4) = false := beq_false_of_ne (by omega)
        clear g8 g4 g9 gn9 h8 h4
        go_wp2_with fail
        go_meet
        exact ⟨rfl, rfl⟩
  case rest =>
    obtain ⟨rfl, rfl⟩ := hcut
    go_upto_if 64 with fail
    go_cut [1] from 8 (fun x wx => x = .int .i64 (k1 : Int) ∧ wx = wc)
    case first =>
      by_cases h9 : kd = 9
      · obtain ⟨hg1, hg2, hg3⟩ := g9 h9
        subst h9
        subst hg1
        subst hg2
        subst hg3
        clear g8 g4 g9 gn9
        go_wp2_with fail
        go_meet
        exact ⟨by go_num, rfl⟩
      · have hk := gn9 h9
        subst hk
        have x9 : ((kd : Int) == 9) = false := beq_false_of_ne (by omega)
        clear g8 g4 g9 gn9 h9
        go_wp2_with fail
        go_meet
        exact ⟨rfl, rfl⟩
    case rest =>
      obtain ⟨rfl, rfl⟩ := hcut
      clear g8 g4 g9 gn9 g12
      go_wp2
      go_loopg [1, 6] (n + 1) (fun kx v1 v6 wr => ∃ i cur : Nat, v6 = .int .i64 (i : Int) ∧ v1 = .int .i64 (cur : Int) ∧ i ≤ n ∧ n - i ≤ kx ∧ Hid (Snds (t.kids.drop i) cur b) ∧ Below w.heap.size w wr ∧ wr.cell? ⟨w.heap.size, 3, none⟩ = some (.slice A n c) ∧ w.heap.size < wr.heap.size)
      case atStart => exact ⟨0, k1, rfl, rfl, Nat.zero_le _, by omega, HKS, HB.out, c3, (Array.getElem?_eq_some_iff.1 HX.out).1⟩
      case round =>
        obtain ⟨i, cur, rfl, rfl, hi, hik, hsn, hbr, c3r, hlr⟩ := hrel
        have HBR := Lib.hid hbr
        clear c0 c1 c2 c3 c4 c5 c8 HX HB hbr
        by_cases hlt : i < n
        · have z1 : decide ((i : Int) < (n : Int)) = true := decide_eq_true (by omega)
          have hne : t.kids ≠ [] := fun e => by have := HN.out; rw [e] at this; simp at this; omega
          obtain ⟨q1, o1, rfl, hv1⟩ := KT.kid (KX.below H1.out HBR.out) hne
          have hlt' : i < t.kids.length := by rw [HN.out]; exact hlt
          obtain ⟨k, hk⟩ : ∃ k, k = t.kids[i] := ⟨_, rfl⟩
          have hki : t.kids[i]? = some k := by rw [hk]; exact List.getElem?_eq_getElem hlt'
          have hkm : k ∈ t.kids := List.mem_of_getElem? hki
          have hd : t.kids.drop i = k :: t.kids.drop (i + 1) := by rw [hk]; exact List.drop_eq_getElem_cons hlt'
          obtain ⟨nx, hs1, hs2⟩ := (show Snds (k :: t.kids.drop (i + 1)) cur b by rw [← hd]; exact hsn.out).uncons
          have hle := hs2.le
          obtain ⟨A1, c1', r1, k1'⟩ := hv1 i k hki
          have KC := Lib.hid (IH.out k hkm A1 c1' wr cur nx k1' hs1 (by omega))
          have HS2 := Lib.hid hs2
          clear hv1 hk hki hkm k1' hne hd hs1 hs2 hsn
          obtain ⟨e0, e1, e2, e3, e4, e5, e6, e7, e8, e9⟩ := rx_at r1
          clear r1
          have i0 : (0 : Int) ≤ (i : Int) := by omega
          have i1 : (i : Int) < (n : Int) := by omega
          simp only [rxAgg] at KC
          go_wp2_with (go_at_call 17; refine KC.out.mono ?_)
          rintro e w3 ⟨rfl, hb3⟩
          have hsz := HBR.out.size
          have hb4 := Lib.hid (HBR.out.trans (hb3.mono hsz))
          have c34 := (hb3.cell (p := ⟨w.heap.size, 3, none⟩) hlr).trans c3r
          have hlr4 := Nat.lt_of_lt_of_le hlr hb3.size
          clear hb3 c3r
          go_wp2_with fail
          go_roundg (n - (i + 1))
          case measure => omega
          case rel => exact ⟨i + 1, nx, by go_num, rfl, by omega, Nat.le_refl _, HS2, hb4.out, c34, hlr4⟩
        · have z1 : decide ((i : Int) < (n : Int)) = false := decide_eq_false (by omega)
          have hce : cur = b := by
            have h := hsn.out
            rw [List.drop_eq_nil_of_le (by rw [HN.out]; omega)] at h
            injection h with _ h
          subst hce
          go_wp2
          go_returns
          exact ⟨rfl, HBR.out⟩

/-- a sound tree is found sound -/
theorem rxSound_any {m : Nat} (hm : m ≤ 1000000) {t : Rx} (h : Sm m t) : ∀ (A : Option Addr) (c : Nat) (w : World) (a b : Nat), KT w t A c → Snd t a b → b ≤ 1000000 → Calls Try.prog 17 #[rxAgg t (.slice A t.kids.length c), .int .i64 (a : Int)] w (RetE (.tuple #[.bool true, .int .i64 (b : Int)]) fun w' => Below w.heap.size w w') := by
  induction h with
  | mk hl _ ih => exact rxSound_step hm _ hl ih

end Go.Proofs.Ytoniccokohjenaa
