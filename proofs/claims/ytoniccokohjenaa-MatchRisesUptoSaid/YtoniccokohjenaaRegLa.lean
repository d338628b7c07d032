/-
  The laws of chapter 18: the examples at their head.
-/
import Derived.Test.YtoniccokohjenaaRegPa
namespace Go.Proofs.Ytoniccokohjenaa
open Go.RowKit

theorem KX.below {F : Nat → Prop} {w w' : World} {t : Rx} {kv : Value} (h : KX F w t kv) (hb : Below w.heap.size w w') : KX F w' t kv :=
  h.kept fun q _ _ hq hh => ⟨by rw [hb.block q (Array.getElem?_eq_some_iff.1 hh).1]; exact hh, hq⟩
/-- the parts of a part where they lie -/
theorem KX.view {F : Nat → Prop} {w : World} {t : Rx} {kv : Value} (h : KX F w t kv) (hne : t.kids ≠ []) :
    ∃ q o cap, kv = .slice (some ⟨q, o, none⟩) t.kids.length cap ∧ F q ∧ q < w.heap.size ∧ ∀ i k, t.kids[i]? = some k → ∃ A n c, w.rangeAt q (o + i * 10) (rxCells k (.slice A n c)) ∧ n = k.kids.length ∧ KX F w k (.slice A n c) := by
  obtain ⟨n, h⟩ := h
  cases n with
  | zero => exact absurd h.1 hne
  | succ n =>
    obtain ⟨A, cap, e, _, h2⟩ := h
    obtain ⟨q, o, c, z, rfl, hF, hh, hk⟩ := h2 hne
    refine ⟨q, o, cap, e, hF, (Array.getElem?_eq_some_iff.1 hh).1, fun i k hi => ?_⟩
    obtain ⟨kw, hc, hkv⟩ := hk i k hi
    have hkx : KX F w k kw := ⟨n, hkv⟩
    obtain ⟨A', c', rfl⟩ := hkx.slice
    exact ⟨A', _, c', fun j v hj => by rw [Lib.cell_of_heap hh, Nat.add_assoc]; exact hc j v hj, rfl, hkx⟩

theorem pv1 : parseV [97, 124, 98, 42] false = (rxAlt [rxRune 97, rxRepeat (rxRune 98) 0 (-1) false], [], 0, 0) := by kernel_rfl
theorem pv2 : parseV [40, 63, 60, 120, 62, 46, 41, 92, 100, 123, 50, 125] false = (rxSeq [rxGroup (rxKind 2) 1 [120], rxRepeat (rxClass 100 false) 2 2 false], [[120]], 0, 0) := by kernel_rfl
theorem pv3 : parseV [97, 42, 42] false = (rxNone, [], 2, 2) := by kernel_rfl
theorem pv4 : parseV [91, 98, 45, 97, 93] false = (rxNone, [], 3, 2) := by kernel_rfl

/-- what Parse answers, in parts -/
def PrsL (r : Rx × List (List UInt8) × Nat × Nat) (w : World) (e : Ending) (w' : World) : Prop :=
  ∃ A c NA nc, e = .returned (.tuple #[rxAgg r.1 (.slice A r.1.kids.length c), .slice NA r.2.1.length nc, .int .i64 (r.2.2.1 : Int), .int .i64 (r.2.2.2 : Int)]) ∧
    KX (fun q => w.heap.size ≤ q) w' r.1 (.slice A r.1.kids.length c) ∧ w'.ownsRow w.heap.size 9 1 (.slice NA r.2.1.length nc) r.2.1.length (strCells r.2.1) ∧ Below w.heap.size w w'
/-- Parse of a text in the program -/
theorem parse_lit {s : ByteArray} {free : Bool} {r : Rx × List (List UInt8) × Nat × Nat} (h : parseV s.data.toList free = r) (hs : s.size ≤ 17592186044416) (w : World) :
    Calls Try.prog 12 #[.string s, .bool free] w (PrsL r w) :=
  (rxParse_any s free w hs).mono (by
    subst h
    rintro e w' ⟨kv, nv, rfl, hk, hn, hb⟩
    obtain ⟨A, c, rfl⟩ := hk.slice
    obtain ⟨NA, nc, rfl⟩ := rowns_slice hn
    exact ⟨A, c, NA, nc, rfl, hk, hn, hb⟩)

/-- a part in a variable of its own -/
structure PV (w : World) (b : Nat) (X : Rx) (A : Option Addr) (c : Nat) : Prop where
  heap : w.heap[b]? = some (.cells (rxCells X (.slice A X.kids.length c)).toArray TRx (0, 0))
  kids : KX (fun _ => True) w X (.slice A X.kids.length c)
theorem PV.made {F : Nat → Prop} {w : World} {X : Rx} {A : Option Addr} {c : Nat} (h : KX F w X (.slice A X.kids.length c)) : PV (w.alloc (.cells (rxCells X (.slice A X.kids.length c)).toArray TRx)) w.heap.size X A c :=
  ⟨Go.heap_alloc_new w _, h.kept fun q _ _ _ hh => ⟨(Below.heap_alloc w _ q (Array.getElem?_eq_some_iff.1 hh).1).trans hh, trivial⟩⟩
theorem PV.below {w w' : World} {b : Nat} {X : Rx} {A : Option Addr} {c : Nat} (h : PV w b X A c) (hb : Below w.heap.size w w') : PV w' b X A c :=
  ⟨(hb.block b (Array.getElem?_eq_some_iff.1 h.heap).1).trans h.heap, h.kids.below hb⟩
theorem PV.cell {w : World} {b : Nat} {X : Rx} {A : Option Addr} {c : Nat} (h : PV w b X A c) {j : Nat} {v : Value} (hj : (rxCells X (.slice A X.kids.length c))[j]? = some v) : w.cell? ⟨b, j, none⟩ = some v := by
  rw [Lib.cell_of_heap h.heap]; simpa using hj
theorem PV.kid {w : World} {b : Nat} {X : Rx} {A : Option Addr} {c : Nat} (h : PV w b X A c) (hne : X.kids ≠ []) : ∃ q o, A = some ⟨q, o, none⟩ ∧ ∀ i k, X.kids[i]? = some k → ∃ A' c', w.rangeAt q (o + i * 10) (rxCells k (.slice A' k.kids.length c')) ∧ KX (fun _ => True) w k (.slice A' k.kids.length c') := by
  obtain ⟨q, o, cap, e, _, _, hv⟩ := h.kids.view hne
  injection e with e _ _
  refine ⟨q, o, e, fun i k hi => ?_⟩
  obtain ⟨A', n, c', h1, rfl, h2⟩ := hv i k hi
  exact ⟨A', c', h1, h2⟩

set_option maxHeartbeats 4000000 in
set_option maxRecDepth 100000 in
theorem rxShown_any (w : World) : Calls Try.prog 11 #[] w fun e w' => e = .returned (.bool true) ∧ Below w.heap.size w w' := by
  obtain ⟨X1, u1⟩ : ∃ X, X = rxAlt [rxRune 97, rxRepeat (rxRune 98) 0 (-1) false] := ⟨_, rfl⟩
  obtain ⟨X2, u2⟩ : ∃ X, X = rxSeq [rxGroup (rxKind 2) 1 [120], rxRepeat (rxClass 100 false) 2 2 false] := ⟨_, rfl⟩
  obtain ⟨X3, u3⟩ : ∃ X, X = rxNone := ⟨_, rfl⟩
  have p1 := pv1
  have p2 := pv2
  have p3 := pv3
  have p4 := pv4
  rw [← u1] at p1
  rw [← u2] at p2
  rw [← u3] at p3 p4
  have K1 := Lib.hid (fun W => parse_lit (s := ⟨#[97, 124, 98, 42]⟩) p1 (by decide) W)
  have K2 := Lib.hid (fun W => parse_lit (s := ⟨#[40, 63, 60, 120, 62, 46, 41, 92, 100, 123, 50, 125]⟩) p2 (by decide) W)
  have K3 := Lib.hid (fun W => parse_lit (s := ⟨#[97, 42, 42]⟩) p3 (by decide) W)
  have K4 := Lib.hid (fun W => parse_lit (s := ⟨#[91, 98, 45, 97, 93]⟩) p4 (by decide) W)
  have E1 := Lib.hid u1
  have E2 := Lib.hid u2
  have B0 := Lib.hid (Below.refl w.heap.size w)
  clear p1 p2 p3 p4 u1 u2 u3
  go_enter Try.func11, Try.ntmps11
  go_wp2_with (go_at_call 12; refine (K1.out _).mono ?_)
  rintro e w1 ⟨A1, c1, NA1, nc1, rfl, hk1, hn1, hb1⟩
  obtain ⟨V1, hV1⟩ : ∃ V, V = w1.alloc (.cells (rxCells X1 (.slice A1 X1.kids.length c1)).toArray TRx) := ⟨_, rfl⟩
  have P1 := Lib.hid (show PV V1 w1.heap.size X1 A1 c1 by rw [hV1]; exact PV.made hk1)
  have N1 := Lib.hid (show V1.ownsRow 0 9 1 (.slice NA1 _ nc1) _ (strCells _) by rw [hV1]; exact rowns_low (rowns_below hn1 ((Below.refl _ w1).alloc (Nat.le_refl _) _)) (Nat.zero_le _))
  have s1 : Below w.heap.size w V1 := by rw [hV1]; exact hb1.alloc hb1.size _
  have B1 := Lib.hid (B0.out.trans (s1.mono B0.out.size))
  clear hk1 hn1 hb1 s1 B0
  simp only [rxAgg]
  go_upto_region 2 with fail
  have e1 : V1 = w1.alloc (.cells #[.int .i64 (X1.kind : Int), .int .i64 X1.rune, .int .i64 X1.to, .slice A1 X1.kids.length c1, .int .i64 X1.min, .int .i64 X1.max, .bool X1.lazy, .bool X1.not, .int .i64 (X1.group : Int), .string ⟨X1.name.toArray⟩] TRx) := hV1
  rw [← e1]
  clear e1 hV1
  go_wp2_with (go_at_call 12; refine (K2.out _).mono ?_)
  rintro e w2 ⟨A2, c2, NA2, nc2, rfl, hk2, hn2, hb2⟩
  obtain ⟨V2, hV2⟩ : ∃ V, V = w2.alloc (.cells (rxCells X2 (.slice A2 X2.kids.length c2)).toArray TRx) := ⟨_, rfl⟩
  have P2 := Lib.hid (show PV V2 w2.heap.size X2 A2 c2 by rw [hV2]; exact PV.made hk2)
  have N2 := Lib.hid (show V2.ownsRow 0 9 1 (.slice NA2 _ nc2) _ (strCells _) by rw [hV2]; exact rowns_low (rowns_below hn2 ((Below.refl _ w2).alloc (Nat.le_refl _) _)) (Nat.zero_le _))
  have s2 : Below V1.heap.size V1 V2 := by rw [hV2]; exact hb2.alloc hb2.size _
  have B2 := Lib.hid (B1.out.trans (s2.mono B1.out.size))
  have P1 := Lib.hid (P1.out.below s2)
  have N1 := Lib.hid (rowns_below N1.out s2)
  clear hk2 hn2 hb2 s2 B1
  simp only [rxAgg]
  go_upto_region 3 with fail
  have e2 : V2 = w2.alloc (.cells #[.int .i64 (X2.kind : Int), .int .i64 X2.rune, .int .i64 X2.to, .slice A2 X2.kids.length c2, .int .i64 X2.min, .int .i64 X2.max, .bool X2.lazy, .bool X2.not, .int .i64 (X2.group : Int), .string ⟨X2.name.toArray⟩] TRx) := hV2
  rw [← e2]
  clear e2 hV2
  go_wp2_with (go_at_call 12; refine (K3.out _).mono ?_)
  rintro e w3 ⟨A3, c3, NA3, nc3, rfl, hk3, hn3, hb3⟩
  obtain ⟨V3, hV3⟩ : ∃ V, V = w3.alloc (.cells (rxCells X3 (.slice A3 X3.kids.length c3)).toArray TRx) := ⟨_, rfl⟩
  have P3 := Lib.hid (show PV V3 w3.heap.size X3 A3 c3 by rw [hV3]; exact PV.made hk3)
  have N3 := Lib.hid (show V3.ownsRow 0 9 1 (.slice NA3 _ nc3) _ (strCells _) by rw [hV3]; exact rowns_low (rowns_below hn3 ((Below.refl _ w3).alloc (Nat.le_refl _) _)) (Nat.zero_le _))
  have s3 : Below V2.heap.size V2 V3 := by rw [hV3]; exact hb3.alloc hb3.size _
  have B3 := Lib.hid (B2.out.trans (s3.mono B2.out.size))
  have P1 := Lib.hid (P1.out.below s3)
  have N1 := Lib.hid (rowns_below N1.out s3)
  have P2 := Lib.hid (P2.out.below s3)
  have N2 := Lib.hid (rowns_below N2.out s3)
  clear hk3 hn3 hb3 s3 B2
  simp only [rxAgg]
  go_upto_region 4 with fail
  have e3 : V3 = w3.alloc (.cells #[.int .i64 (X3.kind : Int), .int .i64 X3.rune, .int .i64 X3.to, .slice A3 X3.kids.length c3, .int .i64 X3.min, .int .i64 X3.max, .bool X3.lazy, .bool X3.not, .int .i64 (X3.group : Int), .string ⟨X3.name.toArray⟩] TRx) := hV3
  rw [← e3]
  clear e3 hV3
  go_wp2_with (go_at_call 12; refine (K4.out _).mono ?_)
  rintro e w4 ⟨A4, c4, NA4, nc4, rfl, hk4, hn4, hb4⟩
  obtain ⟨V4, hV4⟩ : ∃ V, V = w4.alloc (.cells (rxCells X3 (.slice A4 X3.kids.length c4)).toArray TRx) := ⟨_, rfl⟩
  have P4 := Lib.hid (show PV V4 w4.heap.size X3 A4 c4 by rw [hV4]; exact PV.made hk4)
  have N4 := Lib.hid (show V4.ownsRow 0 9 1 (.slice NA4 _ nc4) _ (strCells _) by rw [hV4]; exact rowns_low (rowns_below hn4 ((Below.refl _ w4).alloc (Nat.le_refl _) _)) (Nat.zero_le _))
  have s4 : Below V3.heap.size V3 V4 := by rw [hV4]; exact hb4.alloc hb4.size _
  have B4 := Lib.hid (B3.out.trans (s4.mono B3.out.size))
  have P1 := Lib.hid (P1.out.below s4)
  have N1 := Lib.hid (rowns_below N1.out s4)
  have P2 := Lib.hid (P2.out.below s4)
  have N2 := Lib.hid (rowns_below N2.out s4)
  clear hk4 hn4 hb4 s4 B3
  simp only [rxAgg]
  go_upto_region 5 with fail
  have e4 : V4 = w4.alloc (.cells #[.int .i64 (X3.kind : Int), .int .i64 X3.rune, .int .i64 X3.to, .slice A4 X3.kids.length c4, .int .i64 X3.min, .int .i64 X3.max, .bool X3.lazy, .bool X3.not, .int .i64 (X3.group : Int), .string ⟨X3.name.toArray⟩] TRx) := hV4
  rw [← e4]
  clear e4 hV4
  have c13 : V4.cell? ⟨w1.heap.size, 3, none⟩ = some (.slice A1 2 c1) := by rw [P1.out.cell (j := 3) rfl, E1.out]; rfl
  have c10 : V4.cell? ⟨w1.heap.size, 0, none⟩ = some (.int .i64 7) := by rw [P1.out.cell (j := 0) rfl, E1.out]; rfl
  have c23 : V4.cell? ⟨w2.heap.size, 3, none⟩ = some (.slice A2 2 c2) := by rw [P2.out.cell (j := 3) rfl, E2.out]; rfl
  obtain ⟨q1, o1, rfl, hv1⟩ := P1.out.kid (by rw [E1.out]; simp [rxAlt, Rx.kids])
  obtain ⟨q2, o2, rfl, hv2⟩ := P2.out.kid (by rw [E2.out]; simp [rxSeq, Rx.kids])
  obtain ⟨_, _, r1, _⟩ := hv1 1 (rxRepeat (rxRune 98) 0 (-1) false) (by rw [E1.out]; rfl)
  obtain ⟨_, _, r2, _⟩ := hv2 0 (rxGroup (rxKind 2) 1 [120]) (by rw [E2.out]; rfl)
  have a1 : V4.cell? ⟨q1, o1 + 10, none⟩ = some (.int .i64 8) := r1 0 _ rfl
  have a2 : V4.cell? ⟨q1, o1 + 10 + 5, none⟩ = some (.int .i64 (-1)) := r1 5 _ rfl
  have a3 : V4.cell? ⟨q2, o2 + 8, none⟩ = some (.int .i64 1) := r2 8 _ rfl
  obtain ⟨g2, hg2, rfl⟩ : ∃ g2, V4.cell? ⟨g2, 0, none⟩ = some (.string ⟨#[120]⟩) ∧ NA2 = some ⟨g2, 0, none⟩ := by
    rcases N2.out.2 with ⟨_, h0⟩ | ⟨g, cap, cur, hv, _⟩
    · cases h0
    · injection hv with hv _ _
      refine ⟨g, ?_, hv⟩
      subst hv
      exact N2.out.cells rfl 0 _ rfl
  clear hv1 hv2 r1 r2
  go_wp2
  go_ret
  exact ⟨rfl, B4.out⟩

end Go.Proofs.Ytoniccokohjenaa
