/-
  The law RegexPlain (chapter 18): its walk.
-/
import Derived.Test.YtoniccokohjenaaRegLd
namespace Go.Proofs.Ytoniccokohjenaa
open Go.RowKit

/-- is a sign plain? -/
def plB (c : Int) : Bool := (decide (48 ≤ c) && decide (c ≤ 57)) || (decide (65 ≤ c) && decide (c ≤ 90)) || (decide (97 ≤ c) && decide (c ≤ 122)) || decide (128 ≤ c)
theorem plB_iff {c : Int} (h : plB c = true) : plainI c := by
  unfold plB at h; unfold plainI
  simp only [Bool.or_eq_true, Bool.and_eq_true, decide_eq_true_eq] at h
  omega

/-- what lies behind three patterns -/
structure PF (b1 b2 b3 q2 o2 q3 o3 : Nat) (X : Rx) (A1 : Option Addr) (c1 : Nat) (A4 : Option Addr) (c4 : Nat) (A5 : Option Addr) (c5 : Nat) (A6 : Option Addr) (c6 c2 c3 : Nat) (W : World) : Prop where
  p1 : PV W b1 X A1 c1
  g3 : W.cell? ⟨b2, 3, none⟩ = some (.slice (some ⟨q2, o2, none⟩) 1 c2)
  a3 : W.cell? ⟨b3, 3, none⟩ = some (.slice (some ⟨q3, o3, none⟩) 2 c3)
  r4 : W.rangeAt q2 o2 (rxCells X (.slice A4 X.kids.length c4))
  r5 : W.rangeAt q3 o3 (rxCells X (.slice A5 X.kids.length c5))
  r6 : W.rangeAt q3 (o3 + 10) (rxCells X (.slice A6 X.kids.length c6))
  k4 : KT W X A4 c4
  k5 : KT W X A5 c5
  k6 : KT W X A6 c6
theorem range_below {w w' : World} {q o : Nat} {cs : List Value} (h : w.rangeAt q o cs) (hb : Below w.heap.size w w') : w'.rangeAt q o cs := fun j v hj =>
  (hb.cell (p := ⟨q, o + j, none⟩) (World.block_lt_of_cell? w _ (h j v hj))).trans (h j v hj)
theorem PF.below {b1 b2 b3 q2 o2 q3 o3 : Nat} {X : Rx} {A1 : Option Addr} {c1 : Nat} {A4 : Option Addr} {c4 : Nat} {A5 : Option Addr} {c5 : Nat} {A6 : Option Addr} {c6 c2 c3 : Nat} {W W' : World} (h : PF b1 b2 b3 q2 o2 q3 o3 X A1 c1 A4 c4 A5 c5 A6 c6 c2 c3 W) (hb : Below W.heap.size W W') : PF b1 b2 b3 q2 o2 q3 o3 X A1 c1 A4 c4 A5 c5 A6 c6 c2 c3 W' :=
  ⟨h.p1.below hb, (hb.cell (p := ⟨b2, 3, none⟩) (World.block_lt_of_cell? W _ h.g3)).trans h.g3, (hb.cell (p := ⟨b3, 3, none⟩) (World.block_lt_of_cell? W _ h.a3)).trans h.a3, range_below h.r4 hb, range_below h.r5 hb, range_below h.r6 hb, KX.below h.k4 hb, KX.below h.k5 hb, KX.below h.k6 hb⟩
theorem PF.facts {b1 b2 b3 q2 o2 q3 o3 : Nat} {X : Rx} {A1 : Option Addr} {c1 : Nat} {A4 : Option Addr} {c4 : Nat} {A5 : Option Addr} {c5 : Nat} {A6 : Option Addr} {c6 c2 c3 : Nat} {W : World} (h : PF b1 b2 b3 q2 o2 q3 o3 X A1 c1 A4 c4 A5 c5 A6 c6 c2 c3 W) : W.cell? ⟨b1, 0, none⟩ = some (.int .i64 (X.kind : Int)) ∧ W.cell? ⟨b1, 1, none⟩ = some (.int .i64 X.rune) ∧ W.cell? ⟨b1, 2, none⟩ = some (.int .i64 X.to) ∧ W.cell? ⟨b1, 3, none⟩ = some (.slice A1 X.kids.length c1) ∧ W.cell? ⟨b1, 4, none⟩ = some (.int .i64 X.min) ∧ W.cell? ⟨b1, 5, none⟩ = some (.int .i64 X.max) ∧ W.cell? ⟨b1, 6, none⟩ = some (.bool X.lazy) ∧ W.cell? ⟨b1, 7, none⟩ = some (.bool X.not) ∧ W.cell? ⟨b1, 8, none⟩ = some (.int .i64 (X.group : Int)) ∧ W.cell? ⟨b1, 9, none⟩ = some (.string ⟨X.name.toArray⟩) ∧ W.cell? ⟨b2, 3, none⟩ = some (.slice (some ⟨q2, o2, none⟩) 1 c2) ∧ W.cell? ⟨b3, 3, none⟩ = some (.slice (some ⟨q3, o3, none⟩) 2 c3) ∧ W.cell? ⟨q2, o2, none⟩ = some (.int .i64 (X.kind : Int)) ∧ W.cell? ⟨q2, o2 + 1, none⟩ = some (.int .i64 X.rune) ∧ W.cell? ⟨q2, o2 + 2, none⟩ = some (.int .i64 X.to) ∧ W.cell? ⟨q2, o2 + 3, none⟩ = some (.slice A4 X.kids.length c4) ∧ W.cell? ⟨q2, o2 + 4, none⟩ = some (.int .i64 X.min) ∧ W.cell? ⟨q2, o2 + 5, none⟩ = some (.int .i64 X.max) ∧ W.cell? ⟨q2, o2 + 6, none⟩ = some (.bool X.lazy) ∧ W.cell? ⟨q2, o2 + 7, none⟩ = some (.bool X.not) ∧ W.cell? ⟨q2, o2 + 8, none⟩ = some (.int .i64 (X.group : Int)) ∧ W.cell? ⟨q2, o2 + 9, none⟩ = some (.string ⟨X.name.toArray⟩) ∧ W.cell? ⟨q3, o3, none⟩ = some (.int .i64 (X.kind : Int)) ∧ W.cell? ⟨q3, o3 + 1, none⟩ = some (.int .i64 X.rune) ∧ W.cell? ⟨q3, o3 + 2, none⟩ = some (.int .i64 X.to) ∧ W.cell? ⟨q3, o3 + 3, none⟩ = some (.slice A5 X.kids.length c5) ∧ W.cell? ⟨q3, o3 + 4, none⟩ = some (.int .i64 X.min) ∧ W.cell? ⟨q3, o3 + 5, none⟩ = some (.int .i64 X.max) ∧ W.cell? ⟨q3, o3 + 6, none⟩ = some (.bool X.lazy) ∧ W.cell? ⟨q3, o3 + 7, none⟩ = some (.bool X.not) ∧ W.cell? ⟨q3, o3 + 8, none⟩ = some (.int .i64 (X.group : Int)) ∧ W.cell? ⟨q3, o3 + 9, none⟩ = some (.string ⟨X.name.toArray⟩) ∧ W.cell? ⟨q3, o3 + 10, none⟩ = some (.int .i64 (X.kind : Int)) ∧ W.cell? ⟨q3, o3 + 10 + 1, none⟩ = some (.int .i64 X.rune) ∧ W.cell? ⟨q3, o3 + 10 + 2, none⟩ = some (.int .i64 X.to) ∧ W.cell? ⟨q3, o3 + 10 + 3, none⟩ = some (.slice A6 X.kids.length c6) ∧ W.cell? ⟨q3, o3 + 10 + 4, none⟩ = some (.int .i64 X.min) ∧ W.cell? ⟨q3, o3 + 10 + 5, none⟩ = some (.int .i64 X.max) ∧ W.cell? ⟨q3, o3 + 10 + 6, none⟩ = some (.bool X.lazy) ∧ W.cell? ⟨q3, o3 + 10 + 7, none⟩ = some (.bool X.not) ∧ W.cell? ⟨q3, o3 + 10 + 8, none⟩ = some (.int .i64 (X.group : Int)) ∧ W.cell? ⟨q3, o3 + 10 + 9, none⟩ = some (.string ⟨X.name.toArray⟩) := by
  obtain ⟨e0, e1, e2, e3, e4, e5, e6, e7, e8, e9⟩ := h.p1.all
  obtain ⟨f0, f1, f2, f3, f4, f5, f6, f7, f8, f9⟩ := rx_at h.r4
  obtain ⟨g0, g1, g2, g3, g4, g5, g6, g7, g8, g9⟩ := rx_at h.r5
  obtain ⟨i0, i1, i2, i3, i4, i5, i6, i7, i8, i9⟩ := rx_at h.r6
  exact ⟨e0, e1, e2, e3, e4, e5, e6, e7, e8, e9, h.g3, h.a3, f0, f1, f2, f3, f4, f5, f6, f7, f8, f9, g0, g1, g2, g3, g4, g5, g6, g7, g8, g9, i0, i1, i2, i3, i4, i5, i6, i7, i8, i9⟩

set_option maxHeartbeats 4000000 in
set_option maxRecDepth 100000 in
theorem regexPlain_walk (s : ByteArray) (w : World) (hs : s.size ≤ 1000000000) :
    Calls Try.prog 5 #[.string s] w fun e w' => e = .returned (.bool true) ∧ Below w.heap.size w w' := by
  have hlen := explode_len s.data.toList
  have hsz := Lib.size_eq s
  have KE := Lib.hid (fun W => utfExplode_any s W (by omega))
  have KS := Lib.hid (fun W => (rxShown_any W))
  obtain ⟨l, hl⟩ : ∃ l, l = explode s.data.toList := ⟨_, rfl⟩
  have HL := Lib.hid hl
  rw [← hl] at KE hlen
  have hll : l.length ≤ 17592186044416 := by omega
  clear hsz hlen hl
  go_enter Try.func5, Try.ntmps5
  go_wp2_with (go_at_call 11; refine (KS.out _).mono ?_)
  rintro e w0 ⟨rfl, b0⟩
  go_wp2_with (go_at_call 16; refine (KE.out _).mono ?_)
  rintro e V0 ⟨Lv, rfl, hL, hb1⟩
  obtain ⟨LA, Lc, hLe, _, hRd⟩ := hL.rd
  subst hLe
  have B0 := Lib.hid (b0.trans (hb1.mono b0.size))
  have hfa : l.length ≠ 0 → ∃ b off, LA = some ⟨b, off, none⟩ ∧ ∀ i (hi : i < l.length), V0.cell? ⟨b, off + i, none⟩ = some (.int .i64 l[i]) := fun h => by
    obtain ⟨b, off, hA, _, hat⟩ := hRd.2 (by omega)
    refine ⟨b, off, hA, fun i hi => ?_⟩
    have := hat i hi
    rw [List.getD_eq_getElem?_getD, List.getElem?_eq_getElem hi] at this
    exact this
  have HF := Lib.hid hfa
  clear b0 hb1 hL hRd hfa
  by_cases hbig : 400 < l.length
  · have z2 : decide ((400 : Int) < (l.length : Int)) = true := decide_eq_true (by omega)
    go_wp2
    go_ret
    exact ⟨rfl, B0.out⟩
  have z2 : decide ((400 : Int) < (l.length : Int)) = false := decide_eq_false (by omega)
  go_wp2_with fail
  go_loopg [5] (l.length + 1) (fun kx v wr => ∃ i : Nat, v = .int .i64 (i : Int) ∧ i ≤ l.length ∧ l.length - i ≤ kx ∧ V0 = wr ∧ Hid (∀ c ∈ l.take i, plB c = true))
  case atStart => exact ⟨0, rfl, Nat.zero_le _, by omega, rfl, by show ∀ c ∈ l.take 0, _; intro c hc; cases hc⟩
  case round =>
    obtain ⟨i, rfl, hi, hik, rfl, hpre⟩ := hrel
    by_cases hlt : i < l.length
    · have z1 : decide ((i : Int) < (l.length : Int)) = true := decide_eq_true (by omega)
      obtain ⟨b, off, rfl, hat⟩ := HF.out (by omega)
      have c1 := hat i hlt
      obtain ⟨c, hc⟩ : ∃ c, c = l[i] := ⟨_, rfl⟩
      rw [← hc] at c1
      have HC := Lib.hid hc
      have i0 : (0 : Int) ≤ (i : Int) := by omega
      have i1 : (i : Int) < (l.length : Int) := by omega
      clear hat hc
      have hst : plB c = true → Hid (∀ d ∈ l.take (i + 1), plB d = true) := fun hnb => by
        show ∀ d ∈ l.take (i + 1), plB d = true
        intro d hd
        rw [List.take_succ_eq_append_getElem hlt] at hd
        rcases List.mem_append.1 hd with hd | hd
        · exact hpre.out d hd
        · obtain rfl := List.mem_singleton.1 hd
          rw [← HC.out]; exact hnb
      have HST := Lib.hid hst
      clear hst HC hpre
      have hz : (c < 48) ∨ (48 ≤ c ∧ c ≤ 57) ∨ (58 ≤ c ∧ c ≤ 64) ∨ (65 ≤ c ∧ c ≤ 90) ∨ (91 ≤ c ∧ c ≤ 96) ∨ (97 ≤ c ∧ c ≤ 122) ∨ (123 ≤ c ∧ c ≤ 127) ∨ (128 ≤ c) := by omega
      rcases hz with h | h | h | h | h | h | h | h
      · have y0 : decide (c < 48) = true := decide_eq_true (by omega)
        have y1 : decide ((57 : Int) < c) = false := decide_eq_false (by omega)
        have y2 : decide (c < 65) = true := decide_eq_true (by omega)
        have y3 : decide ((90 : Int) < c) = false := decide_eq_false (by omega)
        have y4 : decide (c < 97) = true := decide_eq_true (by omega)
        have y5 : decide ((122 : Int) < c) = false := decide_eq_false (by omega)
        have y6 : decide (c < 128) = true := decide_eq_true (by omega)
        clear h HST
        go_wp2
        go_ret
        exact ⟨rfl, B0.out⟩
      · have y0 : decide (c < 48) = false := decide_eq_false (by omega)
        have y1 : decide ((57 : Int) < c) = false := decide_eq_false (by omega)
        have y2 : decide (c < 65) = true := decide_eq_true (by omega)
        have y3 : decide ((90 : Int) < c) = false := decide_eq_false (by omega)
        have y4 : decide (c < 97) = true := decide_eq_true (by omega)
        have y5 : decide ((122 : Int) < c) = false := decide_eq_false (by omega)
        have y6 : decide (c < 128) = true := decide_eq_true (by omega)
        have hp : plB c = true := by unfold plB; simp only [Bool.or_eq_true, Bool.and_eq_true, decide_eq_true_eq]; omega
        have hst := HST.out hp
        clear h hp HST
        go_wp2_with fail
        go_roundg (l.length - (i + 1))
        case measure => omega
        case rel => exact ⟨i + 1, by go_num, by omega, Nat.le_refl _, rfl, hst⟩
      · have y0 : decide (c < 48) = false := decide_eq_false (by omega)
        have y1 : decide ((57 : Int) < c) = true := decide_eq_true (by omega)
        have y2 : decide (c < 65) = true := decide_eq_true (by omega)
        have y3 : decide ((90 : Int) < c) = false := decide_eq_false (by omega)
        have y4 : decide (c < 97) = true := decide_eq_true (by omega)
        have y5 : decide ((122 : Int) < c) = false := decide_eq_false (by omega)
        have y6 : decide (c < 128) = true := decide_eq_true (by omega)
        clear h HST
        go_wp2
        go_ret
        exact ⟨rfl, B0.out⟩
      · have y0 : decide (c < 48) = false := decide_eq_false (by omega)
        have y1 : decide ((57 : Int) < c) = true := decide_eq_true (by omega)
        have y2 : decide (c < 65) = false := decide_eq_false (by omega)
        have y3 : decide ((90 : Int) < c) = false := decide_eq_false (by omega)
        have y4 : decide (c < 97) = true := decide_eq_true (by omega)
        have y5 : decide ((122 : Int) < c) = false := decide_eq_false (by omega)
        have y6 : decide (c < 128) = true := decide_eq_true (by omega)
        have hp : plB c = true := by unfold plB; simp only [Bool.or_eq_true, Bool.and_eq_true, decide_eq_true_eq]; omega
        have hst := HST.out hp
        clear h hp HST
        go_wp2_with fail
        go_roundg (l.length - (i + 1))
        case measure => omega
        case rel => exact ⟨i + 1, by go_num, by omega, Nat.le_refl _, rfl, hst⟩
      · have y0 : decide (c < 48) = false := decide_eq_false (by omega)
        have y1 : decide ((57 : Int) < c) = true := decide_eq_true (by omega)
        have y2 : decide (c < 65) = false := decide_eq_false (by omega)
        have y3 : decide ((90 : Int) < c) = true := decide_eq_true (by omega)
        have y4 : decide (c < 97) = true := decide_eq_true (by omega)
        have y5 : decide ((122 : Int) < c) = false := decide_eq_false (by omega)
        have y6 : decide (c < 128) = true := decide_eq_true (by omega)
        clear h HST
        go_wp2
        go_ret
        exact ⟨rfl, B0.out⟩
      · have y0 : decide (c < 48) = false := decide_eq_false (by omega)
        have y1 : decide ((57 : Int) < c) = true := decide_eq_true (by omega)
        have y2 : decide (c < 65) = false := decide_eq_false (by omega)
        have y3 : decide ((90 : Int) < c) = true := decide_eq_true (by omega)
        have y4 : decide (c < 97) = false := decide_eq_false (by omega)
        have y5 : decide ((122 : Int) < c) = false := decide_eq_false (by omega)
        have y6 : decide (c < 128) = true := decide_eq_true (by omega)
        have hp : plB c = true := by unfold plB; simp only [Bool.or_eq_true, Bool.and_eq_true, decide_eq_true_eq]; omega
        have hst := HST.out hp
        clear h hp HST
        go_wp2_with fail
        go_roundg (l.length - (i + 1))
        case measure => omega
        case rel => exact ⟨i + 1, by go_num, by omega, Nat.le_refl _, rfl, hst⟩
      · have y0 : decide (c < 48) = false := decide_eq_false (by omega)
        have y1 : decide ((57 : Int) < c) = true := decide_eq_true (by omega)
        have y2 : decide (c < 65) = false := decide_eq_false (by omega)
        have y3 : decide ((90 : Int) < c) = true := decide_eq_true (by omega)
        have y4 : decide (c < 97) = false := decide_eq_false (by omega)
        have y5 : decide ((122 : Int) < c) = true := decide_eq_true (by omega)
        have y6 : decide (c < 128) = true := decide_eq_true (by omega)
        clear h HST
        go_wp2
        go_ret
        exact ⟨rfl, B0.out⟩
      · have y0 : decide (c < 48) = false := decide_eq_false (by omega)
        have y1 : decide ((57 : Int) < c) = true := decide_eq_true (by omega)
        have y2 : decide (c < 65) = false := decide_eq_false (by omega)
        have y3 : decide ((90 : Int) < c) = true := decide_eq_true (by omega)
        have y4 : decide (c < 97) = false := decide_eq_false (by omega)
        have y5 : decide ((122 : Int) < c) = true := decide_eq_true (by omega)
        have y6 : decide (c < 128) = false := decide_eq_false (by omega)
        have hp : plB c = true := by unfold plB; simp only [Bool.or_eq_true, Bool.and_eq_true, decide_eq_true_eq]; omega
        have hst := HST.out hp
        clear h hp HST
        go_wp2_with fail
        go_roundg (l.length - (i + 1))
        case measure => omega
        case rel => exact ⟨i + 1, by go_num, by omega, Nat.le_refl _, rfl, hst⟩
    · have z1 : decide ((i : Int) < (l.length : Int)) = false := decide_eq_false (by omega)
      have D0 := Lib.hid (Below.refl V0.heap.size V0)
      have hpl : ∀ c ∈ l, plainI c := fun c hc => plB_iff (hpre.out c (by rw [List.take_of_length_le (by omega)]; exact hc))
      obtain ⟨X1, hX1⟩ : ∃ X, X = seqOf (l.map rxRune) := ⟨_, rfl⟩
      obtain ⟨X2, hX2⟩ : ∃ X, X = rxGroup X1 1 [] := ⟨_, rfl⟩
      obtain ⟨X3, hX3⟩ : ∃ X, X = rxAlt [X1, X1] := ⟨_, rfl⟩
      have hp1 : parseV s.data.toList true = (X1, [], 0, 0) := by
        show parseL true (explode s.data.toList) = _
        rw [← HL.out, hX1]; exact parse_plain hpl (by omega)
      obtain ⟨s2, hs2⟩ : ∃ s2 : ByteArray, s2 = ⟨#[40]⟩ ++ s ++ ⟨#[41]⟩ := ⟨_, rfl⟩
      have hs2l : s2.data.toList = 40 :: (s.data.toList ++ [41]) := by rw [hs2]; simp
      have hs2z : s2.size ≤ 17592186044416 := by have := Lib.size_eq s2; rw [hs2l] at this; have := Lib.size_eq s; simp at *; omega
      have hp2 : parseV s2.data.toList false = (X2, [[]], 0, 0) := by
        show parseL false (explode s2.data.toList) = _
        rw [hs2l, explode_one 40 _ (by decide), explode_ascii 41 [] (by decide), ← HL.out, hX2, hX1]
        exact parse_group hpl (by omega)
      obtain ⟨s3, hs3⟩ : ∃ s3 : ByteArray, s3 = s ++ ⟨#[124]⟩ ++ s := ⟨_, rfl⟩
      have hs3l : s3.data.toList = s.data.toList ++ 124 :: s.data.toList := by rw [hs3]; simp
      have hs3z : s3.size ≤ 17592186044416 := by have := Lib.size_eq s3; rw [hs3l] at this; have := Lib.size_eq s; simp at *; omega
      have hp3 : parseV s3.data.toList false = (X3, [], 0, 0) := by
        show parseL false (explode s3.data.toList) = _
        rw [hs3l, explode_ascii 124 _ (by decide), ← HL.out, hX3, hX1]
        exact parse_twice hpl (by omega)
      have hsm := (parse_sm X1 [] 0 0 hp1).1
      have K1 := Lib.hid (fun W => parse_lit hp1 (by omega) W)
      have K2 := Lib.hid (fun W => parse_lit hp2 hs2z W)
      have K3 := Lib.hid (fun W => parse_lit hp3 hs3z W)
      have HM := Lib.hid hsm
      have HX1 := Lib.hid hX1
      have HX2 := Lib.hid hX2
      have HX3 := Lib.hid hX3
      rw [hs2] at K2
      rw [hs3] at K3
      clear hp1 hp2 hp3 hsm hs2l hs2z hs3l hs3z hs2 hs3 hX1 hX2 hX3 hpl hpre
      go_wp2_with (go_at_call 12; refine (K1.out _).mono ?_)
      rintro e w1 ⟨A1, c1, NA1, nc1, rfl, hk1, hn1, hb1⟩
      obtain ⟨V1, hV1⟩ : ∃ V, V = w1.alloc (.cells (rxCells X1 (.slice A1 X1.kids.length c1)).toArray TRx) := ⟨_, rfl⟩
      have P1 := Lib.hid (show PV V1 w1.heap.size X1 A1 c1 by rw [hV1]; exact PV.made hk1)
      have N1 := Lib.hid (show V1.ownsRow 0 9 1 (.slice NA1 _ nc1) _ (strCells _) by rw [hV1]; exact rowns_low (rowns_below hn1 ((Below.refl _ w1).alloc (Nat.le_refl _) _)) (Nat.zero_le _))
      have s1 : Below V0.heap.size V0 V1 := by rw [hV1]; exact hb1.alloc hb1.size _
      have B1 := Lib.hid (B0.out.trans (s1.mono B0.out.size))
      have D1 := Lib.hid (D0.out.trans (s1.mono D0.out.size))
      clear hk1 hn1 hb1 s1 B0
      simp only [rxAgg]
      go_upto_region 12 with fail
      have e1 : V1 = w1.alloc (.cells #[.int .i64 (X1.kind : Int), .int .i64 X1.rune, .int .i64 X1.to, .slice A1 X1.kids.length c1, .int .i64 X1.min, .int .i64 X1.max, .bool X1.lazy, .bool X1.not, .int .i64 (X1.group : Int), .string ⟨X1.name.toArray⟩] TRx) := hV1
      rw [← e1]
      clear e1 hV1
      go_wp2_with (go_at_call 12; refine (K2.out _).mono ?_)
      rintro e w2 ⟨A2, c2, NA2, nc2, rfl, hk2, hn2, hb2⟩
      obtain ⟨V2, hV2⟩ : ∃ V, V = w2.alloc (.cells (rxCells X2 (.slice A2 X2.kids.length c2)).toArray TRx) := ⟨_, rfl⟩
      have P2 := Lib.hid (show PV V2 w2.heap.size X2 A2 c2 by rw [hV2]; exact PV.made hk2)
      have N2 := Lib.hid (show V2.ownsRow 0 9 1 (.slice NA2 _ nc2) _ (strCells _) by rw [hV2]; exact rowns_low (rowns_below hn2 ((Below.refl _ w2).alloc (Nat.le_refl _) _)) (Nat.zero_le _))
      have s2 : Below V1.heap.size V1 V2 := by rw [hV2]; exact hb2.alloc hb2.size _
      have B2 := Lib.hid (B1.out.trans (s2.mono B1.out.size))
      have D2 := Lib.hid (D1.out.trans (s2.mono D1.out.size))
      have P1 := Lib.hid (P1.out.below s2)
      have N1 := Lib.hid (rowns_below N1.out s2)
      clear hk2 hn2 hb2 s2 B1
      simp only [rxAgg]
      go_upto_region 13 with fail
      have e2 : V2 = w2.alloc (.cells #[.int .i64 (X2.kind : Int), .int .i64 X2.rune, .int .i64 X2.to, .slice A2 X2.kids.length c2, .int .i64 X2.min, .int .i64 X2.max, .bool X2.lazy, .bool X2.not, .int .i64 (X2.group : Int), .string ⟨X2.name.toArray⟩] TRx) := hV2
      rw [← e2]
      clear e2 hV2
      go_wp2_with (go_at_call 12; refine (K3.out _).mono ?_)
      rintro e w3 ⟨A3, c3, NA3, nc3, rfl, hk3, hn3, hb3⟩
      obtain ⟨V3, hV3⟩ : ∃ V, V = w3.alloc (.cells (rxCells X3 (.slice A3 X3.kids.length c3)).toArray TRx) := ⟨_, rfl⟩
      have P3 := Lib.hid (show PV V3 w3.heap.size X3 A3 c3 by rw [hV3]; exact PV.made hk3)
      have N3 := Lib.hid (show V3.ownsRow 0 9 1 (.slice NA3 _ nc3) _ (strCells _) by rw [hV3]; exact rowns_low (rowns_below hn3 ((Below.refl _ w3).alloc (Nat.le_refl _) _)) (Nat.zero_le _))
      have s3 : Below V2.heap.size V2 V3 := by rw [hV3]; exact hb3.alloc hb3.size _
      have B3 := Lib.hid (B2.out.trans (s3.mono B2.out.size))
      have D3 := Lib.hid (D2.out.trans (s3.mono D2.out.size))
      have P1 := Lib.hid (P1.out.below s3)
      have N1 := Lib.hid (rowns_below N1.out s3)
      have P2 := Lib.hid (P2.out.below s3)
      have N2 := Lib.hid (rowns_below N2.out s3)
      clear hk3 hn3 hb3 s3 B2
      simp only [rxAgg]
      go_upto_region 14 with fail
      have e3 : V3 = w3.alloc (.cells #[.int .i64 (X3.kind : Int), .int .i64 X3.rune, .int .i64 X3.to, .slice A3 X3.kids.length c3, .int .i64 X3.min, .int .i64 X3.max, .bool X3.lazy, .bool X3.not, .int .i64 (X3.group : Int), .string ⟨X3.name.toArray⟩] TRx) := hV3
      rw [← e3]
      clear e3 hV3
      have hk1 : X2.kids.length = 1 := by rw [HX2.out]; rfl
      have hk2 : X3.kids.length = 2 := by rw [HX3.out]; rfl
      obtain ⟨q2, o2, e2, hv2⟩ := P2.out.kid (fun e => by rw [e] at hk1; cases hk1)
      obtain ⟨q3, o3, e3, hv3⟩ := P3.out.kid (fun e => by rw [e] at hk2; cases hk2)
      obtain ⟨A4, c4, r4, k4⟩ := hv2 0 X1 (by rw [HX2.out]; rfl)
      obtain ⟨A5, c5, r5, k5⟩ := hv3 0 X1 (by rw [HX3.out]; rfl)
      obtain ⟨A6, c6, r6, k6⟩ := hv3 1 X1 (by rw [HX3.out]; rfl)
      have g3 : V3.cell? ⟨w2.heap.size, 3, none⟩ = some (.slice A2 1 c2) := by rw [P2.out.cell (j := 3) rfl, hk1]
      have a3 : V3.cell? ⟨w3.heap.size, 3, none⟩ = some (.slice A3 2 c3) := by rw [P3.out.cell (j := 3) rfl, hk2]
      subst e2
      subst e3
      have HPF := Lib.hid (show PF w1.heap.size w2.heap.size w3.heap.size q2 o2 q3 o3 X1 A1 c1 A4 c4 A5 c5 A6 c6 c2 c3 V3 from ⟨P1.out, g3, a3, by simpa using r4, by simpa using r5, by simpa using r6, k4, k5, k6⟩)
      have KG := Lib.hid (fun (W : World) (h : PF w1.heap.size w2.heap.size w3.heap.size q2 o2 q3 o3 X1 A1 c1 A4 c4 A5 c5 A6 c6 c2 c3 W) => rxSame_agg (m := 1002) (by omega) HM.out A4 c4 A1 c1 W h.k4 h.p1.kids)
      have KA := Lib.hid (fun (W : World) (h : PF w1.heap.size w2.heap.size w3.heap.size q2 o2 q3 o3 X1 A1 c1 A4 c4 A5 c5 A6 c6 c2 c3 W) => rxSame_agg (m := 1002) (by omega) HM.out A5 c5 A1 c1 W h.k5 h.p1.kids)
      have KB := Lib.hid (fun (W : World) (h : PF w1.heap.size w2.heap.size w3.heap.size q2 o2 q3 o3 X1 A1 c1 A4 c4 A5 c5 A6 c6 c2 c3 W) => rxSame_agg (m := 1002) (by omega) HM.out A6 c6 A1 c1 W h.k6 h.p1.kids)
      clear hv2 hv3 r4 r5 r6 k4 k5 k6 hk1 hk2
      go_upto_region 16 with fail
      have hF0 := HPF.out.below (Below.refl _ V3).drew
      have hB0 : Below w.heap.size w V3.drew ∧ Below V0.heap.size V0 V3.drew := ⟨B3.out.drew, D3.out.drew⟩
      obtain ⟨y0, y1, y2, y3, y4, y5, y6, y7, y8, y9, y10, y11, y12, y13, y14, y15, y16, y17, y18, y19, y20, y21, y22, y23, y24, y25, y26, y27, y28, y29, y30, y31, y32, y33, y34, y35, y36, y37, y38, y39, y40, y41⟩ := hF0.facts
      clear g3 a3 HPF
      go_cut [147] from 123 (fun x wx => x = .bool false ∧ Hid (PF w1.heap.size w2.heap.size w3.heap.size q2 o2 q3 o3 X1 A1 c1 A4 c4 A5 c5 A6 c6 c2 c3 wx ∧ Below w.heap.size w wx ∧ Below V0.heap.size V0 wx))
      case first =>
        go_region_held3 (fun W => W.cell? ⟨w1.heap.size, 0, none⟩ = some (.int .i64 (X1.kind : Int)) ∧ W.cell? ⟨w1.heap.size, 1, none⟩ = some (.int .i64 X1.rune) ∧ W.cell? ⟨w1.heap.size, 2, none⟩ = some (.int .i64 X1.to) ∧ W.cell? ⟨w1.heap.size, 3, none⟩ = some (.slice A1 X1.kids.length c1) ∧ W.cell? ⟨w1.heap.size, 4, none⟩ = some (.int .i64 X1.min) ∧ W.cell? ⟨w1.heap.size, 5, none⟩ = some (.int .i64 X1.max) ∧ W.cell? ⟨w1.heap.size, 6, none⟩ = some (.bool X1.lazy) ∧ W.cell? ⟨w1.heap.size, 7, none⟩ = some (.bool X1.not) ∧ W.cell? ⟨w1.heap.size, 8, none⟩ = some (.int .i64 (X1.group : Int)) ∧ W.cell? ⟨w1.heap.size, 9, none⟩ = some (.string ⟨X1.name.toArray⟩) ∧ W.cell? ⟨w2.heap.size, 3, none⟩ = some (.slice (some ⟨q2, o2, none⟩) 1 c2) ∧ W.cell? ⟨w3.heap.size, 3, none⟩ = some (.slice (some ⟨q3, o3, none⟩) 2 c3) ∧ W.cell? ⟨q2, o2, none⟩ = some (.int .i64 (X1.kind : Int)) ∧ W.cell? ⟨q2, o2 + 1, none⟩ = some (.int .i64 X1.rune) ∧ W.cell? ⟨q2, o2 + 2, none⟩ = some (.int .i64 X1.to) ∧ W.cell? ⟨q2, o2 + 3, none⟩ = some (.slice A4 X1.kids.length c4) ∧ W.cell? ⟨q2, o2 + 4, none⟩ = some (.int .i64 X1.min) ∧ W.cell? ⟨q2, o2 + 5, none⟩ = some (.int .i64 X1.max) ∧ W.cell? ⟨q2, o2 + 6, none⟩ = some (.bool X1.lazy) ∧ W.cell? ⟨q2, o2 + 7, none⟩ = some (.bool X1.not) ∧ W.cell? ⟨q2, o2 + 8, none⟩ = some (.int .i64 (X1.group : Int)) ∧ W.cell? ⟨q2, o2 + 9, none⟩ = some (.string ⟨X1.name.toArray⟩) ∧ W.cell? ⟨q3, o3, none⟩ = some (.int .i64 (X1.kind : Int)) ∧ W.cell? ⟨q3, o3 + 1, none⟩ = some (.int .i64 X1.rune) ∧ W.cell? ⟨q3, o3 + 2, none⟩ = some (.int .i64 X1.to) ∧ W.cell? ⟨q3, o3 + 3, none⟩ = some (.slice A5 X1.kids.length c5) ∧ W.cell? ⟨q3, o3 + 4, none⟩ = some (.int .i64 X1.min) ∧ W.cell? ⟨q3, o3 + 5, none⟩ = some (.int .i64 X1.max) ∧ W.cell? ⟨q3, o3 + 6, none⟩ = some (.bool X1.lazy) ∧ W.cell? ⟨q3, o3 + 7, none⟩ = some (.bool X1.not) ∧ W.cell? ⟨q3, o3 + 8, none⟩ = some (.int .i64 (X1.group : Int)) ∧ W.cell? ⟨q3, o3 + 9, none⟩ = some (.string ⟨X1.name.toArray⟩) ∧ W.cell? ⟨q3, o3 + 10, none⟩ = some (.int .i64 (X1.kind : Int)) ∧ W.cell? ⟨q3, o3 + 10 + 1, none⟩ = some (.int .i64 X1.rune) ∧ W.cell? ⟨q3, o3 + 10 + 2, none⟩ = some (.int .i64 X1.to) ∧ W.cell? ⟨q3, o3 + 10 + 3, none⟩ = some (.slice A6 X1.kids.length c6) ∧ W.cell? ⟨q3, o3 + 10 + 4, none⟩ = some (.int .i64 X1.min) ∧ W.cell? ⟨q3, o3 + 10 + 5, none⟩ = some (.int .i64 X1.max) ∧ W.cell? ⟨q3, o3 + 10 + 6, none⟩ = some (.bool X1.lazy) ∧ W.cell? ⟨q3, o3 + 10 + 7, none⟩ = some (.bool X1.not) ∧ W.cell? ⟨q3, o3 + 10 + 8, none⟩ = some (.int .i64 (X1.group : Int)) ∧ W.cell? ⟨q3, o3 + 10 + 9, none⟩ = some (.string ⟨X1.name.toArray⟩))
          (first | exact ⟨y0, y1, y2, y3, y4, y5, y6, y7, y8, y9, y10, y11, y12, y13, y14, y15, y16, y17, y18, y19, y20, y21, y22, y23, y24, y25, y26, y27, y28, y29, y30, y31, y32, y33, y34, y35, y36, y37, y38, y39, y40, y41⟩ | exact ⟨za0, za1, za2, za3, za4, za5, za6, za7, za8, za9, za10, za11, za12, za13, za14, za15, za16, za17, za18, za19, za20, za21, za22, za23, za24, za25, za26, za27, za28, za29, za30, za31, za32, za33, za34, za35, za36, za37, za38, za39, za40, za41⟩ | exact ⟨zb0, zb1, zb2, zb3, zb4, zb5, zb6, zb7, zb8, zb9, zb10, zb11, zb12, zb13, zb14, zb15, zb16, zb17, zb18, zb19, zb20, zb21, zb22, zb23, zb24, zb25, zb26, zb27, zb28, zb29, zb30, zb31, zb32, zb33, zb34, zb35, zb36, zb37, zb38, zb39, zb40, zb41⟩ | exact ⟨zc0, zc1, zc2, zc3, zc4, zc5, zc6, zc7, zc8, zc9, zc10, zc11, zc12, zc13, zc14, zc15, zc16, zc17, zc18, zc19, zc20, zc21, zc22, zc23, zc24, zc25, zc26, zc27, zc28, zc29, zc30, zc31, zc32, zc33, zc34, zc35, zc36, zc37, zc38, zc39, zc40, zc41⟩ | fail)
          (first
            | (go_at_call 14; (with_reducible refine (KG.out _ hF0).mono ?_); rintro e wz ⟨rfl, bz⟩; have hFA := hF0.below bz; have hBA := And.intro (hB0.1.trans (bz.mono hB0.1.size)) (hB0.2.trans (bz.mono hB0.2.size)); obtain ⟨za0, za1, za2, za3, za4, za5, za6, za7, za8, za9, za10, za11, za12, za13, za14, za15, za16, za17, za18, za19, za20, za21, za22, za23, za24, za25, za26, za27, za28, za29, za30, za31, za32, za33, za34, za35, za36, za37, za38, za39, za40, za41⟩ := hFA.facts)
            | (go_at_call 14; (with_reducible refine (KA.out _ hFA).mono ?_); rintro e wz ⟨rfl, bz⟩; have hFB := hFA.below bz; have hBB := And.intro (hBA.1.trans (bz.mono hBA.1.size)) (hBA.2.trans (bz.mono hBA.2.size)); obtain ⟨zb0, zb1, zb2, zb3, zb4, zb5, zb6, zb7, zb8, zb9, zb10, zb11, zb12, zb13, zb14, zb15, zb16, zb17, zb18, zb19, zb20, zb21, zb22, zb23, zb24, zb25, zb26, zb27, zb28, zb29, zb30, zb31, zb32, zb33, zb34, zb35, zb36, zb37, zb38, zb39, zb40, zb41⟩ := hFB.facts)
            | (go_at_call 14; (with_reducible refine (KB.out _ hFB).mono ?_); rintro e wz ⟨rfl, bz⟩; have hFC := hFB.below bz; have hBC := And.intro (hBB.1.trans (bz.mono hBB.1.size)) (hBB.2.trans (bz.mono hBB.2.size)); obtain ⟨zc0, zc1, zc2, zc3, zc4, zc5, zc6, zc7, zc8, zc9, zc10, zc11, zc12, zc13, zc14, zc15, zc16, zc17, zc18, zc19, zc20, zc21, zc22, zc23, zc24, zc25, zc26, zc27, zc28, zc29, zc30, zc31, zc32, zc33, zc34, zc35, zc36, zc37, zc38, zc39, zc40, zc41⟩ := hFC.facts)
            | fail)
        all_goals (go_wp2_with fail; go_meet; exact ⟨rfl, hFC, hBC⟩)
      case rest =>
        obtain ⟨rfl, hh⟩ := hcut
        have HFC := Lib.hid hh.out.1
        have HBC := Lib.hid hh.out.2.1
        have HDC := Lib.hid hh.out.2.2
        clear hh hF0 hB0 y0 y1 y2 y3 y4 y5 y6 y7 y8 y9 y10 y11 y12 y13 y14 y15 y16 y17 y18 y19 y20 y21 y22 y23 y24 y25 y26 y27 y28 y29 y30 y31 y32 y33 y34 y35 y36 y37 y38 y39 y40 y41
        by_cases h0 : l.length = 0
        · have hx0 : X1.kind = 0 := by rw [HX1.out, List.length_eq_zero_iff.1 h0]; rfl
          have k0 : wc.cell? ⟨w1.heap.size, 0, none⟩ = some (.int .i64 0) := by rw [HFC.out.p1.cell (j := 0) rfl, hx0]; rfl
          have z3 : ((l.length : Int) == 0) = true := by rw [h0]; rfl
          clear hx0 h0
          go_wp2
          go_ret
          exact ⟨rfl, HBC.out⟩
        have z3 : ((l.length : Int) == 0) = false := beq_false_of_ne (by omega)
        obtain ⟨b, off, hLA, hat⟩ := HF.out h0
        subst hLA
        have hac : ∀ i (hi : i < l.length), wc.cell? ⟨b, off + i, none⟩ = some (.int .i64 l[i]) := fun i hi => (HDC.out.cell (p := ⟨b, off + i, none⟩) (World.block_lt_of_cell? V0 _ (hat i hi))).trans (hat i hi)
        clear hat
        by_cases h1 : l.length = 1
        · have z4 : ((l.length : Int) == 1) = true := by rw [h1]; rfl
          obtain ⟨x, hx⟩ : ∃ x, l = [x] := List.length_eq_one_iff.1 h1
          have l0 : wc.cell? ⟨b, off, none⟩ = some (.int .i64 x) := by have := hac 0 (by omega); simpa [hx] using this
          have hX : X1 = rxRune x := by rw [HX1.out, hx]; rfl
          have k0 : wc.cell? ⟨w1.heap.size, 0, none⟩ = some (.int .i64 1) := by rw [HFC.out.p1.cell (j := 0) rfl, hX]; rfl
          have k1 : wc.cell? ⟨w1.heap.size, 1, none⟩ = some (.int .i64 x) := by rw [HFC.out.p1.cell (j := 1) rfl, hX]; rfl
          have i0 : (0 : Int) < (l.length : Int) := by omega
          clear hX hx hac h0 h1
          go_wp2_with fail
          go_quiet (fail)
          go_wp2_with fail
          go_ret
          exact ⟨rfl, HBC.out.trans ⟨rfl, rfl, rfl, Nat.le_refl _, fun _ _ => rfl⟩⟩
        have z4 : ((l.length : Int) == 1) = false := beq_false_of_ne (by omega)
        have hX : X1 = rxSeq (l.map rxRune) := by
          rw [HX1.out]
          match l, h0, h1 with
          | [], h0, _ => exact absurd rfl h0
          | [a], _, h1 => exact absurd rfl h1
          | a :: b :: r, _, _ => rfl
        have hkl : X1.kids.length = l.length := by rw [hX]; simp [rxSeq, Rx.kids]
        obtain ⟨q1, o1, e1, hv1⟩ := HFC.out.p1.kid (fun e => by rw [e] at hkl; simp at hkl; omega)
        subst e1
        have k0 : wc.cell? ⟨w1.heap.size, 0, none⟩ = some (.int .i64 6) := by rw [HFC.out.p1.cell (j := 0) rfl, hX]; rfl
        have k3 : wc.cell? ⟨w1.heap.size, 3, none⟩ = some (.slice (some ⟨q1, o1, none⟩) l.length c1) := by rw [HFC.out.p1.cell (j := 3) rfl, hkl]
        have hkc : ∀ i (hi : i < l.length), wc.cell? ⟨q1, o1 + i * 10, none⟩ = some (.int .i64 1) ∧ wc.cell? ⟨q1, o1 + i * 10 + 1, none⟩ = some (.int .i64 l[i]) := fun i hi => by
          obtain ⟨_, _, r, _⟩ := hv1 i (rxRune l[i]) (by rw [hX]; simp [rxSeq, Rx.kids, hi])
          exact ⟨r 0 _ rfl, r 1 _ rfl⟩
        have HKC := Lib.hid hkc
        have HAC := Lib.hid hac
        clear hkc hac hv1 hX hkl
        go_wp2_with fail
        go_loopg [19] (l.length + 1) (fun kx v wr => ∃ i m : Nat, v = .int .i64 (i : Int) ∧ i ≤ l.length ∧ l.length - i ≤ kx ∧ wr = wc.drewN m)
        case atStart => exact ⟨0, 0, rfl, Nat.zero_le _, by omega, rfl⟩
        case round =>
          obtain ⟨i, m, rfl, hi, hik, rfl⟩ := hrel
          by_cases hlt : i < l.length
          · have z5 : decide ((i : Int) < (l.length : Int)) = true := decide_eq_true (by omega)
            obtain ⟨wm, hwm⟩ : ∃ wm, wm = wc.drewN m := ⟨_, rfl⟩
            obtain ⟨x, hx⟩ : ∃ x, x = l[i] := ⟨_, rfl⟩
            have m0 : wm.cell? ⟨w1.heap.size, 3, none⟩ = some (.slice (some ⟨q1, o1, none⟩) l.length c1) := by rw [hwm]; exact k3
            have m1 : wm.cell? ⟨q1, o1 + i * 10, none⟩ = some (.int .i64 1) := by rw [hwm]; exact (HKC.out i hlt).1
            have m2 : wm.cell? ⟨q1, o1 + i * 10 + 1, none⟩ = some (.int .i64 x) := by rw [hwm, hx]; exact (HKC.out i hlt).2
            have m3 : wm.cell? ⟨b, off + i, none⟩ = some (.int .i64 x) := by rw [hwm, hx]; exact HAC.out i hlt
            have i0 : (0 : Int) ≤ (i : Int) := by omega
            have i1 : (i : Int) < (l.length : Int) := by omega
            rw [← hwm]
            have HWM := Lib.hid hwm
            clear hwm hx k0 k3
            go_wp2_with fail
            go_quiet (fail)
            go_wp2_with fail
            go_roundg (l.length - (i + 1))
            case measure => omega
            case rel => exact ⟨i + 1, m + nq, by go_num, by omega, Nat.le_refl _, by rw [HWM.out]; exact rdrewN2 wc m nq⟩
          · have z5 : decide ((i : Int) < (l.length : Int)) = false := decide_eq_false (by omega)
            go_wp2
            go_ret
            exact ⟨rfl, HBC.out.trans ⟨rfl, rfl, rfl, Nat.le_refl _, fun _ _ => rfl⟩⟩

end Go.Proofs.Ytoniccokohjenaa
