/-
  The walk of SameTexts; the law RegexFree (chapter 18): its walk.
-/
import Derived.Test.YtoniccokohjenaaRegLc
import Derived.Test.YtoniccokohjenaaRegF
namespace Go.Proofs.Ytoniccokohjenaa
open Go.RowKit

theorem str_at {w : World} {A : Option Addr} {c : Nat} {ns : List (List UInt8)} (h : w.ownsRow 0 9 1 (.slice A ns.length c) ns.length (strCells ns)) (h0 : ns.length ≠ 0) : ∃ g, A = some ⟨g, 0, none⟩ ∧ ∀ i (hi : i < ns.length), w.cell? ⟨g, i, none⟩ = some (.string ⟨ns[i].toArray⟩) := by
  rcases h.2 with ⟨_, h1⟩ | ⟨g, cap, cur, hv, _⟩
  · exact absurd h1 h0
  · injection hv with hv _ _
    refine ⟨g, hv, fun i hi => ?_⟩
    subst hv
    have := h.cells rfl i (.string ⟨ns[i].toArray⟩) (by simp [strCells, List.getElem?_eq_getElem hi])
    have hadd : (⟨g, 0, none⟩ : Addr).add i = ⟨g, i, none⟩ := by unfold Addr.add; split <;> simp_all
    rw [hadd] at this
    exact this

set_option maxHeartbeats 4000000 in
set_option maxRecDepth 100000 in
theorem sameTexts_any (ns : List (List UInt8)) (A : Option Addr) (c : Nat) (B : Option Addr) (d : Nat) (w : World) (hn : ns.length ≤ 1000000) (h1 : w.ownsRow 0 9 1 (.slice A ns.length c) ns.length (strCells ns)) (h2 : w.ownsRow 0 9 1 (.slice B ns.length d) ns.length (strCells ns)) :
    Calls Try.prog 15 #[.slice A ns.length c, .slice B ns.length d] w (RetE (.bool true) fun w' => Below w.heap.size w w') := by
  have H1 := Lib.hid h1
  have H2 := Lib.hid h2
  clear h1 h2
  generalize hm : ns.length = n at *
  have HN := Lib.hid hm
  clear hm
  go_enter Try.func15, Try.ntmps15
  go_wp2
  go_loopg [5] (n + 1) (fun kx v wr => ∃ i m : Nat, v = .int .i64 (i : Int) ∧ i ≤ n ∧ n - i ≤ kx ∧ wr = w.drewN m)
  case atStart => exact ⟨0, 0, rfl, Nat.zero_le _, by omega, rfl⟩
  case round =>
    obtain ⟨i, m, rfl, hi, hik, rfl⟩ := hrel
    by_cases hlt : i < n
    · have z1 : decide ((i : Int) < (n : Int)) = true := decide_eq_true (by omega)
      have hl : ns.length = n := HN.out
      obtain ⟨g1, rfl, hv1⟩ := str_at (A := A) (c := c) (by rw [hl]; exact H1.out) (by omega)
      obtain ⟨g2, rfl, hv2⟩ := str_at (A := B) (c := d) (by rw [hl]; exact H2.out) (by omega)
      have c1 : (w.drewN m).cell? ⟨g1, i, none⟩ = some (.string ⟨ns[i].toArray⟩) := hv1 i (by omega)
      have c2 : (w.drewN m).cell? ⟨g2, i, none⟩ = some (.string ⟨ns[i].toArray⟩) := hv2 i (by omega)
      generalize ns[i] = x at c1 c2
      have i0 : (0 : Int) ≤ (i : Int) := by omega
      have i1 : (i : Int) < (n : Int) := by omega
      clear hv1 hv2 hl
      obtain ⟨wm, hwm⟩ : ∃ wm, wm = w.drewN m := ⟨_, rfl⟩
      rw [← hwm] at c1 c2 ⊢
      have HWM := Lib.hid hwm
      clear hwm
      go_wp2_with fail
      go_quiet (fail)
      go_wp2_with fail
      go_roundg (n - (i + 1))
      case measure => omega
      case rel => exact ⟨i + 1, m + nq, by go_num, by omega, Nat.le_refl _, by rw [HWM.out]; exact rdrewN2 w m nq⟩
    · have z1 : decide ((i : Int) < (n : Int)) = false := decide_eq_false (by omega)
      go_wp2
      go_ret
      exact ⟨rfl, ⟨rfl, rfl, rfl, Nat.le_refl _, fun _ _ => rfl⟩⟩

theorem rxSame_agg {m : Nat} (hm : m ≤ 1000000) {X : Rx} (h : Sm m X) (A : Option Addr) (c : Nat) (B : Option Addr) (d : Nat) (w : World) (h1 : KT w X A c) (h2 : KT w X B d) : Calls Try.prog 14 #[.agg #[.int .i64 (X.kind : Int), .int .i64 X.rune, .int .i64 X.to, .slice A X.kids.length c, .int .i64 X.min, .int .i64 X.max, .bool X.lazy, .bool X.not, .int .i64 (X.group : Int), .string ⟨X.name.toArray⟩], .agg #[.int .i64 (X.kind : Int), .int .i64 X.rune, .int .i64 X.to, .slice B X.kids.length d, .int .i64 X.min, .int .i64 X.max, .bool X.lazy, .bool X.not, .int .i64 (X.group : Int), .string ⟨X.name.toArray⟩]] w (RetE (.bool true) fun w' => Below w.heap.size w w') := rxSame_any hm h A c B d w h1 h2

def notBl (c : Int) : Bool := c != 32 && c != 9 && c != 10 && c != 13 && c != 35
theorem nobl_of {l : List Int} (h : ∀ c ∈ l, notBl c = true) : NoBl l := fun c hc => by
  have := h c hc
  unfold notBl at this
  unfold blkI
  simp only [Bool.and_eq_true, bne_iff_ne, ne_eq] at this
  refine ⟨?_, this.2⟩
  simp only [Bool.or_eq_false_iff, beq_eq_false_iff_ne, ne_eq]
  exact ⟨⟨⟨this.1.1.1.1, this.1.1.1.2⟩, this.1.1.2⟩, this.1.2⟩

set_option maxHeartbeats 4000000 in
set_option maxRecDepth 100000 in
theorem regexFree_walk (s : ByteArray) (w : World) (hs : s.size ≤ 17592186044000) :
    Calls Try.prog 6 #[.string s] w fun e w' => e = .returned (.bool true) ∧ Below w.heap.size w w' := by
  have hlen := explode_len s.data.toList
  have hsz := Lib.size_eq s
  have KE := Lib.hid (fun W => utfExplode_any s W (by omega))
  have KS := Lib.hid (fun W => (rxShown_any W))
  obtain ⟨l, hl⟩ : ∃ l, l = explode s.data.toList := ⟨_, rfl⟩
  have HL := Lib.hid hl
  rw [← hl] at KE hlen
  have hll : l.length ≤ 17592186044416 := by omega
  clear hsz hlen hl
  go_enter Try.func6, Try.ntmps6
  go_wp2_with (go_at_call 11; refine (KS.out _).mono ?_)
  rintro e w0 ⟨rfl, b0⟩
  go_wp2_with (go_at_call 16; refine (KE.out _).mono ?_)
  rintro e V0 ⟨Lv, rfl, hL, hb1⟩
  obtain ⟨LA, Lc, hLe, _, hRd⟩ := hL.rd
  subst hLe
  have B0 := Lib.hid (b0.trans (hb1.mono b0.size))
  have hfa : l.length ≠ 0 → ∃ b off, LA = some ⟨b, off, none⟩ ∧ ∀ i (hi : i < l.length), V0.cell? ⟨b, off + i, none⟩ = some (.int .i64 l[i]) := fun h => by
    obtain ⟨b, off, hA, _, hat⟩ := hRd.2 (by omega)
    refine ⟨b, off, hA, fun i hi => ?_⟩
    have := hat i hi
    rw [List.getD_eq_getElem?_getD, List.getElem?_eq_getElem hi] at this
    exact this
  have HF := Lib.hid hfa
  clear b0 hb1 hL hRd hfa
  go_wp2_with fail
  go_loopg [5] (l.length + 1) (fun kx v wr => ∃ i : Nat, v = .int .i64 (i : Int) ∧ i ≤ l.length ∧ l.length - i ≤ kx ∧ V0 = wr ∧ Hid (∀ c ∈ l.take i, notBl c = true))
  case atStart => exact ⟨0, rfl, Nat.zero_le _, by omega, rfl, by show ∀ c ∈ l.take 0, _; intro c hc; cases hc⟩
  case round =>
    obtain ⟨i, rfl, hi, hik, rfl, hpre⟩ := hrel
    by_cases hlt : i < l.length
    · have z1 : decide ((i : Int) < (l.length : Int)) = true := decide_eq_true (by omega)
      obtain ⟨b, off, rfl, hat⟩ := HF.out (by omega)
      have c1 := hat i hlt
      obtain ⟨c, hc⟩ : ∃ c, c = l[i] := ⟨_, rfl⟩
      rw [← hc] at c1
      have HC := Lib.hid hc
      have i0 : (0 : Int) ≤ (i : Int) := by omega
      have i1 : (i : Int) < (l.length : Int) := by omega
      clear hat hc
      cases hnb : notBl c with
      | true =>
        have hst := Lib.hid (show ∀ d ∈ l.take (i + 1), notBl d = true by
          intro d hd
          rw [List.take_succ_eq_append_getElem hlt] at hd
          rcases List.mem_append.1 hd with hd | hd
          · exact hpre.out d hd
          · obtain rfl := List.mem_singleton.1 hd
            rw [← HC.out]; exact hnb)
        obtain ⟨⟨⟨⟨y1, y2⟩, y3⟩, y4⟩, y5⟩ : ((((c != 32) = true ∧ (c != 9) = true) ∧ (c != 10) = true) ∧ (c != 13) = true) ∧ (c != 35) = true := by
          unfold notBl at hnb; simpa only [Bool.and_eq_true] using hnb
        have x1 : (c == 32) = false := by simpa using y1
        have x2 : (c == 9) = false := by simpa using y2
        have x3 : (c == 10) = false := by simpa using y3
        have x4 : (c == 13) = false := by simpa using y4
        have x5 : (c == 35) = false := by simpa using y5
        clear y1 y2 y3 y4 y5 hnb HC hpre
        go_wp2_with fail
        go_roundg (l.length - (i + 1))
        case measure => omega
        case rel => exact ⟨i + 1, by go_num, by omega, Nat.le_refl _, rfl, hst⟩
      | false =>
        have hc5 : c = 32 ∨ c = 9 ∨ c = 10 ∨ c = 13 ∨ c = 35 := by
          unfold notBl at hnb
          simp only [Bool.and_eq_false_iff, bne_eq_false_iff_eq] at hnb
          omega
        clear hnb HC hpre
        rcases hc5 with rfl | rfl | rfl | rfl | rfl <;> (go_wp2; go_ret; exact ⟨rfl, B0.out⟩)
    · have z1 : decide ((i : Int) < (l.length : Int)) = false := decide_eq_false (by omega)
      have hnb : NoBl l := nobl_of (by have := hpre.out; rw [List.take_of_length_le (by omega)] at this; exact this)
      by_cases hbig : 900 < l.length
      · have z2 : decide ((900 : Int) < (l.length : Int)) = true := decide_eq_true (by omega)
        go_wp2
        go_ret
        exact ⟨rfl, B0.out⟩
      have z2 : decide ((900 : Int) < (l.length : Int)) = false := decide_eq_false (by omega)
      obtain ⟨⟨X1, ns, at', er⟩, hp1⟩ : ∃ r, parseV s.data.toList false = r := ⟨_, rfl⟩
      have hp2 : parseV s.data.toList true = (X1, ns, at', er) := by
        rw [← hp1]; show parseL true (explode s.data.toList) = parseL false (explode s.data.toList)
        rw [← HL.out]; exact parse_free hnb
      have hsm := parse_sm X1 ns at' er hp1
      obtain ⟨s3, hs3⟩ : ∃ s3 : ByteArray, s3 = ⟨#[32, 10]⟩ ++ s ++ ⟨#[32, 35, 32, 110, 111, 116, 101]⟩ := ⟨_, rfl⟩
      have hs3l : s3.data.toList = 32 :: 10 :: (s.data.toList ++ [32, 35, 32, 110, 111, 116, 101]) := by rw [hs3]; simp
      have hs3z : s3.size ≤ 17592186044416 := by have := Lib.size_eq s3; rw [hs3l] at this; have := Lib.size_eq s; simp at *; omega
      have he3 : explode s3.data.toList = wrapL l := by
        rw [hs3l, explode_one 32 _ (by decide), explode_one 10 _ (by decide), explode_ascii 32 [35, 32, 110, 111, 116, 101] (by decide), ← HL.out]
        rfl
      obtain ⟨⟨X3, ns3, at3, er3⟩, hp3⟩ : ∃ r, parseV s3.data.toList true = r := ⟨_, rfl⟩
      have hw3 : er = 0 → X3 = X1 ∧ ns3 = ns ∧ er3 = 0 := fun h0 => by
        subst h0
        have hp : parseL false l = (X1, ns, at', 0) := by rw [← hp1, HL.out]; rfl
        have := parse_wrap hnb (by omega) hp
        have h3 : parseL true (wrapL l) = (X3, ns3, at3, er3) := by rw [← he3]; exact hp3
        rw [this] at h3
        injection h3 with h4 h5; injection h5 with h5 h6; injection h6 with h6 h7
        exact ⟨h4.symm, h5.symm, h7.symm⟩
      have her3 : er3 ≤ 10 := (parse_sound (l := explode s3.data.toList) (free := true) hp3).2.2
      have her : er ≤ 10 := (parse_sound (l := explode s.data.toList) (free := false) hp1).2.2
      have K1 := Lib.hid (fun W => parse_lit hp1 (by omega) W)
      have K2 := Lib.hid (fun W => parse_lit hp2 (by omega) W)
      have K3 := Lib.hid (fun W => parse_lit hp3 hs3z W)
      have HM := Lib.hid hsm.1
      have hnl := hsm.2
      have HW3 := Lib.hid hw3
      clear hp1 hp2 hp3 hw3 hsm he3 hs3l hs3z hpre HF hnb
      subst hs3
      go_wp2_with (go_at_call 12; refine (K1.out _).mono ?_)
      rintro e w1 ⟨A1, c1, NA1, nc1, rfl, hk1, hn1, hb1⟩
      obtain ⟨V1, hV1⟩ : ∃ V, V = w1.alloc (.cells (rxCells X1 (.slice A1 X1.kids.length c1)).toArray TRx) := ⟨_, rfl⟩
      have P1 := Lib.hid (show PV V1 w1.heap.size X1 A1 c1 by rw [hV1]; exact PV.made hk1)
      have N1 := Lib.hid (show V1.ownsRow 0 9 1 (.slice NA1 _ nc1) _ (strCells _) by rw [hV1]; exact rowns_low (rowns_below hn1 ((Below.refl _ w1).alloc (Nat.le_refl _) _)) (Nat.zero_le _))
      have s1 : Below V0.heap.size V0 V1 := by rw [hV1]; exact hb1.alloc hb1.size _
      have B1 := Lib.hid (B0.out.trans (s1.mono B0.out.size))
      clear hk1 hn1 hb1 s1 B0
      simp only [rxAgg]
      go_upto_region 11 with fail
      have e1 : V1 = w1.alloc (.cells #[.int .i64 (X1.kind : Int), .int .i64 X1.rune, .int .i64 X1.to, .slice A1 X1.kids.length c1, .int .i64 X1.min, .int .i64 X1.max, .bool X1.lazy, .bool X1.not, .int .i64 (X1.group : Int), .string ⟨X1.name.toArray⟩] TRx) := hV1
      rw [← e1]
      clear e1 hV1
      go_wp2_with (go_at_call 12; refine (K2.out _).mono ?_)
      rintro e w2 ⟨A2, c2, NA2, nc2, rfl, hk2, hn2, hb2⟩
      obtain ⟨V2, hV2⟩ : ∃ V, V = w2.alloc (.cells (rxCells X1 (.slice A2 X1.kids.length c2)).toArray TRx) := ⟨_, rfl⟩
      have P2 := Lib.hid (show PV V2 w2.heap.size X1 A2 c2 by rw [hV2]; exact PV.made hk2)
      have N2 := Lib.hid (show V2.ownsRow 0 9 1 (.slice NA2 _ nc2) _ (strCells _) by rw [hV2]; exact rowns_low (rowns_below hn2 ((Below.refl _ w2).alloc (Nat.le_refl _) _)) (Nat.zero_le _))
      have s2 : Below V1.heap.size V1 V2 := by rw [hV2]; exact hb2.alloc hb2.size _
      have B2 := Lib.hid (B1.out.trans (s2.mono B1.out.size))
      have P1 := Lib.hid (P1.out.below s2)
      have N1 := Lib.hid (rowns_below N1.out s2)
      clear hk2 hn2 hb2 s2 B1
      simp only [rxAgg]
      go_upto_region 12 with fail
      have e2 : V2 = w2.alloc (.cells #[.int .i64 (X1.kind : Int), .int .i64 X1.rune, .int .i64 X1.to, .slice A2 X1.kids.length c2, .int .i64 X1.min, .int .i64 X1.max, .bool X1.lazy, .bool X1.not, .int .i64 (X1.group : Int), .string ⟨X1.name.toArray⟩] TRx) := hV2
      rw [← e2]
      clear e2 hV2
      go_wp2_with (go_at_call 12; refine (K3.out _).mono ?_)
      rintro e w3 ⟨A3, c3, NA3, nc3, rfl, hk3, hn3, hb3⟩
      obtain ⟨V3, hV3⟩ : ∃ V, V = w3.alloc (.cells (rxCells X3 (.slice A3 X3.kids.length c3)).toArray TRx) := ⟨_, rfl⟩
      have P3 := Lib.hid (show PV V3 w3.heap.size X3 A3 c3 by rw [hV3]; exact PV.made hk3)
      have N3 := Lib.hid (show V3.ownsRow 0 9 1 (.slice NA3 _ nc3) _ (strCells _) by rw [hV3]; exact rowns_low (rowns_below hn3 ((Below.refl _ w3).alloc (Nat.le_refl _) _)) (Nat.zero_le _))
      have s3 : Below V2.heap.size V2 V3 := by rw [hV3]; exact hb3.alloc hb3.size _
      have B3 := Lib.hid (B2.out.trans (s3.mono B2.out.size))
      have P1 := Lib.hid (P1.out.below s3)
      have N1 := Lib.hid (rowns_below N1.out s3)
      have P2 := Lib.hid (P2.out.below s3)
      have N2 := Lib.hid (rowns_below N2.out s3)
      clear hk3 hn3 hb3 s3 B2
      simp only [rxAgg]
      go_upto_region 13 with fail
      have e3 : V3 = w3.alloc (.cells #[.int .i64 (X3.kind : Int), .int .i64 X3.rune, .int .i64 X3.to, .slice A3 X3.kids.length c3, .int .i64 X3.min, .int .i64 X3.max, .bool X3.lazy, .bool X3.not, .int .i64 (X3.group : Int), .string ⟨X3.name.toArray⟩] TRx) := hV3
      rw [← e3]
      clear e3 hV3
      by_cases he : er = 0
      · obtain ⟨rfl, rfl, rfl⟩ := HW3.out he
        subst he
        have KS1 := Lib.hid (fun (W : World) (h1 : KT W X3 A1 c1) (h2 : KT W X3 A2 c2) => rxSame_agg (m := 1002) (by omega) HM.out A1 c1 A2 c2 W h1 h2)
        have KS2 := Lib.hid (fun (W : World) (h1 : KT W X3 A1 c1) (h2 : KT W X3 A3 c3) => rxSame_agg (m := 1002) (by omega) HM.out A1 c1 A3 c3 W h1 h2)
        have KT1 := Lib.hid (fun (W : World) h1 h2 => sameTexts_any ns3 NA1 nc1 NA2 nc2 W (by omega) h1 h2)
        have KT2 := Lib.hid (fun (W : World) h1 h2 => sameTexts_any ns3 NA1 nc1 NA3 nc3 W (by omega) h1 h2)
        clear HW3
        obtain ⟨a0, a1, a2, a3, a4, a5, a6, a7, a8, a9⟩ := P1.out.all
        obtain ⟨b0, b1, b2, b3, b4, b5, b6, b7, b8, b9⟩ := P2.out.all
        go_wp2_with (go_at_call 14; refine (KS1.out _ P1.out.kids P2.out.kids).mono ?_)
        rintro e w4 ⟨rfl, hb4⟩
        have B4 := Lib.hid (B3.out.trans (hb4.mono B3.out.size))
        have Q1 := Lib.hid (P1.out.below hb4)
        have Q3 := Lib.hid (P3.out.below hb4)
        have M1 := Lib.hid (rowns_below N1.out hb4)
        have M2 := Lib.hid (rowns_below N2.out hb4)
        have M3 := Lib.hid (rowns_below N3.out hb4)
        clear hb4 a0 b0 a1 b1 a2 b2 a3 b3 a4 b4 a5 b5 a6 b6 a7 b7 a8 b8 a9 b9
        obtain ⟨a0, a1, a2, a3, a4, a5, a6, a7, a8, a9⟩ := Q1.out.all
        obtain ⟨b0, b1, b2, b3, b4, b5, b6, b7, b8, b9⟩ := Q3.out.all
        go_wp2_with (go_at_call 14; refine (KS2.out _ Q1.out.kids Q3.out.kids).mono ?_)
        rintro e w5 ⟨rfl, hb5⟩
        have B5 := Lib.hid (B4.out.trans (hb5.mono B4.out.size))
        have M1 := Lib.hid (rowns_below M1.out hb5)
        have M2 := Lib.hid (rowns_below M2.out hb5)
        have M3 := Lib.hid (rowns_below M3.out hb5)
        clear hb5 a0 b0 a1 b1 a2 b2 a3 b3 a4 b4 a5 b5 a6 b6 a7 b7 a8 b8 a9 b9
        go_wp2_with (go_at_call 15; refine (KT1.out _ M1.out M2.out).mono ?_)
        rintro e w6 ⟨rfl, hb6⟩
        have B6 := Lib.hid (B5.out.trans (hb6.mono B5.out.size))
        have M1 := Lib.hid (rowns_below M1.out hb6)
        have M3 := Lib.hid (rowns_below M3.out hb6)
        clear hb6
        go_wp2_with (go_at_call 15; refine (KT2.out _ M1.out M3.out).mono ?_)
        rintro e w7 ⟨rfl, hb7⟩
        have B7 := Lib.hid (B6.out.trans (hb7.mono B6.out.size))
        clear hb7
        go_wp2
        go_ret
        exact ⟨rfl, B7.out⟩
      · have z3 : ((er : Int) != 0) = true := by simp; omega
        go_wp2
        go_ret
        exact ⟨rfl, B3.out⟩

end Go.Proofs.Ytoniccokohjenaa
