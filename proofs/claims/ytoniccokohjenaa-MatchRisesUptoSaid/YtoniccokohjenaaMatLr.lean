/-
  The law MatchRises (chapter 19): its walk.
-/
import Derived.Test.YtoniccokohjenaaMatSh
import Derived.Deep.DeepCutAuto
namespace Go.Proofs.Ytoniccokohjenaa
open Go.RowKit

theorem readF_append : ∀ (a b : List UInt8) (m : Md), readF m (a ++ b) = (readF m a).bind fun m => readF m b
  | [], _, _ => rfl
  | c :: r, b, m => by
    rw [List.cons_append, readF, readF]
    split
    · exact readF_append r b _
    split
    · exact readF_append r b _
    split
    · exact readF_append r b _
    split
    · exact readF_append r b _
    split
    · exact readF_append r b _
    · rfl
/-- with g: all of them; without: the first one, or all -/
theorem allV_g (p t f : List UInt8) : ∃ k, allV p t f = ((allV p t (f ++ [103])).1.take k, (allV p t (f ++ [103])).2) ∧ (k = 0 → (allV p t (f ++ [103])).1 = []) ∧ RiseL (explode t).length (allV p t (f ++ [103])).2.1.length 0 (allV p t (f ++ [103])).1 ∧ (allV p t (f ++ [103])).2.1.length ≤ 1000 := by
  unfold allV
  rw [readF_append]
  cases readF md0 f with
  | none => exact ⟨0, rfl, fun _ => rfl, trivial, Nat.zero_le _⟩
  | some m =>
    have h1 : (Option.some m).bind (fun m => readF m [103]) = some { m with all := true } := rfl
    rw [h1]
    simp only
    by_cases h0 : (parseV p m.free).2.2.2 ≠ 0
    · simp only [if_pos h0]; exact ⟨0, rfl, fun _ => trivial, trivial, Nat.zero_le _⟩
    simp only [if_neg h0]
    by_cases h2 : 20000 < sizeR (parseV p m.free).1 ∨ 100000 < sizeR (parseV p m.free).1 * ((explode t).length + 1)
    · simp only [if_pos h2]; exact ⟨0, rfl, fun _ => trivial, trivial, Nat.zero_le _⟩
    simp only [if_neg h2]
    have hp : parseL m.free (explode p) = ((parseV p m.free).1, (parseV p m.free).2.1, (parseV p m.free).2.2.1, (parseV p m.free).2.2.2) := rfl
    have hs := (parse_sound hp).2.1 (by simpa using h0)
    have hr := all_rise (l := explode t) (m := { m with all := true }) hs.1 (Nat.le_refl _) ((explode t).length + 1) 0 (fun _ => false)
    have hn := (parse_sm _ _ _ _ hp).2
    rw [all_g m (explode t) (stepsOf (parseV p m.free).1) (parseV p m.free).2.1.length ((explode t).length + 1) 0 (fun _ => false)]
    cases m.all with
    | true =>
      refine ⟨(allF { m with all := true } (explode t) (stepsOf (parseV p m.free).1) (parseV p m.free).2.1.length ((explode t).length + 1) 0 (fun _ => false)).length, ?_, fun h => List.length_eq_zero_iff.1 h, hr, hn⟩
      simp
    | false =>
      exact ⟨1, by simp, fun h => absurd h (by decide), hr, hn⟩

theorem rise_at {n G : Nat} : ∀ (ms : List Mh) (lo i : Nat) (h : Mh), RiseL n G lo ms → ms[i]? = some h → MhOk n G h ∧ RiseL n G lo (ms.take 0)
  | [], _, _, _, _, hi => by simp at hi
  | x :: r, lo, 0, h, hr, hi => by
    obtain rfl : x = h := by simpa using hi
    exact ⟨hr.2.1, trivial⟩
  | x :: r, lo, i + 1, h, hr, hi => ⟨(rise_at r _ i h hr.2.2 (by simpa using hi)).1, trivial⟩
/-- a group's span stands within the match -/
theorem span_in {n G : Nat} {h : Mh} (hm : MhOk n G h) {k : Nat} (hk : k < G) : (grpAt h.M k = (-1, -1)) ∨ (∃ x y, grpAt h.M k = (x, y) ∧ (h.a : Int) ≤ x ∧ x ≤ y ∧ y ≤ (h.b : Int)) := by
  have hs := hm.inv.shut (k + 1) (by omega) (by omega) (by simp)
  rw [show 2 * (k + 1 - 1) = 2 * k by omega] at hs
  unfold grpAt
  rcases hs with hs | ⟨h1, h2, h3⟩
  · left; rw [hs]; simp
  · right
    refine ⟨_, _, rfl, ?_, ?_, h3⟩
    · rw [if_neg (by omega)]; exact h1
    · rw [if_neg (by omega)]; exact h2

/-- All's answer, to be read -/
theorem allRd {p t f : ByteArray} {ms : List Mh} {ns : List (List UInt8)} {er : Nat} (h : allV p.data.toList t.data.toList f.data.toList = (ms, ns, er)) (hp : p.size ≤ 1000000) (ht : t.size ≤ 1000) (w : World) :
    Calls Try.prog 22 #[.string p, .string t, .string f] w fun e w' => ∃ A c, e = .returned (.tuple #[.slice A ms.length c, .int .i64 (er : Int)]) ∧ Below w.heap.size w w' ∧ RdMs 0 w' ns A ms ∧ ms.length ≤ c := by
  refine (mtAll_any p t f w hp ht).mono fun e w' h2 => ?_
  rw [h] at h2
  obtain ⟨ov, out, rfl, hb, hm, hms⟩ := h2
  obtain ⟨A, c, rfl⟩ := rowns_slice hms.own
  have hm : out.map Prod.fst = ms := hm
  refine ⟨A, c, ?_, hb, by rw [← hm]; exact (hms.lower (Nat.zero_le _)).rd, ?_⟩
  · rw [← hm, List.length_map]
  · rw [← hm, List.length_map]
    rcases hms.own.2 with ⟨hv, h0⟩ | ⟨q, cap', cur, hv, _, _, h1, _⟩
    · injection hv with _ _ e3; omega
    · injection hv with _ _ e3; omega

set_option maxHeartbeats 4000000 in
set_option maxRecDepth 100000 in
theorem matchRises_walk (p t f : ByteArray) (w : World) (hf : f.size ≤ 1000000000) :
    Calls Try.prog 10 #[.string p, .string t, .string f] w fun e w' => e = .returned (.bool true) ∧ Below w.heap.size w w' := by
  have KS := Lib.hid (fun W => mtShown_any W)
  have kg := fun W => mtGreat_any p t W
  by_cases hg : 60 < p.size ∨ 40 < t.size
  · have hgv : (decide (60 < p.size) || decide (40 < t.size)) = true := by simpa using hg
    rw [hgv] at kg
    have KG := Lib.hid kg
    clear kg hgv hg
    go_enter Try.func10, Try.ntmps10
    go_wp2_with (go_at_call 20; refine (KS.out _).mono ?_)
    rintro e w1 ⟨rfl, hb1⟩
    have B1 := Lib.hid hb1
    clear hb1
    go_wp2_with (go_at_call 21; refine (KG.out _).mono ?_)
    rintro e w2 ⟨rfl, rfl⟩
    go_wp2
    go_ret
    exact ⟨rfl, B1.out⟩
  · have hgv : (decide (60 < p.size) || decide (40 < t.size)) = false := by
      rw [Bool.or_eq_false_iff]; exact ⟨decide_eq_false (fun h => hg (.inl h)), decide_eq_false (fun h => hg (.inr h))⟩
    rw [hgv] at kg
    have KG := Lib.hid kg
    have hp : p.size ≤ 60 := by omega
    have ht : t.size ≤ 40 := by omega
    have hcat : (f ++ ⟨#[103]⟩ : ByteArray).data.toList = f.data.toList ++ [103] := by simp
    have KE := Lib.hid (fun W => utfExplode_any t W (by omega))
    obtain ⟨k, hk1, hk2, hri, hns⟩ := allV_g p.data.toList t.data.toList f.data.toList
    have hlen := explode_len t.data.toList
    have hsz := Lib.size_eq t
    obtain ⟨R, hR⟩ : ∃ R, R = allV p.data.toList t.data.toList (f.data.toList ++ [103]) := ⟨_, rfl⟩
    rw [← hR] at hk1 hk2 hri hns
    obtain ⟨ms, ns, er⟩ := R
    simp only at hk1 hk2 hri hns
    have KA1 := Lib.hid (fun W => allRd (p := p) (t := t) (f := f ++ ⟨#[103]⟩) (ms := ms) (ns := ns) (er := er) (by rw [hcat]; exact hR.symm) (by omega) (by omega) W)
    have KA2 := Lib.hid (fun W => allRd (p := p) (t := t) (f := f) (ms := ms.take k) (ns := ns) (er := er) hk1 (by omega) (by omega) W)
    have hlk : (ms.take k).length = min k ms.length := List.length_take
    have hml : ms.length ≤ 41 := by
      have := (allV_rise p.data.toList t.data.toList (f.data.toList ++ [103])).2
      rw [← hR] at this
      simp only at this
      omega
    generalize explode t.data.toList = l at *
    obtain ⟨ml, hmlk⟩ : ∃ q, q = (ms.take k).length := ⟨_, rfl⟩
    obtain ⟨n, hn⟩ : ∃ n, n = ms.length := ⟨_, rfl⟩
    obtain ⟨N, hN⟩ : ∃ n, n = l.length := ⟨_, rfl⟩
    obtain ⟨NL, hNL⟩ : ∃ n, n = ns.length := ⟨_, rfl⟩
    rw [← hn] at hml hlk KA1
    rw [← hmlk] at hlk KA2
    rw [← hN, ← hNL] at hri
    rw [← hNL] at hns
    have hz : n = 0 ∨ 0 < ml := by
      by_cases h0 : k = 0
      · left; rw [hn, hk2 h0]; rfl
      · by_cases h1 : n = 0
        · exact .inl h1
        · right; omega
    have hmn : ml ≤ n := by omega
    have HMLK := Lib.hid hmlk
    have HN := Lib.hid hn
    have HNN := Lib.hid hN
    have HNL := Lib.hid hNL
    have HZ := Lib.hid hz
    have HRI := Lib.hid hri
    have HNS := Lib.hid hns
    have HF := Lib.hid hf
    clear kg hgv hg hp ht hcat hk1 hk2 hri hlen hsz hns hR hlk hmlk hn hN hNL hz
    go_enter Try.func10, Try.ntmps10
    go_wp2_with (go_at_call 20; refine (KS.out _).mono ?_)
    rintro e w1 ⟨rfl, hb1⟩
    have B1 := Lib.hid hb1
    clear hb1
    go_wp2_with (go_at_call 21; refine (KG.out _).mono ?_)
    rintro e w1 ⟨rfl, rfl⟩
    go_wp2_with (go_at_call 22; refine (KA1.out _).mono ?_)
    rintro e w2 ⟨A1, c1, rfl, hb2, hr2, hc1⟩
    have B2 := Lib.hid (B1.out.trans (hb2.mono B1.out.size))
    have R2 := Lib.hid hr2
    clear hb2 hr2 B1
    go_wp2_with (go_at_call 22; refine (KA2.out _).mono ?_)
    rintro e w3 ⟨A2, c2, rfl, hb3, hr3, _⟩
    have B3 := Lib.hid (B2.out.trans (hb3.mono B2.out.size))
    have R3 := Lib.hid (R2.out.below hb3)
    have S3 := Lib.hid hr3
    clear hb3 hr3 B2 R2
    go_wp2_with (go_at_call 16; refine (KE.out _).mono ?_)
    rintro e w4 ⟨Lv, rfl, hL, hb4⟩
    obtain ⟨LA, Lc, rfl, _, _⟩ := hL.rd
    have B4 := Lib.hid (B3.out.trans (hb4.mono B3.out.size))
    have R4 := Lib.hid (R3.out.below hb4)
    have S4 := Lib.hid (S3.out.below hb4)
    clear hL hb4 B3 R3 S3
    rw [← HNN.out]
    go_wp2_with fail
    go_loopg [13, 14] (n + 1) (fun kx v13 v14 wr => ∃ i la lo : Nat, v14 = .int .i64 (i : Int) ∧ v13 = .int .i64 (la : Int) ∧ i ≤ n ∧ n - i < kx ∧ Below w4.heap.size w4 wr ∧ Hid (RiseL N NL lo (ms.drop i)) ∧ Hid (la ≤ lo) ∧ Hid (∀ j h, i = j + 1 → ms[j]? = some h → h.a < lo))
    case atStart => exact ⟨0, 0, 0, by go_num, by go_num, Nat.zero_le _, by omega, Below.refl _ _, HRI.out, Nat.le_refl _, fun j h e => by omega⟩
    case round =>
      obtain ⟨i, la, lo, rfl, rfl, hi, hik, hb, hri, hla, hpr⟩ := hrel
      have HB := Lib.hid hb
      by_cases hlt : i < n
      · have z1 : decide (i < n) = true := decide_eq_true hlt
        have hlm : i < ms.length := by rw [← HN.out]; exact hlt
        obtain ⟨h, hh⟩ : ∃ h, ms[i]? = some h := ⟨_, List.getElem?_eq_getElem hlm⟩
        have hdr : ms.drop i = h :: ms.drop (i + 1) := by rw [List.drop_eq_getElem_cons hlm, (List.getElem?_eq_some_iff.1 hh).2]
        have hri' := hri.out
        rw [hdr] at hri'
        obtain ⟨hlo, hok, hrn⟩ := hri'
        obtain ⟨q1, GA, gc, KA, kc, rfl, hr, ho1, ho2⟩ := (R4.out.below hb).one hh
        simp only [← HNL.out] at hr
        have r0 := hr 0 _ rfl
        have r1 := hr 1 _ rfl
        have r2 := hr 2 _ rfl
        have r3 := hr 3 _ rfl
        rw [Nat.add_zero] at r0
        simp only at r0 r1 r2 r3
        have hab := hok.ab
        have hbn := hok.bn
        have hla' := hla.out
        obtain ⟨ha, hha⟩ : ∃ k, k = h.a := ⟨_, rfl⟩
        obtain ⟨hv, hhv⟩ : ∃ k, k = h.b := ⟨_, rfl⟩
        rw [← hha] at r0 hab hlo hrn
        rw [← hhv] at r1 hab hbn hrn
        have z2 : decide (ha < la) = false := decide_eq_false (by omega)
        have z3 : decide (hv < ha) = false := decide_eq_false (by omega)
        have z4 : decide (N < hv) = false := decide_eq_false (by omega)
        have y0 : (0 : Int) ≤ (i : Int) := by omega
        have y1 : (i : Int) < (n : Int) := by omega
        have HOK := Lib.hid hok
        have HRN := Lib.hid hrn
        have HHA := Lib.hid hha
        have HHV := Lib.hid hhv
        have HH := Lib.hid hh
        have HAB := Lib.hid hab
        have hprev : i = 0 ∨ ∃ j pa, i = j + 1 ∧ pa ≠ ha ∧ wr.cell? ⟨q1, j * 4, none⟩ = some (.int .i64 ((pa : Nat) : Int)) := by
          by_cases h0 : i = 0
          · exact .inl h0
          · right
            have hlj : i - 1 < ms.length := by omega
            obtain ⟨hp, hhp⟩ : ∃ h, ms[i - 1]? = some h := ⟨_, List.getElem?_eq_getElem hlj⟩
            obtain ⟨q2, _, _, _, _, e2, hr2, _, _⟩ := (R4.out.below hb).one hhp
            injection e2 with e2
            injection e2 with e2 _ _
            subst e2
            have := hpr.out (i - 1) hp (by omega) hhp
            exact ⟨i - 1, hp.a, by omega, by omega, by have h3 := hr2 0 _ rfl; rw [Nat.add_zero] at h3; exact h3⟩
        have HPV := Lib.hid hprev
        clear hlm hh hdr hri hlo hok hrn hr ho1 ho2 hab hbn hla hla' hha hhv hpr hb hprev
        obtain ⟨wo, rfl⟩ : ∃ wo : World, wo = wr := ⟨_, rfl⟩
        obtain ⟨og, rfl⟩ : ∃ og : Nat, og = gk := ⟨_, rfl⟩
        go_upto_region 13 with fail
        go_cut [110] (fun t wx => t = .bool false ∧ ∃ m, wx = wo.drewN m)
        case first =>
          rcases HPV.out with rfl | ⟨j, pa, rfl, hpa, s0⟩
          · rw [Nat.zero_mul] at r0
            rw [Nat.zero_mul, Nat.zero_add] at r1 r2 r3
            go_quiet (fail)
            go_wp2_with fail
            go_meet
            exact ⟨rfl, _, rfl⟩
          · have e1 : ((j + 1 : Nat) : Int) - 1 = (j : Int) := by omega
            obtain ⟨vi, hvi⟩ : ∃ vi : Int, ((j + 1 : Nat) : Int) = vi := ⟨_, rfl⟩
            have z5 : decide ((0 : Int) < vi) = true := decide_eq_true (by omega)
            have tn : vi.toNat = j + 1 := by omega
            have e2 : vi - 1 = (j : Int) := by omega
            have v0 : 0 ≤ vi := by omega
            have v1 : vi < (n : Int) := by omega
            have j0 : (0 : Int) ≤ (j : Int) := by omega
            have j1 : (j : Int) < (n : Int) := by omega
            have z6 : ((ha : Int) == (pa : Int)) = false := beq_false_of_ne (by omega)
            have z7 : (ha == pa) = false := beq_false_of_ne (by omega)
            have HVI := Lib.hid hvi
            rw [hvi]
            clear e1 hvi hpa y0 y1 z1 hlt hi hik HPV HH
            go_quiet (fail)
            go_wp2_with fail
            have hvi := HVI.out
            subst hvi
            go_meet
            exact ⟨rfl, _, rfl⟩
        case rest =>
          obtain ⟨rfl, m, rfl⟩ := hcut
          obtain ⟨W5, hW5⟩ : ∃ W, W = wo.drewN m := ⟨_, rfl⟩
          have hb5 : Below w4.heap.size w4 W5 := by rw [hW5]; exact HB.out.trans ⟨rfl, rfl, rfl, Nat.le_refl _, fun _ _ => rfl⟩
          rw [← hW5]
          have HB5 := Lib.hid hb5
          clear hW5 hb5 r0 r1 r2 r3 z2 z3 z4 HPV
          go_wp2_with fail
          go_loopg [15] (NL + 1) (fun kx v wr => ∃ k : Nat, v = .int .i64 (k : Int) ∧ k ≤ NL ∧ NL - k < kx ∧ Below w4.heap.size w4 wr)
          case atStart => exact ⟨0, by go_num, Nat.zero_le _, by omega, HB5.out⟩
          case round =>
            obtain ⟨k, rfl, hk, hkx, hb⟩ := hrel
            have HBk := Lib.hid hb
            obtain ⟨q2, GA, gc, KA, kc, eq2, hr, ho1, _⟩ := (R4.out.below hb).one HH.out
            injection eq2 with eq2
            injection eq2 with eq2 _ _
            subst eq2
            simp only [← HNL.out] at hr ho1
            have r0 := hr 0 _ rfl
            have r1 := hr 1 _ rfl
            have r2 := hr 2 _ rfl
            rw [Nat.add_zero] at r0
            simp only [← HHA.out, ← HHV.out] at r0 r1 r2
            have hnl := HNS.out
            by_cases hkl : k < NL
            · have z2 : decide (k < NL) = true := decide_eq_true hkl
              obtain ⟨b1, rfl, hv1⟩ := rows_at ho1 (by omega)
              have hgk : (grpL h.M NL)[k]? = some (grpAt h.M k) := by unfold grpL; rw [List.getElem?_map, List.getElem?_range hkl]; rfl
              have e0 := hv1 _ _ (sps_at _ k _ hgk 0 _ rfl)
              have e1 := hv1 _ _ (sps_at _ k _ hgk 1 _ rfl)
              rw [Nat.add_zero] at e0
              have hsp := span_in HOK.out hkl
              obtain ⟨x, y, hxy⟩ : ∃ x y, grpAt h.M k = (x, y) := ⟨_, _, rfl⟩
              rw [hxy] at e0 e1 hsp
              rw [← HHA.out, ← HHV.out] at hsp
              simp only at e0 e1
              have x0 : (0 : Int) ≤ (k : Int) := by omega
              have x1 : (k : Int) < (NL : Int) := by omega
              have hk2 : k < 1000 := by omega
              obtain ⟨W6, hW6⟩ : ∃ W, W = wr.alloc (.cells #[.int .i64 x, .int .i64 y] TSp) := ⟨_, rfl⟩
              have hal : Below wr.heap.size wr W6 := by rw [hW6]; exact (Below.refl _ wr).alloc (Nat.le_refl _) _
              have hh6 : W6.heap[wr.heap.size]? = some (.cells #[.int .i64 x, .int .i64 y] TSp (0, 0)) := by rw [hW6]; exact Go.heap_alloc_new wr _
              have t0 : W6.cell? ⟨wr.heap.size, 0, none⟩ = some (.int .i64 x) := by rw [Lib.cell_of_heap hh6]; rfl
              have t1 : W6.cell? ⟨wr.heap.size, 1, none⟩ = some (.int .i64 y) := by rw [Lib.cell_of_heap hh6]; rfl
              have r0' := (range_below hr hal) 0 _ rfl
              have r1' := (range_below hr hal) 1 _ rfl
              rw [Nat.add_zero] at r0'
              simp only [← HHA.out, ← HHV.out] at r0' r1'
              have HB6 := Lib.hid (hb.trans (hal.mono hb.size))
              clear hv1 hgk hxy hal hh6 hb hr ho1
              go_upto_region 19 with fail
              rw [← hW6]
              clear hW6 e0 e1 r0 r1 r2
              rcases hsp with hsp | ⟨x', y', hsp, h1, h2, h3⟩
              · injection hsp with hx hy
                subst hx hy
                go_quiet (fail)
                go_wp2_with fail
                go_roundg (NL - k)
                case measure => omega
                case rel => exact ⟨k + 1, by go_num, by omega, by omega, HB6.out.trans ⟨rfl, rfl, rfl, Nat.le_refl _, fun _ _ => rfl⟩⟩
              · injection hsp with hx hy
                subst hx hy
                have q1 : (x == -1) = false := beq_false_of_ne (by omega)
                have q2 : (y == -1) = false := beq_false_of_ne (by omega)
                have q3 : decide (x < (ha : Int)) = false := decide_eq_false (by omega)
                have q4 : decide ((hv : Int) < y) = false := decide_eq_false (by omega)
                have q5 : decide (y < x) = false := decide_eq_false (by omega)
                clear h1 h2 h3
                go_quiet (fail)
                go_wp2_with fail
                go_roundg (NL - k)
                case measure => omega
                case rel => exact ⟨k + 1, by go_num, by omega, by omega, HB6.out.trans ⟨rfl, rfl, rfl, Nat.le_refl _, fun _ _ => rfl⟩⟩
            · have z2 : decide (k < NL) = false := decide_eq_false hkl
              clear hb hr ho1
              have hi2 : i ≤ 100 := by omega
              go_wp2_with fail
              go_roundg (n - i)
              case measure => omega
              case rel => exact ⟨i + 1, hv, max hv (ha + 1), by go_num, rfl, by omega, by omega, HBk.out, HRN.out, by show hv ≤ _; omega, fun j h' e hj => by
                obtain rfl : j = i := by omega
                rw [HH.out] at hj
                obtain rfl := Option.some.inj hj
                rw [← HHA.out]; omega⟩
      · have z1 : decide (i < n) = false := decide_eq_false hlt
        have KSM := Lib.hid (fun (W : World) (h1 : RdMs 0 W ns A2 (ms.take k)) (h2 : RdMs 0 W ns A1 (ms.take k)) => mtSame_any (ms.take k) ns 0 A2 c2 A1 c1 W (by rw [← HMLK.out]; omega) (by rw [← HNL.out]; have := HNS.out; omega) h1 h2)
        have T4 := Lib.hid ((R4.out.below HB.out).take k)
        have S5 := Lib.hid (S4.out.below HB.out)
        have B5 := Lib.hid (B4.out.trans (HB.out.mono B4.out.size))
        have hml2 : ml ≤ c1 := Nat.le_trans hmn hc1
        rw [← HMLK.out] at KSM
        have x0 : (0 : Int) ≤ (ml : Int) := by omega
        have x1 : (ml : Int) ≤ (c1 : Int) := by omega
        have q1 : decide (n < ml) = false := decide_eq_false (by omega)
        clear hb hri hla hpr hi hik hlt
        rcases HZ.out with h0 | h0
        · subst h0
          obtain rfl : ml = 0 := by omega
          go_wp2_with (go_at_call 24; refine (KSM.out _ S5.out T4.out).mono ?_)
          rintro e w6 ⟨rfl, hb6⟩
          have B6 := Lib.hid (B5.out.trans (hb6.mono B5.out.size))
          clear hb6
          go_wp2
          go_ret
          exact ⟨rfl, B6.out⟩
        · have q2 : ((ml : Int) == 0) = false := beq_false_of_ne (by omega)
          have q3 : (ml == 0) = false := beq_false_of_ne (by omega)
          go_wp2_with (go_at_call 24; refine (KSM.out _ S5.out T4.out).mono ?_)
          rintro e w6 ⟨rfl, hb6⟩
          have B6 := Lib.hid (B5.out.trans (hb6.mono B5.out.size))
          clear hb6
          go_wp2
          go_ret
          exact ⟨rfl, B6.out⟩

end Go.Proofs.Ytoniccokohjenaa
