/-
  The law MatchPlain (chapter 19): its walk.
-/
import Derived.Test.YtoniccokohjenaaDoorMatSh
import Derived.Test.YtoniccokohjenaaDoorMatPp
namespace Go.Proofs.YtoniccokohjenaaDoor
open Go.RowKit

/-- All's answer, to be read -/
theorem allRdP {p t f : ByteArray} {ms : List Mh} {ns : List (List UInt8)} {er : Nat} (h : allV p.data.toList t.data.toList f.data.toList = (ms, ns, er)) (hp : p.size ≤ 1000000) (ht : t.size ≤ 1000) (w : World) :
    Calls Tryd.prog 7 #[.string p, .string t, .string f] w fun e w' => ∃ A c, e = .returned (.tuple #[.slice A ms.length c, .int .i64 (er : Int)]) ∧ Below w.heap.size w w' ∧ RdMs 0 w' ns A ms := by
  refine (mtAll_any p t f w hp ht).mono fun e w' h2 => ?_
  rw [h] at h2
  obtain ⟨ov, out, rfl, hb, hm, hms⟩ := h2
  obtain ⟨A, c, rfl⟩ := rowns_slice hms.own
  have hm : out.map Prod.fst = ms := hm
  refine ⟨A, c, ?_, hb, by rw [← hm]; exact (hms.lower (Nat.zero_le _)).rd⟩
  rw [← hm, List.length_map]

theorem occs_len (p l : List Int) : ∀ (f i : Nat), (occs p l f i).length ≤ f
  | 0, _ => Nat.le_refl _
  | f + 1, i => by
    rw [occs]
    split
    · exact Nat.zero_le _
    · split
      · have := occs_len p l f (i + max 1 p.length); rw [List.length_cons]; omega
      · have := occs_len p l f (i + 1); omega
/-- Replace's answer -/
theorem replRdP {p t f y s : ByteArray} {er : Nat} (h : replV p.data.toList t.data.toList f.data.toList y.data.toList = (s.data.toList, er)) (hp : p.size ≤ 1000000) (ht : t.size ≤ 1000) (hy : y.size ≤ 1100000) (w : World) :
    Calls Tryd.prog 8 #[.string p, .string t, .string f, .string y] w (RetE (.tuple #[.string s, .int .i64 (er : Int)]) fun w' => Below w.heap.size w w') := by
  have h2 := mtReplace_any p t f y w hp ht hy
  rw [h] at h2
  exact h2

set_option maxHeartbeats 4000000 in
set_option maxRecDepth 100000 in
theorem matchPlain_walk (p t : ByteArray) (w : World) (hT : Tabs w) :
    Calls Tryd.prog 3 #[.string p, .string t] w fun e w' => e = .returned (.bool true) ∧ Below w.heap.size w w' := by
  have KS := Lib.hid (fun W => mtShown_any W)
  have kg := fun W => mtGreat_any p t W
  have HT := Lib.hid hT
  by_cases hg : 60 < p.size ∨ 40 < t.size
  · have hgv : (decide (60 < p.size) || decide (40 < t.size)) = true := by simpa using hg
    rw [hgv] at kg
    have KG := Lib.hid kg
    clear kg hgv hg hT
    go_enter Tryd.func3, Tryd.ntmps3
    go_wp2_with (go_at_call 4; refine (KS.out _).mono ?_)
    rintro e w1 ⟨rfl, hb1⟩
    have B1 := Lib.hid hb1
    clear hb1
    go_wp2_with (go_at_call 5; refine (KG.out _).mono ?_)
    rintro e w2 ⟨rfl, rfl⟩
    go_wp2
    go_ret
    exact ⟨rfl, B1.out⟩
  · have hgv : (decide (60 < p.size) || decide (40 < t.size)) = false := by
      rw [Bool.or_eq_false_iff]; exact ⟨decide_eq_false (fun h => hg (.inl h)), decide_eq_false (fun h => hg (.inr h))⟩
    rw [hgv] at kg
    have KG := Lib.hid kg
    have hp : p.size ≤ 60 := by omega
    have ht : t.size ≤ 40 := by omega
    have KE1 := Lib.hid (fun W => utfExplode_any p W (by omega))
    have KE2 := Lib.hid (fun W => utfExplode_any t W (by omega))
    have KC := Lib.hid (fun W (h : Tabs W) => utfClean_any t W h (by omega))
    have hl1 := explode_len p.data.toList
    have hl2 := explode_len t.data.toList
    have hs1 := Lib.size_eq p
    have hs2 := Lib.size_eq t
    have KA := Lib.hid (fun (h : ∀ c ∈ explode p.data.toList, dlI c) W => allRdP (p := p) (t := t) (f := ⟨#[103]⟩) (allV_plain h (by omega) (by omega)) (by omega) (by omega) W)
    have KR := Lib.hid (fun (h : ∀ c ∈ explode p.data.toList, dlI c) W => replRdP (p := p) (t := t) (f := ⟨#[103]⟩) (y := p) (s := ⟨(clean t.data.toList).toArray⟩) (replV_plain h (by omega) (by omega)) (by omega) (by omega) (by omega) W)
    generalize clean t.data.toList = ct at *
    obtain ⟨P, hP⟩ : ∃ P, P = explode p.data.toList := ⟨_, rfl⟩
    obtain ⟨T, hTT⟩ : ∃ T, T = explode t.data.toList := ⟨_, rfl⟩
    rw [← hP] at KA KR KE1 hl1
    rw [← hTT] at KA KE2 hl2
    obtain ⟨np, hnp⟩ : ∃ n, n = P.length := ⟨_, rfl⟩
    obtain ⟨nt, hnt⟩ : ∃ n, n = T.length := ⟨_, rfl⟩
    rw [← hnt] at KA
    obtain ⟨ms, hms⟩ : ∃ ms, ms = (occs P T (nt + 1) 0).map mhOf := ⟨_, rfl⟩
    rw [← hms] at KA
    obtain ⟨n, hn⟩ : ∃ n, n = ms.length := ⟨_, rfl⟩
    rw [← hn] at KA
    have hn1 : n ≤ 41 := by rw [hn, hms, List.length_map]; have := occs_len P T (nt + 1) 0; omega
    have HMS := Lib.hid hms
    have HN := Lib.hid hn
    have hnp6 : np ≤ 60 := by omega
    have hnt4 : nt ≤ 40 := by omega
    have HNP := Lib.hid hnp
    have HNT := Lib.hid hnt
    clear kg hgv hg hp ht hl1 hl2 hs1 hs2 hT hP hTT hnp hnt hms hn
    go_enter Tryd.func3, Tryd.ntmps3
    go_wp2_with (go_at_call 4; refine (KS.out _).mono ?_)
    rintro e w1 ⟨rfl, hb1⟩
    have B1 := Lib.hid hb1
    clear hb1
    go_wp2_with (go_at_call 5; refine (KG.out _).mono ?_)
    rintro e w1 ⟨rfl, rfl⟩
    go_wp2_with (go_at_call 6; refine (KE1.out _).mono ?_)
    rintro e w2 ⟨Lv, rfl, hL, hb2⟩
    obtain ⟨PA, Pc, rfl, _, hR⟩ := hL.rd
    have B2 := Lib.hid (B1.out.trans (hb2.mono B1.out.size))
    have HR := Lib.hid hR
    rw [← HNP.out] at HR ⊢
    clear hL hb2 hR B1
    go_wp2_with fail
    go_loopg [7] (np + 1) (fun kx v wr => ∃ i : Nat, v = .int .i64 (i : Int) ∧ i ≤ np ∧ np - i < kx ∧ w2 = wr ∧ Hid (∀ c ∈ P.take i, dlI c))
    case atStart => exact ⟨0, by go_num, Nat.zero_le _, by omega, rfl, fun c hc => by cases hc⟩
    case round =>
      obtain ⟨i, rfl, hi, hik, rfl, hd⟩ := hrel
      by_cases hlt : i < np
      · have z1 : decide (i < np) = true := decide_eq_true hlt
        obtain ⟨b, off, rfl, _, hat⟩ := HR.out.2 (by omega)
        have c0 := hat i hlt
        have hst : dlI (P.getD i 0) → ∀ c ∈ P.take (i + 1), dlI c := fun h c hc => by
          have hil : i < P.length := by rw [← HNP.out]; exact hlt
          rw [List.take_succ_eq_append_getElem hil] at hc
          rcases List.mem_append.1 hc with hc | hc
          · exact hd.out c hc
          · obtain rfl := List.mem_singleton.1 hc
            rw [List.getD_eq_getElem?_getD, List.getElem?_eq_getElem hil] at h; exact h
        have HST := Lib.hid hst
        generalize P.getD i 0 = c at c0 HST
        have y0 : (0 : Int) ≤ (i : Int) := by omega
        have y1 : (i : Int) < (np : Int) := by omega
        clear hat hst hd
        have hz : c < 48 ∨ (48 ≤ c ∧ c ≤ 57) ∨ (57 < c ∧ c < 97) ∨ (97 ≤ c ∧ c ≤ 122) ∨ 122 < c := by omega
        rcases hz with h | h | h | h | h
        · have u0 : decide (c < 48) = true := decide_eq_true (by omega)
          clear h HST
          go_wp2
          go_ret
          exact ⟨rfl, B2.out⟩
        · have u0 : decide (c < 48) = false := decide_eq_false (by omega)
          have u1 : decide (57 < c) = false := decide_eq_false (by omega)
          have u2 : decide (122 < c) = false := decide_eq_false (by omega)
          have hn := HST.out (.inl h)
          have HN := Lib.hid hn
          clear h HST hn
          go_wp2_with fail
          go_roundg (np - i)
          case measure => omega
          case rel => exact ⟨i + 1, by go_num, by omega, by omega, rfl, HN.out⟩
        · have u0 : decide (c < 48) = false := decide_eq_false (by omega)
          have u1 : decide (57 < c) = true := decide_eq_true (by omega)
          have u2 : decide (c < 97) = true := decide_eq_true (by omega)
          clear h HST
          go_wp2
          go_ret
          exact ⟨rfl, B2.out⟩
        · have u0 : decide (c < 48) = false := decide_eq_false (by omega)
          have u1 : decide (57 < c) = true := decide_eq_true (by omega)
          have u3 : decide (c < 97) = false := decide_eq_false (by omega)
          have u2 : decide (122 < c) = false := decide_eq_false (by omega)
          have hn := HST.out (.inr h)
          have HN := Lib.hid hn
          clear h HST hn
          go_wp2_with fail
          go_roundg (np - i)
          case measure => omega
          case rel => exact ⟨i + 1, by go_num, by omega, by omega, rfl, HN.out⟩
        · have u0 : decide (c < 48) = false := decide_eq_false (by omega)
          have u1 : decide (57 < c) = true := decide_eq_true (by omega)
          have u3 : decide (c < 97) = false := decide_eq_false (by omega)
          have u2 : decide (122 < c) = true := decide_eq_true (by omega)
          clear h HST
          go_wp2
          go_ret
          exact ⟨rfl, B2.out⟩
      · have z1 : decide (i < np) = false := decide_eq_false hlt
        have hall : ∀ c ∈ P, dlI c := fun c hc => hd.out c (by rw [List.take_of_length_le (by rw [← HNP.out]; omega)]; exact hc)
        have KA1 := Lib.hid (KA.out hall)
        have KR1 := Lib.hid (KR.out hall)
        clear hall hd KA KR
        go_wp2_with (go_at_call 7; refine (KA1.out _).mono ?_)
        rintro e w3 ⟨A1, c1, rfl, hb3, hr3⟩
        have B3 := Lib.hid (B2.out.trans (hb3.mono B2.out.size))
        have R3 := Lib.hid hr3
        have HR3 := Lib.hid (HR.out.below hb3)
        clear hb3 hr3 B2 HR
        go_wp2_with (go_at_call 6; refine (KE2.out _).mono ?_)
        rintro e w4 ⟨Tv, rfl, hL, hb4⟩
        obtain ⟨TA, Tc, rfl, _, hRT⟩ := hL.rd
        have B4 := Lib.hid (B3.out.trans (hb4.mono B3.out.size))
        have R4 := Lib.hid (R3.out.below hb4)
        have HR4 := Lib.hid (HR3.out.below hb4)
        have HT4 := Lib.hid hRT
        rw [← HNT.out] at HT4 ⊢
        clear hL hb4 hRT B3 R3 HR3
        go_wp2_with fail
        go_loopg [11, 12] (nt + 2) (fun kx v11 v12 wr => ∃ at_ i : Nat, v11 = .int .i64 (at_ : Int) ∧ v12 = .int .i64 (i : Int) ∧ i ≤ nt + 1 ∧ nt + 1 - i < kx ∧ at_ ≤ n ∧ Hid (ms.drop at_ = (occs P T (nt + 1) i).map mhOf) ∧ Below w4.heap.size w4 wr)
        case atStart => exact ⟨0, 0, by go_num, by go_num, by omega, by omega, Nat.zero_le _, HMS.out, Below.refl _ _⟩
        case round =>
          obtain ⟨at_, i, rfl, rfl, hi, hik, hat, hoc, hb⟩ := hrel
          have HB := Lib.hid hb
          have HOC := Lib.hid hoc.out
          clear hoc hb
          have hi2 : i ≤ 41 := by omega
          obtain ⟨e, he⟩ : ∃ e, e = i + np := ⟨_, rfl⟩
          have HE := Lib.hid he
          have hw1 : IntKind.i64.wrap ((i : Int) + (np : Int)) = (e : Int) := by rw [IntKind.wrap_i64]; omega
          by_cases hlt : e ≤ nt
          · have z1 : decide (e ≤ nt) = true := decide_eq_true hlt
            have hle : i + P.length ≤ T.length := by rw [← HNP.out, ← HNT.out]; omega
            have HLE := Lib.hid hle
            have hi3 : i ≤ nt := by omega
            clear he hle
            go_wp2_with fail
            go_loopg [13, 14] (np + 1) (fun kx v13 v14 wx => ∃ k : Nat, v14 = .int .i64 (k : Int) ∧ v13 = .bool (eqK P T i k) ∧ k ≤ np ∧ np - k < kx ∧ Below w4.heap.size w4 wx)
            case atStart => exact ⟨0, by go_num, by rw [eqK_zero], Nat.zero_le _, by omega, HB.out⟩
            case round =>
              obtain ⟨k, rfl, rfl, hk, hkx, hb⟩ := hrel
              have HBk := Lib.hid hb
              clear hb
              by_cases hkl : k < np
              · have z2 : decide (k < np) = true := decide_eq_true hkl
                have hkp : k < P.length := by rw [← HNP.out]; exact hkl
                have hik : i + k < T.length := by have := HLE.out; omega
                have hsu := eqK_succ hkp hik
                have hnt0 : 0 < nt := by have := HNT.out; omega
                obtain ⟨fk, hfk⟩ : ∃ fk, fk = i + k := ⟨_, rfl⟩
                have hw2 : IntKind.i64.wrap ((i : Int) + (k : Int)) = (fk : Int) := by rw [IntKind.wrap_i64]; omega
                obtain ⟨b1, o1, eP, _, hP⟩ := (HR4.out.below HBk.out).2 (by omega)
                obtain ⟨b2, o2, eT, _, hT⟩ := (HT4.out.below HBk.out).2 (by omega)
                subst eP eT
                have hfn : fk < nt := by rw [HNT.out]; omega
                have c0 := hP k hkl
                have c1' := hT fk hfn
                rw [← hfk] at hsu
                generalize T.getD fk 0 = d at c1' hsu
                generalize P.getD k 0 = c at c0 hsu
                have y0 : (0 : Int) ≤ (k : Int) := by omega
                have y1 : (k : Int) < (np : Int) := by omega
                have y2 : (0 : Int) ≤ (fk : Int) := by omega
                have y3 : (fk : Int) < (nt : Int) := by omega
                have HSU := Lib.hid hsu
                clear hP hT hsu hfk hkp hik hnt0
                rcases Bool.eq_false_or_eq_true (eqK P T i k) with h | h
                · have HH := Lib.hid h
                  rw [h]
                  clear h
                  go_upto_region 19 with fail
                  go_quiet (fail)
                  go_wp2_with fail
                  go_roundg (np - k)
                  case measure => omega
                  case rel => exact ⟨k + 1, by go_num, by rw [HSU.out, HH.out]; rfl, by omega, by omega, HBk.out.trans ⟨rfl, rfl, rfl, Nat.le_refl _, fun _ _ => rfl⟩⟩
                · have HH := Lib.hid h
                  rw [h]
                  clear h c0 c1'
                  go_upto_region 19 with fail
                  go_quiet (fail)
                  go_wp2_with fail
                  go_roundg (np - k)
                  case measure => omega
                  case rel => exact ⟨k + 1, by go_num, by rw [HSU.out, HH.out]; rfl, by omega, by omega, HBk.out.trans ⟨rfl, rfl, rfl, Nat.le_refl _, fun _ _ => rfl⟩⟩
              · have z2 : decide (k < np) = false := decide_eq_false hkl
                obtain rfl : k = np := by omega
                have hhe := eqK_heads HLE.out
                have hnx := occs_next HLE.out
                rw [← HNP.out] at hhe
                rw [← hhe, ← HNP.out, ← HNT.out] at hnx
                clear hhe
                rcases Bool.eq_false_or_eq_true (eqK P T i k) with h | h
                · rw [h, if_pos rfl] at hnx
                  rw [h]
                  clear h
                  have h1 : ms.drop at_ = mhOf (i, i + k) :: (occs P T (nt + 1) (i + max 1 k)).map mhOf := HOC.out.trans (by rw [hnx]; rfl)
                  have h2 : ms[at_]? = some (mhOf (i, i + k)) := by
                    have := congrArg (fun z => z[0]?) h1
                    simpa [List.getElem?_drop] using this
                  have h3 : ms.drop (at_ + 1) = (occs P T (nt + 1) (i + max 1 k)).map mhOf := by
                    have := congrArg List.tail h1
                    simpa [List.tail_drop] using this
                  have h4 : at_ < n := by rw [HN.out]; exact (List.getElem?_eq_some_iff.1 h2).1
                  obtain ⟨q, rfl, hrd⟩ := (R4.out.below HBk.out) (fun e => by rw [e] at h2; cases h2)
                  obtain ⟨gv, cv, hr, _⟩ := hrd at_ _ h2
                  have r0 := hr 0 _ rfl
                  have r1 := hr 1 _ rfl
                  rw [Nat.add_zero] at r0
                  replace r0 : _ = some (Value.int .i64 (i : Int)) := r0
                  replace r1 : _ = some (Value.int .i64 ((i + k : Nat) : Int)) := r1
                  rw [← HE.out] at r1
                  have z3 : decide (n ≤ at_) = false := decide_eq_false (by omega)
                  have y0 : (0 : Int) ≤ (at_ : Int) := by omega
                  have y1 : (at_ : Int) < (n : Int) := by omega
                  obtain ⟨i2, hi2'⟩ : ∃ i2, i2 = i + max 1 k := ⟨_, rfl⟩
                  rw [← hi2'] at h3
                  have hw3 : IntKind.i64.wrap ((i : Int) + max 1 (k : Int)) = (i2 : Int) := by rw [IntKind.wrap_i64]; omega
                  have hi4 : i < i2 ∧ i2 ≤ nt + 1 := by have := HE.out; omega
                  have HI4 := Lib.hid hi4
                  have H3 := Lib.hid h3
                  clear h1 h2 h3 hrd hr hnx hi4 hi2'
                  go_wp2_with fail
                  go_roundg (nt + 1 - i)
                  case measure => omega
                  case rel => exact ⟨at_ + 1, i2, by go_num, by go_num, by have := HI4.out; omega, by have := HI4.out; omega, by omega, H3.out, HBk.out.trans ⟨rfl, rfl, rfl, Nat.le_refl _, fun _ _ => rfl⟩⟩
                · rw [h, if_neg (by decide)] at hnx
                  rw [h]
                  clear h
                  have HNX := Lib.hid (HOC.out.trans (congrArg (List.map mhOf) hnx))
                  clear hnx
                  go_wp2_with fail
                  go_roundg (nt + 1 - i)
                  case measure => omega
                  case rel => exact ⟨at_, i + 1, by go_num, by go_num, by omega, by omega, hat, HNX.out, HBk.out⟩
          · have z1 : decide (e ≤ nt) = false := decide_eq_false hlt
            have hfar := occs_far P T (nt + 1) i (by rw [← HNP.out, ← HNT.out]; omega)
            rw [hfar] at HOC
            have hz := HOC.out
            rw [List.map_nil, List.drop_eq_nil_iff, ← HN.out] at hz
            obtain rfl : at_ = n := by omega
            have B5 := Lib.hid (B4.out.trans (HB.out.mono B4.out.size))
            have HT5 := Lib.hid (HT.out.below B5.out (Nat.le_refl _))
            have KC1 := Lib.hid KC.out
            clear he hfar HOC hz
            go_wp2_with (go_at_call 8; refine (KR1.out _).mono ?_)
            rintro e w6 ⟨rfl, hb6⟩
            have B6 := Lib.hid (B5.out.trans (hb6.mono B5.out.size))
            clear hb6
            have HT6 := Lib.hid (HT.out.below B6.out (Nat.le_refl _))
            go_wp2_with (go_at_call 9; refine (KC.out _ HT6.out).mono ?_)
            rintro e w7 ⟨rfl, hb7⟩
            have B7 := Lib.hid (B6.out.trans (hb7.mono B6.out.size))
            clear hb7
            go_wp2
            go_ret
            exact ⟨rfl, B7.out⟩

end Go.Proofs.YtoniccokohjenaaDoor
