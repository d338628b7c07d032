/-
  The walk of LexRises (chapter 14).
-/
import Derived.Test.YtnbfikfngekfoaaDoorLexM
import Derived.Test.YtnbfikfngekfoaaDoorLexT
namespace Go.Proofs.YtnbfikfngekfoaaDoor
open Go.RowKit

theorem opens_append : ∀ (a b : List Tk) (st : List Nat), opens (a ++ b) st = (opens a st).bind (opens b)
  | [], b, st => rfl
  | k :: a, b, st => by
    show (openK k st).bind (opens (a ++ b)) = ((openK k st).bind (opens a)).bind (opens b)
    cases openK k st with
    | none => rfl
    | some x => exact opens_append a b x
theorem opens_next (ks : List Tk) (i : Nat) (k : Tk) (hk : ks[i]? = some k) (st : List Nat) (h : opens (ks.take i) [] = some st) (hall : opens ks [] = some []) : ∃ st', openK k st = some st' ∧ opens (ks.take (i + 1)) [] = some st' := by
  have hi : i < ks.length := (List.getElem?_eq_some_iff.1 hk).1
  have e : ks.take (i + 1) = ks.take i ++ [k] := by
    rw [List.take_add_one, hk]; rfl
  have h1 := opens_snoc (ks.take i) k []
  rw [h] at h1
  have h2 : opens ks [] = (opens (ks.take (i + 1)) []).bind (opens (ks.drop (i + 1))) := by rw [← opens_append, List.take_append_drop]
  rw [e, h1] at h2
  cases hb : openK k st with
  | none =>
    have : (some st).bind (openK k) = none := hb
    rw [this] at h2
    rw [h2] at hall
    cases hall
  | some st' => exact ⟨st', rfl, by rw [e, h1]; exact hb⟩
theorem openK_len {k : Tk} {st st' : List Nat} (h : openK k st = some st') : st'.length ≤ st.length + 1 := by
  unfold openK at h
  by_cases c1 : k.kind = 7 ∨ k.kind = 9
  · rw [if_pos c1] at h; injection h with h; subst h; simp
  rw [if_neg c1] at h
  by_cases c2 : k.kind = 11
  · rw [if_pos c2] at h
    by_cases c3 : st.head? = some 7
    · rw [if_pos c3] at h; injection h with h; subst h; simp; omega
    · rw [if_neg c3] at h; cases h
  rw [if_neg c2] at h
  by_cases c4 : k.kind = 10
  · rw [if_pos c4] at h
    by_cases c3 : st.head? = some 9
    · rw [if_pos c3] at h; injection h with h; subst h; simp; omega
    · rw [if_neg c3] at h; cases h
  rw [if_neg c4] at h
  by_cases c5 : k.kind = 8
  · rw [if_pos c5] at h
    by_cases c3 : st.head? = some 7 ∧ k.text ≠ []
    · rw [if_pos c3] at h; injection h with h; subst h; omega
    · rw [if_neg c3] at h; cases h
  · rw [if_neg c5] at h; injection h with h; subst h; omega
theorem opens_len : ∀ (ks : List Tk) (st st' : List Nat), opens ks st = some st' → st'.length ≤ st.length + ks.length
  | [], st, st', h => by injection h with h; subst h; simp
  | k :: ks, st, st', h => by
    have h : (openK k st).bind (opens ks) = some st' := h
    cases hb : openK k st with
    | none => rw [hb] at h; cases h
    | some x =>
      rw [hb] at h
      have h1 := openK_len hb
      have h2 := opens_len ks x st' h
      rw [List.length_cons]; omega
/-- how a token goes on with what is open -/
theorem openK_cases {k : Tk} {st st' : List Nat} (h : openK k st = some st') (hk : 1 ≤ k.kind ∧ k.kind ≤ 11) :
    ((k.kind = 7 ∨ k.kind = 9) ∧ st' = k.kind :: st) ∨ (k.kind = 11 ∧ ∃ r, st = 7 :: r ∧ st' = r) ∨ (k.kind = 10 ∧ ∃ r, st = 9 :: r ∧ st' = r) ∨ (k.kind = 8 ∧ (∃ r, st = 7 :: r) ∧ k.text ≠ [] ∧ st' = st) ∨ (k.kind ≤ 6 ∧ st' = st) := by
  unfold openK at h
  by_cases c1 : k.kind = 7 ∨ k.kind = 9
  · rw [if_pos c1] at h; injection h with h; exact .inl ⟨c1, h.symm⟩
  rw [if_neg c1] at h
  have head : ∀ x, st.head? = some x → st = x :: st.tail := fun x hx => by cases st with
    | nil => cases hx
    | cons a r => injection hx with hx; subst hx; rfl
  by_cases c2 : k.kind = 11
  · rw [if_pos c2] at h
    by_cases c3 : st.head? = some 7
    · rw [if_pos c3] at h; injection h with h; exact .inr (.inl ⟨c2, _, head 7 c3, h.symm⟩)
    · rw [if_neg c3] at h; cases h
  rw [if_neg c2] at h
  by_cases c4 : k.kind = 10
  · rw [if_pos c4] at h
    by_cases c3 : st.head? = some 9
    · rw [if_pos c3] at h; injection h with h; exact .inr (.inr (.inl ⟨c4, _, head 9 c3, h.symm⟩))
    · rw [if_neg c3] at h; cases h
  rw [if_neg c4] at h
  by_cases c5 : k.kind = 8
  · rw [if_pos c5] at h
    by_cases c3 : st.head? = some 7 ∧ k.text ≠ []
    · rw [if_pos c3] at h; injection h with h; exact .inr (.inr (.inr (.inl ⟨c5, ⟨_, head 7 c3.1⟩, c3.2, h.symm⟩)))
    · rw [if_neg c3] at h; cases h
  · rw [if_neg c5] at h; injection h with h; exact .inr (.inr (.inr (.inr ⟨by omega, h.symm⟩)))

theorem tx_top {w : World} {B cap x : Nat} {A : Option Addr} {ts : List Nat} (h : w.ownsRow B 3 1 (.slice A (ts.length + 1) cap) (ts.length + 1) (txCells (x :: ts))) : ∃ g, A = some ⟨g, 0, none⟩ ∧ w.cell? ⟨g, ts.length, none⟩ = some (.int .i64 (x : Int)) ∧ ts.length + 1 ≤ cap := by
  rw [txCells_cons] at h
  have hl : (txCells ts).length = ts.length := txCells_length ts
  rcases h.2 with ⟨_, h0⟩ | ⟨q, c, cur, hv, hq, hqq, h1, _⟩
  · omega
  injection hv with e1 e2 e3
  subst e1 e3
  refine ⟨q, rfl, ?_, h1⟩
  rw [h.cellAt ts.length (by omega), List.getElem?_append_right (by omega), hl, Nat.sub_self]; rfl

set_option maxHeartbeats 4000000 in
set_option maxRecDepth 100000 in
theorem lexRises_walk (S : ByteArray) (w : World) (hT : Tabs w) (hm : S.size ≤ maxLen) :
    Calls Tryd.prog 3 #[.string S] w fun e w' => e = .returned (.bool true) ∧ Below w.heap.size w w' := by
  have K1 := Lib.hid (RetE.of (lexShown_any w hT))
  have k2 := fun W => RetE.of (lexGreat_any S W)
  have K3 := Lib.hid (fun W h => lexTokens_any S W h hm)
  have HT := Lib.hid hT
  unfold maxLen at hm
  by_cases hg : 3000 < S.size ∧ S.size ≤ 100000
  · rw [decide_eq_true hg] at k2
    have K2 := Lib.hid k2
    clear k2 hT hg
    go_enter Tryd.func3, Tryd.ntmps3
    go_wp2_with (go_at_call 7; refine K1.out.mono ?_)
    rintro e w1 ⟨rfl, hb1⟩
    go_wp2_with (go_at_call 8; refine (K2.out _).mono ?_)
    rintro e w2 ⟨rfl, rfl⟩
    go_wp2
    go_ret
    exact ⟨rfl, hb1⟩
  rw [decide_eq_false hg] at k2
  have K2 := Lib.hid k2
  have htr := tokens_rises S.data.toList
  have hlen := tokens_len S.data.toList
  rw [← Lib.size_eq] at htr hlen
  obtain ⟨⟨ks, a, er⟩, hV⟩ : ∃ V, tokensV S.data.toList = V := ⟨_, rfl⟩
  rw [hV] at htr hlen
  simp only at htr hlen
  have HV := Lib.hid hV
  obtain ⟨htr1, htr2⟩ := htr
  have HTR1 := Lib.hid htr1
  have HTR2 := Lib.hid htr2
  clear k2 hT hg hV htr1 htr2
  go_enter Tryd.func3, Tryd.ntmps3
  go_wp2_with (go_at_call 7; refine K1.out.mono ?_)
  rintro e w1 ⟨rfl, hb1⟩
  have HB1 := Lib.hid hb1
  clear hb1
  go_wp2_with (go_at_call 8; refine (K2.out _).mono ?_)
  rintro e w2 ⟨rfl, rfl⟩
  go_wp2_with (go_at_call 9; refine (K3.out _ (HT.out.below HB1.out (Nat.le_refl _))).mono ?_)
  intro e w2 h2
  obtain ⟨A, cap, rfl, ho, hb2⟩ := h2.opened HV.out
  have HO := Lib.hid ho
  have HB2 := Lib.hid (HB1.out.trans (hb2.mono HB1.out.size))
  have hs2 := hb2.size
  clear h2 ho hb2
  by_cases he : er = 0
  · obtain ⟨hop, hall, hpw⟩ := HTR2.out he
    have HOP := Lib.hid hop
    have HPW := Lib.hid hpw
    have HALL := Lib.hid hall
    have ze : ((er : Int) != 0) = false := by rw [he]; rfl
    clear he hop hpw hall
    go_wp2
    go_loopw [7, 8] (fun ov iv wr => ∃ (i : Nat) (st : List Nat), i ≤ ks.length ∧ iv = .int .i64 (i : Int) ∧ st.length ≤ i ∧ Hid (opens (ks.take i) [] = some st) ∧ Hid (wr.ownsRow w2.heap.size 3 1 ov st.length (txCells st)) ∧ Hid (Below w2.heap.size w2 wr)) (fun _ iv _ => ks.length - (intOf iv).toNat)
    case atStart => exact ⟨0, [], Nat.zero_le _, rfl, Nat.le_refl _, rfl, ⟨rfl, .inl ⟨rfl, rfl⟩⟩, Below.refl _ _⟩
    case round =>
      obtain ⟨i, st, hi, rfl, hst, hop, how, hbw⟩ := hrel
      by_cases hlt : i < ks.length
      · obtain ⟨q, rfl, hq0, hq1⟩ := tk_block HO.out (by omega)
        obtain ⟨k, hk⟩ : ∃ k, ks[i]? = some k := ⟨_, List.getElem?_eq_getElem hlt⟩
        obtain ⟨st', hst', hnx⟩ := opens_next ks i k hk st hop.out HOP.out
        have hbnd := HALL.out k (List.mem_of_getElem? hk)
        have hcs := openK_cases hst' hbnd.2
        have hcell : ∀ j, wr.cell? ⟨q, j, none⟩ = w2.cell? ⟨q, j, none⟩ := fun j => hbw.out.cell (p := ⟨q, j, none⟩) hq1
        obtain ⟨a0, a1, a2⟩ := tk_at HO.out i k hk
        rw [← hcell] at a0 a1 a2
        have hprev : 0 < i → ∃ p : Nat, wr.cell? ⟨q, (i - 1) * 3 + 2, none⟩ = some (.int .i64 (p : Int)) ∧ p < k.pos := fun h0 => by
          obtain ⟨m, hm⟩ : ∃ m, ks[i - 1]? = some m := ⟨_, List.getElem?_eq_getElem (by omega)⟩
          refine ⟨m.pos, ?_, ?_⟩
          · rw [hcell]; exact (tk_at HO.out (i - 1) m hm).2.2
          · have h1 := (List.getElem?_eq_some_iff.1 hm).2
            have h2 := (List.getElem?_eq_some_iff.1 hk).2
            rw [← h1, ← h2]
            exact List.pairwise_iff_getElem.1 HPW.out (i - 1) i (by omega) hlt (by omega)
        have HPR := Lib.hid hprev
        have HCS := Lib.hid hcs
        have HNX := Lib.hid hnx
        obtain ⟨hb1, hb2, hb3⟩ := hbnd
        obtain ⟨kk, kt, kp⟩ := k
        simp only at a0 a1 a2 hb1 hb2 hb3
        clear hcell hprev hcs hnx hst' hk
        have z1 : decide (S.size ≤ kp) = false := decide_eq_false (by omega)
        have z2 : decide ((kp : Int) < 0) = false := decide_eq_false (by omega)
        have z3 : decide ((kk : Int) < 1) = false := decide_eq_false (by omega)
        have z4 : decide ((11 : Int) < (kk : Int)) = false := decide_eq_false (by omega)
        go_upto_region 12 with fail
        go_cut [90] (fun t wx => t = .bool false ∧ ∃ n, wx = wr.drewN n)
        case first =>
          by_cases h0 : 0 < i
          · obtain ⟨p, a3, hp⟩ := HPR.out h0
            simp only at hp
            have z0 : decide ((0 : Int) < (i : Int)) = true := decide_eq_true (by omega)
            have z5 : decide (kp ≤ p) = false := decide_eq_false (by omega)
            have hi1 : ((i : Int) - 1).toNat = i - 1 := by omega
            go_quiet (fail)
            go_wp2_with fail
            go_meet
            exact ⟨rfl, _, rfl⟩
          · have z0 : decide ((0 : Int) < (i : Int)) = false := decide_eq_false (by omega)
            go_quiet (fail)
            go_wp2_with fail
            go_meet
            exact ⟨rfl, _, rfl⟩
        case rest =>
          obtain ⟨rfl, n, rfl⟩ := hcut
          have HOW := Lib.hid (show (wr.drewN n).ownsRow w2.heap.size 3 1 u7 st.length (txCells st) from how.out)
          have hbn : Below w2.heap.size w2 (wr.drewN n) := hbw.out.trans ⟨rfl, rfl, rfl, Nat.le_refl _, fun _ _ => rfl⟩
          have HBN := Lib.hid hbn
          have hsn : w2.heap.size ≤ (wr.drewN n).heap.size := hbn.size
          have hcs := HCS.out
          have b1 : (wr.drewN n).cell? ⟨q, i * 3 + 1, none⟩ = some (.string ⟨kt.toArray⟩) := a1
          simp only at hcs
          clear how hbw hop HCS hbn a0 a1 a2 z1 z2 z3 z4
          generalize wr.drewN n = W at *
          obtain ⟨A7, cap7, rfl⟩ := lowns_slice HOW.out
          rcases hcs with ⟨hk, rfl⟩ | ⟨hk, r, rfl, rfl⟩ | ⟨hk, r, rfl, rfl⟩ | ⟨hk, ⟨r, rfl⟩, hkt, rfl⟩ | ⟨hk, rfl⟩
          · obtain ⟨i0, hi0, hz0, hz1, hz2⟩ := info_parts infoInt
            rcases hk with rfl | rfl
            all_goals
              go_wp2_with (at_builtin; refine wpList_append_own _ rfl _ _ 28 rfl w2.heap.size 3 i0 (.int .i64 0) 1 8 Tryd.underlying28 hi0 hz0 hz1 hz2 rfl (by decide) _ _ _ rfl (HOW.out.alloc _) ⟨W.heap.size, 0, none⟩ 1 1 [_] rfl rfl (news1 W _ _) (by simp [Value.oneCell']) (by unfold maxLen; omega) (by omega) (by simp; omega) ?_)
              intro v5 w5 hown5 hgrow5 _
              have hb5 : Below w2.heap.size w2 w5 := (HBN.out.alloc hsn _).grown hgrow5 (by simp; omega) (fun k hk => by
                have h2 := HOW.out.lt k hk
                exact h2.1)
              have HB5 := Lib.hid hb5
              have HO5 := Lib.hid hown5
              clear hb5 hown5 hgrow5
              go_wp2
              go_roundw
              case rel => exact ⟨i + 1, _ :: st, by omega, by go_num, by simp; omega, Lib.hid HNX.out, Lib.hid (by rw [txCells_cons]; exact HO5.out), HB5.out⟩
              case measure => simp [intOf]; omega
          · obtain ⟨g7, rfl, ct, hcap⟩ := tx_top HOW.out
            subst hk
            have hr1 : ((st'.length + 1 : Nat) : Int) - 1 = (st'.length : Int) := by omega
            have hi0 : (0 : Int) ≤ (st'.length : Int) := Int.natCast_nonneg _
            have hi1 : (st'.length : Int) ≤ (cap7 : Int) := Int.ofNat_le.2 (by omega)
            have hz1 : ((st'.length : Int) + 1 == 0) = false := beq_false_of_ne (by omega)
            simp only [List.length_cons] at hst
            have hrb : st'.length ≤ 100000 := by omega
            go_wp2
            go_roundw
            case rel => exact ⟨i + 1, st', by omega, by go_num, by omega, Lib.hid HNX.out, Lib.hid (lowns_shrink (by have := HOW.out; rw [txCells_cons] at this; exact this)), HBN.out⟩
            case measure => simp [intOf]; omega
          · obtain ⟨g7, rfl, ct, hcap⟩ := tx_top HOW.out
            subst hk
            have hr1 : ((st'.length + 1 : Nat) : Int) - 1 = (st'.length : Int) := by omega
            have hi0 : (0 : Int) ≤ (st'.length : Int) := Int.natCast_nonneg _
            have hi1 : (st'.length : Int) ≤ (cap7 : Int) := Int.ofNat_le.2 (by omega)
            have hz1 : ((st'.length : Int) + 1 == 0) = false := beq_false_of_ne (by omega)
            simp only [List.length_cons] at hst
            have hrb : st'.length ≤ 100000 := by omega
            go_wp2
            go_roundw
            case rel => exact ⟨i + 1, st', by omega, by go_num, by omega, Lib.hid HNX.out, Lib.hid (lowns_shrink (by have := HOW.out; rw [txCells_cons] at this; exact this)), HBN.out⟩
            case measure => simp [intOf]; omega
          · obtain ⟨g7, rfl, ct, hcap⟩ := tx_top HOW.out
            subst hk
            have hr1 : ((r.length + 1 : Nat) : Int) - 1 = (r.length : Int) := by omega
            have hi0 : (0 : Int) ≤ (r.length : Int) := Int.natCast_nonneg _
            have hz1 : ((r.length : Int) + 1 == 0) = false := beq_false_of_ne (by omega)
            simp only [List.length_cons] at hst
            have hrb : r.length ≤ 100000 := by omega
            have d0 : ¬ (⟨kt.toArray⟩ : ByteArray).toList = [] := by rw [Lib.toList_data]; exact hkt
            have d1 : (⟨kt.toArray⟩ : ByteArray).toList.isEmpty = false := by rw [Lib.toList_data]; cases kt with
              | nil => exact absurd rfl hkt
              | cons _ _ => rfl
            generalize (⟨kt.toArray⟩ : ByteArray) = T at *
            go_wp2
            go_roundw
            case rel => exact ⟨i + 1, 7 :: r, by omega, by go_num, by simp; omega, Lib.hid HNX.out, Lib.hid HOW.out, HBN.out⟩
            case measure => simp [intOf]; omega
          · have z7 : ((kk : Int) == 7) = false := beq_false_of_ne (by omega)
            have z9 : ((kk : Int) == 9) = false := beq_false_of_ne (by omega)
            have z11 : ((kk : Int) == 11) = false := beq_false_of_ne (by omega)
            have z10 : ((kk : Int) == 10) = false := beq_false_of_ne (by omega)
            have z8 : ((kk : Int) == 8) = false := beq_false_of_ne (by omega)
            go_wp2
            go_roundw
            case rel => exact ⟨i + 1, st', by omega, by go_num, by omega, Lib.hid HNX.out, Lib.hid HOW.out, HBN.out⟩
            case measure => simp [intOf]; omega
      · obtain rfl : i = ks.length := by omega
        have hst0 : st = [] := by
          have h1 := hop.out
          rw [List.take_length, HOP.out] at h1
          injection h1 with h1
          exact h1.symm
        subst hst0
        obtain ⟨A7, cap7, rfl⟩ := lowns_slice how.out
        go_wp2
        go_ret
        exact ⟨rfl, HB2.out.trans (hbw.out.mono (by have := HB2.out.size; exact this))⟩
  · obtain ⟨rfl, ha⟩ := HTR1.out he
    have ze : ((er : Int) != 0) = true := by rw [bne_iff_ne]; omega
    have z1 : decide ((0 : Int) ≤ (a : Int)) = true := decide_eq_true (by omega)
    have z2 : decide (a ≤ S.size) = true := decide_eq_true ha
    clear he
    go_wp2
    go_ret
    exact ⟨rfl, HB2.out⟩

end Go.Proofs.YtnbfikfngekfoaaDoor
