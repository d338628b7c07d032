/-
  The walks of the reader's quoted, text, more, step (chapter 9).
  The walk of the reader's text (chapter 9).
  The walk of the reader's step (chapter 9).
-/
import Derived.Test.YtojapomkmfbciaaDoorValWb
import Derived.Test.YtojapomkmfbciaaDoorQuoVj
import Derived.Deep.RegionWith
namespace Go.Proofs.YtojapomkmfbciaaDoor
open Go.RowKit

theorem quoV_le (l : List UInt8) (a : Nat) (ha : a ≤ l.length) : (quoV l a).1 ≤ l.length ∧ a ≤ (quoV l a).1 := by
  have h : (readP (l.drop a)).2.1 ≤ (l.drop a).length := by
    by_cases h0 : (readP (l.drop a)).2.2 = 0
    · exact (read_keep (l.drop a) [] h0).1
    · exact (read_stop (l.drop a) h0).2.1
  rw [List.length_drop] at h
  unfold quoV
  simp only []
  omega

set_option maxHeartbeats 1000000 in
set_option maxRecDepth 100000 in
theorem valQuoted_yes (w0 : World) (A : Option Addr) (n cap d r : Nat) (l : List UInt8) (s : VS) (w : World) (hp : s.pos ≤ n) (e : Nat) (hq : quoV l s.pos = (e, true)) (h : At w0 A n cap d r l s w) :
    Calls Tryd.prog 48 #[.pointer (some ⟨r, 0, none⟩)] w fun x w' => x = .returned (.tuple #[.int .i64 (e : Int), .bool true]) ∧ At w0 A n cap d r l s w' := by
  have hle := quoV_le l s.pos (by rw [h.len]; exact hp)
  rw [hq, h.len] at hle
  have hn := h.small
  have hk : (readP (l.drop s.pos)).2.1 = e - s.pos ∧ (readP (l.drop s.pos)).2.2 = 0 := by
    unfold quoV at hq
    injection hq with h1 h2
    exact ⟨by omega, eq_of_beq h2⟩
  have k1 := fun (W : World) (hW : At w0 A n cap d r l s W) => quoRead_any (cutA A s.pos cap) (n - s.pos) (cap - s.pos) (l.drop s.pos) W hW.tab (hW.rdB.cut hp hW.room) (by omega) (by have := h.room; omega)
  have rv : readV (l.drop s.pos) = .tuple #[.string ⟨(readP (l.drop s.pos)).1.toArray⟩, .int .i64 ((e - s.pos : Nat) : Int), .int .i64 0] := by
    unfold readV; rw [hk.1, hk.2]; rfl
  rw [rv] at k1
  have K1 := Lib.hid k1
  have H := Lib.hid h
  have c0 := h.rd.cb
  have c1 := h.rd.cpos
  have hs1 : ∀ w', _ := fun w' => sl_cut A n cap s.pos hp w'
  have hs2 : ∀ w', _ := fun w' => sl_cutAt A n cap s.pos hp w'
  have HS := Lib.hid (show ((s.pos : Int) + ((e - s.pos : Nat) : Int)) = (e : Int) by omega)
  have hm0 : 0 ≤ ((e - s.pos : Nat) : Int) := by omega
  have hm1 : ((e - s.pos : Nat) : Int) ≤ 1073741824 := by omega
  generalize (readP (l.drop s.pos)).1.toArray = tt at *
  clear h k1 rv hk hq
  generalize ((e - s.pos : Nat) : Int) = m at *
  generalize hP : s.pos = p at *
  have HP := Lib.hid hP
  clear hP
  go_enter Tryd.func48, Tryd.ntmps48
  go_wp2
  first | (go_region_with (go_at_call 15; refine (K1.out _ (H.out.drewN 1)).mono ?_; rintro x w1 ⟨rfl, hb1⟩)) | fail
  all_goals
    have h1 := (H.out.drewN 1).below hb1
    have c1' := h1.rd.cpos
    rw [HP.out] at c1'
    have H1 := Lib.hid h1
    clear h1 c0 c1 hb1
    go_wp2
    go_ret2
    exact ⟨by rw [HS.out]; rfl, H1.out⟩

set_option maxHeartbeats 1000000 in
set_option maxRecDepth 100000 in
theorem valQuoted_no (w0 : World) (A : Option Addr) (n cap d r : Nat) (l : List UInt8) (s : VS) (w : World) (hp : s.pos ≤ n) (e : Nat) (hq : quoV l s.pos = (e, false)) (h : At w0 A n cap d r l s w) :
    Calls Tryd.prog 48 #[.pointer (some ⟨r, 0, none⟩)] w fun x w' => x = .returned (.tuple #[.int .i64 0, .bool false]) ∧ At w0 A n cap d r l (wrongV l e s) w' := by
  have hle := quoV_le l s.pos (by rw [h.len]; exact hp)
  rw [hq, h.len] at hle
  have hn := h.small
  have hk : (readP (l.drop s.pos)).2.1 = e - s.pos ∧ (readP (l.drop s.pos)).2.2 ≠ 0 := by
    unfold quoV at hq
    injection hq with h1 h2
    exact ⟨by omega, ne_of_beq_false h2⟩
  have k1 := fun (W : World) (hW : At w0 A n cap d r l s W) => quoRead_any (cutA A s.pos cap) (n - s.pos) (cap - s.pos) (l.drop s.pos) W hW.tab (hW.rdB.cut hp hW.room) (by omega) (by have := h.room; omega)
  have k2 := fun (W : World) (hW : At w0 A n cap d r l s W) => valWrong_any w0 A n cap d r s W l e hW.len hW.rd
  have rv : readV (l.drop s.pos) = .tuple #[.string ⟨(readP (l.drop s.pos)).1.toArray⟩, .int .i64 ((e - s.pos : Nat) : Int), .int .i64 ((readP (l.drop s.pos)).2.2 : Int)] := by
    unfold readV; rw [hk.1]
  rw [rv] at k1
  have HS := Lib.hid (show ((s.pos : Int) + ((e - s.pos : Nat) : Int)) = (e : Int) by omega)
  rw [← HS.out] at k2
  have K1 := Lib.hid k1
  have K2 := Lib.hid k2
  have H := Lib.hid h
  have c0 := h.rd.cb
  have c1 := h.rd.cpos
  have hs1 : ∀ w', _ := fun w' => sl_cut A n cap s.pos hp w'
  have hs2 : ∀ w', _ := fun w' => sl_cutAt A n cap s.pos hp w'
  have hm0 : 0 ≤ ((e - s.pos : Nat) : Int) := by omega
  have hm1 : ((e - s.pos : Nat) : Int) ≤ 1073741824 := by omega
  have hee : (((readP (l.drop s.pos)).2.2 : Int) != 0) = true := by have := hk.2; simp; omega
  generalize (readP (l.drop s.pos)).1.toArray = tt at *
  clear h k1 k2 rv hk hq
  generalize ((readP (l.drop s.pos)).2.2 : Int) = ee at *
  generalize ((e - s.pos : Nat) : Int) = m at *
  generalize hP : s.pos = p at *
  have HP := Lib.hid hP
  clear hP
  go_enter Tryd.func48, Tryd.ntmps48
  go_wp2
  first | (go_region_with (go_at_call 15; refine (K1.out _ (H.out.drewN 1)).mono ?_; rintro x w1 ⟨rfl, hb1⟩)) | fail
  all_goals
    have h1 := (H.out.drewN 1).below hb1
    have c1' := h1.rd.cpos
    rw [HP.out] at c1'
    have H1 := Lib.hid h1
    clear h1 c0 c1 hb1
    go_wp2_with (go_at_call 36; refine (K2.out _ H1.out).mono ?_)
    rintro x w2 ⟨rfl, h2⟩
    go_wp2
    go_ret2
    exact ⟨rfl, H1.out.of h2⟩

set_option maxHeartbeats 1000000 in
set_option maxRecDepth 100000 in
theorem valMore_any (w0 : World) (A : Option Addr) (n cap d r : Nat) (l : List UInt8) (s : VS) (w : World) (c : Nat) (x : Bool) (hs : s.stack ≠ []) (hm : s.stack.length ≤ 200) (hp : s.pos ≤ n) (hsp : s.spans.length ≤ 1073741824) (h : At w0 A n cap d r l s w) :
    Calls Tryd.prog 49 #[.pointer (some ⟨r, 0, none⟩), .int .u8 (c : Int), .bool x] w fun e w' => e = .returned (.tuple #[]) ∧ At w0 A n cap d r l (moreV l c x s) w' := by
  have hn := h.small
  have k1 := fun (W : World) (hW : At w0 A n cap d r l s W) => valWrong_any w0 A n cap d r s W l s.pos hW.len hW.rd
  have k2 := fun (W : World) (hW : At w0 A n cap d r l s W) => valShuts_any w0 A n cap d r s W hs hm (by omega) hsp hW.rd
  have K1 := Lib.hid k1
  have K2 := Lib.hid k2
  have H := Lib.hid h
  have c1 := h.rd.cpos
  have c2 := h.rd.cst
  have g1 := h.rd.frozen 1
  have g2 := h.rd.frozen 2
  clear h k1 k2 hs hm
  by_cases h44 : c = 44
  · subst h44
    have e : moreV l 44 x s = { s with pos := s.pos + 1, st := if x = true then 4 else 2 } := by unfold moreV; rw [if_pos rfl]
    rw [e]
    clear e
    go_enter Tryd.func49, Tryd.ntmps49
    cases x
    · go_wp2
      go_returns
      exact ⟨rfl, H.out.of ((H.out.rd.put_pos (s.pos + 1)).put_st 2)⟩
    · go_wp2
      go_returns
      first | exact ⟨rfl, H.out.of ((H.out.rd.put_pos (s.pos + 1)).put_st 4)⟩ | exact ⟨rfl, H.out.of (((H.out.rd.put_pos (s.pos + 1)).put_st 2).put_st 4)⟩
  · have b44 : ((c : Int) == 44) = false := by simp; omega
    by_cases hsh : c = 125 ∧ x = true ∨ c = 93 ∧ x = false
    · have e : moreV l c x s = shutsV s := by unfold moreV; rw [if_neg h44, if_pos hsh]
      rw [e]
      clear e b44 h44
      go_enter Tryd.func49, Tryd.ntmps49
      rcases hsh with ⟨rfl, rfl⟩ | ⟨rfl, rfl⟩
      all_goals
        go_wp2_with (go_at_call 46; refine (K2.out _ H.out).mono ?_)
        rintro e w1 ⟨rfl, h1⟩
        go_wp2
        go_returns
        exact ⟨rfl, H.out.of h1⟩
    · have e : moreV l c x s = wrongV l s.pos s := by unfold moreV; rw [if_neg h44, if_neg hsh]
      rw [e]
      have b1 : x = true → ((c : Int) == 125) = false := fun hx => by simp; exact fun h => hsh (.inl ⟨by omega, hx⟩)
      have b2 : x = false → ((c : Int) == 93) = false := fun hx => by simp; exact fun h => hsh (.inr ⟨by omega, hx⟩)
      clear e h44 hsh
      go_enter Tryd.func49, Tryd.ntmps49
      cases x
      · have b2' := b2 rfl
        clear b1 b2
        go_wp2_with (go_at_call 36; refine (K1.out _ H.out).mono ?_)
        all_goals
          rintro e w1 ⟨rfl, h1⟩
          go_wp2
          go_returns
          exact ⟨rfl, H.out.of h1⟩
      · have b1' := b1 rfl
        clear b1 b2
        go_wp2_with (go_at_call 36; refine (K1.out _ H.out).mono ?_)
        all_goals
          rintro e w1 ⟨rfl, h1⟩
          go_wp2
          go_returns
          exact ⟨rfl, H.out.of h1⟩

end Go.Proofs.YtojapomkmfbciaaDoor

namespace Go.Proofs.YtojapomkmfbciaaDoor
open Go.RowKit

theorem startV_pos (s : VS) : (startV s).pos = s.pos := by unfold startV; split <;> rfl
theorem startV_stack (s : VS) : (startV s).stack = s.stack := by unfold startV; split <;> rfl
theorem startV_spans (s : VS) : (startV s).spans = s.spans := by unfold startV; split <;> rfl

set_option maxHeartbeats 4000000 in
set_option maxRecDepth 100000 in
theorem valText_any (w0 : World) (A : Option Addr) (n cap d r : Nat) (l : List UInt8) (s : VS) (w : World) (c : Nat) (hd : d ≤ 200) (hp : s.pos ≤ n) (hsp : s.spans.length ≤ 1073741824) (h : At w0 A n cap d r l s w) :
    Calls Tryd.prog 47 #[.pointer (some ⟨r, 0, none⟩), .int .u8 (c : Int)] w fun e w' => e = .returned (.tuple #[]) ∧ At w0 A n cap d r l (textV l d c s) w' := by
  have hn := h.small
  have H := Lib.hid h
  have c1 := h.rd.cpos
  have c4 := h.rd.cmany
  have c5 := h.rd.cbeg
  have g5 := h.rd.frozen 205
  obtain ⟨X, hX⟩ : ∃ X, bodyV l d c (startV s) = X := ⟨_, rfl⟩
  have e : textV l d c s = X := hX
  rw [e]
  have HX := Lib.hid hX
  clear h hX e
  go_enter Tryd.func47, Tryd.ntmps47
  go_upto_if 10 with fail
  go_cut [] (fun wx => At w0 A n cap d r l (startV s) wx)
  case first =>
    by_cases hst : s.stack = []
    · have hcm : ((s.stack.length : Int) == 0) = true := by rw [hst]; rfl
      have HST := Lib.hid hst
      clear hst
      go_wp2
      go_meet
      unfold startV
      rw [if_pos HST.out]
      exact H.out.of (H.out.rd.put_beg s.pos)
    · have hcm : ((s.stack.length : Int) == 0) = false := by have := List.length_pos_iff.2 hst; simp; omega
      have HST := Lib.hid hst
      clear hst
      go_wp2
      go_meet
      unfold startV
      rw [if_neg HST.out]
      exact H.out
  case rest =>
    clear H c1 c4 c5 g5
    rw [← startV_pos] at hp
    rw [← startV_spans] at hsp
    generalize startV s = s1 at *
    clear s
    have k1 := fun (W : World) (hW : At w0 A n cap d r l s1 W) => valWrong_any w0 A n cap d r s1 W l s1.pos hW.len hW.rd
    have K1 := Lib.hid k1
    have H := Lib.hid hcut
    have c1 := hcut.rd.cpos
    clear k1 hcut
    have HP := Lib.hid hp
    have HSP := Lib.hid hsp
    clear hp hsp
    by_cases h91 : c = 91
    · subst h91
      have HE := Lib.hid (show X = opensV d false s1 by rw [← HX.out]; unfold bodyV; rw [if_pos rfl])
      have K2 := Lib.hid (fun (W : World) (hW : At w0 A n cap d r l s1 W) => valOpens_any w0 A n cap d r s1 W false hd (by have := HP.out; omega) hW.rd)
      go_wp2_with (go_at_call 60; refine (K2.out _ H.out).mono ?_)
      rintro e w1 ⟨rfl, h1⟩
      go_wp2
      go_returns
      exact ⟨rfl, by rw [HE.out]; exact H.out.of h1⟩
    · by_cases h123 : c = 123
      · subst h123
        clear h91
        have HE := Lib.hid (show X = opensV d true s1 by rw [← HX.out]; unfold bodyV; rw [if_neg (show ¬ 123 = 91 by decide), if_pos rfl])
        have K2 := Lib.hid (fun (W : World) (hW : At w0 A n cap d r l s1 W) => valOpens_any w0 A n cap d r s1 W true hd (by have := HP.out; omega) hW.rd)
        go_wp2_with (go_at_call 60; refine (K2.out _ H.out).mono ?_)
        rintro e w1 ⟨rfl, h1⟩
        go_wp2
        go_returns
        exact ⟨rfl, by rw [HE.out]; exact H.out.of h1⟩
      · by_cases h34 : c = 34
        · subst h34
          clear h91 h123
          have HE := Lib.hid (show X = tokV l (quoV l s1.pos) s1 by rw [← HX.out]; unfold bodyV; rw [if_neg (show ¬ 34 = 91 by decide), if_neg (show ¬ 34 = 123 by decide), if_pos rfl])
          cases hq : quoV l s1.pos with
          | mk e b =>
            cases b with
            | true =>
              rw [hq, show tokV l (e, true) s1 = doneV e s1 from rfl] at HE
              have K2 := Lib.hid (fun (W : World) (hW : At w0 A n cap d r l s1 W) => valQuoted_yes w0 A n cap d r l s1 W HP.out e hq hW)
              have K3 := Lib.hid (fun (W : World) (hW : At w0 A n cap d r l s1 W) => valDone_any w0 A n cap d r s1 W e HSP.out hW.rd)
              clear hq
              go_wp2_with (go_at_call 48; refine (K2.out _ H.out).mono ?_)
              rintro x w1 ⟨rfl, h1⟩
              have H1 := Lib.hid h1
              clear h1
              go_wp2_with (go_at_call 59; refine (K3.out _ H1.out).mono ?_)
              rintro x w2 ⟨rfl, h2⟩
              go_wp2
              go_returns
              exact ⟨rfl, by rw [HE.out]; exact H1.out.of h2⟩
            | false =>
              rw [hq, show tokV l (e, false) s1 = wrongV l e s1 from rfl] at HE
              have K2 := Lib.hid (fun (W : World) (hW : At w0 A n cap d r l s1 W) => valQuoted_no w0 A n cap d r l s1 W HP.out e hq hW)
              clear hq
              go_wp2_with (go_at_call 48; refine (K2.out _ H.out).mono ?_)
              rintro x w1 ⟨rfl, h1⟩
              go_wp2
              go_returns
              exact ⟨rfl, by rw [HE.out]; exact h1⟩
        · by_cases h110 : c = 110
          · subst h110
            clear h91 h123 h34
            have HE := Lib.hid (show X = tokV l (wordV [110, 117, 108, 108] l s1.pos) s1 by rw [← HX.out]; unfold bodyV; rw [if_neg (show ¬ 110 = 91 by decide), if_neg (show ¬ 110 = 123 by decide), if_neg (show ¬ 110 = 34 by decide), if_pos rfl])
            have K2 := Lib.hid (fun (W : World) (hW : At w0 A n cap d r l s1 W) => valWord_any w0 A n cap d r l s1 W [110, 117, 108, 108] (by simp) HP.out HSP.out hW)
            go_wp2_with (go_at_call 61; refine (K2.out _ H.out).mono ?_)
            rintro e w1 ⟨rfl, h1⟩
            go_wp2
            go_returns
            exact ⟨rfl, by rw [HE.out]; exact h1⟩
          · by_cases h116 : c = 116
            · subst h116
              clear h91 h123 h34 h110
              have HE := Lib.hid (show X = tokV l (wordV [116, 114, 117, 101] l s1.pos) s1 by rw [← HX.out]; unfold bodyV; rw [if_neg (show ¬ 116 = 91 by decide), if_neg (show ¬ 116 = 123 by decide), if_neg (show ¬ 116 = 34 by decide), if_neg (show ¬ 116 = 110 by decide), if_pos rfl])
              have K2 := Lib.hid (fun (W : World) (hW : At w0 A n cap d r l s1 W) => valWord_any w0 A n cap d r l s1 W [116, 114, 117, 101] (by simp) HP.out HSP.out hW)
              go_wp2_with (go_at_call 61; refine (K2.out _ H.out).mono ?_)
              rintro e w1 ⟨rfl, h1⟩
              go_wp2
              go_returns
              exact ⟨rfl, by rw [HE.out]; exact h1⟩
            · by_cases h102 : c = 102
              · subst h102
                clear h91 h123 h34 h110 h116
                have HE := Lib.hid (show X = tokV l (wordV [102, 97, 108, 115, 101] l s1.pos) s1 by rw [← HX.out]; unfold bodyV; rw [if_neg (show ¬ 102 = 91 by decide), if_neg (show ¬ 102 = 123 by decide), if_neg (show ¬ 102 = 34 by decide), if_neg (show ¬ 102 = 110 by decide), if_neg (show ¬ 102 = 116 by decide), if_pos rfl])
                have K2 := Lib.hid (fun (W : World) (hW : At w0 A n cap d r l s1 W) => valWord_any w0 A n cap d r l s1 W [102, 97, 108, 115, 101] (by simp) HP.out HSP.out hW)
                go_wp2_with (go_at_call 61; refine (K2.out _ H.out).mono ?_)
                rintro e w1 ⟨rfl, h1⟩
                go_wp2
                go_returns
                exact ⟨rfl, by rw [HE.out]; exact h1⟩
              · have b91 : ((c : Int) == 91) = false := by simp; omega
                have b123 : ((c : Int) == 123) = false := by simp; omega
                have b34 : ((c : Int) == 34) = false := by simp; omega
                have b110 : ((c : Int) == 110) = false := by simp; omega
                have b116 : ((c : Int) == 116) = false := by simp; omega
                have b102 : ((c : Int) == 102) = false := by simp; omega
                by_cases hnum : c = 45 ∨ 48 ≤ c ∧ c ≤ 57
                · have HE := Lib.hid (show X = tokV l (numV (s1.stack == []) l s1.pos) s1 by rw [← HX.out]; unfold bodyV; rw [if_neg h91, if_neg h123, if_neg h34, if_neg h110, if_neg h116, if_neg h102, if_pos hnum])
                  have K2 := Lib.hid (fun (W : World) (hW : At w0 A n cap d r l s1 W) => valNumber_any w0 A n cap d r l s1 W HP.out HSP.out hW)
                  clear h91 h123 h34 h110 h116 h102
                  have hnum' : (c : Int) = 45 ∨ 48 ≤ (c : Int) ∧ (c : Int) ≤ 57 := by omega
                  clear hnum
                  go_wp2_with (first | (go_at_call 62; refine (K2.out _ H.out).mono ?_) | (go_at_call 36; refine (K1.out _ H.out).mono ?_))
                  all_goals first | (exfalso; omega) | skip
                  all_goals
                    rintro e w1 ⟨rfl, h1⟩
                    go_wp2
                    go_returns
                    exact ⟨rfl, by rw [HE.out]; exact h1⟩
                · have HE := Lib.hid (show X = wrongV l s1.pos s1 by rw [← HX.out]; unfold bodyV; rw [if_neg h91, if_neg h123, if_neg h34, if_neg h110, if_neg h116, if_neg h102, if_neg hnum])
                  clear h91 h123 h34 h110 h116 h102
                  have b45 : ((c : Int) == 45) = false := by simp; omega
                  by_cases h48 : 48 ≤ c
                  · have h57 : 57 < (c : Int) := by omega
                    clear hnum
                    go_wp2_with (go_at_call 36; refine (K1.out _ H.out).mono ?_)
                    rintro e w1 ⟨rfl, h1⟩
                    go_wp2
                    go_returns
                    exact ⟨rfl, by rw [HE.out]; exact H.out.of h1⟩
                  · have h57 : decide (48 ≤ (c : Int)) = false := decide_eq_false (by omega)
                    clear hnum h48
                    go_wp2_with (go_at_call 36; refine (K1.out _ H.out).mono ?_)
                    rintro e w1 ⟨rfl, h1⟩
                    go_wp2
                    go_returns
                    exact ⟨rfl, by rw [HE.out]; exact H.out.of h1⟩

end Go.Proofs.YtojapomkmfbciaaDoor

namespace Go.Proofs.YtojapomkmfbciaaDoor
open Go.RowKit

set_option maxHeartbeats 8000000 in
set_option maxRecDepth 100000 in
theorem valStep_any (w0 : World) (A : Option Addr) (n cap d r : Nat) (l : List UInt8) (s : VS) (w : World) (c : Nat) (hd : d ≤ 200) (ho : OkV l d s) (hsp : s.spans.length ≤ 1073741824) (h : At w0 A n cap d r l s w) :
    Calls Tryd.prog 35 #[.pointer (some ⟨r, 0, none⟩), .int .u8 (c : Int)] w fun e w' => e = .returned (.tuple #[]) ∧ At w0 A n cap d r l (stepV l d c s) w' := by
  obtain ⟨ho1, ho2, ho3, ho4⟩ := ho
  rw [h.len] at ho2
  have hn := h.small
  have H := Lib.hid h
  have c1 := h.rd.cpos
  have c2 := h.rd.cst
  have c4 := h.rd.cmany
  have g1 := h.rd.frozen 1
  have g2 := h.rd.frozen 2
  obtain ⟨X, hX⟩ : ∃ X, stepV l d c s = X := ⟨_, rfl⟩
  rw [hX]
  have HX := Lib.hid hX
  have HO := Lib.hid ho4
  have hm2 : s.stack.length ≤ 200 := by omega
  have HM2 := Lib.hid hm2
  have HP := Lib.hid ho2
  have HSP := Lib.hid hsp
  have HO3 := Lib.hid ho3
  obtain ⟨bx, hbx⟩ : ∃ bx, braceV s = bx := ⟨_, rfl⟩
  have HBX := Lib.hid hbx
  have KW := Lib.hid (fun (W : World) (hW : At w0 A n cap d r l s W) => valWrong_any w0 A n cap d r s W l s.pos hW.len hW.rd)
  have KT := Lib.hid (fun (W : World) (hW : At w0 A n cap d r l s W) => valText_any w0 A n cap d r l s W c hd ho2 hsp hW)
  have KS := Lib.hid (fun (hs : s.stack ≠ []) (W : World) (hW : At w0 A n cap d r l s W) => valShuts_any w0 A n cap d r s W hs hm2 (by omega) hsp hW.rd)
  clear h hX ho4 hbx ho2 hsp ho1 ho3
  go_enter Tryd.func35, Tryd.ntmps35
  go_upto_region 0 with fail
  go_cut [4] (fun v wx => ∃ j, v = .bool bx ∧ wx = w.drewN j)
  case first =>
    by_cases hst : s.stack = []
    · have c4' : w.cell? ⟨r, 204, none⟩ = some (.int .i64 0) := by rw [c4, hst]; rfl
      have HST := Lib.hid hst
      clear hst hm2 c4
      go_quiet (fail)
      go_wp2_with fail
      go_meet
      exact ⟨_, by rw [← HBX.out]; unfold braceV; rw [HST.out]; rfl, rfl⟩
    · have hlen := List.length_pos_iff.2 hst
      have hcm : decide (0 < (s.stack.length : Int)) = true := decide_eq_true (by omega)
      have hct := H.out.rd.ctop hst hm2
      rw [HBX.out] at hct
      have hl1 : 1 ≤ (s.stack.length : Int) := by omega
      have hl2 : (s.stack.length : Int) ≤ 200 := by omega
      clear hst
      generalize s.stack.length = m at *
      go_region
      go_wp2_with fail
      go_meet
      exact ⟨_, rfl, rfl⟩
  case rest =>
    obtain ⟨j, rfl, rfl⟩ := hcut
    clear c4
    obtain ⟨st, hst⟩ : ∃ st, s.st = st := ⟨_, rfl⟩
    have HST := Lib.hid hst
    rw [hst] at c2
    have hst7 : st ≤ 7 := by have := HO3.out; omega
    have hne : 1 < st → s.stack ≠ [] := fun h e => by have := HO.out.1 e; omega
    clear hst
    have hcases : st = 0 ∨ st = 1 ∨ st = 2 ∨ st = 3 ∨ st = 4 ∨ st = 5 ∨ st = 6 ∨ st = 7 := by omega
    clear hst7
    rcases hcases with rfl | rfl | rfl | rfl | rfl | rfl | rfl | rfl
    · clear hne
      have HE := Lib.hid (show X = textV l d c s by rw [← HX.out]; unfold stepV; rw [HST.out]; simp)
      go_wp2_with (go_at_call 47; refine (KT.out _ (H.out.drewN _)).mono ?_)
      rintro e w1 ⟨rfl, h1⟩
      go_wp2_with fail
      go_returns
      exact ⟨rfl, by rw [HE.out]; exact h1⟩
    · clear hne
      have HE := Lib.hid (show X = wrongV l s.pos s by rw [← HX.out]; unfold stepV; rw [HST.out]; simp)
      go_wp2_with (go_at_call 36; refine (KW.out _ (H.out.drewN _)).mono ?_)
      rintro e w1 ⟨rfl, h1⟩
      go_wp2_with fail
      go_returns
      exact ⟨rfl, by rw [HE.out]; exact H.out.of h1⟩
    · clear hne
      have HE := Lib.hid (show X = textV l d c s by rw [← HX.out]; unfold stepV; rw [HST.out]; simp)
      go_wp2_with (go_at_call 47; refine (KT.out _ (H.out.drewN _)).mono ?_)
      rintro e w1 ⟨rfl, h1⟩
      go_wp2_with fail
      go_returns
      exact ⟨rfl, by rw [HE.out]; exact h1⟩
    · by_cases h93 : c = 93
      · subst h93
        have HE := Lib.hid (show X = shutsV s by rw [← HX.out]; unfold stepV; rw [HST.out]; simp)
        have KS2 := Lib.hid (KS.out (hne (by omega)))
        clear hne
        go_wp2_with (go_at_call 46; refine (KS2.out _ (H.out.drewN _)).mono ?_)
        rintro e w1 ⟨rfl, h1⟩
        go_wp2_with fail
        go_returns
        exact ⟨rfl, by rw [HE.out]; exact H.out.of h1⟩
      · have b93 : ((c : Int) == 93) = false := by simp; omega
        have HE := Lib.hid (show X = textV l d c s by rw [← HX.out]; unfold stepV; rw [HST.out]; simp [h93])
        clear h93 hne
        go_wp2_with (go_at_call 47; refine (KT.out _ (H.out.drewN _)).mono ?_)
        rintro e w1 ⟨rfl, h1⟩
        go_wp2_with fail
        go_returns
        exact ⟨rfl, by rw [HE.out]; exact h1⟩
    · by_cases h34 : c = 34
      · subst h34
        cases hq : quoV l s.pos with
        | mk e b =>
          cases b with
          | true =>
            have HE := Lib.hid (show X = { s with pos := e, st := 6 } by rw [← HX.out]; unfold stepV; rw [HST.out]; simp; unfold keyV; rw [hq]; rfl)
            have KQ := Lib.hid (fun (W : World) (hW : At w0 A n cap d r l s W) => valQuoted_yes w0 A n cap d r l s W HP.out e hq hW)
            clear hq hne
            go_wp2_with (go_at_call 48; refine (KQ.out _ (H.out.drewN _)).mono ?_)
            rintro x w1 ⟨rfl, h1⟩
            have g1' := h1.rd.frozen 1
            have g2' := h1.rd.frozen 2
            have c1' := h1.rd.cpos
            have c2' := h1.rd.cst
            have H1 := Lib.hid h1
            clear h1
            go_wp2_with fail
            go_returns
            exact ⟨rfl, by rw [HE.out]; exact H1.out.of ((H1.out.rd.put_pos e).put_st 6)⟩
          | false =>
            have HE := Lib.hid (show X = wrongV l e s by rw [← HX.out]; unfold stepV; rw [HST.out]; simp; unfold keyV; rw [hq]; rfl)
            have KQ := Lib.hid (fun (W : World) (hW : At w0 A n cap d r l s W) => valQuoted_no w0 A n cap d r l s W HP.out e hq hW)
            clear hq hne
            go_wp2_with (go_at_call 48; refine (KQ.out _ (H.out.drewN _)).mono ?_)
            rintro x w1 ⟨rfl, h1⟩
            go_wp2_with fail
            go_returns
            exact ⟨rfl, by rw [HE.out]; exact h1⟩
      · have b34 : ((c : Int) != 34) = true := by simp; omega
        have HE := Lib.hid (show X = wrongV l s.pos s by rw [← HX.out]; unfold stepV; rw [HST.out]; simp [h34])
        clear h34 hne
        by_cases h125 : c = 125
        · subst h125
          go_wp2_with (go_at_call 36; refine (KW.out _ (H.out.drewN _)).mono ?_)
          rintro e w1 ⟨rfl, h1⟩
          go_wp2_with fail
          go_returns
          exact ⟨rfl, by rw [HE.out]; exact H.out.of h1⟩
        · have b125 : ((c : Int) == 125) = false := by simp; omega
          clear h125
          go_wp2_with (go_at_call 36; refine (KW.out _ (H.out.drewN _)).mono ?_)
          rintro e w1 ⟨rfl, h1⟩
          go_wp2_with fail
          go_returns
          exact ⟨rfl, by rw [HE.out]; exact H.out.of h1⟩
    · by_cases h125 : c = 125
      · subst h125
        have HE := Lib.hid (show X = shutsV s by rw [← HX.out]; unfold stepV; rw [HST.out]; simp)
        have KS2 := Lib.hid (KS.out (hne (by omega)))
        clear hne
        go_wp2_with (go_at_call 46; refine (KS2.out _ (H.out.drewN _)).mono ?_)
        rintro e w1 ⟨rfl, h1⟩
        go_wp2_with fail
        go_returns
        exact ⟨rfl, by rw [HE.out]; exact H.out.of h1⟩
      · have b125 : ((c : Int) == 125) = false := by simp; omega
        by_cases h34 : c = 34
        · subst h34
          clear h125 b125
          cases hq : quoV l s.pos with
          | mk e b =>
            cases b with
            | true =>
              have HE := Lib.hid (show X = { s with pos := e, st := 6 } by rw [← HX.out]; unfold stepV; rw [HST.out]; simp; unfold keyV; rw [hq]; rfl)
              have KQ := Lib.hid (fun (W : World) (hW : At w0 A n cap d r l s W) => valQuoted_yes w0 A n cap d r l s W HP.out e hq hW)
              clear hq hne
              go_wp2_with (go_at_call 48; refine (KQ.out _ (H.out.drewN _)).mono ?_)
              rintro x w1 ⟨rfl, h1⟩
              have g1' := h1.rd.frozen 1
              have g2' := h1.rd.frozen 2
              have c1' := h1.rd.cpos
              have c2' := h1.rd.cst
              have H1 := Lib.hid h1
              clear h1
              go_wp2_with fail
              go_returns
              exact ⟨rfl, by rw [HE.out]; exact H1.out.of ((H1.out.rd.put_pos e).put_st 6)⟩
            | false =>
              have HE := Lib.hid (show X = wrongV l e s by rw [← HX.out]; unfold stepV; rw [HST.out]; simp; unfold keyV; rw [hq]; rfl)
              have KQ := Lib.hid (fun (W : World) (hW : At w0 A n cap d r l s W) => valQuoted_no w0 A n cap d r l s W HP.out e hq hW)
              clear hq hne
              go_wp2_with (go_at_call 48; refine (KQ.out _ (H.out.drewN _)).mono ?_)
              rintro x w1 ⟨rfl, h1⟩
              go_wp2_with fail
              go_returns
              exact ⟨rfl, by rw [HE.out]; exact h1⟩
        · have b34 : ((c : Int) != 34) = true := by simp; omega
          have HE := Lib.hid (show X = wrongV l s.pos s by rw [← HX.out]; unfold stepV; rw [HST.out]; simp [h34, h125])
          clear h34 h125 hne
          go_wp2_with (go_at_call 36; refine (KW.out _ (H.out.drewN _)).mono ?_)
          rintro e w1 ⟨rfl, h1⟩
          go_wp2_with fail
          go_returns
          exact ⟨rfl, by rw [HE.out]; exact H.out.of h1⟩
    · by_cases h58 : c = 58
      · subst h58
        have HE := Lib.hid (show X = { s with pos := s.pos + 1, st := 2 } by rw [← HX.out]; unfold stepV; rw [HST.out]; simp)
        clear hne
        have hpb : s.pos ≤ 1073741824 := by have := HP.out; omega
        go_wp2_with fail
        go_returns
        exact ⟨rfl, by rw [HE.out]; exact H.out.of (((H.out.drewN _).rd.put_pos (s.pos + 1)).put_st 2)⟩
      · have b58 : ((c : Int) != 58) = true := by simp; omega
        have HE := Lib.hid (show X = wrongV l s.pos s by rw [← HX.out]; unfold stepV; rw [HST.out]; simp [h58])
        clear h58 hne
        go_wp2_with (go_at_call 36; refine (KW.out _ (H.out.drewN _)).mono ?_)
        rintro e w1 ⟨rfl, h1⟩
        go_wp2_with fail
        go_returns
        exact ⟨rfl, by rw [HE.out]; exact H.out.of h1⟩
    · have KM := Lib.hid (fun (W : World) (hW : At w0 A n cap d r l s W) => valMore_any w0 A n cap d r l s W c bx (hne (by omega)) HM2.out HP.out HSP.out hW)
      have HE := Lib.hid (show X = moreV l c bx s by rw [← HX.out]; unfold stepV; rw [HST.out]; simp; rw [HBX.out])
      clear hne
      go_wp2_with (go_at_call 49; refine (KM.out _ (H.out.drewN _)).mono ?_)
      rintro e w1 ⟨rfl, h1⟩
      go_wp2_with fail
      go_returns
      exact ⟨rfl, by rw [HE.out]; exact h1⟩

end Go.Proofs.YtojapomkmfbciaaDoor
