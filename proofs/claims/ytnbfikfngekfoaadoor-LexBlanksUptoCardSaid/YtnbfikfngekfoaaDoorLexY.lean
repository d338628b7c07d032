/-
  The walk of LexBlanks (chapter 14).
-/
import Derived.Test.YtnbfikfngekfoaaDoorLexM
import Derived.Test.YtnbfikfngekfoaaDoorLexU
import Derived.Test.YtnbfikfngekfoaaDoorLexT
namespace Go.Proofs.YtnbfikfngekfoaaDoor
open Go.RowKit

/-- the texts of tokens that hold no text are no longer than what is read -/
def TxLe (L : Nat) (s : LS) : Prop := ∀ k ∈ s.toks, k.kind ≤ 6 → k.text.length ≤ L
theorem TxLe.put {L : Nat} {s : LS} (h : TxLe L s) (k : Nat) (t : List UInt8) (n : Nat) (hk : k ≤ 6 → t.length ≤ L) : TxLe L (putS s k t n) := fun q hq h6 => by
  rcases List.mem_append.1 hq with h1 | h1
  · exact h q h1 h6
  · rw [List.mem_singleton.1 h1] at h6 ⊢; exact hk h6
theorem TxLe.texts {L : Nat} {s : LS} (h : TxLe L s) (x : List Nat) : TxLe L { s with texts := x } := h
theorem TxLe.flush {L : Nat} {s : LS} (h : TxLe L s) (n : Nat) (o : List UInt8) : TxLe L (flushS s n o) := by
  unfold flushS; split
  · intro q hq h6
    rcases List.mem_append.1 hq with h1 | h1
    · exact h q h1 h6
    · rw [List.mem_singleton.1 h1] at h6; simp at h6
  · exact h
theorem TxLe.text {L : Nat} {s : LS} (h : TxLe L s) (l : List UInt8) : TxLe L (textS l s) := by
  unfold textS
  simp only
  by_cases h0 : (scanT (l.drop s.pos)).1 = 0
  · rw [if_pos h0]; exact (h.flush _ _).put 11 [] 1 (fun h => absurd h (by omega))
  rw [if_neg h0]
  by_cases h1 : (scanT (l.drop s.pos)).1 = 1
  · rw [if_pos h1]; exact (h.flush _ _).put 9 [] 2 (fun h => absurd h (by omega))
  rw [if_neg h1]
  by_cases h2 : (scanT (l.drop s.pos)).1 = 2
  · rw [if_pos h2]; exact h
  · rw [if_neg h2]; exact h
theorem TxLe.mark {L : Nat} {s : LS} (h : TxLe L s) (l : List UInt8) (hL : l.length + 1 ≤ L) (k : Nat) (keep : List UInt8) (hk : keep.length ≤ 1) : TxLe L (markS l s k keep) := by
  unfold markS; split
  · exact h
  · refine h.put _ _ _ (fun _ => ?_)
    rw [List.length_append, List.length_take, List.length_drop]; omega
theorem TxLe.sign {L : Nat} {s : LS} (h : TxLe L s) (l t : List UInt8) (ht : t.length ≤ L) : TxLe L (signS l s t) := by
  unfold signS
  by_cases h0 : t = []
  · rw [if_pos h0]; exact h
  rw [if_neg h0]
  cases s.texts with
  | nil => exact h.put _ _ _ (fun _ => ht)
  | cons x ts =>
    simp only
    by_cases h40 : t = [40]
    · rw [if_pos h40]; exact (h.texts _).put _ _ _ (fun _ => ht)
    rw [if_neg h40]
    by_cases h41 : t = [41]
    · rw [if_pos h41]
      by_cases hx0 : x = 0
      · rw [if_pos hx0]; exact (h.put 10 [] 1 (fun h => absurd h (by omega))).text l
      · rw [if_neg hx0]; exact (h.texts _).put _ _ _ (fun _ => ht)
    · rw [if_neg h41]; exact h.put _ _ _ (fun _ => ht)
theorem TxLe.token {L : Nat} {s : LS} (h : TxLe L s) (l : List UInt8) (hL : l.length + 1 ≤ L) : TxLe L (tokenS l s) := by
  have htk : ∀ n, ((l.drop s.pos).take n).length ≤ L := fun n => by rw [List.length_take, List.length_drop]; omega
  have hsl := signL_le (l.drop s.pos)
  rw [List.length_drop] at hsl
  unfold tokenS
  simp only
  split
  · split
    · exact h
    · exact ((h.put 7 [] 1 (fun h => absurd h (by omega))).texts _).text l
  split
  · exact h.put _ _ _ (fun _ => htk _)
  split
  · exact h.put _ _ _ (fun _ => htk _)
  split
  · exact h.mark l hL _ _ (by simp)
  split
  · exact h.mark l hL _ _ (by simp)
  split
  · exact h.mark l hL _ _ (by simp)
  · exact h.sign l _ (by omega)
theorem TxLe.run {L : Nat} (l : List UInt8) (hL : l.length + 1 ≤ L) : ∀ (f : Nat) (s : LS), TxLe L s → TxLe L (runF f l s)
  | 0, s, h => h
  | f + 1, s, h => by
    unfold runF
    have hk : TxLe L (skipS l s) := h
    split
    · exact hk
    split
    · exact hk.token l hL
    · exact TxLe.run l hL f _ (hk.token l hL)
theorem tokens_short (l : List UInt8) : ∀ k ∈ (tokensV l).1, k.kind ≤ 6 → k.text.length ≤ l.length + 1 := by
  have h := TxLe.run (L := l.length + 1) l (Nat.le_refl _) (l.length + 1) ⟨0, [], [], 0⟩ (fun k hk => by cases hk)
  have e : runF (l.length + 1) l ⟨0, [], [], 0⟩ = runS l := rfl
  rw [e] at h
  unfold tokensV
  split
  · intro k hk; cases hk
  split
  · intro k hk; cases hk
  split
  · intro k hk; cases hk
  split
  · intro k hk; cases hk
  · exact h

set_option maxHeartbeats 400000 in
set_option maxRecDepth 100000 in
theorem lexWritten_any (k : Tk) (hl : k.text.length ≤ 100000000) (w : World) :
    Calls Tryd.prog 10 #[.agg #[.int .i64 (k.kind : Int), .string ⟨k.text.toArray⟩, .int .i64 (k.pos : Int)]] w fun e w' => e = .returned (.string ⟨(writtenT k).toArray⟩) ∧ Below w.heap.size w w' := by
  obtain ⟨kk, kt, kp⟩ := k
  have hw : writtenT ⟨kk, kt, kp⟩ = if kk = 3 then 46 :: kt else if kk = 4 then 36 :: kt else kt := rfl
  have hs : (⟨kt.toArray⟩ : ByteArray).size = kt.length := rfl
  have h46 : (⟨#[46]⟩ ++ ⟨kt.toArray⟩ : ByteArray) = ⟨(46 :: kt).toArray⟩ := ba_ext (by simp)
  have h36 : (⟨#[36]⟩ ++ ⟨kt.toArray⟩ : ByteArray) = ⟨(36 :: kt).toArray⟩ := ba_ext (by simp)
  have hb : (⟨kt.toArray⟩ : ByteArray).size ≤ 100000000 := hl
  have H46 := Lib.hid h46
  have H36 := Lib.hid h36
  clear h46 h36 hs hl
  generalize hTT : (⟨kt.toArray⟩ : ByteArray) = T at *
  have HT0 := Lib.hid hTT
  clear hTT
  by_cases h3 : kk = 3
  · subst h3
    rw [if_pos rfl] at hw
    have HW := Lib.hid hw
    clear hw
    go_enter Tryd.func10, Tryd.ntmps10
    go_wp2
    go_ret
    exact ⟨by rw [HW.out, ← H46.out]; rfl, (Below.refl _ _).alloc (Nat.le_refl _) _⟩
  by_cases h4 : kk = 4
  · subst h4
    rw [if_neg h3, if_pos rfl] at hw
    have HW := Lib.hid hw
    clear hw
    go_enter Tryd.func10, Tryd.ntmps10
    go_wp2
    go_ret
    exact ⟨by rw [HW.out, ← H36.out]; rfl, (Below.refl _ _).alloc (Nat.le_refl _) _⟩
  · rw [if_neg h3, if_neg h4] at hw
    have HW := Lib.hid hw
    have z3 : ((kk : Int) == 3) = false := beq_false_of_ne (by omega)
    have z4 : ((kk : Int) == 4) = false := beq_false_of_ne (by omega)
    clear hw
    go_enter Tryd.func10, Tryd.ntmps10
    go_wp2
    go_ret
    exact ⟨by rw [HW.out, HT0.out]; rfl, (Below.refl _ _).alloc (Nat.le_refl _) _⟩

theorem bodyT_snoc (note : List UInt8) (a : List Tk) (k : Tk) : bodyT note (a ++ [k]) = bodyT note a ++ (writtenT k ++ 32 :: 35 :: (note ++ [10])) := by
  unfold bodyT; simp [List.flatMap_append]

set_option maxHeartbeats 8000000 in
set_option maxRecDepth 100000 in
theorem lexBlanks_walk (S N : ByteArray) (w : World) (hT : Tabs w) (hm : S.size ≤ 1048576) (hn : N.size ≤ 1048576) :
    Calls Tryd.prog 4 #[.string S, .string N] w fun e w' => e = .returned (.bool true) ∧ Below w.heap.size w w' := by
  have K1 := Lib.hid (RetE.of (lexShown_any w hT))
  have k2 := fun W => RetE.of (lexGreat_any S W)
  have K3 := Lib.hid (fun W h => lexTokens_any S W h (by unfold maxLen; omega))
  have HT := Lib.hid hT
  by_cases hg : 3000 < S.size ∧ S.size ≤ 100000
  · rw [decide_eq_true hg] at k2
    have K2 := Lib.hid k2
    clear k2 hT hg
    go_enter Tryd.func4, Tryd.ntmps4
    go_wp2_with (go_at_call 7; refine K1.out.mono ?_)
    rintro e w1 ⟨rfl, hb1⟩
    go_wp2_with (go_at_call 8; refine (K2.out _).mono ?_)
    rintro e w2 ⟨rfl, rfl⟩
    go_wp2
    go_ret
    exact ⟨rfl, hb1⟩
  rw [decide_eq_false hg] at k2
  have K2 := Lib.hid k2
  have htb := tokens_blanks S.data.toList N.data.toList
  have hsh := tokens_short S.data.toList
  have hlen := tokens_len S.data.toList
  have hS3 : (tokensV S.data.toList).2.2 = 0 → S.size ≤ 3000 := fun h => by
    unfold tokensV at h
    by_cases c0 : 100000 < S.data.toList.length
    · rw [if_pos c0] at h; exact absurd h (by simp)
    · rw [← Lib.size_eq] at c0; omega
  obtain ⟨⟨ks, a, er⟩, hV⟩ : ∃ V, tokensV S.data.toList = V := ⟨_, rfl⟩
  rw [hV] at htb hsh hlen hS3
  rw [← Lib.size_eq] at hsh hlen
  simp only at htb hsh hlen hS3
  have HV := Lib.hid hV
  have HTB := Lib.hid htb
  have HSH := Lib.hid hsh
  have HS3 := Lib.hid hS3
  have HNB := Lib.hid (bt_s N)
  have HNL := Lib.hid (Lib.size_eq N)
  clear k2 hT hg hV htb hsh hS3
  go_enter Tryd.func4, Tryd.ntmps4
  go_wp2_with (go_at_call 7; refine K1.out.mono ?_)
  rintro e w1 ⟨rfl, hb1⟩
  have HB1 := Lib.hid hb1
  clear hb1
  go_wp2_with (go_at_call 8; refine (K2.out _).mono ?_)
  rintro e w2 ⟨rfl, rfl⟩
  go_wp2_with (go_at_call 9; refine (K3.out _ (HT.out.below HB1.out (Nat.le_refl _))).mono ?_)
  intro e w2 h2
  obtain ⟨A, cap, rfl, ho, hb2⟩ := h2.opened HV.out
  have HO := Lib.hid ho
  have HB2 := Lib.hid (HB1.out.trans (hb2.mono HB1.out.size))
  have hs2 := hb2.size
  clear h2 ho hb2
  by_cases he : er = 0
  rotate_left
  · have ze : ((er : Int) != 0) = true := by rw [bne_iff_ne]; omega
    clear he
    go_wp2
    go_ret
    exact ⟨rfl, HB2.out⟩
  have ze : ((er : Int) != 0) = false := by rw [he]; rfl
  have hS3 := HS3.out he
  have HE := Lib.hid he
  clear he
  have hkl : ks.length ≤ 3000 := by omega
  go_wp2
  go_loop [9] (fun iv => ∃ i : Nat, i ≤ N.size ∧ iv = .int .i64 (i : Int) ∧ Hid (∀ j, j < i → bt N.data.toList j ≠ 10 ∧ bt N.data.toList j ≤ 127)) (fun iv => N.size - (intOf iv).toNat)
  case atStart => exact ⟨0, Nat.zero_le _, rfl, fun j h => absurd h (by omega)⟩
  case round =>
    obtain ⟨i, hi, rfl, hok⟩ := hrel
    by_cases hlt : i < N.size
    · have hb := HNB.out i hlt
      by_cases h10 : bt N.data.toList i = 10
      · have z1 : ((N[i].toNat : Int) == 10) = true := by rw [← hb, h10]; rfl
        clear h10 hb
        go_wp2
        go_ret
        exact ⟨rfl, HB2.out⟩
      have z1 : ((N[i].toNat : Int) == 10) = false := by rw [← hb]; exact beq_false_of_ne (by omega)
      by_cases h127 : bt N.data.toList i ≤ 127
      · have z2 : decide ((127 : Int) < (N[i].toNat : Int)) = false := by rw [← hb]; exact decide_eq_false (by omega)
        have HOKS := Lib.hid (show ∀ j, j < i + 1 → bt N.data.toList j ≠ 10 ∧ bt N.data.toList j ≤ 127 from fun j hj => by
          rcases Nat.lt_or_ge j i with h | h
          · exact hok.out j h
          · obtain rfl : j = i := by omega
            exact ⟨h10, h127⟩)
        clear h10 h127 hb
        go_wp2
        go_round
        case rel => exact ⟨i + 1, by omega, by go_num, HOKS.out⟩
        case measure => simp [intOf]; omega
      · have z2 : decide ((127 : Int) < (N[i].toNat : Int)) = true := by rw [← hb]; exact decide_eq_true (by omega)
        clear h10 h127 hb
        go_wp2
        go_ret
        exact ⟨rfl, HB2.out⟩
    · obtain rfl : i = N.size := by omega
      have hnote : ∀ b ∈ N.data.toList, b ≠ 10 ∧ b.toNat ≤ 127 := fun b hb => by
        obtain ⟨j, hj, rfl⟩ := List.mem_iff_getElem.1 hb
        have h1 := hok.out j (by rw [HNL.out]; exact hj)
        unfold bt at h1
        rw [List.getElem?_eq_getElem hj] at h1
        exact ⟨fun h => h1.1 (by rw [h]; rfl), h1.2⟩
      have HNOTE := Lib.hid hnote
      clear hnote hok
      go_wp2
      go_loopw [10, 11] (fun tv iv wr => ∃ (i : Nat) (T : ByteArray), i ≤ ks.length ∧ iv = .int .i64 (i : Int) ∧ tv = .string T ∧ T.size ≤ 1 + i * 2000000 ∧ Hid (T.data.toList = 9 :: bodyT N.data.toList (ks.take i)) ∧ Hid (∀ k ∈ ks.take i, k.kind ≤ 6) ∧ Hid (Below w2.heap.size w2 wr)) (fun _ iv _ => ks.length - (intOf iv).toNat)
      case atStart => exact ⟨0, ⟨#[9]⟩, Nat.zero_le _, rfl, rfl, by decide, rfl, Lib.hid (fun k h => by simp at h), Below.refl _ _⟩
      case round =>
        obtain ⟨i, T, hik, rfl, rfl, hts, hTd, hk6, hbw⟩ := hrel
        by_cases hlt2 : i < ks.length
        · obtain ⟨q, rfl, hq0, hq1⟩ := tk_block HO.out (by omega)
          obtain ⟨k, hk⟩ : ∃ k, ks[i]? = some k := ⟨_, List.getElem?_eq_getElem hlt2⟩
          obtain ⟨a0, a1, a2⟩ := tk_at HO.out i k hk
          have hcell : ∀ j, wr.cell? ⟨q, j, none⟩ = w2.cell? ⟨q, j, none⟩ := fun j => hbw.out.cell (p := ⟨q, j, none⟩) hq1
          rw [← hcell] at a0 a1 a2
          clear hcell
          by_cases h6 : k.kind ≤ 6
          · have z6 : decide ((6 : Int) < (k.kind : Int)) = false := decide_eq_false (by omega)
            have htl := HSH.out k (List.mem_of_getElem? hk) h6
            have KW := Lib.hid (RetE.of (lexWritten_any k (by omega) wr))
            have hwl : (writtenT k).length ≤ 4000 := by
              unfold writtenT
              split
              · rw [List.length_cons]; omega
              split
              · rw [List.length_cons]; omega
              · omega
            have hws : (⟨(writtenT k).toArray⟩ : ByteArray).size ≤ 4000 := hwl
            have hWd : (⟨(writtenT k).toArray⟩ : ByteArray).data.toList = writtenT k := rfl
            have hnx : ks.take (i + 1) = ks.take i ++ [k] := by rw [List.take_add_one, hk]; rfl
            have HNX := Lib.hid hnx
            have hk6' : ∀ q ∈ ks.take (i + 1), q.kind ≤ 6 := fun q hq => by
              rw [hnx] at hq
              rcases List.mem_append.1 hq with h | h
              · exact hk6.out q h
              · rw [List.mem_singleton.1 h]; exact h6
            have HK6 := Lib.hid hk6'
            generalize hW : (⟨(writtenT k).toArray⟩ : ByteArray) = W at KW hws hWd
            have HWD := Lib.hid hWd
            obtain ⟨Y, hY⟩ : ∃ Y, T ++ W ++ ⟨#[32, 35]⟩ ++ N ++ ⟨#[10]⟩ = Y := ⟨_, rfl⟩
            have hYd : Y.data.toList = 9 :: bodyT N.data.toList (ks.take (i + 1)) := by
              rw [hnx, bodyT_snoc, ← hY]
              simp [hTd.out, hWd]
            have hYs : Y.size ≤ 1 + (i + 1) * 2000000 := by
              rw [← hY]; simp only [ByteArray.size_append]
              have : (⟨#[32, 35]⟩ : ByteArray).size = 2 := rfl
              have : (⟨#[10]⟩ : ByteArray).size = 1 := rfl
              omega
            have HYD := Lib.hid hYd
            obtain ⟨kk, kt, kp⟩ := k
            simp only at a0 a1 a2 z6
            clear hnx hk6' hWd hYd h6 hk htl hwl hW
            have hcT : T.size ≤ 7000000000 := by omega
            go_wp2_with (go_at_call 10; refine KW.out.mono ?_)
            rintro e w3 ⟨rfl, hb3⟩
            have HB3 := Lib.hid (hbw.out.trans (hb3.mono hbw.out.size))
            clear hb3
            go_wp2
            go_roundw
            case rel => exact ⟨i + 1, _, by omega, by go_num, rfl, hYs, HYD, HK6, HB3⟩
            case measure => simp [intOf]; omega
          · have z6 : decide ((6 : Int) < (k.kind : Int)) = true := decide_eq_true (by omega)
            clear h6
            go_wp2
            go_ret
            exact ⟨rfl, HB2.out.trans (hbw.out.mono HB2.out.size)⟩
        · obtain rfl : i = ks.length := by omega
          have hbs := hbw.out.size
          by_cases hbig : 100000 < T.size
          · have zb : decide ((100000 : Int) < (T.size : Int)) = true := decide_eq_true (by omega)
            go_wp2
            go_ret
            exact ⟨rfl, HB2.out.trans (hbw.out.mono HB2.out.size)⟩
          have zb : decide ((100000 : Int) < (T.size : Int)) = false := decide_eq_false (by omega)
          have hTd' := hTd.out
          have hk6' := hk6.out
          rw [List.take_length] at hTd' hk6'
          have htl : T.size = T.data.toList.length := Lib.size_eq T
          have hres := HTB.out HE.out hk6' HNOTE.out (by rw [← hTd', ← htl]; omega)
          rw [← hTd'] at hres
          have k4 := lexTokens_any T wr (HT.out.below (HB2.out.trans (hbw.out.mono HB2.out.size)) (Nat.le_refl _)) (by unfold maxLen; omega)
          obtain ⟨⟨ns, a', er'⟩, hV'⟩ : ∃ V, tokensV T.data.toList = V := ⟨_, rfl⟩
          rw [hV'] at hres
          obtain ⟨h0', hsame⟩ := hres
          simp only at h0' hsame
          have hll : ns.length = ks.length := by have := congrArg List.length hsame; simpa using this
          have ze' : ((er' : Int) != 0) = false := by rw [h0']; rfl
          have HV' := Lib.hid hV'
          have K4 := Lib.hid k4
          have HSAME := Lib.hid hsame
          have HLL := Lib.hid hll
          clear hTd' hk6' htl hV' h0' hsame k4 hll hTd hk6
          go_wp2_with (go_at_call 9; refine K4.out.mono ?_)
          intro e w4 h4
          obtain ⟨A4, cap4, rfl, ho4, hb4⟩ := h4.opened HV'.out
          have HO4 := Lib.hid ho4
          have HB24 := Lib.hid (hbw.out.trans (hb4.mono hbw.out.size))
          have HB4 := Lib.hid (HB2.out.trans (HB24.out.mono HB2.out.size))
          have hs4 := hb4.size
          clear h4 ho4 hb4
          rw [HLL.out]
          go_wp2
          go_loopw [15] (fun iv wr => ∃ i : Nat, i ≤ ks.length ∧ iv = .int .i64 (i : Int) ∧ Hid (Below w4.heap.size w4 wr)) (fun iv _ => ks.length - (intOf iv).toNat)
          case atStart => exact ⟨0, Nat.zero_le _, rfl, Below.refl _ _⟩
          case round =>
            obtain ⟨i, hi5, rfl, hbw5⟩ := hrel
            by_cases hlt5 : i < ks.length
            · obtain ⟨q, rfl, hq0, hq1⟩ := tk_block HO.out (by omega)
              obtain ⟨q4, rfl, hq40, hq41⟩ := tk_block HO4.out (by rw [HLL.out]; omega)
              obtain ⟨k, hk⟩ : ∃ k, ks[i]? = some k := ⟨_, List.getElem?_eq_getElem hlt5⟩
              obtain ⟨m, hm5⟩ : ∃ m, ns[i]? = some m := ⟨_, List.getElem?_eq_getElem (by rw [HLL.out]; exact hlt5)⟩
              have hkm : (m.kind, m.text) = (k.kind, k.text) := by
                have h1 : (ns.map fun k => (k.kind, k.text))[i]? = (ks.map fun k => (k.kind, k.text))[i]? := by rw [show ns.map _ = ks.map _ from HSAME.out]
                rw [List.getElem?_map, List.getElem?_map, hk, hm5] at h1
                exact Option.some.inj h1
              obtain ⟨a0, a1, a2⟩ := tk_at HO.out i k hk
              obtain ⟨b0, b1, b2⟩ := tk_at HO4.out i m hm5
              obtain ⟨mk, mt, mp⟩ := m
              obtain ⟨kk, kt, kp⟩ := k
              simp only [Prod.mk.injEq] at hkm
              obtain ⟨rfl, rfl⟩ := hkm
              have hB := HB24.out.trans (hbw5.out.mono (by have := HB24.out.size; omega))
              have c2 : ∀ j, wr.cell? ⟨q, j, none⟩ = w2.cell? ⟨q, j, none⟩ := fun j => hB.cell (p := ⟨q, j, none⟩) hq1
              have c4 : ∀ j, wr.cell? ⟨q4, j, none⟩ = w4.cell? ⟨q4, j, none⟩ := fun j => hbw5.out.cell (p := ⟨q4, j, none⟩) hq41
              rw [← c2] at a0 a1 a2
              rw [← c4] at b0 b1 b2
              simp only at a0 a1 a2 b0 b1 b2
              have hz1 : ((mk : Int) != (mk : Int)) = false := by simp
              clear c2 c4 hB hk hm5
              go_wp2
              go_quiet (fail)
              go_wp2
              go_roundw
              case rel => exact ⟨i + 1, by omega, by go_num, Lib.hid (hbw5.out.trans ⟨rfl, rfl, rfl, Nat.le_refl _, fun _ _ => rfl⟩)⟩
              case measure => simp [intOf]; omega
            · obtain rfl : i = ks.length := by omega
              go_wp2
              go_ret
              exact ⟨rfl, HB4.out.trans (hbw5.out.mono HB4.out.size)⟩

end Go.Proofs.YtnbfikfngekfoaaDoor
