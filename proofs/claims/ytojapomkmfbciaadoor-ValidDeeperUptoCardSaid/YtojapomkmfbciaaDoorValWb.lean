/-
  The walks of the reader's looks at bytes: digits, is, word (chapter 9).
  The walk of the reader's number (chapter 9).
-/
import Derived.Test.YtojapomkmfbciaaDoorValWa
import Derived.Test.YtojapomkmfbciaaDoorQuoN
import Derived.LoopTactic
import Derived.Deep.DeepCutAuto
namespace Go.Proofs.YtojapomkmfbciaaDoor
open Go.RowKit

/-- what the reader's methods stand on: where the call began; the bytes; the reader -/
structure At (w0 : World) (A : Option Addr) (n cap d r : Nat) (l : List UInt8) (s : VS) (w : World) : Prop where
  rd : RdV w0 A n cap d r s w
  by_ : RdB w0 A n l
  small : n ≤ 1073741824
  tabs : Tabs w0
  room : n ≤ cap

section
variable {w0 w : World} {A : Option Addr} {n cap d r : Nat} {l : List UInt8} {s : VS}
theorem At.len (h : At w0 A n cap d r l s w) : l.length = n := h.by_.1
theorem At.cell (h : At w0 A n cap d r l s w) {i : Nat} (hi : i < n) : ∃ b off, A = some ⟨b, off, none⟩ ∧ w.cell? ⟨b, off + i, none⟩ = some (.int .u8 (bt l i : Nat)) := by
  obtain ⟨b, off, e, hlt, hc⟩ := h.by_.2 (by omega)
  exact ⟨b, off, e, (h.rd.1.cell (p := ⟨b, off + i, none⟩) hlt).trans (hc i hi)⟩
theorem At.drewN (h : At w0 A n cap d r l s w) (k : Nat) : At w0 A n cap d r l s (w.drewN k) := ⟨h.rd.drewN k, h.by_, h.small, h.tabs, h.room⟩
theorem At.of {s' : VS} {w' : World} (h : At w0 A n cap d r l s w) (h' : RdV w0 A n cap d r s' w') : At w0 A n cap d r l s' w' := ⟨h', h.by_, h.small, h.tabs, h.room⟩
theorem At.below {w' : World} (h : At w0 A n cap d r l s w) (hb : Below w.heap.size w w') : At w0 A n cap d r l s w' := h.of (h.rd.below hb)
theorem At.tab (h : At w0 A n cap d r l s w) : Tabs w := h.tabs.below h.rd.1 (Nat.le_refl _)
theorem At.rdB (h : At w0 A n cap d r l s w) : RdB w A n l := h.by_.below h.rd.1
end

set_option maxHeartbeats 1000000 in
set_option maxRecDepth 100000 in
theorem valDigits_any (w0 : World) (A : Option Addr) (n cap d r : Nat) (l : List UInt8) (s : VS) (w : World) (i : Nat) (hi : i ≤ n) (h : At w0 A n cap d r l s w) :
    Calls Tryd.prog 65 #[.pointer (some ⟨r, 0, none⟩), .int .i64 (i : Int)] w fun e w' => e = .returned (.int .i64 (digE l i : Int)) ∧ w = w' := by
  have H := Lib.hid h
  have c0 := h.rd.cb
  have hn := h.small
  have HL := Lib.hid h.len
  clear h
  go_enter Tryd.func65, Tryd.ntmps65
  go_wp2
  go_loop [1] (fun a => ∃ k : Nat, i ≤ k ∧ k ≤ n ∧ a = .int .i64 (k : Int) ∧ Hid (digE l i = digE l k)) (fun a => n - (intOf a).toNat)
  case atStart => exact ⟨i, Nat.le_refl _, hi, rfl, rfl⟩
  case round =>
    obtain ⟨k, hik, hkn, rfl, hd⟩ := hrel
    by_cases hlt : k < n
    · obtain ⟨b, off, rfl, hc⟩ := H.out.cell hlt
      have hst := digE_step l k (by rw [HL.out]; exact hlt)
      have hsp := digE_stop l k
      have HST := Lib.hid hst
      have HSP := Lib.hid hsp
      clear hst hsp
      generalize bt l k = c at *
      go_wp2
      all_goals first
        | (go_round
           case rel => exact ⟨k + 1, by omega, by omega, by go_num, Lib.hid (by rw [hd.out, HST.out (by omega)])⟩
           case measure => simp [intOf]; omega)
        | (go_ret
           exact ⟨ret_int (by rw [hd.out, HSP.out (by omega)]), rfl⟩)
    · go_wp2
      go_ret
      exact ⟨ret_int (by rw [hd.out, digE_stop l k (by rw [HL.out]; omega)]), rfl⟩

def isV (l : List UInt8) (i : Nat) (ss : List UInt8) : Bool := ss.any fun c => decide (i < l.length) && bt l i == c.toNat

theorem isV_step (l : List UInt8) (i : Nat) (ss : List UInt8) (k : Nat) (hk : k < ss.length) : isV l i (ss.drop k) = ((decide (i < l.length) && bt l i == ss[k].toNat) || isV l i (ss.drop (k + 1))) := by
  unfold isV; rw [List.drop_eq_getElem_cons hk, List.any_cons]
theorem ret_bool {a b : Bool} (h : a = b) : Ending.returned (.bool a) = .returned (.bool b) := by rw [h]

set_option maxHeartbeats 1000000 in
set_option maxRecDepth 100000 in
theorem valIs_any (w0 : World) (A : Option Addr) (n cap d r : Nat) (l : List UInt8) (s : VS) (w : World) (i : Nat) (ss : List UInt8) (hs : ss.length ≤ 10) (h : At w0 A n cap d r l s w) :
    Calls Tryd.prog 64 #[.pointer (some ⟨r, 0, none⟩), .int .i64 (i : Int), .string ⟨ss.toArray⟩] w fun e w' => e = .returned (.bool (isV l i ss)) ∧ ∃ j, w' = w.drewN j := by
  have H := Lib.hid h
  have c0 := h.rd.cb
  have hn := h.small
  have HL := Lib.hid h.len
  clear h
  go_enter Tryd.func64, Tryd.ntmps64
  go_wp2
  go_loopw [10] (fun a wr => ∃ k j : Nat, k ≤ ss.length ∧ a = .int .i64 (k : Int) ∧ wr = w.drewN j ∧ Hid (isV l i ss = isV l i (ss.drop k))) (fun a _ => ss.length - (intOf a).toNat)
  case atStart => exact ⟨0, 0, Nat.zero_le _, rfl, rfl, rfl⟩
  case round =>
    obtain ⟨k, j, hk, rfl, rfl, hd⟩ := hrel
    by_cases hks : k < ss.length
    · by_cases hlt : i < n
      · obtain ⟨b, off, rfl, hc⟩ := H.out.cell hlt
        have hst := isV_step l i ss k hks
        rw [HL.out, decide_eq_true hlt, Bool.true_and] at hst
        have HST := Lib.hid hst
        clear hst
        generalize bt l i = c at *
        go_wp2
        go_quiet (fail)
        go_wp2
        · go_ret
          have hc : ((c : Int) == (ss[k].toNat : Int)) = true := by assumption
          have hc' : c = ss[k].toNat := by have := eq_of_beq hc; omega
          exact ⟨ret_bool (by rw [hd.out, HST.out, hc', beq_self_eq_true, Bool.true_or]), j + nq, World.drewN_drewN _ _ _⟩
        · go_roundw
          case rel =>
            have hc : ((c : Int) == (ss[k].toNat : Int)) = false := by assumption
            have hc' : (c == ss[k].toNat) = false := by
              have := ne_of_beq_false hc
              exact beq_false_of_ne (by omega)
            exact ⟨k + 1, j + nq, by omega, by go_num, by simp, Lib.hid (by rw [hd.out, HST.out, hc', Bool.false_or])⟩
          case measure => simp [intOf]; omega
      · have hst := isV_step l i ss k hks
        rw [HL.out, decide_eq_false hlt, Bool.false_and, Bool.false_or] at hst
        have HST := Lib.hid hst
        clear hst
        have dd : decide ((i : Int) < (n : Int)) = false := decide_eq_false (by omega)
        go_wp2
        go_quiet (fail)
        go_wp2
        go_roundw
        case rel => exact ⟨k + 1, j + nq, by omega, by go_num, by simp, Lib.hid (by rw [hd.out, HST.out])⟩
        case measure => simp [intOf]; omega
    · obtain rfl : k = ss.length := by omega
      go_wp2
      go_ret
      exact ⟨ret_bool (by rw [hd.out, List.drop_length]; rfl), j, rfl⟩

def natsW (ss : List UInt8) : List Nat := ss.map (·.toNat)
theorem wordV_step (l : List UInt8) (a : Nat) (ss : List UInt8) (k : Nat) (hk : k < ss.length) : wordV (natsW (ss.drop k)) l (a + k) = if a + k < l.length ∧ bt l (a + k) = ss[k].toNat then wordV (natsW (ss.drop (k + 1))) l (a + (k + 1)) else (a + k, false) := by
  unfold natsW; rw [List.drop_eq_getElem_cons hk, List.map_cons, wordV]; rfl

set_option maxHeartbeats 1000000 in
set_option maxRecDepth 100000 in
theorem valWord_any (w0 : World) (A : Option Addr) (n cap d r : Nat) (l : List UInt8) (s : VS) (w : World) (ss : List UInt8) (hs : ss.length ≤ 10) (hp : s.pos ≤ n) (hsp : s.spans.length ≤ 1073741824) (h : At w0 A n cap d r l s w) :
    Calls Tryd.prog 61 #[.pointer (some ⟨r, 0, none⟩), .string ⟨ss.toArray⟩] w fun e w' => e = .returned (.tuple #[]) ∧ At w0 A n cap d r l (tokV l (wordV (natsW ss) l s.pos) s) w' := by
  have H := Lib.hid h
  have c0 := h.rd.cb
  have c1 := h.rd.cpos
  have hn := h.small
  have HL := Lib.hid h.len
  have k1 := fun (a k : Nat) (W : World) (hW : At w0 A n cap d r l s W) => valWrong_any w0 A n cap d r s W l (a + k) hW.len hW.rd
  have k2 := fun (a k : Nat) (W : World) (hW : At w0 A n cap d r l s W) => valDone_any w0 A n cap d r s W (a + k) hsp hW.rd
  simp only [Int.natCast_add] at k1 k2
  have K1 := Lib.hid k1
  have K2 := Lib.hid k2
  clear h k1 k2
  obtain ⟨a, ha⟩ : ∃ a, s.pos = a := ⟨_, rfl⟩
  rw [ha] at c1 hp ⊢
  go_enter Tryd.func61, Tryd.ntmps61
  clear ha
  go_wp2
  go_loopw [7] (fun x wr => ∃ k j : Nat, k ≤ ss.length ∧ x = .int .i64 (k : Int) ∧ wr = w.drewN j ∧ Hid (wordV (natsW ss) l a = wordV (natsW (ss.drop k)) l (a + k))) (fun x _ => ss.length - (intOf x).toNat)
  case atStart => exact ⟨0, 0, Nat.zero_le _, rfl, rfl, rfl⟩
  case round =>
    obtain ⟨k, j, hk, rfl, rfl, hd⟩ := hrel
    by_cases hks : k < ss.length
    · have hst := wordV_step l a ss k hks
      by_cases hlt : a + k < n
      · obtain ⟨b, off, rfl, hc⟩ := H.out.cell hlt
        rw [HL.out] at hst
        have HST := Lib.hid hst
        clear hst
        have dd : decide ((n : Int) ≤ (a : Int) + (k : Int)) = false := decide_eq_false (by omega)
        have HN := Lib.hid hlt
        generalize bt l (a + k) = c at *
        go_wp2
        go_quiet (fail)
        go_wp2_with (go_at_call 36; refine (K1.out a k _ (H.out.drewN _)).mono ?_)
        · rintro e w1 ⟨rfl, h1⟩
          have hc : ((c : Int) != (ss[k].toNat : Int)) = true := by assumption
          have hc' : c ≠ ss[k].toNat := by have := (bne_iff_ne ..).1 hc; omega
          go_wp2
          go_returns
          refine ⟨rfl, H.out.of ?_⟩
          rw [hd.out, HST.out, if_neg (fun h => hc' h.2)]
          exact h1
        · go_roundw
          case rel =>
            have hc : ((c : Int) != (ss[k].toNat : Int)) = false := by assumption
            have hc' : c = ss[k].toNat := by have := bne_eq_false_iff_eq.1 hc; omega
            exact ⟨k + 1, j + nq, by omega, by go_num, by simp, Lib.hid (by rw [hd.out, HST.out, if_pos ⟨HN.out, hc'⟩])⟩
          case measure => simp [intOf]; omega
      · rw [HL.out, if_neg (fun h => hlt h.1)] at hst
        have HST := Lib.hid hst
        clear hst
        have dd : decide ((n : Int) ≤ (a : Int) + (k : Int)) = true := decide_eq_true (by omega)
        go_wp2
        go_quiet (fail)
        go_wp2_with (go_at_call 36; refine (K1.out a k _ (H.out.drewN _)).mono ?_)
        rintro e w1 ⟨rfl, h1⟩
        go_wp2
        go_returns
        refine ⟨rfl, H.out.of ?_⟩
        rw [hd.out, HST.out]
        exact h1
    · obtain rfl : k = ss.length := by omega
      go_wp2_with (go_at_call 59; refine (K2.out a ss.length _ (H.out.drewN _)).mono ?_)
      rintro e w1 ⟨rfl, h1⟩
      go_wp2
      go_returns
      refine ⟨rfl, H.out.of ?_⟩
      rw [hd.out, List.drop_length]
      exact h1

end Go.Proofs.YtojapomkmfbciaaDoor

namespace Go.Proofs.YtojapomkmfbciaaDoor
open Go.RowKit

theorem bt_out (l : List UInt8) (i : Nat) (h : l.length ≤ i) : bt l i = 0 := by unfold bt; rw [List.getElem?_eq_none h]; rfl
theorem isV_one (l : List UInt8) (i : Nat) (c : UInt8) (hc : c.toNat ≠ 0) : isV l i [c] = (bt l i == c.toNat) := by
  unfold isV
  rw [List.any_cons, List.any_nil, Bool.or_false]
  by_cases h : i < l.length
  · rw [decide_eq_true h, Bool.true_and]
  · rw [decide_eq_false h, Bool.false_and, bt_out l i (by omega)]
    exact (beq_false_of_ne (Ne.symm hc)).symm
theorem isV_two (l : List UInt8) (i : Nat) (c e : UInt8) (hc : c.toNat ≠ 0) (he : e.toNat ≠ 0) : isV l i [c, e] = (bt l i == c.toNat || bt l i == e.toNat) := by
  have h1 := isV_one l i c hc
  have h2 := isV_one l i e he
  unfold isV at *
  rw [List.any_cons, List.any_nil, Bool.or_false] at h1 h2
  rw [List.any_cons, List.any_cons, List.any_nil, Bool.or_false, h1, h2]

section
variable (w0 : World) (A : Option Addr) (n cap d r : Nat) (l : List UInt8) (s : VS)
theorem valIs1 (i : Nat) (c : UInt8) (hc : c.toNat ≠ 0) (x : Bool) (hx : (bt l i == c.toNat) = x) (w : World) (h : At w0 A n cap d r l s w) :
    Calls Tryd.prog 64 #[.pointer (some ⟨r, 0, none⟩), .int .i64 (i : Int), .string ⟨#[c]⟩] w fun e w' => e = .returned (.bool x) ∧ ∃ j, w' = w.drewN j := by
  have := valIs_any w0 A n cap d r l s w i [c] (by simp) h
  rw [isV_one l i c hc, hx] at this
  exact this
theorem valIs2 (i : Nat) (c c' : UInt8) (hc : c.toNat ≠ 0) (hc' : c'.toNat ≠ 0) (x : Bool) (hx : (bt l i == c.toNat || bt l i == c'.toNat) = x) (w : World) (h : At w0 A n cap d r l s w) :
    Calls Tryd.prog 64 #[.pointer (some ⟨r, 0, none⟩), .int .i64 (i : Int), .string ⟨#[c, c']⟩] w fun e w' => e = .returned (.bool x) ∧ ∃ j, w' = w.drewN j := by
  have := valIs_any w0 A n cap d r l s w i [c, c'] (by simp) h
  rw [isV_two l i c c' hc hc', hx] at this
  exact this
end

/-- the part that begins at e has gone well up to where -/
theorem intV_le (l : List UInt8) (a : Nat) (ha : a ≤ l.length) : (intV l a).1 ≤ l.length ∧ a ≤ (intV l a).1 := by
  unfold intV
  by_cases h : bt l a = 45
  · have ha2 : a < l.length := by
      by_cases h2 : a < l.length
      · exact h2
      · rw [bt_out l a (by omega)] at h; omega
    rw [if_pos h]
    simp only []
    split
    · rename_i h3
      have ha3 : a + 1 < l.length := by
        by_cases h2 : a + 1 < l.length
        · exact h2
        · rw [bt_out l (a + 1) (by omega)] at h3; omega
      simp only []; omega
    · have := digE_le l (a + 1) (by omega)
      split <;> simp only [] <;> omega
  · rw [if_neg h]
    simp only []
    split
    · rename_i h3
      have ha3 : a < l.length := by
        by_cases h2 : a < l.length
        · exact h2
        · rw [bt_out l a (by omega)] at h3; omega
      simp only []; omega
    · have := digE_le l a (by omega)
      split <;> simp only [] <;> omega
theorem bt_in {l : List UInt8} {i c : Nat} (h : bt l i = c) (hc : c ≠ 0) : i < l.length := by
  by_cases h2 : i < l.length
  · exact h2
  · rw [bt_out l i (by omega)] at h; omega
theorem fracV_le (l : List UInt8) (a : Nat) (ha : a ≤ l.length) : (fracV l a).1 ≤ l.length ∧ a ≤ (fracV l a).1 := by
  unfold fracV
  split
  · rename_i h
    have := bt_in h (by omega)
    have := digE_le l (a + 1) (by omega)
    split <;> simp only [] <;> omega
  · simp only []; omega
theorem expV_le (l : List UInt8) (a : Nat) (ha : a ≤ l.length) : (expV l a).1 ≤ l.length ∧ a ≤ (expV l a).1 := by
  unfold expV
  split
  · rename_i h
    have h1 : a < l.length := by rcases h with h | h <;> exact bt_in h (by omega)
    by_cases hs : bt l (a + 1) = 43 ∨ bt l (a + 1) = 45
    · have h2 : a + 1 < l.length := by rcases hs with h | h <;> exact bt_in h (by omega)
      rw [if_pos hs]
      have := digE_le l (a + 1 + 1) (by omega)
      simp only []
      split <;> simp only [] <;> omega
    · rw [if_neg hs]
      have := digE_le l (a + 1) (by omega)
      simp only []
      split <;> simp only [] <;> omega
  · simp only []; omega
theorem tailV_le (top : Bool) (l : List UInt8) (a : Nat) : (tailV top l a).1 = a := by unfold tailV; split <;> rfl
theorem thenV_ok (t : Nat × Bool) (f : Nat → Nat × Bool) (e : Nat) (h : t = (e, true)) : thenV t f = f e := by rw [h]; rfl
theorem thenV_no (t : Nat × Bool) (f : Nat → Nat × Bool) (e : Nat) (h : t = (e, false)) : thenV t f = (e, false) := by rw [h]; rfl

set_option maxHeartbeats 4000000 in
set_option maxRecDepth 100000 in
theorem valNumber_any (w0 : World) (A : Option Addr) (n cap d r : Nat) (l : List UInt8) (s : VS) (w : World) (hp : s.pos ≤ n) (hsp : s.spans.length ≤ 1073741824) (h : At w0 A n cap d r l s w) :
    Calls Tryd.prog 62 #[.pointer (some ⟨r, 0, none⟩)] w fun e w' => e = .returned (.tuple #[]) ∧ At w0 A n cap d r l (tokV l (numV (s.stack == []) l s.pos) s) w' := by
  have H := Lib.hid h
  have c1 := h.rd.cpos
  have c0 := h.rd.cb
  have c4 := h.rd.cmany
  have hn := h.small
  have HL := Lib.hid h.len
  have k1 := fun (i : Nat) (W : World) (hW : At w0 A n cap d r l s W) => valWrong_any w0 A n cap d r s W l i hW.len hW.rd
  have k2 := fun (i : Nat) (W : World) (hW : At w0 A n cap d r l s W) => valDone_any w0 A n cap d r s W i hsp hW.rd
  have k3 := fun (i : Nat) (hi : i ≤ n) (W : World) (hW : At w0 A n cap d r l s W) => valDigits_any w0 A n cap d r l s W i hi hW
  have K1 := Lib.hid k1
  have K2 := Lib.hid k2
  have K3 := Lib.hid k3
  clear h k1 k2 k3
  obtain ⟨a, ha⟩ : ∃ a, s.pos = a := ⟨_, rfl⟩
  rw [ha] at c1 hp ⊢
  go_enter Tryd.func62, Tryd.ntmps62
  clear ha
  -- the sign
  obtain ⟨x, hx⟩ : ∃ x, (bt l a == 45) = x := ⟨_, rfl⟩
  have HX := Lib.hid hx
  clear hx
  have HSG := Lib.hid (fun W hW => valIs1 w0 A n cap d r l s a 45 (by decide) x HX.out W hW)
  go_upto_if 10 with (go_at_call 64; refine (HSG.out w H.out).mono ?_; rintro e w1 ⟨rfl, j1, rfl⟩)
  go_cut [2] (fun v wx => ∃ i j : Nat, v = .int .i64 (i : Int) ∧ wx = w.drewN j ∧ i ≤ n ∧ Hid (i = if bt l a = 45 then a + 1 else a))
  case first =>
    by_cases h45 : bt l a = 45
    · obtain rfl : x = true := by rw [← HX.out, h45]; rfl
      have hlt := bt_in h45 (by omega)
      rw [HL.out] at hlt
      have H45 := Lib.hid h45
      clear h45
      go_wp2_with fail
      go_meet
      exact ⟨a + 1, j1, by go_num, rfl, by omega, Lib.hid (by rw [if_pos H45.out])⟩
    · obtain rfl : x = false := by rw [← HX.out]; exact beq_false_of_ne h45
      have H45 := Lib.hid h45
      clear h45
      go_wp2_with fail
      go_meet
      exact ⟨a, j1, by go_num, rfl, by omega, Lib.hid (by rw [if_neg H45.out])⟩
  case rest =>
    obtain ⟨i, j, rfl, rfl, hi, hI⟩ := hcut
    clear HSG HX x
    -- the digits ahead of a point
    obtain ⟨x, hx⟩ : ∃ x, (bt l i == 48) = x := ⟨_, rfl⟩
    have HX := Lib.hid hx
    clear hx
    have HSG := Lib.hid (fun W hW => valIs1 w0 A n cap d r l s i 48 (by decide) x HX.out W hW)
    go_upto_if 18 with (go_at_call 64; refine (HSG.out _ (H.out.drewN j)).mono ?_; rintro e w1 ⟨rfl, j1, rfl⟩)
    go_cut [2, 3] (fun v u wx => ∃ m k j : Nat, v = .int .i64 (m : Int) ∧ u = .int .i64 (k : Int) ∧ wx = w.drewN j ∧ k ≤ n ∧ Hid (intV l a = (k, true)))
    case first =>
      have hIV : intV l a = if bt l i = 48 then (i + 1, true) else if digE l i = i then (i, false) else (digE l i, true) := by unfold intV; rw [hI.out]
      have HIV := Lib.hid hIV
      clear hIV
      by_cases h48 : bt l i = 48
      · obtain rfl : x = true := by rw [← HX.out, h48]; rfl
        have hlt := bt_in h48 (by omega)
        rw [HL.out] at hlt
        have H48 := Lib.hid h48
        clear h48
        go_wp2_with fail
        go_meet
        exact ⟨i, i + 1, _, rfl, by go_num, rfl, by omega, Lib.hid (by rw [HIV.out, if_pos H48.out])⟩
      · obtain rfl : x = false := by rw [← HX.out]; exact beq_false_of_ne h48
        have hde := digE_le l i (by rw [HL.out]; exact hi)
        rw [HL.out] at hde
        have H48 := Lib.hid h48
        clear h48
        by_cases hdi : digE l i = i
        · have hb2 : ((digE l i : Int) == (i : Int)) = true := by rw [hdi]; simp
          have HDI := Lib.hid hdi
          clear hdi
          go_wp2_with (first | (go_at_call 65; refine (K3.out i hi _ (H.out.drewN _)).mono ?_; rintro e w1 ⟨rfl, rfl⟩) | (go_at_call 36; refine (K1.out i _ (H.out.drewN _)).mono ?_))
          rintro e w2 ⟨rfl, h2⟩
          go_wp2_with fail
          go_returns
          refine ⟨rfl, H.out.of ?_⟩
          unfold numV
          rw [thenV_no _ _ i (thenV_no _ _ i (thenV_no _ _ i (by rw [HIV.out, if_neg H48.out, if_pos HDI.out])))]
          exact h2
        · have hb2 : ((digE l i : Int) == (i : Int)) = false := by simp; omega
          have HDI := Lib.hid hdi
          clear hdi
          go_wp2_with (first | (go_at_call 65; refine (K3.out i hi _ (H.out.drewN _)).mono ?_; rintro e w1 ⟨rfl, rfl⟩))
          go_meet
          exact ⟨i, digE l i, _, rfl, rfl, rfl, hde.2, Lib.hid (by rw [HIV.out, if_neg H48.out, if_neg HDI.out])⟩
    case rest =>
      clear hI hi HSG HX x
      obtain ⟨i, k, j, rfl, rfl, rfl, hk, hI⟩ := hcut
      -- the digits behind a point
      obtain ⟨x, hx⟩ : ∃ x, (bt l k == 46) = x := ⟨_, rfl⟩
      have HX := Lib.hid hx
      clear hx
      have HSG := Lib.hid (fun W hW => valIs1 w0 A n cap d r l s k 46 (by decide) x HX.out W hW)
      go_upto_if 30 with (go_at_call 64; refine (HSG.out _ (H.out.drewN j)).mono ?_; rintro e w1 ⟨rfl, j1, rfl⟩)
      go_cut [2, 3] (fun v u wx => ∃ m k j : Nat, v = .int .i64 (m : Int) ∧ u = .int .i64 (k : Int) ∧ wx = w.drewN j ∧ k ≤ n ∧ Hid (thenV (intV l a) (fracV l) = (k, true)))
      case first =>
        by_cases h46 : bt l k = 46
        · obtain rfl : x = true := by rw [← HX.out, h46]; rfl
          have hlt := bt_in h46 (by omega)
          rw [HL.out] at hlt
          have hde := digE_le l (k + 1) (by rw [HL.out]; exact hlt)
          rw [HL.out] at hde
          have hfr : fracV l k = if digE l (k + 1) = k + 1 then (k + 1, false) else (digE l (k + 1), true) := by unfold fracV; rw [if_pos h46]
          have HFR := Lib.hid hfr
          clear h46 hfr
          have K3' := Lib.hid (K3.out (k + 1) hlt)
          have K1' := Lib.hid (K1.out (k + 1))
          by_cases hdi : digE l (k + 1) = k + 1
          · have hb2 : ((digE l (k + 1) : Int) == (k : Int) + 1) = true := by rw [hdi]; simp
            have HDI := Lib.hid hdi
            clear hdi
            go_wp2_with (first | (go_at_call 65; refine (K3'.out _ (H.out.drewN _)).mono ?_; rintro e w1 ⟨rfl, rfl⟩) | (go_at_call 36; refine (K1'.out _ (H.out.drewN _)).mono ?_))
            rintro e w2 ⟨rfl, h2⟩
            go_wp2_with fail
            go_returns
            refine ⟨rfl, H.out.of ?_⟩
            unfold numV
            rw [thenV_no _ _ (k + 1) (thenV_no _ _ (k + 1) (by rw [thenV_ok _ _ _ hI.out, HFR.out, if_pos HDI.out]))]
            exact h2
          · have hb2 : ((digE l (k + 1) : Int) == (k : Int) + 1) = false := by simp; omega
            have HDI := Lib.hid hdi
            clear hdi
            go_wp2_with (first | (go_at_call 65; refine (K3'.out _ (H.out.drewN _)).mono ?_; rintro e w1 ⟨rfl, rfl⟩))
            go_meet
            exact ⟨k + 1, digE l (k + 1), _, by go_num, rfl, rfl, hde.2, Lib.hid (by rw [thenV_ok _ _ _ hI.out, HFR.out, if_neg HDI.out])⟩
        · obtain rfl : x = false := by rw [← HX.out]; exact beq_false_of_ne h46
          have H46 := Lib.hid h46
          clear h46
          go_wp2_with fail
          go_meet
          exact ⟨i, k, _, rfl, rfl, rfl, hk, Lib.hid (by rw [thenV_ok _ _ _ hI.out]; unfold fracV; rw [if_neg H46.out])⟩
      case rest =>
        clear hI hk HSG HX x
        clear i
        obtain ⟨i, k, j, rfl, rfl, rfl, hk, hI⟩ := hcut
        -- the digits of an exponent
        obtain ⟨x, hx⟩ : ∃ x, (bt l k == 101 || bt l k == 69) = x := ⟨_, rfl⟩
        have HX := Lib.hid hx
        clear hx
        have HSG := Lib.hid (fun W hW => valIs2 w0 A n cap d r l s k 101 69 (by decide) (by decide) x HX.out W hW)
        go_upto_if 44 with (go_at_call 64; refine (HSG.out _ (H.out.drewN j)).mono ?_; rintro e w1 ⟨rfl, j1, rfl⟩)
        go_cut [2, 3] (fun v u wx => ∃ m k j : Nat, v = .int .i64 (m : Int) ∧ u = .int .i64 (k : Int) ∧ wx = w.drewN j ∧ k ≤ n ∧ Hid (thenV (thenV (intV l a) (fracV l)) (expV l) = (k, true)))
        case first =>
          by_cases hee : bt l k = 101 ∨ bt l k = 69
          · obtain rfl : x = true := by rw [← HX.out]; rcases hee with h | h <;> rw [h] <;> rfl
            have hlt : k < l.length := by rcases hee with h | h <;> exact bt_in h (by omega)
            rw [HL.out] at hlt
            have HEE := Lib.hid hee
            clear hee HSG
            by_cases hs2 : bt l (k + 1) = 43 ∨ bt l (k + 1) = 45
            · have hlt2 : k + 1 < l.length := by rcases hs2 with h | h <;> exact bt_in h (by omega)
              rw [HL.out] at hlt2
              have hde := digE_le l (k + 1 + 1) (by rw [HL.out]; exact hlt2)
              rw [HL.out] at hde
              have hex : expV l k = if digE l (k + 1 + 1) = k + 1 + 1 then (k + 1 + 1, false) else (digE l (k + 1 + 1), true) := by unfold expV; rw [if_pos HEE.out, if_pos hs2]
              have HEX := Lib.hid hex
              have HSG := Lib.hid (fun W hW => valIs2 w0 A n cap d r l s (k + 1) 43 45 (by decide) (by decide) true (by rcases hs2 with h | h <;> rw [h] <;> rfl) W hW)
              have K3' := Lib.hid (K3.out (k + 1 + 1) hlt2)
              have K1' := Lib.hid (K1.out (k + 1 + 1))
              clear hex hs2
              by_cases hdi : digE l (k + 1 + 1) = k + 1 + 1
              · have hb2 : ((digE l (k + 1 + 1) : Int) == (k : Int) + 1 + 1) = true := by rw [hdi]; simp
                have HDI := Lib.hid hdi
                clear hdi
                go_wp2_with (first | (go_at_call 64; refine (HSG.out _ (H.out.drewN _)).mono ?_; rintro e w1 ⟨rfl, j2, rfl⟩) | (go_at_call 65; refine (K3'.out _ (H.out.drewN _)).mono ?_; rintro e w1 ⟨rfl, rfl⟩) | (go_at_call 36; refine (K1'.out _ (H.out.drewN _)).mono ?_))
                rintro e w2 ⟨rfl, h2⟩
                go_wp2_with fail
                go_returns
                refine ⟨rfl, H.out.of ?_⟩
                unfold numV
                rw [thenV_no _ _ (k + 1 + 1) (by rw [thenV_ok _ _ _ hI.out, HEX.out, if_pos HDI.out])]
                exact h2
              · have hb2 : ((digE l (k + 1 + 1) : Int) == (k : Int) + 1 + 1) = false := by simp; omega
                have HDI := Lib.hid hdi
                clear hdi
                go_wp2_with (first | (go_at_call 64; refine (HSG.out _ (H.out.drewN _)).mono ?_; rintro e w1 ⟨rfl, j2, rfl⟩) | (go_at_call 65; refine (K3'.out _ (H.out.drewN _)).mono ?_; rintro e w1 ⟨rfl, rfl⟩))
                go_meet
                exact ⟨k + 1 + 1, digE l (k + 1 + 1), _, by go_num, rfl, rfl, hde.2, Lib.hid (by rw [thenV_ok _ _ _ hI.out, HEX.out, if_neg HDI.out])⟩
            · have hde := digE_le l (k + 1) (by rw [HL.out]; exact hlt)
              rw [HL.out] at hde
              have hex : expV l k = if digE l (k + 1) = k + 1 then (k + 1, false) else (digE l (k + 1), true) := by unfold expV; rw [if_pos HEE.out, if_neg hs2]
              have HEX := Lib.hid hex
              have HSG := Lib.hid (fun W hW => valIs2 w0 A n cap d r l s (k + 1) 43 45 (by decide) (by decide) false (by rw [show (bt l (k + 1) == UInt8.toNat 43) = false from beq_false_of_ne (fun h => hs2 (.inl h)), show (bt l (k + 1) == UInt8.toNat 45) = false from beq_false_of_ne (fun h => hs2 (.inr h))]; rfl) W hW)
              have K3' := Lib.hid (K3.out (k + 1) hlt)
              have K1' := Lib.hid (K1.out (k + 1))
              clear hex hs2
              by_cases hdi : digE l (k + 1) = k + 1
              · have hb2 : ((digE l (k + 1) : Int) == (k : Int) + 1) = true := by rw [hdi]; simp
                have HDI := Lib.hid hdi
                clear hdi
                go_wp2_with (first | (go_at_call 64; refine (HSG.out _ (H.out.drewN _)).mono ?_; rintro e w1 ⟨rfl, j2, rfl⟩) | (go_at_call 65; refine (K3'.out _ (H.out.drewN _)).mono ?_; rintro e w1 ⟨rfl, rfl⟩) | (go_at_call 36; refine (K1'.out _ (H.out.drewN _)).mono ?_))
                rintro e w2 ⟨rfl, h2⟩
                go_wp2_with fail
                go_returns
                refine ⟨rfl, H.out.of ?_⟩
                unfold numV
                rw [thenV_no _ _ (k + 1) (by rw [thenV_ok _ _ _ hI.out, HEX.out, if_pos HDI.out])]
                exact h2
              · have hb2 : ((digE l (k + 1) : Int) == (k : Int) + 1) = false := by simp; omega
                have HDI := Lib.hid hdi
                clear hdi
                go_wp2_with (first | (go_at_call 64; refine (HSG.out _ (H.out.drewN _)).mono ?_; rintro e w1 ⟨rfl, j2, rfl⟩) | (go_at_call 65; refine (K3'.out _ (H.out.drewN _)).mono ?_; rintro e w1 ⟨rfl, rfl⟩))
                go_meet
                exact ⟨k + 1, digE l (k + 1), _, by go_num, rfl, rfl, hde.2, Lib.hid (by rw [thenV_ok _ _ _ hI.out, HEX.out, if_neg HDI.out])⟩
          · obtain rfl : x = false := by rw [← HX.out, show (bt l k == 101) = false from beq_false_of_ne (fun h => hee (.inl h)), show (bt l k == 69) = false from beq_false_of_ne (fun h => hee (.inr h))]; rfl
            have HEE := Lib.hid hee
            clear hee
            go_wp2_with fail
            go_meet
            exact ⟨i, k, _, rfl, rfl, rfl, hk, Lib.hid (by rw [thenV_ok _ _ _ hI.out]; unfold expV; rw [if_neg HEE.out])⟩
        case rest =>
          clear hI hk HSG HX x
          clear i
          obtain ⟨i, k, j, rfl, rfl, rfl, hk, hI⟩ := hcut
          have hnum : ∀ t : Nat × Bool, tailV (s.stack == []) l k = t → numV (s.stack == []) l a = t := fun t ht => by unfold numV; rw [thenV_ok _ _ _ hI.out, ht]
          have HNUM := Lib.hid hnum
          clear hnum
          by_cases hst : s.stack = []
          · have c4' : (w.drewN j).cell? ⟨r, 204, none⟩ = some (.int .i64 0) := by rw [World.cell?_drewN, c4, hst]; rfl
            have hse : (s.stack == []) = true := by rw [hst]; rfl
            have HSE := Lib.hid hse
            clear hst hse c4
            by_cases hkn : k < n
            · obtain ⟨b, off, rfl, hc⟩ := H.out.cell hkn
              have hd1 : decide ((k : Int) < (n : Int)) = true := decide_eq_true (by omega)
              have hx := bt_lt l k
              have hbl := valBlank_any (bt l k) (w.drewN j) hx
              obtain ⟨y, hy⟩ : ∃ y, blankB (bt l k) = y := ⟨_, rfl⟩
              rw [hy] at hbl
              have KB := Lib.hid hbl
              have HY := Lib.hid hy
              clear hbl hy
              have HKN := Lib.hid hkn
              generalize hB : bt l k = c at *
              have HB := Lib.hid hB
              clear hB
              cases y with
              | true =>
                go_wp2_with (first | (go_at_call 34; refine KB.out.mono ?_; rintro e w1 ⟨rfl, rfl⟩) | (go_at_call 59; refine (K2.out k _ (H.out.drewN _)).mono ?_))
                rintro e w2 ⟨rfl, h2⟩
                go_wp2_with fail
                go_returns
                refine ⟨rfl, H.out.of ?_⟩
                rw [HNUM.out (k, true) (by unfold tailV; rw [if_neg (fun h => by rw [HB.out, HY.out] at h; exact absurd h.2.2 (by decide))])]
                exact h2
              | false =>
                go_wp2_with (first | (go_at_call 34; refine KB.out.mono ?_; rintro e w1 ⟨rfl, rfl⟩) | (go_at_call 36; refine (K1.out k _ (H.out.drewN _)).mono ?_))
                rintro e w2 ⟨rfl, h2⟩
                go_wp2_with fail
                go_returns
                refine ⟨rfl, H.out.of ?_⟩
                rw [HNUM.out (k, false) (by unfold tailV; rw [if_pos ⟨HSE.out, by rw [HL.out]; exact HKN.out, by rw [HB.out, HY.out]⟩])]
                exact h2
            · have hd1 : decide ((k : Int) < (n : Int)) = false := decide_eq_false (by omega)
              have HKN := Lib.hid hkn
              clear hkn
              go_wp2_with (go_at_call 59; refine (K2.out k _ (H.out.drewN _)).mono ?_)
              rintro e w2 ⟨rfl, h2⟩
              go_wp2_with fail
              go_returns
              refine ⟨rfl, H.out.of ?_⟩
              rw [HNUM.out (k, true) (by unfold tailV; rw [if_neg (fun h => by rw [HL.out] at h; exact HKN.out h.2.1)])]
              exact h2
          · have hd1 : ((s.stack.length : Int) == 0) = false := by have := List.length_pos_iff.2 hst; simp; omega
            have hse : (s.stack == []) = false := by cases hs2 : s.stack with
              | nil => exact absurd hs2 hst
              | cons x t => rfl
            have HSE := Lib.hid hse
            clear hse hst
            generalize (s.stack.length : Int) = mm at *
            go_wp2_with (go_at_call 59; refine (K2.out k _ (H.out.drewN _)).mono ?_)
            rintro e w2 ⟨rfl, h2⟩
            go_wp2_with fail
            go_returns
            refine ⟨rfl, H.out.of ?_⟩
            rw [HNUM.out (k, true) (by unfold tailV; rw [if_neg (fun h => by rw [HSE.out] at h; exact absurd h.1 (by decide))])]
            exact h2

end Go.Proofs.YtojapomkmfbciaaDoor
