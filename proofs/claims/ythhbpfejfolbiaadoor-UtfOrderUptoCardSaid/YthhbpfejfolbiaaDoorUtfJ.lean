/-
  The walks of Same and of both Cmp.
-/
import Derived.Test.YthhbpfejfolbiaaDoorUtfH
namespace Go.Proofs.YthhbpfejfolbiaaDoor
open Go.RowKit

/-- a list of numbers held against another -/
def cmpL : List Int → List Int → Int
  | [], [] => 0
  | [], _ :: _ => -1
  | _ :: _, [] => 1
  | x :: xs, y :: ys => if x < y then -1 else if y < x then 1 else cmpL xs ys

theorem cmpL_drop (l m : List Int) (k : Nat) (h : k < l.length) (h' : k < m.length) :
    cmpL (l.drop k) (m.drop k) = if l.getD k 0 < m.getD k 0 then -1 else if m.getD k 0 < l.getD k 0 then 1 else cmpL (l.drop (k + 1)) (m.drop (k + 1)) := by
  rw [List.drop_eq_getElem_cons h, List.drop_eq_getElem_cons h']
  simp [cmpL, List.getD, List.getElem?_eq_getElem h, List.getElem?_eq_getElem h']
theorem cmpL_end (l m : List Int) (k : Nat) (hk : k ≤ l.length) (hk' : k ≤ m.length) (h : k = l.length ∨ k = m.length) :
    cmpL (l.drop k) (m.drop k) = if l.length < m.length then -1 else if m.length < l.length then 1 else 0 := by
  have hl : (l.drop k).length = l.length - k := List.length_drop ..
  have hm : (m.drop k).length = m.length - k := List.length_drop ..
  generalize l.drop k = a at *
  generalize m.drop k = b at *
  cases a with
  | nil =>
    cases b with
    | nil => simp at hl hm; rw [if_neg (by omega), if_neg (by omega)]; rfl
    | cons y ys => simp at hl hm; rw [if_pos (by omega)]; rfl
  | cons x xs =>
    cases b with
    | nil => simp at hl hm; rw [if_neg (by omega), if_pos (by omega)]; rfl
    | cons y ys => simp at hl hm; omega

set_option maxHeartbeats 400000 in
set_option maxRecDepth 100000 in
theorem refSame_any (A B : Option Addr) (n m ca cb : Nat) (la lb : List Int) (w : World) (hA : RdI w A n la) (hB : RdI w B m lb) (hn : n ≤ maxLen) (hm : m ≤ maxLen) :
    Calls Tryd.prog 16 #[.slice A n ca, .slice B m cb] w fun e w' => e = .returned (.bool (decide (la = lb))) ∧ Below w.heap.size w w' := by
  unfold maxLen at hn hm
  obtain ⟨hla, hat⟩ := hA
  obtain ⟨hlb, hbt⟩ := hB
  have HLA := Lib.hid hla
  have HLB := Lib.hid hlb
  have HAT := Lib.hid hat
  have HBT := Lib.hid hbt
  clear hat hbt hla hlb
  by_cases hnm : n = m
  · subst hnm
    have hne : ((n : Int) != (n : Int)) = false := by simp
    go_enter Tryd.func16, Tryd.ntmps16
    go_wp2
    go_loopw [5] (fun a wr => ∃ k : Nat, k ≤ n ∧ a = .int .i64 k ∧ Hid (la.take k = lb.take k) ∧ Below w.heap.size w wr) (fun a _ => n - (intOf a).toNat)
    case atStart => exact ⟨0, Nat.zero_le _, rfl, rfl, Below.refl _ _⟩
    case round =>
      obtain ⟨k, hk, rfl, hv, hb⟩ := hrel
      by_cases hlt : k < n
      · obtain ⟨b, off, rfl, hbl, hc⟩ := HAT.out (by omega)
        obtain ⟨b2, off2, rfl, hbl2, hc2⟩ := HBT.out (by omega)
        have c1 : wr.cell? ⟨b, off + k, none⟩ = some (.int .i64 (la.getD k 0)) := (hb.cell (p := ⟨b, off + k, none⟩) hbl).trans (hc k hlt)
        have c2 : wr.cell? ⟨b2, off2 + k, none⟩ = some (.int .i64 (lb.getD k 0)) := (hb.cell (p := ⟨b2, off2 + k, none⟩) hbl2).trans (hc2 k hlt)
        have H1 := Lib.hid (List.take_succ_eq_append_getElem (l := la) (i := k) (by rw [HLA.out]; omega))
        have H2 := Lib.hid (List.take_succ_eq_append_getElem (l := lb) (i := k) (by rw [HLB.out]; omega))
        have G1 := Lib.hid (show la.getD k 0 = la[k]'(by rw [HLA.out]; omega) by rw [List.getD, List.getElem?_eq_getElem (by rw [HLA.out]; omega)]; rfl)
        have G2 := Lib.hid (show lb.getD k 0 = lb[k]'(by rw [HLB.out]; omega) by rw [List.getD, List.getElem?_eq_getElem (by rw [HLB.out]; omega)]; rfl)
        clear hc hc2
        generalize la.getD k 0 = x at c1 G1
        generalize lb.getD k 0 = y at c2 G2
        have hklt : (k : Int) < (n : Int) := by omega
        have hk0 : (0 : Int) ≤ (k : Int) := by omega
        go_wp2
        go_quiet (fail)
        by_cases hx : x = y
        · have hd : (x != y) = false := by rw [hx]; simp
          have HX := Lib.hid hx
          clear hx
          go_wp2
          go_roundw
          case rel => exact ⟨k + 1, by omega, by go_num, by show _ = _; rw [H1.out, H2.out, hv.out, ← G1.out, ← G2.out, HX.out], ⟨hb.os, hb.tape, hb.output, hb.size, hb.block⟩⟩
          case measure => simp [intOf]; omega
        · have hd : (x != y) = true := by simp [bne_iff_ne]; exact hx
          have HX := Lib.hid hx
          clear hx
          go_wp2
          go_ret
          refine ⟨?_, ⟨hb.os, hb.tape, hb.output, hb.size, hb.block⟩⟩
          have : la ≠ lb := fun e => HX.out (by rw [G1.out, G2.out]; simp [e])
          simp [this]
      · have hk' : k = n := by omega
        have he : la = lb := by
          have := hv.out
          rwa [List.take_of_length_le (by rw [HLA.out]; omega), List.take_of_length_le (by rw [HLB.out]; omega)] at this
        have HE := Lib.hid he
        clear hk' he
        go_wp2
        go_ret
        exact ⟨by have := HE.out; simp [this], hb⟩
  · have hne : ((n : Int) != (m : Int)) = true := by simp [bne_iff_ne]; omega
    have HNM := Lib.hid hnm
    clear hnm
    go_enter Tryd.func16, Tryd.ntmps16
    go_wp2
    go_ret
    refine ⟨?_, Below.refl _ _⟩
    have : la ≠ lb := fun e => HNM.out (by rw [← HLA.out, ← HLB.out, e])
    simp [this]

theorem cmpInt_any (x y : Int) (w : World) (c : Int) (hc : Lib.compareInt x y = c) :
    Calls Tryd.prog 45 #[.int .i64 x, .int .i64 y] w fun e w' => e = .returned (.int .i64 c) ∧ w = w' := by
  subst hc
  exact (Tryd.cmp_Compare_int x y w).mono fun _ _ h => ⟨h.1, h.2.symm⟩

set_option maxHeartbeats 400000 in
set_option maxRecDepth 100000 in
theorem slicesCompare_any (A B : Option Addr) (n m ca cb : Nat) (la lb : List Int) (w : World) (hA : RdI w A n la) (hB : RdI w B m lb) (hn : n ≤ maxLen) (hm : m ≤ maxLen) :
    Calls Tryd.prog 40 #[.slice A n ca, .slice B m cb] w fun e w' => e = .returned (.int .i64 (cmpL la lb)) ∧ Below w.heap.size w w' := by
  unfold maxLen at hn hm
  obtain ⟨hla, hat⟩ := hA
  obtain ⟨hlb, hbt⟩ := hB
  have HLA := Lib.hid hla
  have HLB := Lib.hid hlb
  have HAT := Lib.hid hat
  have HBT := Lib.hid hbt
  clear hat hbt hla hlb
  go_enter Tryd.func40, Tryd.ntmps40
  go_wp2
  go_loopw [11] (fun a wr => ∃ k : Nat, k ≤ n ∧ k ≤ m ∧ a = .int .i64 k ∧ Hid (cmpL la lb = cmpL (la.drop k) (lb.drop k)) ∧ Below w.heap.size w wr) (fun a _ => n - (intOf a).toNat)
  case atStart => exact ⟨0, Nat.zero_le _, Nat.zero_le _, rfl, rfl, Below.refl _ _⟩
  case round =>
    obtain ⟨k, hk, hkm, rfl, hv, hb⟩ := hrel
    have HE := Lib.hid (cmpL_end la lb k (by rw [HLA.out]; omega) (by rw [HLB.out]; omega))
    by_cases hlt : k < n
    · obtain ⟨b, off, rfl, hbl, hc⟩ := HAT.out (by omega)
      have c1 : wr.cell? ⟨b, off + k, none⟩ = some (.int .i64 (la.getD k 0)) := (hb.cell (p := ⟨b, off + k, none⟩) hbl).trans (hc k hlt)
      clear hc
      by_cases hlm : k < m
      · obtain ⟨b2, off2, rfl, hbl2, hc2⟩ := HBT.out (by omega)
        have c2 : wr.cell? ⟨b2, off2 + k, none⟩ = some (.int .i64 (lb.getD k 0)) := (hb.cell (p := ⟨b2, off2 + k, none⟩) hbl2).trans (hc2 k hlm)
        have HD := Lib.hid (cmpL_drop la lb k (by rw [HLA.out]; omega) (by rw [HLB.out]; omega))
        clear hc2
        generalize la.getD k 0 = x at c1 HD
        generalize lb.getD k 0 = y at c2 HD
        have HC := Lib.hid (show Lib.compareInt x y = if x < y then -1 else if y < x then 1 else 0 by unfold Lib.compareInt; (repeat' split) <;> omega)
        by_cases h1 : x < y
        · have HC1 := Lib.hid (show Lib.compareInt x y = -1 by rw [HC.out, if_pos h1])
          have HV := Lib.hid (show cmpL la lb = -1 by rw [hv.out, HD.out, if_pos h1])
          clear h1
          go_wp2_with (go_at_call 45; refine (cmpInt_any _ _ _ _ HC1.out).mono ?_)
          rintro e w1 ⟨rfl, rfl⟩
          go_wp2
          go_ret
          exact ⟨by rw [HV.out]; rfl, hb⟩
        · by_cases h2 : y < x
          · have HC1 := Lib.hid (show Lib.compareInt x y = 1 by rw [HC.out, if_neg h1, if_pos h2])
            have HV := Lib.hid (show cmpL la lb = 1 by rw [hv.out, HD.out, if_neg h1, if_pos h2])
            clear h1 h2
            go_wp2_with (go_at_call 45; refine (cmpInt_any _ _ _ _ HC1.out).mono ?_)
            rintro e w1 ⟨rfl, rfl⟩
            go_wp2
            go_ret
            exact ⟨by rw [HV.out]; rfl, hb⟩
          · have HC1 := Lib.hid (show Lib.compareInt x y = 0 by rw [HC.out, if_neg h1, if_neg h2])
            have HV := Lib.hid (show cmpL la lb = cmpL (la.drop (k + 1)) (lb.drop (k + 1)) by rw [hv.out, HD.out, if_neg h1, if_neg h2])
            clear h1 h2
            go_wp2_with (go_at_call 45; refine (cmpInt_any _ _ _ _ HC1.out).mono ?_)
            rintro e w1 ⟨rfl, rfl⟩
            go_wp2
            go_roundw
            case rel => exact ⟨k + 1, by omega, by omega, by go_num, HV.out, hb⟩
            case measure => simp [intOf]; omega
      · have HV := Lib.hid (show cmpL la lb = 1 by rw [hv.out, HE.out (.inr (by rw [HLB.out]; omega)), if_neg (by rw [HLA.out, HLB.out]; omega), if_pos (by rw [HLA.out, HLB.out]; omega)])
        go_wp2
        go_ret
        exact ⟨by rw [HV.out]; rfl, hb⟩
    · have HV := Lib.hid (show cmpL la lb = if n < m then -1 else 0 by rw [hv.out, HE.out (.inl (by rw [HLA.out]; omega)), HLA.out, HLB.out]; by_cases h : n < m <;> simp [h]; omega)
      by_cases h : n < m
      · go_wp2
        go_ret
        exact ⟨by rw [HV.out, if_pos h]; rfl, hb⟩
      · go_wp2
        go_ret
        exact ⟨by rw [HV.out, if_neg h]; rfl, hb⟩

end Go.Proofs.YthhbpfejfolbiaaDoor
