/-
  The walks of match's other, wordly (chapter 19).
  The walks of slices.IndexFunc, ContainsFunc over a tree's parts (chapter 19).
  The walk of match's has (chapter 19).
-/
import Derived.Test.YtoniccokohjenaaDoorRegSq
import Derived.Test.YtoniccokohjenaaDoorMatP
import Derived.Laws.BitsAllLaws
import Derived.Test.YtoniccokohjenaaDoorRegLb
import Derived.Test.YtoniccokohjenaaDoorMatZ
import Derived.Deep.RegionHeld3
namespace Go.Proofs.YtoniccokohjenaaDoor
open Go.RowKit

theorem i64_or_nat (a b : Nat) (ha : a < 4611686018427387904) (hb : b < 4611686018427387904) : bits .or .i64 (a : Int) (b : Int) = ((a ||| b : Nat) : Int) := by
  have hx : a ||| b < 2 ^ 62 := Nat.or_lt_two_pow (by omega) (by omega)
  show IntKind.i64.wrap ((BitVec.ofInt 64 (a : Int) ||| BitVec.ofInt 64 (b : Int)).toNat : Int) = _
  rw [BitVec.toNat_or, ofInt_u64 a (by omega), ofInt_u64 b (by omega)]
  exact IntWalk.i64_in _ (by omega)
theorem or32_low : ∀ n : Fin 128, (decide (97 ≤ n.val ||| 32) && decide (n.val ||| 32 ≤ 122)) = (upI n.val || loI n.val) := by decide +kernel
theorem xor32_low : ∀ n : Fin 128, (upI n.val || loI n.val) = true → bits .xor .i64 ((n.val : Nat) : Int) 32 = othI n.val := by decide +kernel
theorem or32_lo {c : Int} (h0 : 0 ≤ c) (h1 : c < 128) : (decide (97 ≤ bits .or .i64 c 32) && decide (bits .or .i64 c 32 ≤ 122)) = (upI c || loI c) := by
  obtain ⟨n, rfl⟩ := Int.eq_ofNat_of_zero_le h0
  have h := or32_low ⟨n, by omega⟩
  simp only at h
  rw [show (32 : Int) = ((32 : Nat) : Int) from rfl, i64_or_nat n 32 (by omega) (by omega), ← h]
  congr 1 <;> exact decide_eq_decide.2 (by omega)
theorem or32_hi {c : Int} (h0 : 128 ≤ c) (h1 : c ≤ 1114111) : 122 < bits .or .i64 c 32 := by
  obtain ⟨n, rfl⟩ := Int.eq_ofNat_of_zero_le (show 0 ≤ c by omega)
  rw [show (32 : Int) = ((32 : Nat) : Int) from rfl, i64_or_nat n 32 (by omega) (by omega)]
  have := @Nat.left_le_or n 32
  omega
theorem xor32_lo {c : Int} (h0 : 0 ≤ c) (h1 : c < 128) (h : (upI c || loI c) = true) : bits .xor .i64 c 32 = othI c := by
  obtain ⟨n, rfl⟩ := Int.eq_ofNat_of_zero_le h0
  exact xor32_low ⟨n, by omega⟩ h
theorem oth_no {c : Int} (h : (upI c || loI c) = false) : othI c = c := by
  rw [Bool.or_eq_false_iff] at h
  unfold othI; rw [h.1, h.2]; rfl
theorem let_hi {c : Int} (h : 128 ≤ c) : (upI c || loI c) = false := by
  unfold upI loI
  rw [decide_eq_false (p := c ≤ 90) (by omega), decide_eq_false (p := c ≤ 122) (by omega)]; simp

set_option maxHeartbeats 1000000 in
set_option maxRecDepth 100000 in
theorem mtOther_any (c : Int) (w : World) (h0 : 0 ≤ c) (h1 : c ≤ 1114111) :
    Calls Tryd.prog 43 #[.int .i64 c] w (RetE (.int .i64 (othI c)) fun w' => w = w') := by
  by_cases h : c < 128
  · have e1 := or32_lo h0 h
    cases hb : (upI c || loI c) with
    | true =>
      have e2 := xor32_lo h0 h hb
      rw [hb, Bool.and_eq_true, decide_eq_true_eq, decide_eq_true_eq] at e1
      obtain ⟨h2, h3⟩ := e1
      rw [← e2]
      clear e2 hb
      go_enter Tryd.func43, Tryd.ntmps43
      go_wp2
      all_goals first | (go_ret; exact ⟨rfl, rfl⟩) | (exfalso; omega)
    | false =>
      rw [oth_no hb]
      rw [hb, Bool.and_eq_false_iff, decide_eq_false_iff_not, decide_eq_false_iff_not] at e1
      clear hb
      rcases e1 with e1 | e1
      · have e1 : bits .or .i64 c 32 < 97 := by omega
        go_enter Tryd.func43, Tryd.ntmps43
        go_wp2
        all_goals first | (go_ret; exact ⟨rfl, rfl⟩) | (exfalso; omega)
      · have e1 : 122 < bits .or .i64 c 32 := by omega
        go_enter Tryd.func43, Tryd.ntmps43
        go_wp2
        all_goals first | (go_ret; exact ⟨rfl, rfl⟩) | (exfalso; omega)
  · have e1 := or32_hi (c := c) (by omega) h1
    have e2 := oth_no (let_hi (c := c) (by omega))
    rw [e2]
    go_enter Tryd.func43, Tryd.ntmps43
    go_wp2
    all_goals first | (go_ret; exact ⟨rfl, rfl⟩) | (exfalso; omega)

theorem wrd_eq {c : Int} : wrdI c = (digI c || c == 95 || (upI c || loI c)) := by
  unfold wrdI
  cases upI c <;> cases loI c <;> cases digI c <;> cases (c == 95) <;> rfl
set_option maxHeartbeats 1000000 in
set_option maxRecDepth 100000 in
theorem mtWordly_any (c : Int) (w : World) (h0 : 0 ≤ c) (h1 : c ≤ 1114111) :
    Calls Tryd.prog 35 #[.int .i64 c] w (RetE (.bool (wrdI c)) fun w' => w = w') := by
  rw [wrd_eq]
  by_cases h : c < 128
  · have e1 := or32_lo h0 h
    cases hb : (upI c || loI c) with
    | true =>
      rw [hb, Bool.and_eq_true, decide_eq_true_eq, decide_eq_true_eq] at e1
      obtain ⟨h2, h3⟩ := e1
      rw [Bool.or_true]
      clear hb
      go_enter Tryd.func35, Tryd.ntmps35
      go_wp2
      all_goals first | (go_ret; exact ⟨rfl, rfl⟩) | (exfalso; omega)
    | false =>
      rw [hb, Bool.and_eq_false_iff, decide_eq_false_iff_not, decide_eq_false_iff_not] at e1
      rw [Bool.or_false]
      unfold digI
      clear hb
      rcases e1 with e1 | e1
      · have e1 : bits .or .i64 c 32 < 97 := by omega
        go_enter Tryd.func35, Tryd.ntmps35
        go_wp2
        all_goals first | (go_ret; refine ⟨?_, rfl⟩; simp; omega) | (go_ret; refine ⟨?_, rfl⟩; simp_all; omega) | (go_ret; refine ⟨?_, rfl⟩; simp_all) | (exfalso; omega)
      · have e1 : 122 < bits .or .i64 c 32 := by omega
        go_enter Tryd.func35, Tryd.ntmps35
        go_wp2
        all_goals first | (go_ret; refine ⟨?_, rfl⟩; simp; omega) | (go_ret; refine ⟨?_, rfl⟩; simp_all; omega) | (go_ret; refine ⟨?_, rfl⟩; simp_all) | (exfalso; omega)
  · rw [let_hi (c := c) (by omega)]
    have e0 : digI c = false := by unfold digI; rw [decide_eq_false (p := c ≤ 57) (by omega)]; simp
    have e1 : (c == 95) = false := beq_false_of_ne (by omega)
    rw [e0, e1]
    go_enter Tryd.func35, Tryd.ntmps35
    go_wp2
    all_goals first | (go_ret; exact ⟨rfl, rfl⟩) | (exfalso; omega) | (go_ret; refine ⟨?_, rfl⟩; simp_all <;> omega)

end Go.Proofs.YtoniccokohjenaaDoor

namespace Go.Proofs.YtoniccokohjenaaDoor
open Go.RowKit

/-- the first part that has it, or -1 -/
def idxR (p : Rx → Bool) : List Rx → Nat → Int
  | [], _ => -1
  | k :: ks, i => if p k then (i : Int) else idxR p ks (i + 1)
theorem idx_any (p : Rx → Bool) : ∀ (ks : List Rx) (i : Nat), decide (0 ≤ idxR p ks i) = ks.any p
  | [], i => rfl
  | k :: ks, i => by
    rw [idxR, List.any_cons]
    cases hp : p k with
    | true => rw [if_pos rfl, Bool.true_or]; exact decide_eq_true (by omega)
    | false => rw [if_neg (by decide), Bool.false_or]; exact idx_any p ks (i + 1)

set_option maxHeartbeats 4000000 in
set_option maxRecDepth 100000 in
theorem idxFunc_any (K : FuncId) (caps : Array Value) (x : Rx) (A : Option Addr) (c : Nat) (p : Rx → Bool) (w : World) (hm : x.kids.length ≤ 1000000) (h : KT w x A c)
    (eK : ∀ args w, (callFunc K args).run Tryd.prog w = .ok (.enter K args) w)
    (hK : ∀ (w' : World) (k : Rx) (A' : Option Addr) (c' : Nat), k ∈ x.kids → Below w.heap.size w w' → KT w' k A' c' → Calls Tryd.prog K (#[rxAgg k (.slice A' k.kids.length c')] ++ caps) w' (RetE (.bool (p k)) fun w2 => Below w'.heap.size w' w2)) :
    Calls Tryd.prog 49 #[.slice A x.kids.length c, .func (.func K) #[] caps] w (RetE (.int .i64 (idxR p x.kids 0)) fun w' => Below w.heap.size w w') := by
  have HK := Lib.hid hK
  have EK := Lib.hid eK
  have HT := Lib.hid h
  clear hK eK h
  generalize hn : x.kids.length = n at *
  have HN := Lib.hid hn
  clear hn
  go_enter Tryd.func49, Tryd.ntmps49
  go_wp2
  go_loopg [8] (n + 1) (fun kx v wr => ∃ i : Nat, v = .int .i64 (i : Int) ∧ i ≤ n ∧ n - i ≤ kx ∧ Below w.heap.size w wr ∧ Hid (idxR p x.kids 0 = idxR p (x.kids.drop i) i))
  case atStart => exact ⟨0, rfl, Nat.zero_le _, by omega, Below.refl _ _, rfl⟩
  case round =>
    obtain ⟨i, rfl, hi, hik, hb, heq⟩ := hrel
    have HB := Lib.hid hb
    have HEQ := Lib.hid heq.out
    clear hb heq
    by_cases hlt : i < n
    · have z1 : decide ((i : Int) < (n : Int)) = true := decide_eq_true (by omega)
      have hlt' : i < x.kids.length := by rw [HN.out]; exact hlt
      have hne : x.kids ≠ [] := fun e => by rw [e] at hlt'; cases hlt'
      obtain ⟨q, o, rfl, hv⟩ := KT.kid (KX.below HT.out HB.out) hne
      obtain ⟨k, hk⟩ : ∃ k, k = x.kids[i] := ⟨_, rfl⟩
      have hki : x.kids[i]? = some k := by rw [hk]; exact List.getElem?_eq_getElem hlt'
      have hkm : k ∈ x.kids := List.mem_of_getElem? hki
      obtain ⟨A1, c1, r1, k1⟩ := hv i k hki
      have hd : x.kids.drop i = k :: x.kids.drop (i + 1) := by rw [hk]; exact List.drop_eq_getElem_cons hlt'
      have HD := Lib.hid hd
      have hc := HK.out wr k A1 c1 hkm HB.out k1
      have EK1 := EK.out
      clear hv hk hki hkm k1 hne hd
      obtain ⟨e0, e1, e2, e3, e4, e5, e6, e7, e8, e9⟩ := rx_at r1
      clear r1
      have i0 : (0 : Int) ≤ (i : Int) := by omega
      have i1 : (i : Int) < (n : Int) := by omega
      simp only [rxAgg] at hc
      cases hp : p k with
      | true =>
        rw [hp] at hc
        have HC := Lib.hid hc
        have HP := Lib.hid hp
        clear hc hp
        go_wp2_with (go_at_fn K; refine HC.out.mono ?_)
        rintro e w1 ⟨rfl, hb1⟩
        go_wp2
        go_ret
        exact ⟨by rw [HEQ.out, HD.out, idxR, if_pos HP.out]; rfl, HB.out.trans (hb1.mono HB.out.size)⟩
      | false =>
        rw [hp] at hc
        have HC := Lib.hid hc
        have HP := Lib.hid hp
        clear hc hp
        go_wp2_with (go_at_fn K; refine HC.out.mono ?_)
        rintro e w1 ⟨rfl, hb1⟩
        have HB1 := Lib.hid (HB.out.trans (hb1.mono HB.out.size))
        clear hb1 e0 e1 e2 e3 e4 e5 e6 e7 e8 e9
        go_wp2_with fail
        go_roundg (n - (i + 1))
        case measure => omega
        case rel => exact ⟨i + 1, by go_num, by omega, Nat.le_refl _, HB1.out, by show _ = _; rw [HEQ.out, HD.out, idxR, HP.out]; rfl⟩
    · have z1 : decide ((i : Int) < (n : Int)) = false := decide_eq_false (by omega)
      go_wp2
      go_ret
      exact ⟨by rw [HEQ.out, List.drop_eq_nil_of_le (by rw [HN.out]; omega)]; rfl, HB.out⟩

set_option maxHeartbeats 1000000 in
set_option maxRecDepth 100000 in
theorem containsFunc_any (K : FuncId) (caps : Array Value) (x : Rx) (A : Option Addr) (c : Nat) (p : Rx → Bool) (w : World) (hm : x.kids.length ≤ 1000000) (h : KT w x A c)
    (eK : ∀ args w, (callFunc K args).run Tryd.prog w = .ok (.enter K args) w)
    (hK : ∀ (w' : World) (k : Rx) (A' : Option Addr) (c' : Nat), k ∈ x.kids → Below w.heap.size w w' → KT w' k A' c' → Calls Tryd.prog K (#[rxAgg k (.slice A' k.kids.length c')] ++ caps) w' (RetE (.bool (p k)) fun w2 => Below w'.heap.size w' w2)) :
    Calls Tryd.prog 44 #[.slice A x.kids.length c, .func (.func K) #[] caps] w (RetE (.bool (x.kids.any p)) fun w' => Below w.heap.size w w') := by
  have KI := Lib.hid (idxFunc_any K caps x A c p w hm h eK hK)
  rw [← idx_any p x.kids 0]
  clear h eK hK
  generalize idxR p x.kids 0 = v at *
  go_enter Tryd.func44, Tryd.ntmps44
  go_wp2_with (go_at_call 49; refine KI.out.mono ?_)
  rintro e w1 ⟨rfl, hb1⟩
  have HB := Lib.hid hb1
  clear hb1
  go_wp2
  all_goals (go_ret; exact ⟨by simp_all, HB.out⟩)

end Go.Proofs.YtoniccokohjenaaDoor

namespace Go.Proofs.YtoniccokohjenaaDoor
open Go.RowKit

def mdAgg (m : Md) : Value := .agg #[.bool m.all, .bool m.fold, .bool m.free, .bool m.dot, .bool m.some]
set_option maxHeartbeats 4000000 in
set_option maxRecDepth 100000 in
/-- a part of one sign that is no set -/
theorem mtHasL_any (m : Md) (x : Rx) (kv : Value) (c : Int) (w : World) (h0 : 0 ≤ c) (h1 : c ≤ 1114111) (hk : x.kind = 1 ∨ x.kind = 2 ∨ x.kind = 4 ∨ x.kind = 5) :
    Calls Tryd.prog 36 #[mdAgg m, rxAgg x kv, .int .i64 c] w (RetE (.bool (hasL m x c)) fun w' => Below w.heap.size w w') := by
  have hbw : ∀ o o' o'', Below w.heap.size w (((w.alloc o).alloc o').alloc o'') := fun o o' o'' => (((Below.refl _ w).alloc (Nat.le_refl _) o).alloc (by rw [World.size_alloc]; omega) o').alloc (by rw [World.size_alloc, World.size_alloc]; omega) o''
  have HBW := Lib.hid hbw
  clear hbw
  obtain ⟨kind, rune, tt, kids, mn, mx, z, nt, g, nm⟩ := x
  obtain ⟨al, fo, fr, dt, so⟩ := m
  simp only [mdAgg, rxAgg, Rx.kind, Rx.rune, Rx.to, Rx.min, Rx.max, Rx.lazy, Rx.not, Rx.group, Rx.name] at hk ⊢
  rcases hk with rfl | rfl | rfl | rfl
  · have hs : hasL ⟨al, fo, fr, dt, so⟩ (.mk 1 rune tt kids mn mx z nt g nm) c = (c == rune || (fo && othI c == rune)) := rfl
    rw [hs]
    clear hs
    have ko := fun W => mtOther_any c W h0 h1
    generalize othI c = oc at *
    have KO := Lib.hid ko
    clear ko
    by_cases z1 : c = rune
    · subst z1
      rw [beq_self_eq_true, Bool.true_or]
      go_enter Tryd.func36, Tryd.ntmps36
      go_wp2
      go_region
      all_goals go_wp2
      all_goals (go_ret; exact ⟨rfl, (HBW.out _ _ _).drew⟩)
    · have z2 : (c == rune) = false := beq_false_of_ne z1
      rw [z2, Bool.false_or]
      cases fo with
      | false =>
        clear z1
        go_enter Tryd.func36, Tryd.ntmps36
        go_wp2
        go_region
        all_goals go_wp2
        all_goals (go_ret; exact ⟨rfl, (HBW.out _ _ _).drew⟩)
      | true =>
        clear z1
        rw [Bool.true_and]
        obtain ⟨b, hb⟩ : ∃ b, b = (oc == rune) := ⟨_, rfl⟩
        rw [← hb]
        have hb' := hb.symm
        clear hb
        go_enter Tryd.func36, Tryd.ntmps36
        go_upto_region 5 with fail
        go_quiet (with_reducible exact quiet_left (KO.out _))
        go_wp2
        go_ret
        exact ⟨rfl, (HBW.out _ _ _).trans ⟨rfl, rfl, rfl, Nat.le_refl _, fun _ _ => rfl⟩⟩
  · have hs : hasL ⟨al, fo, fr, dt, so⟩ (.mk 2 rune tt kids mn mx z nt g nm) c = (dt || c != 10) := rfl
    rw [hs]
    clear hs
    go_enter Tryd.func36, Tryd.ntmps36
    go_wp2
    all_goals (go_ret; refine ⟨?_, HBW.out _ _ _⟩; first | (simp_all; done) | (cases nt <;> simp_all <;> omega) | (simp_all <;> omega))
  · have hs : hasL ⟨al, fo, fr, dt, so⟩ (.mk 4 rune tt kids mn mx z nt g nm) c = (decide (rune ≤ c) && decide (c ≤ tt)) := rfl
    rw [hs]
    clear hs
    go_enter Tryd.func36, Tryd.ntmps36
    go_wp2
    all_goals (go_ret; refine ⟨?_, HBW.out _ _ _⟩; first | (simp_all; done) | (cases nt <;> simp_all <;> omega) | (simp_all <;> omega))
  · have hs : hasL ⟨al, fo, fr, dt, so⟩ (.mk 5 rune tt kids mn mx z nt g nm) c = ((if rune = 100 then digI c else if rune = 119 then wrdI c else if rune = 115 then blkI c else false) != nt) := rfl
    rw [hs]
    clear hs
    by_cases hd : rune = 100
    · subst hd
      rw [if_pos rfl]
      unfold digI
      go_enter Tryd.func36, Tryd.ntmps36
      go_wp2
      all_goals (go_ret; refine ⟨?_, HBW.out _ _ _⟩; first | (simp_all; done) | (cases nt <;> simp_all <;> omega) | (simp_all <;> omega))
    rw [if_neg hd]
    by_cases hw : rune = 119
    · subst hw
      rw [if_pos rfl]
      have kw := fun W => mtWordly_any c W h0 h1
      generalize wrdI c = b at *
      have KW := Lib.hid kw
      clear kw hd
      go_enter Tryd.func36, Tryd.ntmps36
      go_wp2_with (go_at_call 35; refine (KW.out _).mono ?_; rintro e w1 ⟨rfl, rfl⟩)
      all_goals (go_ret; refine ⟨?_, HBW.out _ _ _⟩; first | (simp_all; done) | (cases nt <;> simp_all <;> omega) | (simp_all <;> omega))
    rw [if_neg hw]
    have z1 : (rune == 100) = false := beq_false_of_ne hd
    have z2 : (rune == 119) = false := beq_false_of_ne hw
    by_cases hs : rune = 115
    · subst hs
      rw [if_pos rfl]
      unfold blkI
      clear hd hw
      go_enter Tryd.func36, Tryd.ntmps36
      go_wp2
      all_goals (go_ret; refine ⟨?_, HBW.out _ _ _⟩; first | (simp_all; done) | (cases nt <;> simp_all <;> omega) | (simp_all <;> omega))
    rw [if_neg hs]
    have z3 : (rune == 115) = false := beq_false_of_ne hs
    clear hd hw hs
    go_enter Tryd.func36, Tryd.ntmps36
    go_wp2
    all_goals (go_ret; refine ⟨?_, HBW.out _ _ _⟩; first | (simp_all; done) | (cases nt <;> simp_all <;> omega) | (simp_all <;> omega))

end Go.Proofs.YtoniccokohjenaaDoor
