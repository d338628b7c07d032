/-
  What the laws of chapter 1 share: their own small functions; lengths; the document's examples at their head.
-/
import Derived.Test.YtmmlclgmehfmhaaDoorRefH
namespace Go.Proofs.YtmmlclgmehfmhaaDoor
open Go.RowKit

theorem rd_lit (w : World) (l : List Nat) (H : Nat) (hH : H = w.heap.size) : RdN .u32 (w.alloc (.cells (nums .u32 l).toArray 61)) (some ⟨H, 0, none⟩) l.length l := by
  subst hH
  refine ⟨rfl, fun _ => ⟨w.heap.size, 0, rfl, by simp, fun i hi => ?_⟩⟩
  rw [World.cell?_alloc_at (hn := rfl)]
  simp only [nums, List.getElem?_toArray, Nat.zero_add, List.getElem?_map, List.getElem?_eq_getElem hi, Option.map_some, List.getD, Option.getD_some]

theorem len_le {B x k : Nat} (hB : 2 ≤ B) (h : x < B ^ k) : (digs B x).length ≤ k := (digs_len B hB x k).1 h
theorem len_lt {B x k : Nat} (hB : 2 ≤ B) (h : (digs B x).length ≤ k) : x < B ^ k := (digs_len B hB x k).2 h
theorem len_add {x y k : Nat} (h1 : (digs 1000000000 x).length ≤ k) (h2 : (digs 1000000000 y).length ≤ k) : (digs 1000000000 (x + y)).length ≤ k + 1 := by
  have a := len_lt (by omega) h1
  have b := len_lt (by omega) h2
  refine len_le (by omega) ?_
  rw [Nat.pow_succ]; omega
theorem len_mul {x y k m : Nat} (h1 : (digs 1000000000 x).length ≤ k) (h2 : (digs 1000000000 y).length ≤ m) : (digs 1000000000 (x * y)).length ≤ k + m := by
  have a := len_lt (by omega) h1
  have b := len_lt (by omega) h2
  refine len_le (by omega) ?_
  rw [Nat.pow_add]
  exact Nat.mul_lt_mul_of_lt_of_le a (Nat.le_of_lt b) (Nat.pow_pos (by omega))
theorem len_mono {x y k : Nat} (h : x ≤ y) (h1 : (digs 1000000000 y).length ≤ k) : (digs 1000000000 x).length ≤ k := Nat.le_trans (digs_mono 1000000000 (by omega) x y h) h1
theorem len_ten {x k : Nat} (h1 : (digs 1000000000 x).length ≤ k) : (digs 10 x).length ≤ 9 * k := by
  have a := len_lt (by omega) h1
  refine len_le (by omega) ?_
  rw [Nat.pow_mul]; exact a
theorem len_ten_mono {x y k : Nat} (h : x ≤ y) (h1 : (digs 10 y).length ≤ k) : (digs 10 x).length ≤ k := Nat.le_trans (digs_mono 10 (by omega) x y h) h1
theorem digs_nine (x : Nat) : ∀ z ∈ digs 10 x, z < 10 := digs_lt 10 (by omega) x
theorem vdig (x : Nat) : val 1000000000 (digs 1000000000 x) = x := val_digs 1000000000 (by omega) x
theorem vten (x : Nat) : val 10 (digs 10 x) = x := val_digs 10 (by omega) x
theorem rd_len {k : IntKind} {w : World} {A : Option Addr} {n : Nat} {l : List Nat} (h : RdN k w A n l) : l.length = n := h.1

set_option maxRecDepth 100000 in
theorem great_yes (A : Option Addr) (n cap : Nat) (w : World) (hn : 40 < n) :
    Calls Tryd.prog 15 #[.slice A n cap] w fun e w' => e = .returned (.bool true) ∧ w = w' := by
  go_enter Tryd.func15, Tryd.ntmps15
  have h : (40 : Int) < n := by omega
  go_wp2
  go_ret
  refine ⟨?_, rfl⟩
  simp
set_option maxRecDepth 100000 in
theorem great_no (A : Option Addr) (n cap : Nat) (w : World) (hn : n ≤ 40) :
    Calls Tryd.prog 15 #[.slice A n cap] w fun e w' => e = .returned (.bool false) ∧ w = w' := by
  go_enter Tryd.func15, Tryd.ntmps15
  have h : ¬ (40 : Int) < n := by omega
  go_wp2
  go_ret
  refine ⟨?_, rfl⟩
  simp

set_option maxRecDepth 100000 in
theorem same_any (A A2 : Option Addr) (n cap n2 cap2 : Nat) (l l2 : List Nat) (w : World) (hR : RdN .u32 w A n l) (hR2 : RdN .u32 w A2 n2 l2) (hn : n ≤ 9223372036854775807) (hn2 : n2 ≤ 9223372036854775807) :
    Calls Tryd.prog 19 #[.slice A n cap, .slice A2 n2 cap2] w fun e w' => e = .returned (.bool (decide (l = l2))) ∧ Below w.heap.size w w' := by
  have K := Lib.hid (refSame_any A A2 n cap n2 cap2 l l2 w hR hR2 hn hn2)
  generalize decide (l = l2) = b at *
  go_enter Tryd.func19, Tryd.ntmps19
  go_wp2_with (go_at_call 49; refine K.out.mono ?_)
  rintro e w1 ⟨rfl, hb1⟩
  go_wp2
  go_ret
  exact ⟨rfl, hb1⟩
theorem same_true (A A2 : Option Addr) (n cap n2 cap2 : Nat) (l l2 : List Nat) (w : World) (hR : RdN .u32 w A n l) (hR2 : RdN .u32 w A2 n2 l2) (hn : n ≤ 9223372036854775807) (hn2 : n2 ≤ 9223372036854775807) (h : l = l2) :
    Calls Tryd.prog 19 #[.slice A n cap, .slice A2 n2 cap2] w fun e w' => e = .returned (.bool true) ∧ Below w.heap.size w w' := by
  have := same_any A A2 n cap n2 cap2 l l2 w hR hR2 hn hn2
  rw [decide_eq_true h] at this
  exact this

set_option maxRecDepth 100000 in
theorem lawOf_any (A : Option Addr) (n cap : Nat) (l : List Nat) (w : World) (hR : RdN .u32 w A n l) (hn : n ≤ 100000) (hl : ∀ x ∈ l, x < 4294967296) :
    Calls Tryd.prog 17 #[.slice A n cap] w fun e w' => IsRef (val 1000000000 l) w w' e := by
  have K := Lib.hid (from_any A n cap l w hR hn hl)
  go_enter Tryd.func17, Tryd.ntmps17
  go_wp2_with (go_at_call 47; refine K.out.mono ?_)
  rintro e w1 ⟨v, rfl, ho, hb1⟩
  go_wp2
  go_ret
  exact ⟨v, rfl, ho, hb1⟩
set_option maxRecDepth 100000 in
theorem lawTo_any (A : Option Addr) (n cap x : Nat) (w : World) (hR : RdN .u8 w A n (digs 10 x)) (hn : n ≤ 1099511627776) :
    Calls Tryd.prog 20 #[.slice A n cap] w fun e w' => IsNum x w w' e := by
  have K := Lib.hid (to_any A n cap x w hR hn)
  go_enter Tryd.func20, Tryd.ntmps20
  go_wp2_with (go_at_call 50; refine K.out.mono ?_)
  rintro e w1 ⟨v, rfl, ho, hb1⟩
  go_wp2
  go_ret
  exact ⟨v, rfl, ho, hb1⟩

theorem divmod_ok (A A2 : Option Addr) (n cap n2 cap2 : Nat) (l l2 : List Nat) (w : World) (hR : RdN .u32 w A n l) (hR2 : RdN .u32 w A2 n2 l2) (hn : n ≤ 549755813888) (hn2 : n2 ≤ 549755813888) (hl : ∀ x ∈ l, x < 4294967296) (hl2 : ∀ x ∈ l2, x < 4294967296) (h0 : 0 < val 1000000000 l2) :
    Calls Tryd.prog 16 #[.slice A n cap, .slice A2 n2 cap2] w fun e w' => ∃ q r, e = .returned (.tuple #[q, r, .int .i64 0]) ∧ OwnN .u32 61 w.heap.size w' q (digs 1000000000 (val 1000000000 l / val 1000000000 l2)) ∧ OwnN .u32 61 w.heap.size w' r (digs 1000000000 (val 1000000000 l % val 1000000000 l2)) ∧ Below w.heap.size w w' :=
  (divmod_any A A2 n cap n2 cap2 l l2 w hR hR2 hn hn2 hl hl2).mono fun e w' h => by
    rcases h with ⟨h1, _⟩ | ⟨_, h2⟩
    · omega
    · exact h2
theorem divmod_no (A A2 : Option Addr) (n cap n2 cap2 : Nat) (l l2 : List Nat) (w : World) (hR : RdN .u32 w A n l) (hR2 : RdN .u32 w A2 n2 l2) (hn : n ≤ 549755813888) (hn2 : n2 ≤ 549755813888) (hl : ∀ x ∈ l, x < 4294967296) (hl2 : ∀ x ∈ l2, x < 4294967296) (h0 : val 1000000000 l2 = 0) :
    Calls Tryd.prog 16 #[.slice A n cap, .slice A2 n2 cap2] w fun e w' => e = .returned (.tuple #[.slice none 0 0, .slice none 0 0, .int .i64 4]) ∧ Below w.heap.size w w' :=
  (divmod_any A A2 n cap n2 cap2 l l2 w hR hR2 hn hn2 hl hl2).mono fun e w' h => by
    rcases h with ⟨_, h2⟩ | ⟨h1, _⟩
    · exact h2
    · omega
theorem parse_ok (s : ByteArray) (w : World) (hs : s.size ≤ 17592186044416) (h : okP (bytesN s) = true) :
    Calls Tryd.prog 21 #[.string s] w fun e w' => ∃ v, e = .returned (.tuple #[v, .int .i64 0]) ∧ OwnN .u32 61 w.heap.size w' v (digs 1000000000 (dec (digsOf (bytesN s)))) ∧ Below w.heap.size w w' :=
  (parse_any s w hs).mono fun e w' hp => by
    rcases hp with ⟨_, h2⟩ | ⟨h1, _⟩
    · exact h2
    · rw [h] at h1; cases h1
theorem parse_no (s : ByteArray) (w : World) (hs : s.size ≤ 17592186044416) (h : okP (bytesN s) = false) :
    Calls Tryd.prog 21 #[.string s] w fun e w' => e = .returned (.tuple #[.slice none 0 0, .int .i64 2]) ∧ Below w.heap.size w w' :=
  (parse_any s w hs).mono fun e w' hp => by
    rcases hp with ⟨h1, _⟩ | ⟨_, h2⟩
    · rw [h] at h1; cases h1
    · exact h2
theorem sub_low (A A2 : Option Addr) (n cap n2 cap2 : Nat) (l l2 : List Nat) (w : World) (hR : RdN .u32 w A n l) (hR2 : RdN .u32 w A2 n2 l2) (hn : n ≤ 549755813888) (hn2 : n2 ≤ 549755813888) (hl : ∀ x ∈ l, x < 4294967296) (hl2 : ∀ x ∈ l2, x < 4294967296) (h0 : val 1000000000 l < val 1000000000 l2) :
    Calls Tryd.prog 28 #[.slice A n cap, .slice A2 n2 cap2] w fun e w' => e = .returned (.tuple #[.slice none 0 0, .int .i64 1]) ∧ Below w.heap.size w w' :=
  (sub_any A A2 n cap n2 cap2 l l2 w hR hR2 hn hn2 hl hl2).mono fun e w' h => by
    rcases h with ⟨_, h2⟩ | ⟨h1, _⟩
    · exact h2
    · omega
theorem sub_ok (A A2 : Option Addr) (n cap n2 cap2 : Nat) (l l2 : List Nat) (w : World) (hR : RdN .u32 w A n l) (hR2 : RdN .u32 w A2 n2 l2) (hn : n ≤ 549755813888) (hn2 : n2 ≤ 549755813888) (hl : ∀ x ∈ l, x < 4294967296) (hl2 : ∀ x ∈ l2, x < 4294967296) (h0 : val 1000000000 l2 ≤ val 1000000000 l) :
    Calls Tryd.prog 28 #[.slice A n cap, .slice A2 n2 cap2] w fun e w' => ∃ v, e = .returned (.tuple #[v, .int .i64 0]) ∧ OwnN .u32 61 w.heap.size w' v (digs 1000000000 (val 1000000000 l - val 1000000000 l2)) ∧ Below w.heap.size w w' :=
  (sub_any A A2 n cap n2 cap2 l l2 w hR hR2 hn hn2 hl hl2).mono fun e w' h => by
    rcases h with ⟨h1, _⟩ | ⟨_, h2⟩
    · omega
    · exact h2

theorem u32_of (l : List Nat) (h : l.all (fun x => decide (x < 4294967296)) = true) : ∀ x ∈ l, x < 4294967296 := fun x hx => by
  rw [List.all_eq_true] at h
  exact of_decide_eq_true (h x hx)

theorem text_ok (A : Option Addr) (n cap : Nat) (l : List Nat) (s : ByteArray) (w : World) (hR : RdN .u32 w A n l) (hn : n ≤ 549755813888) (hl : ∀ x ∈ l, x < 4294967296) (htab : Tab10 w) (hs : (strD (txt (val 1000000000 l))).toArray = s.data) :
    Calls Tryd.prog 32 #[.slice A n cap] w fun e w' => e = .returned (.string s) ∧ Below w.heap.size w w' := by
  have h := text_any A n cap l w hR hn hl htab
  rw [hs] at h
  exact h

set_option maxHeartbeats 4000000 in
set_option maxRecDepth 100000 in
theorem shown_any (w : World) (HT : Tab10 w) : Calls Tryd.prog 14 #[] w fun e w' => e = .returned (.bool true) ∧ Below w.heap.size w w' := by
  have HB := Below.refl w.heap.size w
  go_enter Tryd.func14, Tryd.ntmps14
  have rA : RdN .u32 (w.alloc (.cells #[.int .u32 7, .int .u32 1] 61)) (some ⟨w.heap.size, 0, none⟩) 2 [7, 1] := rd_lit w [7, 1] _ (by simp)
  have hb1 := below_alloc0 w (.cells #[.int .u32 7, .int .u32 1] 61)
  replace HT := HT.below hb1
  replace HB := HB.trans (hb1.mono HB.size)
  have rB : RdN .u32 ((w.alloc (.cells #[.int .u32 7, .int .u32 1] 61)).alloc (.cells #[.int .u32 10] 61)) (some ⟨w.heap.size + 1, 0, none⟩) 1 [10] := rd_lit (w.alloc (.cells #[.int .u32 7, .int .u32 1] 61)) [10] _ (by simp)
  have hb2 := below_alloc0 (w.alloc (.cells #[.int .u32 7, .int .u32 1] 61)) (.cells #[.int .u32 10] 61)
  replace rA := rA.below hb2
  replace HT := HT.below hb2
  replace HB := HB.trans (hb2.mono HB.size)
  have K3 := Lib.hid (divmod_ok _ _ _ 2 _ 1 [7, 1] [10] ((w.alloc (.cells #[.int .u32 7, .int .u32 1] 61)).alloc (.cells #[.int .u32 10] 61)) rA rB (by omega) (by omega) (u32_of _ (by decide)) (u32_of _ (by decide)) (by decide))
  go_wp2_with (go_at_call 16; refine K3.out.mono ?_)
  rintro e w3 ⟨vq, vr, rfl, oq, or_, hb3⟩
  replace rA := rA.below hb3
  replace rB := rB.below hb3
  replace HT := HT.below hb3
  replace HB := HB.trans (hb3.mono HB.size)
  replace oq := oq.asList (show _ = [100000000] by decide +kernel)
  replace or_ := or_.asList (show _ = [7] by decide +kernel)
  obtain ⟨Aq, cq, rfl, _, rq, _⟩ := oq.rd
  obtain ⟨Ar, cr, rfl, _, rr, _⟩ := or_.rd
  have K4 := Lib.hid (parse_ok ⟨#[48, 48, 55]⟩ w3 (by decide) (by decide +kernel))
  go_wp2_with (go_at_call 21; refine K4.out.mono ?_)
  rintro e w4 ⟨vn, rfl, on_, hb4⟩
  replace rA := rA.below hb4
  replace rB := rB.below hb4
  replace rq := rq.below hb4
  replace rr := rr.below hb4
  replace HT := HT.below hb4
  replace HB := HB.trans (hb4.mono HB.size)
  replace on_ := on_.asList (show _ = [7] by decide +kernel)
  obtain ⟨An, cn, rfl, _, rn, _⟩ := on_.rd
  have rC : RdN .u32 (w4.alloc (.cells #[.int .u32 7] 61)) (some ⟨w4.heap.size, 0, none⟩) 1 [7] := rd_lit w4 [7] _ (by simp)
  have hb5 := below_alloc0 w4 (.cells #[.int .u32 7] 61)
  replace rA := rA.below hb5
  replace rB := rB.below hb5
  replace rq := rq.below hb5
  replace rr := rr.below hb5
  replace rn := rn.below hb5
  replace HT := HT.below hb5
  replace HB := HB.trans (hb5.mono HB.size)
  have K6 := Lib.hid (shift_any _ _ 1 [7] 9 (w4.alloc (.cells #[.int .u32 7] 61)) rC (by omega) (u32_of _ (by decide)) (by omega))
  go_wp2_with (go_at_call 37; refine K6.out.mono ?_)
  rintro e w6 ⟨vs, rfl, os, hb6⟩
  replace rA := rA.below hb6
  replace rB := rB.below hb6
  replace rq := rq.below hb6
  replace rr := rr.below hb6
  replace rn := rn.below hb6
  replace rC := rC.below hb6
  replace HT := HT.below hb6
  replace HB := HB.trans (hb6.mono HB.size)
  replace os := os.asList (show _ = [0, 7] by decide +kernel)
  obtain ⟨As, cs, rfl, _, rs, _⟩ := os.rd
  have rD : RdN .u32 (w6.alloc (.cells #[.int .u32 1] 61)) (some ⟨w6.heap.size, 0, none⟩) 1 [1] := rd_lit w6 [1] _ (by simp)
  have hb7 := below_alloc0 w6 (.cells #[.int .u32 1] 61)
  replace rA := rA.below hb7
  replace rB := rB.below hb7
  replace rq := rq.below hb7
  replace rr := rr.below hb7
  replace rn := rn.below hb7
  replace rC := rC.below hb7
  replace rs := rs.below hb7
  replace HT := HT.below hb7
  replace HB := HB.trans (hb7.mono HB.size)
  have rE : RdN .u32 ((w6.alloc (.cells #[.int .u32 1] 61)).alloc (.cells #[.int .u32 2] 61)) (some ⟨w6.heap.size + 1, 0, none⟩) 1 [2] := rd_lit (w6.alloc (.cells #[.int .u32 1] 61)) [2] _ (by simp)
  have hb8 := below_alloc0 (w6.alloc (.cells #[.int .u32 1] 61)) (.cells #[.int .u32 2] 61)
  replace rA := rA.below hb8
  replace rB := rB.below hb8
  replace rq := rq.below hb8
  replace rr := rr.below hb8
  replace rn := rn.below hb8
  replace rC := rC.below hb8
  replace rs := rs.below hb8
  replace rD := rD.below hb8
  replace HT := HT.below hb8
  replace HB := HB.trans (hb8.mono HB.size)
  have K9 := Lib.hid (sub_low _ _ _ 1 _ 1 [1] [2] ((w6.alloc (.cells #[.int .u32 1] 61)).alloc (.cells #[.int .u32 2] 61)) rD rE (by omega) (by omega) (u32_of _ (by decide)) (u32_of _ (by decide)) (by decide))
  go_wp2_with (go_at_call 28; refine K9.out.mono ?_)
  rintro e w9 ⟨rfl, hb9⟩
  replace rA := rA.below hb9
  replace rB := rB.below hb9
  replace rq := rq.below hb9
  replace rr := rr.below hb9
  replace rn := rn.below hb9
  replace rC := rC.below hb9
  replace rs := rs.below hb9
  replace rD := rD.below hb9
  replace rE := rE.below hb9
  replace HT := HT.below hb9
  replace HB := HB.trans (hb9.mono HB.size)
  have rF : RdN .u32 (w9.alloc (.cells #[.int .u32 2000000005, .int .u32 0] 61)) (some ⟨w9.heap.size, 0, none⟩) 2 [2000000005, 0] := rd_lit w9 [2000000005, 0] _ (by simp)
  have hb10 := below_alloc0 w9 (.cells #[.int .u32 2000000005, .int .u32 0] 61)
  replace rA := rA.below hb10
  replace rB := rB.below hb10
  replace rq := rq.below hb10
  replace rr := rr.below hb10
  replace rn := rn.below hb10
  replace rC := rC.below hb10
  replace rs := rs.below hb10
  replace rD := rD.below hb10
  replace rE := rE.below hb10
  replace HT := HT.below hb10
  replace HB := HB.trans (hb10.mono HB.size)
  have K11 := Lib.hid (norm_any _ _ 2 [2000000005, 0] (w9.alloc (.cells #[.int .u32 2000000005, .int .u32 0] 61)) rF (by omega) (u32_of _ (by decide)))
  go_wp2_with (go_at_call 23; refine K11.out.mono ?_)
  rintro e w11 ⟨vG, rfl, oG, hb11⟩
  replace rA := rA.below hb11
  replace rB := rB.below hb11
  replace rq := rq.below hb11
  replace rr := rr.below hb11
  replace rn := rn.below hb11
  replace rC := rC.below hb11
  replace rs := rs.below hb11
  replace rD := rD.below hb11
  replace rE := rE.below hb11
  replace rF := rF.below hb11
  replace HT := HT.below hb11
  replace HB := HB.trans (hb11.mono HB.size)
  replace oG := oG.asList (show _ = [5, 2] by decide +kernel)
  obtain ⟨AG, cG, rfl, _, rG, _⟩ := oG.rd
  have rH : RdN .u32 (w11.alloc (.cells #[.int .u32 5, .int .u32 2] 61)) (some ⟨w11.heap.size, 0, none⟩) 2 [5, 2] := rd_lit w11 [5, 2] _ (by simp)
  have hb12 := below_alloc0 w11 (.cells #[.int .u32 5, .int .u32 2] 61)
  replace rA := rA.below hb12
  replace rB := rB.below hb12
  replace rq := rq.below hb12
  replace rr := rr.below hb12
  replace rn := rn.below hb12
  replace rC := rC.below hb12
  replace rs := rs.below hb12
  replace rD := rD.below hb12
  replace rE := rE.below hb12
  replace rF := rF.below hb12
  replace rG := rG.below hb12
  replace HT := HT.below hb12
  replace HB := HB.trans (hb12.mono HB.size)
  have K13 := Lib.hid (same_true _ _ _ cG _ 2 _ _ (w11.alloc (.cells #[.int .u32 5, .int .u32 2] 61)) rG rH (by first | omega | decide) (by first | omega | decide) rfl)
  go_wp2_with (go_at_call 19; refine K13.out.mono ?_)
  rintro e w13 ⟨rfl, hb13⟩
  replace rA := rA.below hb13
  replace rB := rB.below hb13
  replace rq := rq.below hb13
  replace rr := rr.below hb13
  replace rn := rn.below hb13
  replace rC := rC.below hb13
  replace rs := rs.below hb13
  replace rD := rD.below hb13
  replace rE := rE.below hb13
  replace rF := rF.below hb13
  replace rG := rG.below hb13
  replace rH := rH.below hb13
  replace HT := HT.below hb13
  replace HB := HB.trans (hb13.mono HB.size)
  have rI : RdN .u32 (w13.alloc (.cells #[.int .u32 100000000] 61)) (some ⟨w13.heap.size, 0, none⟩) 1 [100000000] := rd_lit w13 [100000000] _ (by simp)
  have hb14 := below_alloc0 w13 (.cells #[.int .u32 100000000] 61)
  replace rA := rA.below hb14
  replace rB := rB.below hb14
  replace rq := rq.below hb14
  replace rr := rr.below hb14
  replace rn := rn.below hb14
  replace rC := rC.below hb14
  replace rs := rs.below hb14
  replace rD := rD.below hb14
  replace rE := rE.below hb14
  replace rF := rF.below hb14
  replace rG := rG.below hb14
  replace rH := rH.below hb14
  replace HT := HT.below hb14
  replace HB := HB.trans (hb14.mono HB.size)
  have K15 := Lib.hid (same_true _ _ _ cq _ 1 _ _ (w13.alloc (.cells #[.int .u32 100000000] 61)) rq rI (by first | omega | decide) (by first | omega | decide) rfl)
  go_wp2_with (go_at_call 19; refine K15.out.mono ?_)
  rintro e w15 ⟨rfl, hb15⟩
  replace rA := rA.below hb15
  replace rB := rB.below hb15
  replace rq := rq.below hb15
  replace rr := rr.below hb15
  replace rn := rn.below hb15
  replace rC := rC.below hb15
  replace rs := rs.below hb15
  replace rD := rD.below hb15
  replace rE := rE.below hb15
  replace rF := rF.below hb15
  replace rG := rG.below hb15
  replace rH := rH.below hb15
  replace rI := rI.below hb15
  replace HT := HT.below hb15
  replace HB := HB.trans (hb15.mono HB.size)
  have rJ : RdN .u32 (w15.alloc (.cells #[.int .u32 7] 61)) (some ⟨w15.heap.size, 0, none⟩) 1 [7] := rd_lit w15 [7] _ (by simp)
  have hb16 := below_alloc0 w15 (.cells #[.int .u32 7] 61)
  replace rA := rA.below hb16
  replace rB := rB.below hb16
  replace rq := rq.below hb16
  replace rr := rr.below hb16
  replace rn := rn.below hb16
  replace rC := rC.below hb16
  replace rs := rs.below hb16
  replace rD := rD.below hb16
  replace rE := rE.below hb16
  replace rF := rF.below hb16
  replace rG := rG.below hb16
  replace rH := rH.below hb16
  replace rI := rI.below hb16
  replace HT := HT.below hb16
  replace HB := HB.trans (hb16.mono HB.size)
  have K17 := Lib.hid (same_true _ _ _ cr _ 1 _ _ (w15.alloc (.cells #[.int .u32 7] 61)) rr rJ (by first | omega | decide) (by first | omega | decide) rfl)
  go_wp2_with (go_at_call 19; refine K17.out.mono ?_)
  rintro e w17 ⟨rfl, hb17⟩
  replace rA := rA.below hb17
  replace rB := rB.below hb17
  replace rq := rq.below hb17
  replace rr := rr.below hb17
  replace rn := rn.below hb17
  replace rC := rC.below hb17
  replace rs := rs.below hb17
  replace rD := rD.below hb17
  replace rE := rE.below hb17
  replace rF := rF.below hb17
  replace rG := rG.below hb17
  replace rH := rH.below hb17
  replace rI := rI.below hb17
  replace rJ := rJ.below hb17
  replace HT := HT.below hb17
  replace HB := HB.trans (hb17.mono HB.size)
  have rK : RdN .u32 (w17.alloc (.cells #[.int .u32 5, .int .u32 2] 61)) (some ⟨w17.heap.size, 0, none⟩) 2 [5, 2] := rd_lit w17 [5, 2] _ (by simp)
  have hb18 := below_alloc0 w17 (.cells #[.int .u32 5, .int .u32 2] 61)
  replace rA := rA.below hb18
  replace rB := rB.below hb18
  replace rq := rq.below hb18
  replace rr := rr.below hb18
  replace rn := rn.below hb18
  replace rC := rC.below hb18
  replace rs := rs.below hb18
  replace rD := rD.below hb18
  replace rE := rE.below hb18
  replace rF := rF.below hb18
  replace rG := rG.below hb18
  replace rH := rH.below hb18
  replace rI := rI.below hb18
  replace rJ := rJ.below hb18
  replace HT := HT.below hb18
  replace HB := HB.trans (hb18.mono HB.size)
  have K19 := Lib.hid (text_ok _ _ 2 [5, 2] ⟨#[50, 48, 48, 48, 48, 48, 48, 48, 48, 53]⟩ (w17.alloc (.cells #[.int .u32 5, .int .u32 2] 61)) rK (by omega) (u32_of _ (by decide)) HT (by decide +kernel))
  go_wp2_with (go_at_call 32; refine K19.out.mono ?_)
  rintro e w19 ⟨rfl, hb19⟩
  replace rA := rA.below hb19
  replace rB := rB.below hb19
  replace rq := rq.below hb19
  replace rr := rr.below hb19
  replace rn := rn.below hb19
  replace rC := rC.below hb19
  replace rs := rs.below hb19
  replace rD := rD.below hb19
  replace rE := rE.below hb19
  replace rF := rF.below hb19
  replace rG := rG.below hb19
  replace rH := rH.below hb19
  replace rI := rI.below hb19
  replace rJ := rJ.below hb19
  replace rK := rK.below hb19
  replace HT := HT.below hb19
  replace HB := HB.trans (hb19.mono HB.size)
  have rL : RdN .u32 (w19.alloc (.cells #[.int .u32 7] 61)) (some ⟨w19.heap.size, 0, none⟩) 1 [7] := rd_lit w19 [7] _ (by simp)
  have hb20 := below_alloc0 w19 (.cells #[.int .u32 7] 61)
  replace rA := rA.below hb20
  replace rB := rB.below hb20
  replace rq := rq.below hb20
  replace rr := rr.below hb20
  replace rn := rn.below hb20
  replace rC := rC.below hb20
  replace rs := rs.below hb20
  replace rD := rD.below hb20
  replace rE := rE.below hb20
  replace rF := rF.below hb20
  replace rG := rG.below hb20
  replace rH := rH.below hb20
  replace rI := rI.below hb20
  replace rJ := rJ.below hb20
  replace rK := rK.below hb20
  replace HT := HT.below hb20
  replace HB := HB.trans (hb20.mono HB.size)
  have K21 := Lib.hid (same_true _ _ _ cn _ 1 _ _ (w19.alloc (.cells #[.int .u32 7] 61)) rn rL (by first | omega | decide) (by first | omega | decide) rfl)
  go_wp2_with (go_at_call 19; refine K21.out.mono ?_)
  rintro e w21 ⟨rfl, hb21⟩
  replace rA := rA.below hb21
  replace rB := rB.below hb21
  replace rq := rq.below hb21
  replace rr := rr.below hb21
  replace rn := rn.below hb21
  replace rC := rC.below hb21
  replace rs := rs.below hb21
  replace rD := rD.below hb21
  replace rE := rE.below hb21
  replace rF := rF.below hb21
  replace rG := rG.below hb21
  replace rH := rH.below hb21
  replace rI := rI.below hb21
  replace rJ := rJ.below hb21
  replace rK := rK.below hb21
  replace rL := rL.below hb21
  replace HT := HT.below hb21
  replace HB := HB.trans (hb21.mono HB.size)
  have rM : RdN .u32 (w21.alloc (.cells #[.int .u32 0, .int .u32 7] 61)) (some ⟨w21.heap.size, 0, none⟩) 2 [0, 7] := rd_lit w21 [0, 7] _ (by simp)
  have hb22 := below_alloc0 w21 (.cells #[.int .u32 0, .int .u32 7] 61)
  replace rA := rA.below hb22
  replace rB := rB.below hb22
  replace rq := rq.below hb22
  replace rr := rr.below hb22
  replace rn := rn.below hb22
  replace rC := rC.below hb22
  replace rs := rs.below hb22
  replace rD := rD.below hb22
  replace rE := rE.below hb22
  replace rF := rF.below hb22
  replace rG := rG.below hb22
  replace rH := rH.below hb22
  replace rI := rI.below hb22
  replace rJ := rJ.below hb22
  replace rK := rK.below hb22
  replace rL := rL.below hb22
  replace HT := HT.below hb22
  replace HB := HB.trans (hb22.mono HB.size)
  have K23 := Lib.hid (same_true _ _ _ cs _ 2 _ _ (w21.alloc (.cells #[.int .u32 0, .int .u32 7] 61)) rs rM (by first | omega | decide) (by first | omega | decide) rfl)
  go_wp2_with (go_at_call 19; refine K23.out.mono ?_)
  rintro e w23 ⟨rfl, hb23⟩
  replace rA := rA.below hb23
  replace rB := rB.below hb23
  replace rq := rq.below hb23
  replace rr := rr.below hb23
  replace rn := rn.below hb23
  replace rC := rC.below hb23
  replace rs := rs.below hb23
  replace rD := rD.below hb23
  replace rE := rE.below hb23
  replace rF := rF.below hb23
  replace rG := rG.below hb23
  replace rH := rH.below hb23
  replace rI := rI.below hb23
  replace rJ := rJ.below hb23
  replace rK := rK.below hb23
  replace rL := rL.below hb23
  replace rM := rM.below hb23
  replace HT := HT.below hb23
  replace HB := HB.trans (hb23.mono HB.size)
  go_wp2
  go_ret
  exact ⟨rfl, HB⟩
end Go.Proofs.YtmmlclgmehfmhaaDoor
