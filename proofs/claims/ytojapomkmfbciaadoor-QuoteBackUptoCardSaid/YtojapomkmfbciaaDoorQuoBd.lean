/-
  The walk of the law QuoteBack (chapter 5).
-/
import Derived.Test.YtojapomkmfbciaaDoorQuoBb
namespace Go.Proofs.YtojapomkmfbciaaDoor
open Go.RowKit

set_option maxHeartbeats 8000000 in
set_option maxRecDepth 100000 in
theorem quoteBack_walk (s : ByteArray) (A : Option Addr) (n cap : Nat) (more : List UInt8) (other : ByteArray) (w : World) (hT : Tabs w) (hs : s.size ≤ 1048576) (hR : RdB w A n more) (hn : n ≤ 1048576) (ho : other.size ≤ 1048576) :
    Calls Tryd.prog 6 #[.string s, .slice A n cap, .string other] w fun e w' => e = .returned (.bool true) ∧ Below w.heap.size w w' := by
  have HT := Lib.hid hT
  have HR := Lib.hid hR
  obtain ⟨ol, rfl⟩ : ∃ ol : List UInt8, other = ⟨ol.toArray⟩ := ⟨other.data.toList, rfl⟩
  have hol : ol.length ≤ 1048576 := ho
  obtain ⟨i0, hi, hz0, hz1, hz2⟩ := info_parts infoByte
  have hcl := clean_len s.data.toList
  rw [← Lib.size_eq] at hcl
  have hql := written_len false s
  have hal := written_len true s
  have hq0 : 0 < (writtenP false s.data.toList).length := by unfold writtenP; simp
  have ha0 : 0 < (writtenP true s.data.toList).length := by unfold writtenP; simp
  have hqb : bt (writtenP false s.data.toList) 0 = 34 := rfl
  have hab : bt (writtenP true s.data.toList) 0 = 34 := rfl
  have k0 := fun (W : World) (h : Tabs W) => quoShown_any W h
  have k1 := fun (W : World) (h : Tabs W) => utfClean_any s W h (by omega)
  have k2 := fun (W : World) (h : Tabs W) => quoQuote_any s W h (by omega)
  have k3 := fun (W : World) (h : Tabs W) => quoAscii_any s W h (by omega)
  have hrq := read_written false s.data.toList more
  have hra := read_written true s.data.toList more
  have hrq0 := read_written false s.data.toList []
  have hra0 := read_written true s.data.toList []
  rw [List.append_nil] at hrq0 hra0
  have hi1 := isP_written false s.data.toList (clean s.data.toList)
  have hi2 := isP_written true s.data.toList (clean s.data.toList)
  have hi3 := isP_written true s.data.toList ol
  rw [decide_eq_true rfl] at hi1 hi2
  have hwc := written_clean s.data.toList
  generalize hQ : writtenP false s.data.toList = q at k2 hrq hrq0 hql hq0 hqb hi1 hwc
  generalize hA : writtenP true s.data.toList = a at k3 hra hra0 hal ha0 hab hi2 hi3
  generalize clean s.data.toList = c at k1 hrq hra hrq0 hra0 hcl hi1 hi2 hi3 hwc
  clear hQ hA
  have hq9 : q.length ≤ 13000000 := by omega
  have ha9 : a.length ≤ 13000000 := by omega
  have hc9 : c.length ≤ 4194304 := by omega
  have r1 := fun (g cap : Nat) (W : World) (h : Tabs W) (hc : q.length + n ≤ cap) (hr : RdB W (some ⟨g, 0, none⟩) (q.length + n) (q ++ more)) => quoRead_any (some ⟨g, 0, none⟩) (q.length + n) cap (q ++ more) W h hr (by omega) hc
  have r2 := fun (g cap : Nat) (W : World) (h : Tabs W) (hc : a.length + n ≤ cap) (hr : RdB W (some ⟨g, 0, none⟩) (a.length + n) (a ++ more)) => quoRead_any (some ⟨g, 0, none⟩) (a.length + n) cap (a ++ more) W h hr (by omega) hc
  rw [readV_of _ _ _ _ hrq] at r1
  rw [readV_of _ _ _ _ hra] at r2
  have p1 := fun (W : World) (h : Tabs W) => is_conv W h q c (by omega) hq0 hqb (by omega) true hi1
  have p2 := fun (W : World) (h : Tabs W) => is_conv W h a c (by omega) ha0 hab (by omega) true hi2
  have p3 := fun (W : World) (h : Tabs W) => is_conv W h a ol (by omega) ha0 hab (by omega) _ hi3
  have p4 := fun (W : World) (h : Tabs W) => plain_conv W h q c (by omega) hq0 hrq0 (by omega) true (by rw [hwc, decide_eq_true rfl])
  have p5 := fun (W : World) (h : Tabs W) => plain_conv W h a c (by omega) ha0 hra0 (by omega) (decide (q = a)) (by rw [hwc])
  have z2 : ((0 : Nat) : Int) = 0 := rfl
  rw [z2] at r1 r2
  clear z2
  have K0 := Lib.hid k0
  have K1 := Lib.hid k1
  have K2 := Lib.hid k2
  have K3 := Lib.hid k3
  have R1 := Lib.hid r1
  have R2 := Lib.hid r2
  have P1 := Lib.hid p1
  have P2 := Lib.hid p2
  have P3 := Lib.hid p3
  have P4 := Lib.hid p4
  have P5 := Lib.hid p5
  have tq : ((q.length : Int) == (q.length : Int)) = true := by simp
  have ta : ((a.length : Int) == (a.length : Int)) = true := by simp
  clear hT hR k0 k1 k2 k3 r1 r2 p1 p2 p3 p4 p5 hrq hra hrq0 hra0 hi1 hi2 hi3 hwc hqb hab hql hal hcl ho hs
  go_enter Tryd.func6, Tryd.ntmps6
  go_wp2_with (go_at_call 11; refine (K0.out _ HT.out).mono ?_)
  rintro e w1 ⟨rfl, c1⟩
  go_wp2_with (go_at_call 17; refine (K1.out _ (HT.out.below c1 (Nat.le_refl _))).mono ?_)
  rintro e w2 ⟨rfl, b2⟩
  have c2 := c1.trans (b2.mono c1.size)
  go_wp2_with (go_at_call 12; refine (K2.out _ (HT.out.below c2 (Nat.le_refl _))).mono ?_)
  rintro e w3 ⟨rfl, b3⟩
  have c3 := c2.trans (b3.mono c2.size)
  go_wp2_with (go_at_call 14; refine (K3.out _ (HT.out.below c3 (Nat.le_refl _))).mono ?_)
  rintro e w4 ⟨rfl, b4⟩
  have c4 := c3.trans (b4.mono c3.size)
  have v5 := conv_run w4 q
  have y5 := c4.trans ((bytes_below w4 q).mono c4.size)
  go_wp2_with (at_builtin; refine wpList_append_conv _ rfl _ _ 26 5 rfl w4.heap.size i0 (.int .u8 0) Tryd.underlying26 hi hz0 hz1 hz2 rfl _ q more A n cap rfl rfl (conv_str w4 q (by unfold maxLen; omega)) (HR.out.below y5) (by omega) (by rw [Lib.bytesWorld_size]; omega) ?_)
  intro g5 cap5 u5 hc5 hr5 hb5
  have x5 : Below w.heap.size w u5 := y5.trans (hb5.mono c4.size)
  clear v5
  go_wp2_with (go_at_call 15; refine (R1.out g5 cap5 _ (HT.out.below x5 (Nat.le_refl _)) hc5 hr5).mono ?_)
  rintro e w5 ⟨rfl, b5⟩
  have c5 := x5.trans (b5.mono x5.size)
  clear hr5
  have v6 := conv_run w5 a
  have y6 := c5.trans ((bytes_below w5 a).mono c5.size)
  go_wp2_with (at_builtin; refine wpList_append_conv _ rfl _ _ 26 5 rfl w5.heap.size i0 (.int .u8 0) Tryd.underlying26 hi hz0 hz1 hz2 rfl _ a more A n cap rfl rfl (conv_str w5 a (by unfold maxLen; omega)) (HR.out.below y6) (by omega) (by rw [Lib.bytesWorld_size]; omega) ?_)
  intro g6 cap6 u6 hc6 hr6 hb6
  have x6 : Below w.heap.size w u6 := y6.trans (hb6.mono c5.size)
  clear v6
  go_wp2_with (go_at_call 15; refine (R2.out g6 cap6 _ (HT.out.below x6 (Nat.le_refl _)) hc6 hr6).mono ?_)
  rintro e w6 ⟨rfl, b6⟩
  have c6 := x6.trans (b6.mono x6.size)
  clear hr6
  have v7 := conv_run w6 q
  go_wp2_with (go_at_call 18; refine (P1.out w6 (HT.out.below c6 (Nat.le_refl _))).mono ?_)
  rintro e w7 ⟨rfl, b7⟩
  have c7 := c6.trans (b7.mono c6.size)
  clear v7
  have v8 := conv_run w7 a
  go_wp2_with (go_at_call 18; refine (P2.out w7 (HT.out.below c7 (Nat.le_refl _))).mono ?_)
  rintro e w8 ⟨rfl, b8⟩
  have c8 := c7.trans (b8.mono c7.size)
  clear v8
  have v9 := conv_run w8 a
  go_wp2_with (go_at_call 18; refine (P3.out w8 (HT.out.below c8 (Nat.le_refl _))).mono ?_)
  rintro e w9 ⟨rfl, b9⟩
  have c9 := c8.trans (b9.mono c8.size)
  clear v9
  have e9 : (decide (ol = c) == (ol == c)) = true := by
    by_cases h : ol = c
    · subst h; simp
    · rw [decide_eq_false h, beq_false_of_ne h]; rfl
  have v10 := conv_run w9 q
  go_wp2_with (go_at_call 19; refine (P4.out w9 (HT.out.below c9 (Nat.le_refl _))).mono ?_)
  rintro e w10 ⟨rfl, b10⟩
  have c10 := c9.trans (b10.mono c9.size)
  clear v10
  have v11 := conv_run w10 a
  go_wp2_with (go_at_call 19; refine (P5.out w10 (HT.out.below c10 (Nat.le_refl _))).mono ?_)
  rintro e w11 ⟨rfl, b11⟩
  have c11 := c10.trans (b11.mono c10.size)
  clear v11
  have e11 : (decide (q = a) == (a == q)) = true := by
    by_cases h : q = a
    · subst h; simp
    · rw [decide_eq_false h, beq_false_of_ne (fun e => h e.symm)]; rfl
  go_wp2
  go_ret
  exact ⟨rfl, c11⟩

end Go.Proofs.YtojapomkmfbciaaDoor
