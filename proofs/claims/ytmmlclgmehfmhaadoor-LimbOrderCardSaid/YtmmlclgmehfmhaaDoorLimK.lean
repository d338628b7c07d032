/-
  The walks of sort.Search and of DivMod's closure.
-/
import Derived.Test.YtmmlclgmehfmhaaDoorLimJ
import Derived.Deep.RegionHeld3
import Derived.Test.YtmmlclgmehfmhaaDoorNum5
namespace Go.Proofs.YtmmlclgmehfmhaaDoor
open Go.RowKit

set_option maxHeartbeats 1000000 in
set_option maxRecDepth 100000 in
theorem search_any (K : FuncId) (caps : Array Value) (n t : Nat) (w : World) (hn : n ≤ 1000000000) (ht : t ≤ n)
    (eK : ∀ args w, (callFunc K args).run Tryd.prog w = .ok (.enter K args) w)
    (hK : ∀ (w' : World) (i : Nat), i < n → Below w.heap.size w w' → Calls Tryd.prog K (#[.int .i64 i] ++ caps) w' fun e w2 => e = .returned (.bool (decide (t ≤ i))) ∧ Below w'.heap.size w' w2) :
    Calls Tryd.prog 42 #[.int .i64 n, .func (.func K) #[] caps] w fun e w' => e = .returned (.int .i64 t) ∧ Below w.heap.size w w' := by
  have HK := Lib.hid hK
  have EK := Lib.hid eK
  clear hK eK
  go_enter Tryd.func42, Tryd.ntmps42
  go_wp2
  go_loopw [5, 6] (fun s5 s6 wr => ∃ lo hi : Nat, s5 = .int .i64 lo ∧ s6 = .int .i64 hi ∧ lo ≤ t ∧ t ≤ hi ∧ hi ≤ n ∧ Below w.heap.size w wr) (fun s5 s6 _ => (intOf s6).toNat - (intOf s5).toNat)
  case atStart => exact ⟨0, n, rfl, rfl, Nat.zero_le _, ht, Nat.le_refl _, Below.refl _ _⟩
  case round =>
    obtain ⟨lo, hi, rfl, rfl, h1, h2, h3, hb⟩ := hrel
    by_cases hlt : lo < hi
    · have hc := HK.out wr ((lo + hi) / 2) (by omega) hb
      rw [show (((lo + hi) / 2 : Nat) : Int) = ((lo : Int) + (hi : Int)) / 2 by omega] at hc
      have e1 := EK.out
      by_cases hp : t ≤ (lo + hi) / 2
      · rw [decide_eq_true hp] at hc
        have HC := Lib.hid hc
        have HP := Lib.hid hp
        clear hc hp
        go_wp2_with (go_at_fn K; refine HC.out.mono ?_)
        rintro e w1 ⟨rfl, hb1⟩
        go_wp2
        go_roundw
        case rel => exact ⟨lo, (lo + hi) / 2, rfl, by go_num, h1, HP.out, by omega, hb.trans (hb1.mono hb.size)⟩
        case measure => simp [intOf]; omega
      · rw [decide_eq_false hp] at hc
        have HC := Lib.hid hc
        have HP := Lib.hid hp
        clear hc hp
        go_wp2_with (go_at_fn K; refine HC.out.mono ?_)
        rintro e w1 ⟨rfl, hb1⟩
        go_wp2
        go_roundw
        case rel => exact ⟨(lo + hi) / 2 + 1, hi, by go_num, rfl, by have := HP.out; omega, h2, h3, hb.trans (hb1.mono hb.size)⟩
        case measure => simp [intOf]; omega
    · obtain rfl : lo = t := by omega
      go_wp2
      go_ret
      exact ⟨rfl, hb⟩

theorem enters43 : ∀ args w, (callFunc 43 args).run Tryd.prog w = .ok (.enter 43 args) w := enters_of Tryd.func43 (by kernel_rfl) rfl

theorem digs_mul_len (y m n : Nat) (hy : (digs 1000000000 y).length ≤ n) (hm : m ≤ 1000000000) : (digs 1000000000 (y * m)).length ≤ n + 1 := by
  rw [← digs_len 1000000000 (by omega)] at *
  rw [Nat.pow_succ]
  have hp : 0 < 1000000000 ^ n := Nat.pow_pos (by omega)
  calc y * m ≤ y * 1000000000 := Nat.mul_le_mul_left _ hm
    _ < 1000000000 ^ n * 1000000000 := Nat.mul_lt_mul_of_pos_right hy (by omega)

theorem cmpN_pos (a b : Nat) : decide (cmpN a b > 0) = decide (b < a) := by
  unfold cmpN
  by_cases h : a < b
  · rw [if_pos h, decide_eq_false (by omega), decide_eq_false (by omega)]
  · rw [if_neg h]
    by_cases h2 : b < a
    · rw [if_pos h2, decide_eq_true h2]; rfl
    · rw [if_neg h2, decide_eq_false h2]; rfl

set_option maxHeartbeats 1000000 in
set_option maxRecDepth 100000 in
theorem dm1_any (A A2 : Option Addr) (n cap n2 cap2 y R : Nat) (b b2 i : Nat) (w : World) (hR : RdN .u32 w A n (digs 1000000000 y)) (hR2 : RdN .u32 w A2 n2 (digs 1000000000 R)) (hn : n ≤ 549755813889) (hn2 : n2 ≤ 549755813890) (hi : i ≤ 1000000000)
    (hb : w.cell? ⟨b, 0, none⟩ = some (.slice A n cap)) (hb2 : w.cell? ⟨b2, 0, none⟩ = some (.slice A2 n2 cap2)) (hbl : b < w.heap.size) (hbl2 : b2 < w.heap.size) :
    Calls Tryd.prog 43 #[.int .i64 i, .pointer (some ⟨b, 0, none⟩), .pointer (some ⟨b2, 0, none⟩)] w fun e w' => e = .returned (.bool (decide (R < y * i))) ∧ Below w.heap.size w w' := by
  have k1 := fun (u : World) (hu : Below w.heap.size w u) => times_any A n cap (digs 1000000000 y) i u (hR.below hu) (by omega) (digs_u32 y) (by omega)
  simp only [val_digs 1000000000 (show 2 ≤ 1000000000 by omega)] at k1
  have hlen := digs_mul_len y i n (Nat.le_of_eq hR.1) hi
  have K1 := Lib.hid k1
  have K2 := Lib.hid (fun (w1 : World) (B1 : Option Addr) (n1 c1 : Nat) (h1 : RdN .u32 w1 B1 n1 (digs 1000000000 (y * i))) (hb1 : Below w.heap.size w w1) => order_any (y * i) R B1 A2 n1 c1 n2 cap2 w1 h1 (hR2.below hb1) (by rw [← h1.1]; have := hR.1; omega) (by omega))
  have KC := Lib.hid (cmpN_pos (y * i) R)
  have HBD := Lib.hid (below_drew0 w)
  clear hR hR2 k1 hlen
  generalize cmpN (y * i) R = C at *
  generalize decide (R < y * i) = r at *
  go_enter Tryd.func43, Tryd.ntmps43
  go_wp2
  have hw1 : IntKind.u64.wrap (i : Int) = i := by rw [IntKind.wrap_u64]; omega
  go_region_held3 (fun w' => Below w.heap.size w w' ∧ w'.cell? ⟨b, 0, none⟩ = some (.slice A n cap) ∧ w'.cell? ⟨b2, 0, none⟩ = some (.slice A2 n2 cap2))
    (first | exact ⟨(Below.refl _ w).drew, hb, hb2⟩ | exact ⟨hB2, hd1, hd2⟩ | exact ⟨hB1, hc1, hc2⟩)
    (first
      | (go_at_call 45; refine (K1.out w.drew (Below.refl _ w).drew).mono ?_; rintro e w1 ⟨v, rfl, hown, hb1⟩; obtain ⟨B1, c1, rfl, hcap1, hrd1, hge1⟩ := hown.rd; have hB1 := (Below.refl w.heap.size w).drew.trans hb1; have hc1 := (hb1.cell (p := ⟨b, 0, none⟩) hbl).trans hb; have hc2 := (hb1.cell (p := ⟨b2, 0, none⟩) hbl2).trans hb2)
      | (go_at_call 44; refine (K2.out _ _ _ _ hrd1 hB1).mono ?_; rintro e w2 ⟨rfl, hb3⟩; have hB2 := hB1.trans (hb3.mono hB1.size); have hd1 := (hB2.cell (p := ⟨b, 0, none⟩) hbl).trans hb; have hd2 := (hB2.cell (p := ⟨b2, 0, none⟩) hbl2).trans hb2))
  all_goals go_wp2
  all_goals go_ret
  all_goals exact ⟨by rw [← KC.out]; rfl, hB2⟩
end Go.Proofs.YtmmlclgmehfmhaaDoor
