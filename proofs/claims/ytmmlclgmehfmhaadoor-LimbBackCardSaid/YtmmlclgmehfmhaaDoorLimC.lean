/-
  The walk of limb's carried, whatever function it is handed.
-/
import Derived.Test.YtmmlclgmehfmhaaDoorLimB
import Derived.Shelf.Abstract
namespace Go.Proofs.YtmmlclgmehfmhaaDoor
open Go.RowKit

theorem carry_step (X q S c s m : Nat) (h : X + q * c = S) : X + q * ((c + s) % m) + q * m * ((c + s) / m) = S + q * s := by
  have h1 : q * ((c + s) % m) + q * m * ((c + s) / m) = q * (c + s) := by
    rw [Nat.mul_assoc, ← Nat.mul_add, Nat.mod_add_div]
  have h2 : q * (c + s) = q * c + q * s := Nat.mul_add ..
  omega

/-- the state of carried's sums at a place -/
def Car (s : Nat → Nat) (k c : Nat) (acc : List Nat) : Prop := acc.length = k ∧ (∀ x ∈ acc, x < 1000000000) ∧ val 1000000000 acc + 1000000000 ^ k * c = sumTo s 1000000000 k

theorem Car.step {s : Nat → Nat} {k c : Nat} {acc : List Nat} (h : Car s k c acc) : Car s (k + 1) ((c + s k) / 1000000000) (acc ++ [(c + s k) % 1000000000]) := by
  obtain ⟨h1, h2, h3⟩ := h
  refine ⟨by simp [h1], ?_, ?_⟩
  · intro x hx
    rw [List.mem_append] at hx
    rcases hx with hx | hx
    · exact h2 x hx
    · simp at hx; subst hx; exact Nat.mod_lt _ (by omega)
  · rw [val_snoc, h1, sumTo, Nat.pow_succ]
    exact carry_step _ _ _ _ _ _ h3

/-- the state behind them -/
def Car2 (S c : Nat) (acc : List Nat) : Prop := (∀ x ∈ acc, x < 1000000000) ∧ val 1000000000 acc + 1000000000 ^ acc.length * c = S
theorem Car2.step {S c : Nat} {acc : List Nat} (h : Car2 S c acc) : Car2 S (c / 1000000000) (acc ++ [c % 1000000000]) := by
  obtain ⟨h2, h3⟩ := h
  refine ⟨?_, ?_⟩
  · intro x hx
    rw [List.mem_append] at hx
    rcases hx with hx | hx
    · exact h2 x hx
    · simp at hx; subst hx; exact Nat.mod_lt _ (by omega)
  · rw [val_snoc, List.length_append, List.length_singleton, Nat.pow_succ]
    have := carry_step (val 1000000000 acc) (1000000000 ^ acc.length) S c 0 1000000000 h3
    simpa using this
theorem Car.two {s : Nat → Nat} {k c : Nat} {acc : List Nat} (h : Car s k c acc) : Car2 (sumTo s 1000000000 k) c acc := ⟨h.2.1, by rw [h.1]; exact h.2.2⟩
theorem Car2.done {S : Nat} {acc : List Nat} (h : Car2 S 0 acc) : trimL acc = digs 1000000000 S := by
  have := h.2
  rw [Nat.mul_zero, Nat.add_zero] at this
  rw [← this]
  exact trimL_digs _ (by omega) _ h.1

theorem OwnN.snoc_of {k : IntKind} {E : TypeId} {base m : Nat} {w : World} {v : Value} {l : List Nat} {x : Nat} (h : w.ownsRow base E 1 v (m + 1) (nums k l ++ [.int k (x : Int)])) (hm : m = l.length) : OwnN k E base w v (l ++ [x]) := by
  unfold OwnN
  rw [← nums_append, List.length_append]
  subst hm
  exact h

set_option maxHeartbeats 1000000 in
set_option maxRecDepth 100000 in
theorem carried_any (n : Nat) (K : FuncId) (caps : Array Value) (s : Nat → Nat) (w : World) (hn : n ≤ 1099511627776)
    (eK : ∀ args w, (callFunc K args).run Tryd.prog w = .ok (.enter K args) w)
    (hs : ∀ i, i < n → s i < 18446744073709551616 ∧ (0 < i → s i ≤ 9223372036854775808))
    (hK : ∀ (w' : World) (i : Nat), i < n → Below w.heap.size w w' → Calls Tryd.prog K (#[.int .i64 i] ++ caps) w' fun e w2 => e = .returned (.int .u64 (s i : Nat)) ∧ Below w'.heap.size w' w2) :
    Calls Tryd.prog 51 #[.int .i64 n, .func (.func K) #[] caps] w fun e w' => IsNum (sumTo s 1000000000 n) w w' e := by
  obtain ⟨i0, hi, hz0, hz1, hz2⟩ := info_parts info_u32
  have HS := Lib.hid hs
  have HK := Lib.hid hK
  have EK := Lib.hid eK
  clear hs hK eK
  obtain ⟨wm, hmk, hownm, hgrm⟩ := run_make_own (P := Tryd.prog) w w.heap.size 22 61 i0 (.int .u32 0) 1 Tryd.underlying22 hi hz0 hz1 .i64 .i64 (n + 2) (by rw [hz2]; omega) (by unfold maxLen; omega) (Nat.le_refl _)
  have hbm : Below w.heap.size w wm := (Below.refl _ w).grown hgrm (Nat.le_refl _) (fun j hj => by cases hj)
  simp only [Int.natCast_add, Int.cast_ofNat_Int] at hmk
  have hszm := hbm.size
  go_enter Tryd.func51, Tryd.ntmps51
  go_wp2
  go_loopw [5, 6, 12] (fun v cv a wr => ∃ (k c : Nat) (acc : List Nat), k ≤ n ∧ a = .int .i64 k ∧ cv = .int .u64 c ∧ c ≤ 18446744073 ∧ (k = 0 → c = 0) ∧ OwnN .u32 61 w.heap.size wr v acc ∧ acc.length = k ∧ Hid (Car s k c acc) ∧ Below w.heap.size w wr) (fun _ _ a _ => n - (intOf a).toNat)
  case atStart => exact ⟨0, 0, [], Nat.zero_le _, rfl, rfl, by omega, fun _ => rfl, hownm, rfl, ⟨rfl, by simp, by simp [val, sumTo]⟩, hbm⟩
  case round =>
    obtain ⟨k, c, acc, hk, rfl, rfl, hc, hc0, hown, hal, hcar, hb⟩ := hrel
    have hsz0 := hb.size
    by_cases hlt : k < n
    · have hs2 := HS.out k hlt
      have hsum : c + s k < 18446744073709551616 := by
        by_cases h0 : k = 0
        · have := hc0 h0; omega
        · have := hs2.2 (by omega); omega
      have HC := Lib.hid hcar.out.step
      have HK1 := Lib.hid (HK.out wr k hlt hb)
      have e1 := EK.out
      generalize s k = x at hs2 hsum HC HK1
      go_wp2_with (go_at_fn K; refine HK1.out.mono ?_)
      rintro e w1 ⟨rfl, hb1⟩
      have hsz1 := hb1.size
      have hown1 := hown.below hb1
      go_wp2_with (at_builtin; refine wpList_append_own _ rfl _ _ 22 rfl w.heap.size 61 i0 (.int .u32 0) 1 4 Tryd.underlying22 hi hz0 hz1 hz2 rfl (by decide) _ _ _ rfl (hown1.alloc _) ⟨w1.heap.size, 0, none⟩ 1 1 [.int .u32 (((c : Int) + x) % 1000000000)] rfl rfl ?c1 ?c2 ?c3 ?c4 ?c5 ?_)
      case c1 => exact cell_one_new _ _ _
      case c2 => intro u hu; simp at hu; subst hu; rfl
      case c3 => unfold maxLen; omega
      case c4 => omega
      case c5 => simp; omega
      intro v' w2 hown' hgrow _
      go_wp2
      go_roundw
      case rel =>
        refine ⟨k + 1, (c + x) / 1000000000, acc ++ [(c + x) % 1000000000], by omega, by go_num, by go_num, by omega, by omega, ?_, by simp [hal], HC.out, ?_⟩
        · have hy : ((c : Int) + x) % 1000000000 = (((c + x) % 1000000000 : Nat) : Int) := by omega
          rw [hy] at hown'
          exact OwnN.snoc_of hown' (by omega)
        · exact ((hb.trans (hb1.mono hb.size)).alloc (by omega) _).grown hgrow (by simp; omega) (fun j hj => (hown1.lt j hj).1)
      case measure => simp [intOf]; omega
    · have hkn : k = n := by omega
      subst hkn
      have hcar2 := Lib.hid hcar.out.two
      clear hcar
      go_wp2
      go_loopw [5, 6] (fun v cv wr => ∃ (c : Nat) (acc : List Nat), cv = .int .u64 c ∧ (c ≤ 18446744073 ∧ acc.length = k ∨ c ≤ 18 ∧ acc.length = k + 1 ∨ c = 0 ∧ acc.length = k + 2) ∧ OwnN .u32 61 w.heap.size wr v acc ∧ Hid (Car2 (sumTo s 1000000000 k) c acc) ∧ Below w.heap.size w wr) (fun _ cv _ => (intOf cv).toNat)
      case atStart => exact ⟨c, acc, rfl, .inl ⟨hc, hal⟩, hown, hcar2, hb⟩
      case round =>
        clear hown hal hcar2 hc hc0 hb
        obtain ⟨c, acc, rfl, hc, hown, hcar, hb⟩ := hrel
        have hsz2 := hb.size
        by_cases h0 : 0 < c
        · have HC := Lib.hid hcar.out.step
          have hlen : acc.length ≤ k + 2 := by omega
          go_wp2_with (at_builtin; refine wpList_append_own _ rfl _ _ 22 rfl w.heap.size 61 i0 (.int .u32 0) 1 4 Tryd.underlying22 hi hz0 hz1 hz2 rfl (by decide) _ _ _ rfl (hown.alloc _) ⟨_, 0, none⟩ 1 1 [.int .u32 ((c : Int) % 1000000000)] rfl rfl ?c1 ?c2 ?c3 ?c4 ?c5 ?_)
          case c1 => exact cell_one_new _ _ _
          case c2 => intro u hu; simp at hu; subst hu; rfl
          case c3 => unfold maxLen; omega
          case c4 => omega
          case c5 => simp; omega
          intro v' w2 hown' hgrow _
          go_wp2
          go_roundw
          case rel =>
            refine ⟨c / 1000000000, acc ++ [c % 1000000000], by go_num, by simp; omega, ?_, HC.out, ?_⟩
            · have hy : (c : Int) % 1000000000 = ((c % 1000000000 : Nat) : Int) := by omega
              rw [hy] at hown'
              exact OwnN.snoc_of hown' (by omega)
            · exact (hb.alloc (by omega) _).grown hgrow (by simp; omega) (fun j hj => (hown.lt j hj).1)
          case measure => simp [intOf]; omega
        · obtain rfl : c = 0 := by omega
          have HT := Lib.hid hcar.out.done
          obtain ⟨A, cap, rfl, hcap, hrd, hge⟩ := hown.rd
          have K1 := Lib.hid (trim_any A acc.length cap acc _ hrd hcap (by omega))
          go_wp2_with (go_at_call 41; refine K1.out.mono ?_)
          go_ret
          refine ⟨_, rfl, ?_, hb⟩
          have := hown.trim
          rw [HT.out] at this
          rw [HT.out]
          exact this
end Go.Proofs.YtmmlclgmehfmhaaDoor
