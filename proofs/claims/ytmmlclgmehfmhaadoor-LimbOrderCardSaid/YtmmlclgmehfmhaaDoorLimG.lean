/-
  The walks of limb's Cmp, less, Sub.
-/
import Derived.Test.YtmmlclgmehfmhaaDoorLimF
namespace Go.Proofs.YtmmlclgmehfmhaaDoor
open Go.RowKit

theorem digs_u32 (x : Nat) : ∀ y ∈ digs 1000000000 x, y < 4294967296 := fun y hy => by have := digs_lt 1000000000 (by omega) x y hy; omega

theorem val_u32 (l : List Nat) (hl : ∀ x ∈ l, x < 4294967296) : val 1000000000 l + 5 ≤ 5 * 1000000000 ^ l.length := by
  induction l with
  | nil => simp [val]
  | cons x l ih =>
    have h1 := hl x (by simp)
    have h2 := ih (fun y hy => hl y (by simp [hy]))
    simp only [val, List.length_cons, Nat.pow_succ]
    generalize 1000000000 ^ l.length = q at h2
    generalize val 1000000000 l = v at h2
    omega
theorem digs_val_len (l : List Nat) (hl : ∀ x ∈ l, x < 4294967296) : (digs 1000000000 (val 1000000000 l)).length ≤ l.length + 1 := by
  rw [← digs_len 1000000000 (by omega)]
  have := val_u32 l hl
  rw [Nat.pow_succ]
  generalize 1000000000 ^ l.length = q at this
  omega

/-- a fresh row of noughts -/
theorem OwnN.made (n : Nat) (w : World) (hn : n ≤ maxLen) : OwnN .u32 61 w.heap.size (w.alloc (.cells (madeCells #[.int .u32 0] n) 61)) (.slice (some ⟨w.heap.size, 0, none⟩) n n) (List.replicate n 0) := by
  unfold OwnN
  rw [List.length_replicate]
  refine ⟨by simp [nums], .inr ⟨w.heap.size, n, madeCells #[.int .u32 0] n, rfl, Nat.le_refl _, by rw [World.alloc]; exact Array.getElem?_push_size, Nat.le_refl _, hn, by simp [madeCells], ?_⟩⟩
  apply List.ext_getElem
  · simp [nums, madeCells]
  · intro i h1 h2
    simp [nums, madeCells, Nat.mod_one]

/-- the state of a long subtraction at a place -/
def Bor (l m : List Nat) (k b : Nat) (acc : List Nat) : Prop := acc.length = k ∧ (∀ x ∈ acc, x < 1000000000) ∧ val 1000000000 (l.take k) + 1000000000 ^ k * b = val 1000000000 acc + val 1000000000 (m.take k)
theorem Bor.step {l m : List Nat} {k b : Nat} {acc : List Nat} (h : Bor l m k b acc) (hx : l.getD k 0 < 1000000000) (hy : m.getD k 0 < 1000000000) (hb : b ≤ 1) :
    Bor l m (k + 1) (1 - (l.getD k 0 + 1000000000 - m.getD k 0 - b) / 1000000000) (acc ++ [(l.getD k 0 + 1000000000 - m.getD k 0 - b) % 1000000000]) := by
  obtain ⟨h1, h2, h3⟩ := h
  refine ⟨by simp [h1], ?_, ?_⟩
  · intro x hx
    rw [List.mem_append] at hx
    rcases hx with hx | hx
    · exact h2 x hx
    · simp at hx; subst hx; exact Nat.mod_lt _ (by omega)
  · rw [val_take_succ, val_take_succ, val_snoc, h1, Nat.pow_succ]
    generalize l.getD k 0 = x at hx
    generalize m.getD k 0 = y at hy
    generalize hz : x + 1000000000 - y - b = z
    have hz2 : z + y + b = x + 1000000000 := by omega
    generalize 1000000000 ^ k = q at h3
    have e1 : q * 1000000000 * (1 - z / 1000000000) + q * x = q * (z % 1000000000) + q * y + q * b := by
      have hzz : z = 1000000000 * (z / 1000000000) + z % 1000000000 := (Nat.div_add_mod z 1000000000).symm
      have hd : z / 1000000000 ≤ 1 := by omega
      rw [Nat.mul_assoc, ← Nat.mul_add, ← Nat.mul_add, ← Nat.mul_add]
      congr 1
      omega
    omega
theorem Bor.done {l m : List Nat} {n b : Nat} {acc : List Nat} (h : Bor l m n b acc) (hl : l.length ≤ n) (hm : m.length ≤ n) (hle : val 1000000000 m ≤ val 1000000000 l) : trimL acc = digs 1000000000 (val 1000000000 l - val 1000000000 m) := by
  obtain ⟨h1, h2, h3⟩ := h
  rw [List.take_of_length_le hl, List.take_of_length_le hm] at h3
  have h4 := val_lt 1000000000 acc h2
  rw [h1] at h4
  rw [trimL_digs 1000000000 (by omega) acc h2]
  congr 1
  rcases Nat.eq_zero_or_pos b with h0 | h0
  · subst h0; omega
  · have : 1000000000 ^ n * 1 ≤ 1000000000 ^ n * b := Nat.mul_le_mul_left _ h0
    omega

set_option maxHeartbeats 1000000 in
set_option maxRecDepth 100000 in
theorem cmp_any (A A2 : Option Addr) (n cap n2 cap2 : Nat) (l l2 : List Nat) (w : World) (hR : RdN .u32 w A n l) (hR2 : RdN .u32 w A2 n2 l2) (hn : n ≤ 1099511627776) (hn2 : n2 ≤ 1099511627776) (hl : ∀ x ∈ l, x < 4294967296) (hl2 : ∀ x ∈ l2, x < 4294967296)
    (hd : (digs 1000000000 (val 1000000000 l)).length ≤ 1099511627776) (hd2 : (digs 1000000000 (val 1000000000 l2)).length ≤ 1099511627776) :
    Calls Tryd.prog 26 #[.slice A n cap, .slice A2 n2 cap2] w fun e w' => e = .returned (.int .i64 (cmpN (val 1000000000 l) (val 1000000000 l2))) ∧ Below w.heap.size w w' := by
  have K1 := Lib.hid (norm_any A n cap l w hR hn hl)
  have K2 := Lib.hid (fun u hu => norm_any A2 n2 cap2 l2 u (hR2.below hu) hn2 hl2)
  have HD := Lib.hid hd
  have HD2 := Lib.hid hd2
  clear hR hR2 hl hl2 hd hd2
  generalize val 1000000000 l = x at *
  generalize val 1000000000 l2 = y at *
  generalize hc : cmpN x y = C
  have HC := Lib.hid hc
  clear hc
  go_enter Tryd.func26, Tryd.ntmps26
  go_wp2_with (go_at_call 23; refine K1.out.mono ?_)
  rintro e w1 ⟨v1, rfl, hown1, hb1⟩
  obtain ⟨B1, c1, rfl, hcap1, hrd1, hge1⟩ := hown1.rd
  have K3 := Lib.hid (K2.out w1 hb1)
  go_wp2_with (go_at_call 23; refine K3.out.mono ?_)
  rintro e w2 ⟨v2, rfl, hown2, hb2⟩
  obtain ⟨B2, c2, rfl, hcap2, hrd2, hge2⟩ := hown2.rd
  have K4 := Lib.hid (order_any x y B1 B2 _ c1 _ c2 w2 (hrd1.below hb2) hrd2 HD.out HD2.out)
  go_wp2_with (go_at_call 44; refine K4.out.mono ?_)
  rintro e w3 ⟨rfl, hb3⟩
  go_wp2
  go_ret
  exact ⟨by rw [← HC.out]; rfl, (hb1.trans (hb2.mono hb1.size)).trans (hb3.mono (by have := hb1.size; have := hb2.size; omega))⟩
end Go.Proofs.YtmmlclgmehfmhaaDoor
