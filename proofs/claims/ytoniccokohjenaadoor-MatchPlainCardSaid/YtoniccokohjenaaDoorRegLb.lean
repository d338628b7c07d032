/-
  The walks of Same, sound, Depth, SameTexts (chapter 18).
-/
import Derived.Test.YtoniccokohjenaaDoorRegLa
import Derived.Test.YtoniccokohjenaaDoorRegSm
namespace Go.Proofs.YtoniccokohjenaaDoor
open Go.RowKit

abbrev KT (w : World) (t : Rx) (A : Option Addr) (c : Nat) : Prop := KX (fun _ => True) w t (.slice A t.kids.length c)
/-- the parts of a part, one by one -/
theorem KT.kid {w : World} {t : Rx} {A : Option Addr} {c : Nat} (h : KT w t A c) (hne : t.kids ≠ []) : ∃ q o, A = some ⟨q, o, none⟩ ∧ ∀ i k, t.kids[i]? = some k → ∃ A' c', w.rangeAt q (o + i * 10) (rxCells k (.slice A' k.kids.length c')) ∧ KT w k A' c' := by
  obtain ⟨q, o, cap, e, _, _, hv⟩ := h.view hne
  injection e with e _ _
  refine ⟨q, o, e, fun i k hi => ?_⟩
  obtain ⟨A', n, c', h1, rfl, h2⟩ := hv i k hi
  exact ⟨A', c', h1, h2⟩

theorem KT.caps {w : World} {t : Rx} {A : Option Addr} {c : Nat} (h : KT w t A c) (hne : t.kids ≠ []) : t.kids.length ≤ c ∧ c ≤ maxLen := by
  obtain ⟨n, h⟩ := h
  cases n with
  | zero => exact absurd h.1 hne
  | succ n =>
    obtain ⟨A', cap, e, hcp, _⟩ := h
    injection e with _ _ e
    subst e
    exact hcp hne
theorem rx_at {w : World} {q o : Nat} {k : Rx} {A : Option Addr} {c : Nat} (h : w.rangeAt q o (rxCells k (.slice A k.kids.length c))) : w.cell? ⟨q, o, none⟩ = some (.int .i64 (k.kind : Int)) ∧ w.cell? ⟨q, o + 1, none⟩ = some (.int .i64 k.rune) ∧ w.cell? ⟨q, o + 2, none⟩ = some (.int .i64 k.to) ∧ w.cell? ⟨q, o + 3, none⟩ = some (.slice A k.kids.length c) ∧ w.cell? ⟨q, o + 4, none⟩ = some (.int .i64 k.min) ∧ w.cell? ⟨q, o + 5, none⟩ = some (.int .i64 k.max) ∧ w.cell? ⟨q, o + 6, none⟩ = some (.bool k.lazy) ∧ w.cell? ⟨q, o + 7, none⟩ = some (.bool k.not) ∧ w.cell? ⟨q, o + 8, none⟩ = some (.int .i64 (k.group : Int)) ∧ w.cell? ⟨q, o + 9, none⟩ = some (.string ⟨k.name.toArray⟩) :=
  ⟨h 0 _ rfl, h 1 _ rfl, h 2 _ rfl, h 3 _ rfl, h 4 _ rfl, h 5 _ rfl, h 6 _ rfl, h 7 _ rfl, h 8 _ rfl, h 9 _ rfl⟩
mutual
theorem soundR_le : ∀ (x : Rx) (k : Nat), k ≤ (soundR x k).2
  | .mk kind rune tt kids min max z n g nm, k => by
    rw [soundR]
    split
    · exact Nat.le_refl _
    split
    · split
      · exact Nat.le_refl _
      · exact Nat.le_trans (Nat.le_succ k) (soundsR_le kids (k + 1))
    · exact soundsR_le kids k
theorem soundsR_le : ∀ (xs : List Rx) (k : Nat), k ≤ (soundsR xs k).2
  | [], k => Nat.le_refl _
  | x :: xs, k => by
    rw [soundsR]
    split
    · exact Nat.le_trans (soundR_le x k) (soundsR_le xs _)
    · exact soundR_le x k
end
theorem Snds.le {xs : List Rx} {k k' : Nat} (h : Snds xs k k') : k ≤ k' := by have := soundsR_le xs k; rw [show soundsR xs k = (true, k') from h] at this; exact this
theorem Snds.uncons {x : Rx} {xs : List Rx} {k k' : Nat} (h : Snds (x :: xs) k k') : ∃ a, Snd x k a ∧ Snds xs a k' := by
  unfold Snds at h; rw [soundsR] at h
  split at h
  · rename_i h1
    exact ⟨(soundR x k).2, Prod.ext h1 rfl, h⟩
  · injection h with h1 _; cases h1
theorem Snd.facts {t : Rx} {k k' : Nat} (h : Snd t k k') : t.kind ≤ 12 ∧ (t.kind = 8 → t.kids.length = 1 ∧ 0 ≤ t.min ∧ -1 ≤ t.max ∧ (0 ≤ t.max → t.min ≤ t.max)) ∧ (t.kind = 4 → t.rune ≤ t.to) ∧ ∃ k1, (t.kind = 9 → t.group = k ∧ t.kids.length = 1 ∧ k1 = k + 1) ∧ (t.kind ≠ 9 → k1 = k) ∧ Snds t.kids k1 k' := by
  obtain ⟨kind, rune, tt, kids, min, max, z, n, g, nm⟩ := t
  unfold Snd at h; rw [soundR] at h
  simp only [Rx.kind, Rx.kids, Rx.min, Rx.max, Rx.rune, Rx.to, Rx.group]
  split at h
  · injection h with h1 _; cases h1
  rename_i hn
  split at h
  · rename_i h9
    split at h
    · injection h with h1 _; cases h1
    · exact ⟨by omega, by omega, by omega, k + 1, by omega, by omega, h⟩
  · rename_i h9
    exact ⟨by omega, by omega, by omega, k, by omega, by omega, h⟩

end Go.Proofs.YtoniccokohjenaaDoor
