/-
  The walks of limb's trim, at, carried and what is carried.
-/
import Derived.Test.YtmmlclgmehfmhaaDoorRows
import Derived.Test.YtmmlclgmehfmhaaDoorMem
import Derived.Test.YtmmlclgmehfmhaaDoorNum2
import Derived.WalkKit
import Derived.WalkSpells
import Derived.WalkLawsBesides
import Derived.Handy
import Derived.Deep.QuietTactic
import Derived.BigQuiet
namespace Go.Proofs.YtmmlclgmehfmhaaDoor
open Go.RowKit

theorem info_u32 : (Tryd.prog.info? 61).map (fun i => (i.zero, i.size, i.bytes)) = some (some (.int .u32 0), 1, 4) := by kernel_rfl

theorem trimL_step0 (l : List Nat) (m : Nat) (hm : m < l.length) (h : l.getD m 0 = 0) : trimL (l.take (m + 1)) = trimL (l.take m) := by
  rw [List.take_succ_eq_append_getElem hm]
  rw [List.getD, List.getElem?_eq_getElem hm] at h
  simp at h
  rw [h, trimL_snoc_zero]
theorem trimL_step1 (l : List Nat) (m : Nat) (hm : m < l.length) (h : l.getD m 0 ≠ 0) : trimL (l.take (m + 1)) = l.take (m + 1) := by
  rw [List.take_succ_eq_append_getElem hm]
  rw [List.getD, List.getElem?_eq_getElem hm] at h
  exact trimL_snoc _ _ h

set_option maxHeartbeats 400000 in
set_option maxRecDepth 100000 in
theorem trim_any (A : Option Addr) (n cap : Nat) (l : List Nat) (w : World) (hR : RdN .u32 w A n l) (hc : n ≤ cap) (hn : n ≤ 9223372036854775807) :
    Calls Tryd.prog 41 #[.slice A n cap] w fun e w' => e = .returned (.slice A (trimL l).length cap) ∧ w = w' := by
  obtain ⟨hlen, hat⟩ := hR
  have HLEN := Lib.hid hlen
  have HAT := Lib.hid hat
  clear hlen hat
  go_enter Tryd.func41, Tryd.ntmps41
  go_wp2
  go_loop [0] (fun v => ∃ m : Nat, m ≤ n ∧ v = .slice A m cap ∧ Hid (trimL (l.take m) = trimL l)) (fun v => match v with | .slice _ m _ => m | _ => 0)
  case atStart => exact ⟨n, Nat.le_refl _, rfl, by show _ = _; rw [List.take_of_length_le (by rw [HLEN.out]; omega)]⟩
  case round =>
    obtain ⟨m, hm, rfl, hv⟩ := hrel
    by_cases h0 : m = 0
    · subst h0
      go_wp2
      go_ret
      exact ⟨by rw [← hv.out]; rfl, rfl⟩
    · obtain ⟨m, rfl⟩ : ∃ k, m = k + 1 := ⟨m - 1, by omega⟩
      obtain ⟨b, off, rfl, hbl, hcell⟩ := HAT.out (by omega)
      have c1 := hcell m (by omega)
      have H0 := Lib.hid (trimL_step0 l m (by rw [HLEN.out]; omega))
      have H1 := Lib.hid (trimL_step1 l m (by rw [HLEN.out]; omega))
      clear hcell
      generalize l.getD m 0 = x at c1 H0 H1
      by_cases hx : x = 0
      · have hx' : ((x : Int) == 0) = true := by rw [hx]; rfl
        have HX := Lib.hid hx
        clear hx
        go_wp2
        go_round
        case rel => exact ⟨m, by omega, rfl, by show _ = _; rw [← H0.out HX.out]; exact hv.out⟩
        case measure => simp
      · have hx' : ((x : Int) == 0) = false := by simp; omega
        have HX := Lib.hid hx
        clear hx
        go_wp2
        go_ret
        refine ⟨?_, rfl⟩
        have h2 := hv.out
        rw [H1.out HX.out] at h2
        have h3 : (trimL l).length = m + 1 := by rw [← h2, List.length_take, HLEN.out]; omega
        rw [h3]; rfl

/-- a row of the call's own, trimmed, is one -/
theorem OwnN.trim {k : IntKind} {E : TypeId} {base : Nat} {w : World} {A : Option Addr} {n cap : Nat} {l : List Nat} (h : OwnN k E base w (.slice A n cap) l) : OwnN k E base w (.slice A (trimL l).length cap) (trimL l) := by
  obtain ⟨m, hm, e⟩ := trimL_take l
  have := h.cut hm
  rw [e, List.length_take, Nat.min_eq_left hm]
  exact this

/-- what a call answers that makes a plain list -/
def IsNum (x : Nat) (w w' : World) (e : Ending) : Prop := ∃ v, e = .returned v ∧ OwnN .u32 61 w.heap.size w' v (digs 1000000000 x) ∧ Below w.heap.size w w'

set_option maxHeartbeats 400000 in
theorem at_any (A : Option Addr) (n cap : Nat) (l : List Nat) (i : Nat) (w : World) (hR : RdN .u32 w A n l) (hn : n ≤ 9223372036854775807) (hl : ∀ x ∈ l, x < 4294967296) :
    Calls Tryd.prog 55 #[.slice A n cap, .int .i64 i] w fun e w' => e = .returned (.int .u64 (l.getD i 0 : Nat)) ∧ w = w' := by
  obtain ⟨hlen, hat⟩ := hR
  by_cases h : i < n
  · obtain ⟨b, off, rfl, hbl, hcell⟩ := hat (by omega)
    have c1 := hcell i h
    have hx : l.getD i 0 < 4294967296 := hl _ (by rw [List.getD, List.getElem?_eq_getElem (by omega)]; exact List.getElem_mem _)
    clear hcell hat hlen
    generalize l.getD i 0 = x at c1 hx
    have hx' : (x : Int) < 4294967296 := by omega
    go_enter Tryd.func55, Tryd.ntmps55
    go_wp2
    go_ret
    exact ⟨rfl, rfl⟩
  · have e : l.getD i 0 = 0 := by rw [List.getD, List.getElem?_eq_none (by omega)]; rfl
    rw [e]
    clear hat hlen e
    go_enter Tryd.func55, Tryd.ntmps55
    go_wp2
    go_ret
    exact ⟨rfl, rfl⟩

end Go.Proofs.YtmmlclgmehfmhaaDoor
