/-
  Arguments as they are read: slices of bytes, single bytes; what a bulk bounds.
-/
import Derived.Test.YtojapomkmfbciaaDoorRow
import Derived.Test.YtojapomkmfbciaaDoorQuoM
namespace Go.Proofs.YtojapomkmfbciaaDoor
open Go.ChangeShapes Go.WideShapes Go.ChangeAt Go.RowKit

theorem bulkB_one {H : Type} (d : DataW H) : 1 ≤ Rows.uptoBulk d := by
  cases d with
  | lit l => cases l <;> simp [Rows.uptoBulk]
  | _ => simp [Rows.uptoBulk]
theorem bulkB_len {H : Type} : ∀ (l : List (DataW H)), l.length ≤ Rows.uptoBulkAll l
  | [] => by simp
  | x :: r => by have := bulkB_one x; have := bulkB_len r; simp only [Rows.uptoBulkAll, List.length_cons]; omega

theorem cellsU8 : Tryd.prog.cellsOf 5 = 1 := by kernel_rfl
theorem wfB_nat (k : IntKind) (m z : Int) (h0 : k.min = 0) (h1 : k.max + 1 = m) (h : (Lit.int k z).wf = true) : 0 ≤ z ∧ z < m := by
  have h2 : (decide (k.min ≤ z) && decide (z ≤ k.max)) = true := h
  rw [Bool.and_eq_true, decide_eq_true_iff, decide_eq_true_iff] at h2
  omega

theorem open_bytes_rd {H : Type} {enc : TypeId × Value → H} {W : World} {base : Nat} {spare : Nat → Bool} {held : Bool} {fuel : Nat} {A : Option Addr} {n cap : Nat} {x : DataW H × List MemPlace}
    (hf : DataW.trod enc Tryd.prog W base spare held fuel 26 (Value.slice A n cap).cells.toList = some x) (hsp : ∀ b, spare b = true) : ∃ l : List UInt8, RdB W A n l ∧ n ≤ cap ∧ n ≤ Rows.uptoBulk x.1 := by
  rcases open_ints Tryd.underlying26 Tryd.underlying5 cellsU8 hf with ⟨hcs, hx⟩ | ⟨a, len, cap', zs, hcs, _, hl, hm, hz, hx, hcell, hwf⟩
  · simp [Value.cells] at hcs
    obtain ⟨rfl, rfl, rfl⟩ := hcs
    exact ⟨[], ⟨rfl, fun h => by omega⟩, by omega, by omega⟩
  · simp [Value.cells] at hcs
    obtain ⟨rfl, rfl, rfl⟩ := hcs
    rw [hsp, if_pos rfl] at hz
    have hzl : n ≤ zs.length := by rw [hz]; exact hl
    have hr : ∀ z ∈ zs, 0 ≤ z ∧ z < 256 := fun z hz => wfB_nat .u8 256 z (by decide) (by decide) (hwf z hz)
    refine ⟨(zs.take n).map fun z => UInt8.ofNat z.toNat, ⟨by rw [List.length_map, List.length_take]; omega, fun hn => ?_⟩, hl, ?_⟩
    · obtain ⟨b, off, rfl, hc⟩ := ints_at hcell (by omega)
      refine ⟨b, off, rfl, World.block_lt_of_cell? W _ (hc 0 (by omega)), fun i hi => ?_⟩
      have hi2 : i < zs.length := by omega
      have h3 := hr (zs.getD i 0) (by rw [List.getD, List.getElem?_eq_getElem hi2]; exact List.getElem_mem _)
      rw [hc i (by omega)]
      have e : ((bt ((zs.take n).map fun z => UInt8.ofNat z.toNat) i : Nat) : Int) = zs.getD i 0 := by
        unfold bt
        rw [List.getElem?_map, List.getElem?_take, if_pos hi]
        simp only [List.getD, List.getElem?_eq_getElem hi2, Option.map_some, Option.getD_some] at h3 ⊢
        rw [UInt8.toNat_ofNat', Nat.mod_eq_of_lt (by omega)]
        omega
      rw [e]
    · rw [hx]
      have := bulkB_len (lits (H := H) IntKind.u8 (zs.take n))
      simp only [Rows.uptoBulk]
      have e : (lits (H := H) IntKind.u8 (zs.take n)).length = n := by simp [lits]; omega
      omega

end Go.Proofs.YtojapomkmfbciaaDoor
