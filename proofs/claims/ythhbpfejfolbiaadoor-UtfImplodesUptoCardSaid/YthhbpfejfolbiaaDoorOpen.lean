/-
  Arguments as they are read: slices of integers; what a bulk bounds.
-/
import Derived.Test.YthhbpfejfolbiaaDoorRow
import Derived.Test.YthhbpfejfolbiaaDoorUtfF
namespace Go.Proofs.YthhbpfejfolbiaaDoor
open Go.ChangeShapes Go.WideShapes Go.ChangeAt Go.RowKit

theorem bulk_one {H : Type} (d : DataW H) : 1 ≤ Rows.uptoBulk d := by
  cases d with
  | lit l => cases l <;> simp [Rows.uptoBulk]
  | _ => simp [Rows.uptoBulk]
theorem bulk_len {H : Type} : ∀ (l : List (DataW H)), l.length ≤ Rows.uptoBulkAll l
  | [] => by simp
  | x :: r => by have := bulk_one x; have := bulk_len r; simp only [Rows.uptoBulkAll, List.length_cons]; omega

theorem cellsInt : Tryd.prog.cellsOf 3 = 1 := by kernel_rfl

theorem open_ints_rd {H : Type} {enc : TypeId × Value → H} {W : World} {base : Nat} {spare : Nat → Bool} {held : Bool} {fuel : Nat} {A : Option Addr} {n cap : Nat} {x : DataW H × List MemPlace}
    (hf : DataW.trod enc Tryd.prog W base spare held fuel 33 (Value.slice A n cap).cells.toList = some x) (hsp : ∀ b, spare b = true) : ∃ l, RdI W A n l ∧ n ≤ Rows.uptoBulk x.1 ∧ n ≤ cap := by
  rcases open_ints Tryd.underlying33 Tryd.underlying3 cellsInt hf with ⟨hcs, hx⟩ | ⟨a, len, cap', zs, hcs, _, hl, hm, hz, hx, hcell, _⟩
  · simp [Value.cells] at hcs
    obtain ⟨rfl, rfl, rfl⟩ := hcs
    exact ⟨[], ⟨rfl, fun h => by omega⟩, by omega, by omega⟩
  · simp [Value.cells] at hcs
    obtain ⟨rfl, rfl, rfl⟩ := hcs
    rw [hsp, if_pos rfl] at hz
    have hzl : n ≤ zs.length := by rw [hz]; exact hl
    refine ⟨zs.take n, ⟨by rw [List.length_take]; omega, fun hn => ?_⟩, ?_, hl⟩
    · obtain ⟨b, off, rfl, hc⟩ := ints_at hcell (by omega)
      refine ⟨b, off, rfl, ?_, fun i hi => ?_⟩
      · exact World.block_lt_of_cell? W _ (hc 0 (by omega))
      · rw [hc i (by omega)]
        simp [List.getD, hi]
    · rw [hx]
      have := bulk_len (lits (H := H) IntKind.i64 (zs.take n))
      simp only [Rows.uptoBulk]
      have e : (lits (H := H) IntKind.i64 (zs.take n)).length = n := by simp [lits]; omega
      omega

end Go.Proofs.YthhbpfejfolbiaaDoor
