/-
  Arguments as they are read: slices of unsigned integers; the laid table that the library's counting of digits reads.
-/
import Derived.Test.YtmmlclgmehfmhaaDoorRow
import Derived.Test.YtmmlclgmehfmhaaDoorLawA
import Derived.Lib.LaidTab
namespace Go.Proofs.YtmmlclgmehfmhaaDoor
open Go.ChangeShapes Go.WideShapes Go.ChangeAt Go.RowKit

theorem cellsU32 : Tryd.prog.cellsOf 61 = 1 := by kernel_rfl

theorem wf_nat (k : IntKind) (m z : Int) (h0 : k.min = 0) (h1 : k.max + 1 = m) (h : (Lit.int k z).wf = true) : 0 ≤ z ∧ z < m := by
  have h2 : (decide (k.min ≤ z) && decide (z ≤ k.max)) = true := h
  rw [Bool.and_eq_true, decide_eq_true_iff, decide_eq_true_iff] at h2
  omega
set_option maxRecDepth 100000 in
theorem wf_u64 (z : Int) (h : (Lit.int .u64 z).wf = true) : 0 ≤ z ∧ z ≤ 18446744073709551615 := by
  have h2 : (decide (IntKind.u64.min ≤ z) && decide (z ≤ IntKind.u64.max)) = true := h
  rw [Bool.and_eq_true, decide_eq_true_iff, decide_eq_true_iff] at h2
  have e0 : IntKind.u64.min = 0 := by kernel_rfl
  have e1 : IntKind.u64.max = 18446744073709551615 := by kernel_rfl
  rw [e0, e1] at h2
  exact h2
theorem wf_u16 (z : Int) (h : (Lit.int .u16 z).wf = true) : 0 ≤ z ∧ z ≤ 65535 := by
  have := wf_nat .u16 65536 z (by decide) (by decide) h
  omega
theorem open_u32_rd {H : Type} {enc : TypeId × Value → H} {W : World} {base : Nat} {spare : Nat → Bool} {held : Bool} {fuel : Nat} {A : Option Addr} {n cap : Nat} {x : DataW H × List MemPlace}
    (hf : DataW.trod enc Tryd.prog W base spare held fuel 22 (Value.slice A n cap).cells.toList = some x) (hsp : ∀ b, spare b = true) : ∃ l : List Nat, RdN .u32 W A n l ∧ (∀ y ∈ l, y < 4294967296) ∧ n ≤ maxLen := by
  rcases open_ints Tryd.underlying22 Tryd.underlying61 cellsU32 hf with ⟨hcs, hx⟩ | ⟨a, len, cap', zs, hcs, _, hl, hm, hz, hx, hcell, hwf⟩
  · simp [Value.cells] at hcs
    obtain ⟨rfl, rfl, rfl⟩ := hcs
    exact ⟨[], ⟨rfl, fun h => by omega⟩, by simp, by omega⟩
  · simp [Value.cells] at hcs
    obtain ⟨rfl, rfl, rfl⟩ := hcs
    rw [hsp, if_pos rfl] at hz
    have hzl : n ≤ zs.length := by rw [hz]; exact hl
    have hr : ∀ z ∈ zs, 0 ≤ z ∧ z < 4294967296 := fun z hz => by
      exact wf_nat .u32 4294967296 z (by decide) (by decide) (hwf z hz)
    refine ⟨(zs.take n).map Int.toNat, ⟨by rw [List.length_map, List.length_take]; omega, fun hn => ?_⟩, ?_, by omega⟩
    · obtain ⟨b, off, rfl, hc⟩ := ints_at hcell (by omega)
      refine ⟨b, off, rfl, World.block_lt_of_cell? W _ (hc 0 (by omega)), fun i hi => ?_⟩
      have hi2 : i < zs.length := by omega
      have h3 := hr (zs.getD i 0) (by rw [List.getD, List.getElem?_eq_getElem hi2]; exact List.getElem_mem _)
      rw [hc i (by omega)]
      have e : ((((zs.take n).map Int.toNat).getD i 0 : Nat) : Int) = zs.getD i 0 := by
        simp only [List.getD, List.getElem?_map, List.getElem?_take, if_pos hi, List.getElem?_eq_getElem hi2, Option.map_some, Option.getD_some]
        simp only [List.getD, List.getElem?_eq_getElem hi2, Option.getD_some] at h3
        omega
      rw [e]
    · intro y hy
      rw [List.mem_map] at hy
      obtain ⟨z, hz2, rfl⟩ := hy
      have := hr z (List.mem_of_mem_take hz2)
      omega

/-- a laid row of integers as cells -/
def cellsOfLaid : DataW Unit → Array Value
  | .agg l => (l.map fun d => match d with | .lit (.int k n) => Value.int k n | _ => undef).toArray
  | _ => #[]
def layAs (d : DataW Unit) : Obj → Obj
  | .cells _ t fz => .cells (cellsOfLaid d) t fz
  | o => o

theorem tabs_of {W : World} (hL : laidMet Tryd.prog [("math/bits.deBruijn32tab", Rows.laid_math_bits_deBruijn32tab), ("math/bits.deBruijn64tab", Rows.laid_math_bits_deBruijn64tab), ("internal/strconv.uint64pow10", Rows.laid_internal_strconv_uint64pow10)] W) : Tab10 W := by
  have e1 : (Rows.laid_internal_strconv_uint64pow10 : DataW Unit) = Lib.tabData .u64 Lib.pow10Tab := by kernel_rfl
  obtain ⟨g, t, cs, fuel, p, hg, ht, hv, hd⟩ := Lib.laidMet.reads hL (n := "internal/strconv.uint64pow10") (d := Rows.laid_internal_strconv_uint64pow10) (by simp)
  rw [e1] at hd
  obtain rfl : 0 = g := Option.some.inj ((show Tryd.prog.globalNamed "internal/strconv.uint64pow10" = some 0 by kernel_rfl).symm.trans hg)
  obtain rfl : 105 = t := Option.some.inj ((show (Tryd.prog.globals[0]?).map (·.type) = some 105 by kernel_rfl).symm.trans ht)
  unfold Tab10 Lib.TabIs
  rw [hv, ← Lib.cells_of_tab (n := 20) (e := 40) Tryd.underlying105 Tryd.underlying40 (by kernel_rfl) (by kernel_rfl) hd]

end Go.Proofs.YtmmlclgmehfmhaaDoor
