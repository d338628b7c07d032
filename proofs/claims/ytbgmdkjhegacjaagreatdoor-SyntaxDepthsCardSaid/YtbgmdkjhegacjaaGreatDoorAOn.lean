/-
  What a row of chapters 15 to 17 asks: a tree that comes in, opened; the tables out of what is laid.
-/
import Derived.Test.YtbgmdkjhegacjaaGreatDoorPRow
import Derived.ChangeArms
import Derived.Deep.Slices
import Derived.Lay
import Derived.MakeChecks
import Derived.Deep.DeepWitnessRowRef
namespace Go.Proofs.YtbgmdkjhegacjaaGreatDoor
open Go.RowKit
section
variable {F G : Nat → Prop} {w w' : World}
theorem YV.up : ∀ (n : Nat) (ks : List Ny) (kv : Value), YV F w n ks kv → YV F w (n + 1) ks kv
  | 0, ks, kv, ⟨h, A, cap, e⟩ => ⟨A, cap, by rw [h]; exact e, fun hn => absurd h hn, fun hn => absurd h hn⟩
  | n + 1, ks, kv, ⟨A, cap, e, hc, h2⟩ => ⟨A, cap, e, hc, fun hn => by
    obtain ⟨q, o, c, T, z, h3, h4, hh, h5⟩ := h2 hn
    refine ⟨q, o, c, T, z, h3, h4, hh, fun i t hi => ?_⟩
    obtain ⟨kw, h6, h7⟩ := h5 i t hi
    exact ⟨kw, h6, YV.up n _ _ h7⟩⟩
theorem YV.le {ks : List Ny} {kv : Value} {n m : Nat} (hnm : n ≤ m) (h : YV F w n ks kv) : YV F w m ks kv := by
  induction hnm with
  | refl => exact h
  | step _ ih => exact YV.up _ _ _ ih
end
end Go.Proofs.YtbgmdkjhegacjaaGreatDoor

namespace Go.Proofs.YtbgmdkjhegacjaaGreatDoor
open Go.ChangeShapes Go.WideShapes Go.ChangeAt Go.RowKit
theorem cellsNy : Tryz.prog.cellsOf TN = 3 := by kernel_rfl
theorem list3 {cs : List Value} (h : cs.length = 3) : ∃ v0 v1 v2, cs = [v0, v1, v2] := by
  match cs, h with
  | [v0, v1, v2], _ => exact ⟨v0, v1, v2, rfl⟩

section
variable {H : Type} {enc : TypeId × Value → H} {W : World} {base : Nat} {spare : Nat → Bool} {held : Bool}
theorem trod_i64 {P : Program} {t : TypeId} (ht : P.underlying t = some (.int .i64)) {n : Nat} {v : Value} {y : DataW H × List MemPlace} (h : DataW.trod enc P W base spare held n t [v] = some y) : ∃ z, v = .int .i64 z := by
  cases n with
  | zero => simp [DataW.trod] at h
  | succ n =>
    unfold DataW.trod at h
    rw [ht] at h
    cases v <;> simp at h
    exact ⟨_, by rw [h.1.1]⟩
theorem trod_boo {P : Program} {t : TypeId} (ht : P.underlying t = some (.bool)) {n : Nat} {v : Value} {y : DataW H × List MemPlace} (h : DataW.trod enc P W base spare held n t [v] = some y) : ∃ z, v = .bool z := by
  cases n with
  | zero => simp [DataW.trod] at h
  | succ n =>
    unfold DataW.trod at h
    rw [ht] at h
    cases v <;> simp at h
    exact ⟨_, rfl⟩
theorem trod_str {P : Program} {t : TypeId} (ht : P.underlying t = some (.string)) {n : Nat} {v : Value} {y : DataW H × List MemPlace} (h : DataW.trod enc P W base spare held n t [v] = some y) : ∃ s : List UInt8, v = .string ⟨s.toArray⟩ := by
  cases n with
  | zero => simp [DataW.trod] at h
  | succ n =>
    unfold DataW.trod at h
    rw [ht] at h
    cases v <;> simp at h
    rename_i s
    exact ⟨s.data.toList, by simp⟩
end
/-- what a part's kids are when a slice of parts is opened -/
theorem open_nkids {H : Type} {enc : TypeId × Value → H} {W : World} {base : Nat} {spare : Nat → Bool} {held : Bool} {fuel : Nat}
    (ih : ∀ m, m < fuel → ∀ (cs : List Value) (x : DataW H × List MemPlace), DataW.trod enc Tryz.prog W base spare held m TN cs = some x → ∃ (t : Ny) (A : Option Addr) (c : Nat), cs = yCells t (.slice A t.kids.length c) ∧ YS maxLen t ∧ YT W t A c)
    {cs : List Value} {x : DataW H × List MemPlace} (h : DataW.trod enc Tryz.prog W base spare held fuel 22 cs = some x) :
    ∃ (ks : List Ny) (A : Option Addr) (c n : Nat), cs = [.slice A ks.length c] ∧ ks.length ≤ maxLen ∧ (∀ k ∈ ks, YS maxLen k) ∧ YV (fun _ => True) W n ks (.slice A ks.length c) := by
  rcases DataW.trod_slice Tryz.underlying22 h with ⟨rfl, _⟩ | ⟨a, len, cap, elems, rest, n, hfu, rfl, _, _, hl, hm, hlen, hel, _, _⟩
  · exact ⟨[], none, 0, 0, rfl, Nat.zero_le _, fun k hk => by simp at hk, rfl, _, _, rfl⟩
  · have hkid : ∀ i, i < len → ∃ k : Ny, ∃ (A : Option Addr) (c : Nat), (∀ j, j < 3 → W.cell? (a.add (i * 3 + j)) = (yCells k (.slice A k.kids.length c))[j]?) ∧ YS maxLen k ∧ YT W k A c := by
      intro i hi
      have e := hel i hi
      rw [List.getElem?_eq_getElem (by omega), Option.bind_eq_some_iff] at e
      obtain ⟨cs', e1, e2⟩ := e
      obtain ⟨_, _, hcell⟩ := World.cells?_some e1
      obtain ⟨k, A, c, rfl, hs, hk⟩ := ih n (by omega) _ _ e2
      refine ⟨k, A, c, fun j hj => ?_, hs, hk⟩
      have := hcell j (by rw [cellsNy]; exact hj)
      rw [cellsNy, Deep.add_add] at this
      exact this
    obtain ⟨f, hf⟩ := Deep.choose_lt hkid
    obtain ⟨m, hmm⟩ := Deep.fuel_lt (n := len) (q := fun i m => ∃ (A : Option Addr) (c : Nat), (∀ j, j < 3 → W.cell? (a.add (i * 3 + j)) = (yCells (f i) (.slice A (f i).kids.length c))[j]?) ∧ YV (fun _ => True) W m (f i).kids (.slice A (f i).kids.length c))
      (fun i x y hxy ⟨A, c, h1, h2⟩ => ⟨A, c, h1, YV.le hxy h2⟩) (fun i hi => by
        obtain ⟨A, c, h1, _, lv, h2⟩ := hf i hi
        exact ⟨lv, A, c, h1, h2⟩)
    have hks : ((List.range len).map f).length = len := by simp
    refine ⟨(List.range len).map f, some a, cap, m + 1, by rw [hks], by rw [hks]; omega, fun k hk => ?_, ?_⟩
    · obtain ⟨i, hi, rfl⟩ := List.mem_map.1 hk
      obtain ⟨_, _, _, hs, _⟩ := hf i (by simpa using hi)
      exact hs
    · refine ⟨some a, cap, rfl, fun _ => by rw [hks]; omega, fun hne => ?_⟩
      have hpos : 0 < len := by
        rcases Nat.eq_zero_or_pos len with h0 | h0
        · subst h0; exact absurd rfl hne
        · exact h0
      obtain ⟨A0, c0, h0, _⟩ := hmm 0 hpos
      have h00 := h0 0 (by omega)
      obtain ⟨b, off, spot⟩ := a
      have hspot : spot = none := by
        have := World.cell?_spot (h00.trans rfl)
        simpa [Addr.add] using this
      subst hspot
      have hcell : ∃ c T z, W.heap[b]? = some (.cells c T z) := by
        have h1 : W.cell? ⟨b, off, none⟩ = some (.int .i64 (f 0).kind) := by
          have := h00
          rw [add_plain, Nat.zero_mul, Nat.zero_add, Nat.add_zero] at this
          exact this.trans rfl
        unfold World.cell? at h1
        split at h1
        · exact ⟨_, _, _, by assumption⟩
        · simp at h1
      obtain ⟨c, T, z, hh⟩ := hcell
      refine ⟨b, off, c, T, z, rfl, trivial, hh, fun i t hi => ?_⟩
      rw [List.getElem?_map, Option.map_eq_some_iff] at hi
      obtain ⟨i', hi1, rfl⟩ := hi
      have hil : i < len := by
        have := (List.getElem?_eq_some_iff.1 hi1).1
        simpa using this
      rw [List.getElem?_range hil] at hi1
      obtain rfl := Option.some.inj hi1
      obtain ⟨A, cc, h1, h2⟩ := hmm i hil
      refine ⟨_, fun j v hj => ?_, h2⟩
      have hj3 : j < 3 := (List.getElem?_eq_some_iff.1 hj).1
      have := h1 j hj3
      rw [add_plain, Lib.cell_of_heap hh, hj] at this
      exact this
set_option maxRecDepth 100000 in
theorem open_ny {H : Type} {enc : TypeId × Value → H} {W : World} {base : Nat} {spare : Nat → Bool} {held : Bool} : ∀ (fuel : Nat) (cs : List Value) (x : DataW H × List MemPlace),
    DataW.trod enc Tryz.prog W base spare held fuel TN cs = some x → ∃ (t : Ny) (A : Option Addr) (c : Nat), cs = yCells t (.slice A t.kids.length c) ∧ YS maxLen t ∧ YT W t A c := by
  intro fuel
  induction fuel using Nat.strongRecOn with
  | _ fuel ih =>
    intro cs x h
    obtain ⟨xs, n, rfl, _, hl, hxl, hf⟩ := DataW.trod_struct Tryz.underlying24 h
    rw [cellsNy] at hl
    obtain ⟨v0, v1, v2, rfl⟩ := list3 hl
    have hx3 : xs.length = 3 := hxl
    have hsome : ∀ i, i < 3 → ∃ y, xs[i]? = some y := fun i hi => ⟨_, List.getElem?_eq_getElem (by omega)⟩
    obtain ⟨y0, hy0⟩ := hsome 0 (by omega)
    have g0 := hf 0 _ rfl
    rw [hy0] at g0
    obtain ⟨y1, hy1⟩ := hsome 1 (by omega)
    have g1 := hf 1 _ rfl
    rw [hy1] at g1
    obtain ⟨y2, hy2⟩ := hsome 2 (by omega)
    have g2 := hf 2 _ rfl
    rw [hy2] at g2
    obtain ⟨z0, rfl⟩ := trod_i64 Tryz.underlying3 (v := v0) (by simpa [show Tryz.prog.cellsOf 3 = 1 from by kernel_rfl] using g0)
    obtain ⟨z1, rfl⟩ := trod_str Tryz.underlying9 (v := v1) (by simpa [show Tryz.prog.cellsOf 9 = 1 from by kernel_rfl, show Tryz.prog.cellsOf 3 = 1 from by kernel_rfl] using g1)
    have g2' : DataW.trod enc Tryz.prog W base spare held n 22 [v2] = some y2 := by simpa [show Tryz.prog.cellsOf 22 = 1 from by kernel_rfl, show Tryz.prog.cellsOf 9 = 1 from by kernel_rfl, show Tryz.prog.cellsOf 3 = 1 from by kernel_rfl] using g2
    obtain ⟨ks, A, c, lv, hv2, hkl, hks, hkv⟩ := open_nkids (fun m hm => ih m (by omega)) g2'
    obtain rfl : v2 = .slice A ks.length c := by simpa using hv2
    exact ⟨.mk z0 z1 ks, A, c, rfl, .mk hkl hks, lv, hkv⟩

set_option maxRecDepth 100000 in
/-- a tree that comes in as an argument -/
theorem open_nyArg {H : Type} {enc : TypeId × Value → H} {W : World} {base base' : Nat} {spare : Nat → Bool} {held : Bool} {v : Value} {x : DataW H × List MemPlace} (hv : Value.okWide Tryz.prog W .any base TN v)
    (h : ∃ fuel, DataW.trod enc Tryz.prog W base' spare held fuel TN v.cells.toList = some x) : ∃ (t : Ny) (A : Option Addr) (c : Nat), v = yAgg t (.slice A t.kids.length c) ∧ YS maxLen t ∧ YT W t A c := by
  unfold Value.okWide at hv
  rw [Tryz.underlying24] at hv
  obtain ⟨cs, rfl, _, _⟩ := hv
  obtain ⟨fuel, h⟩ := h
  obtain ⟨t, A, c, e, h1, h2⟩ := open_ny fuel _ _ h
  refine ⟨t, A, c, ?_, h1, h2⟩
  have e' : cs = (yCells t (.slice A t.kids.length c)).toArray := by rw [← e]; rfl
  rw [e']
  rfl


theorem tabs2_of {W : World} (hL : laidMet Tryz.prog [("math/bits.deBruijn32tab", Rows.laid_math_bits_deBruijn32tab), ("math/bits.deBruijn64tab", Rows.laid_math_bits_deBruijn64tab), ("internal/strconv.uint64pow10", Rows.laid_internal_strconv_uint64pow10), ("unicode/utf8.acceptRanges", Rows.laid_unicode_utf8_acceptRanges), ("strconv.ErrRange", Rows.laid_strconv_ErrRange), ("strconv.ErrSyntax", Rows.laid_strconv_ErrSyntax), ("unicode/utf8.first", Rows.laid_unicode_utf8_first)] W) : Tabs W ∧ Tab10 W := by
  constructor
  · have e1 : Rows.laid_unicode_utf8_first = Lib.firstData := by kernel_rfl
    have e2 : (Rows.laid_unicode_utf8_acceptRanges : DataW Unit) = Lib.acceptData := by kernel_rfl
    have hU : Lib.Utf8Tabs 0 1 W :=
      utf8Tabs_of_reads (ρ := Tryz.lays197_ren) { Tryz.lays197 with } ⟨by kernel_rfl, by kernel_rfl, by kernel_rfl, by kernel_rfl, by kernel_rfl, by kernel_rfl, by kernel_rfl⟩
        (e1 ▸ Lib.laidMet.reads hL (by simp)) (e2 ▸ Lib.laidMet.reads hL (by simp))
    exact ⟨hU, World.block_lt_of_cell? W _ (hU.1 0 (by omega)), World.block_lt_of_cell? W _ (hU.2 0 (by omega)).1⟩
  · have e1 : (Rows.laid_internal_strconv_uint64pow10 : DataW Unit) = Lib.tabData .u64 Lib.pow10Tab := by kernel_rfl
    obtain ⟨g, t, cs, fuel, p, hg, ht, hv, hd⟩ := Lib.laidMet.reads hL (n := "internal/strconv.uint64pow10") (d := Rows.laid_internal_strconv_uint64pow10) (by simp)
    rw [e1] at hd
    obtain rfl : 5 = g := Option.some.inj ((show Tryz.prog.globalNamed "internal/strconv.uint64pow10" = some 5 by kernel_rfl).symm.trans hg)
    obtain rfl : 180 = t := Option.some.inj ((show (Tryz.prog.globals[5]?).map (·.type) = some 180 by kernel_rfl).symm.trans ht)
    unfold Tab10 Lib.TabIs
    rw [hv, ← Lib.cells_of_tab (n := 20) (e := 139) Tryz.underlying180 Tryz.underlying139 (by kernel_rfl) (by kernel_rfl) hd]

end Go.Proofs.YtbgmdkjhegacjaaGreatDoor
