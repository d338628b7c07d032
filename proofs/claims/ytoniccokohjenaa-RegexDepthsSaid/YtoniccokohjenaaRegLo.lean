/-
  A tree that comes in, opened (chapter 18).
-/
import Derived.Test.YtoniccokohjenaaRowR
import Derived.Test.YtoniccokohjenaaRegLy
import Derived.ChangeArms
import Derived.Deep.Slices
namespace Go.Proofs.Ytoniccokohjenaa
open Go.ChangeShapes Go.WideShapes Go.ChangeAt Go.RowKit

theorem cellsRx : Try.prog.cellsOf TRx = 10 := by kernel_rfl
theorem list10 {cs : List Value} (h : cs.length = 10) : ∃ v0 v1 v2 v3 v4 v5 v6 v7 v8 v9, cs = [v0, v1, v2, v3, v4, v5, v6, v7, v8, v9] := by
  match cs, h with
  | [v0, v1, v2, v3, v4, v5, v6, v7, v8, v9], _ => exact ⟨v0, v1, v2, v3, v4, v5, v6, v7, v8, v9, rfl⟩

section
variable {H : Type} {enc : TypeId × Value → H} {W : World} {base : Nat} {spare : Nat → Bool} {held : Bool}
theorem trod_i64 {P : Program} {t : TypeId} (ht : P.underlying t = some (.int .i64)) {n : Nat} {v : Value} {y : DataW H × List MemPlace} (h : DataW.trod enc P W base spare held n t [v] = some y) : ∃ z, v = .int .i64 z := by
  cases n with
  | zero => simp [DataW.trod] at h
  | succ n =>
    unfold DataW.trod at h
    rw [ht] at h
    cases v <;> simp at h
    exact ⟨_, by rw [h.1.1]⟩
theorem trod_boo {P : Program} {t : TypeId} (ht : P.underlying t = some (.bool)) {n : Nat} {v : Value} {y : DataW H × List MemPlace} (h : DataW.trod enc P W base spare held n t [v] = some y) : ∃ z, v = .bool z := by
  cases n with
  | zero => simp [DataW.trod] at h
  | succ n =>
    unfold DataW.trod at h
    rw [ht] at h
    cases v <;> simp at h
    exact ⟨_, rfl⟩
theorem trod_str {P : Program} {t : TypeId} (ht : P.underlying t = some (.string)) {n : Nat} {v : Value} {y : DataW H × List MemPlace} (h : DataW.trod enc P W base spare held n t [v] = some y) : ∃ s : List UInt8, v = .string ⟨s.toArray⟩ := by
  cases n with
  | zero => simp [DataW.trod] at h
  | succ n =>
    unfold DataW.trod at h
    rw [ht] at h
    cases v <;> simp at h
    rename_i s
    exact ⟨s.data.toList, by simp⟩
end
theorem KVy.up {F : Nat → Prop} {w : World} : ∀ (n : Nat) (ks : List Ry) (kv : Value), KVy F w n ks kv → KVy F w (n + 1) ks kv
  | 0, ks, kv, ⟨h, A, cap, e⟩ => ⟨A, cap, by rw [h]; exact e, fun hn => absurd h hn⟩
  | n + 1, ks, kv, ⟨A, cap, e, h2⟩ => ⟨A, cap, e, fun hn => by
    obtain ⟨q, o, c, T, z, h3, h4, hh, h5⟩ := h2 hn
    refine ⟨q, o, c, T, z, h3, h4, hh, fun i t hi => ?_⟩
    obtain ⟨kw, h6, h7⟩ := h5 i t hi
    exact ⟨kw, h6, KVy.up n _ _ h7⟩⟩
theorem KVy.le {F : Nat → Prop} {w : World} {ks : List Ry} {kv : Value} {n m : Nat} (hnm : n ≤ m) (h : KVy F w n ks kv) : KVy F w m ks kv := by
  induction hnm with
  | refl => exact h
  | step _ ih => exact KVy.up _ _ _ ih
instance : Inhabited Ry := ⟨.mk 0 0 0 [] 0 0 false false 0 []⟩
/-- what a part's kids are when a slice of parts is opened -/
theorem open_kids {H : Type} {enc : TypeId × Value → H} {W : World} {base : Nat} {spare : Nat → Bool} {held : Bool} {fuel : Nat}
    (ih : ∀ m, m < fuel → ∀ (cs : List Value) (x : DataW H × List MemPlace), DataW.trod enc Try.prog W base spare held m TRx cs = some x → ∃ (t : Ry) (A : Option Addr) (c : Nat), cs = ryCells t (.slice A t.kids.length c) ∧ Sy maxLen t ∧ KTy W t A c)
    {cs : List Value} {x : DataW H × List MemPlace} (h : DataW.trod enc Try.prog W base spare held fuel 23 cs = some x) :
    ∃ (ks : List Ry) (A : Option Addr) (c n : Nat), cs = [.slice A ks.length c] ∧ ks.length ≤ maxLen ∧ (∀ k ∈ ks, Sy maxLen k) ∧ KVy (fun _ => True) W n ks (.slice A ks.length c) := by
  rcases DataW.trod_slice Try.underlying23 h with ⟨rfl, _⟩ | ⟨a, len, cap, elems, rest, n, hfu, rfl, _, _, hl, hm, hlen, hel, _, _⟩
  · exact ⟨[], none, 0, 0, rfl, Nat.zero_le _, fun k hk => by simp at hk, rfl, _, _, rfl⟩
  · have hkid : ∀ i, i < len → ∃ k : Ry, ∃ (A : Option Addr) (c : Nat), (∀ j, j < 10 → W.cell? (a.add (i * 10 + j)) = (ryCells k (.slice A k.kids.length c))[j]?) ∧ Sy maxLen k ∧ KTy W k A c := by
      intro i hi
      have e := hel i hi
      rw [List.getElem?_eq_getElem (by omega), Option.bind_eq_some_iff] at e
      obtain ⟨cs', e1, e2⟩ := e
      obtain ⟨_, _, hcell⟩ := World.cells?_some e1
      obtain ⟨k, A, c, rfl, hs, hk⟩ := ih n (by omega) _ _ e2
      refine ⟨k, A, c, fun j hj => ?_, hs, hk⟩
      have := hcell j (by rw [cellsRx]; exact hj)
      rw [cellsRx, Deep.add_add] at this
      exact this
    obtain ⟨f, hf⟩ := Deep.choose_lt hkid
    obtain ⟨m, hmm⟩ := Deep.fuel_lt (n := len) (q := fun i m => ∃ (A : Option Addr) (c : Nat), (∀ j, j < 10 → W.cell? (a.add (i * 10 + j)) = (ryCells (f i) (.slice A (f i).kids.length c))[j]?) ∧ KVy (fun _ => True) W m (f i).kids (.slice A (f i).kids.length c))
      (fun i x y hxy ⟨A, c, h1, h2⟩ => ⟨A, c, h1, KVy.le hxy h2⟩) (fun i hi => by
        obtain ⟨A, c, h1, _, lv, h2⟩ := hf i hi
        exact ⟨lv, A, c, h1, h2⟩)
    have hks : ((List.range len).map f).length = len := by simp
    refine ⟨(List.range len).map f, some a, cap, m + 1, by rw [hks], by rw [hks]; omega, fun k hk => ?_, ?_⟩
    · obtain ⟨i, hi, rfl⟩ := List.mem_map.1 hk
      obtain ⟨_, _, _, hs, _⟩ := hf i (by simpa using hi)
      exact hs
    · refine ⟨some a, cap, rfl, fun hne => ?_⟩
      have hpos : 0 < len := by
        rcases Nat.eq_zero_or_pos len with h0 | h0
        · subst h0; exact absurd rfl hne
        · exact h0
      obtain ⟨A0, c0, h0, _⟩ := hmm 0 hpos
      have h00 := h0 0 (by omega)
      obtain ⟨b, off, spot⟩ := a
      have hspot : spot = none := by
        have := World.cell?_spot (h00.trans rfl)
        simpa [Addr.add] using this
      subst hspot
      have hcell : ∃ c T z, W.heap[b]? = some (.cells c T z) := by
        have h1 : W.cell? ⟨b, off, none⟩ = some (.int .i64 (f 0).kind) := by
          have := h00
          rw [add_plain, Nat.zero_mul, Nat.zero_add, Nat.add_zero] at this
          exact this.trans rfl
        unfold World.cell? at h1
        split at h1
        · exact ⟨_, _, _, by assumption⟩
        · simp at h1
      obtain ⟨c, T, z, hh⟩ := hcell
      refine ⟨b, off, c, T, z, rfl, trivial, hh, fun i t hi => ?_⟩
      rw [List.getElem?_map, Option.map_eq_some_iff] at hi
      obtain ⟨i', hi1, rfl⟩ := hi
      have hil : i < len := by
        have := (List.getElem?_eq_some_iff.1 hi1).1
        simpa using this
      rw [List.getElem?_range hil] at hi1
      obtain rfl := Option.some.inj hi1
      obtain ⟨A, cc, h1, h2⟩ := hmm i hil
      refine ⟨_, fun j v hj => ?_, h2⟩
      have hj10 : j < 10 := (List.getElem?_eq_some_iff.1 hj).1
      have := h1 j hj10
      rw [add_plain, Lib.cell_of_heap hh, hj] at this
      exact this
set_option maxRecDepth 100000 in
theorem open_ry {H : Type} {enc : TypeId × Value → H} {W : World} {base : Nat} {spare : Nat → Bool} {held : Bool} : ∀ (fuel : Nat) (cs : List Value) (x : DataW H × List MemPlace),
    DataW.trod enc Try.prog W base spare held fuel TRx cs = some x → ∃ (t : Ry) (A : Option Addr) (c : Nat), cs = ryCells t (.slice A t.kids.length c) ∧ Sy maxLen t ∧ KTy W t A c := by
  intro fuel
  induction fuel using Nat.strongRecOn with
  | _ fuel ih =>
    intro cs x h
    obtain ⟨xs, n, rfl, _, hl, hxl, hf⟩ := DataW.trod_struct Try.underlying25 h
    rw [cellsRx] at hl
    obtain ⟨v0, v1, v2, v3, v4, v5, v6, v7, v8, v9, rfl⟩ := list10 hl
    have hx10 : xs.length = 10 := hxl
    have hsome : ∀ i, i < 10 → ∃ y, xs[i]? = some y := fun i hi => ⟨_, List.getElem?_eq_getElem (by omega)⟩
    obtain ⟨y0, hy0⟩ := hsome 0 (by omega)
    have g0 := hf 0 _ rfl
    rw [hy0] at g0
    obtain ⟨y1, hy1⟩ := hsome 1 (by omega)
    have g1 := hf 1 _ rfl
    rw [hy1] at g1
    obtain ⟨y2, hy2⟩ := hsome 2 (by omega)
    have g2 := hf 2 _ rfl
    rw [hy2] at g2
    obtain ⟨y3, hy3⟩ := hsome 3 (by omega)
    have g3 := hf 3 _ rfl
    rw [hy3] at g3
    obtain ⟨y4, hy4⟩ := hsome 4 (by omega)
    have g4 := hf 4 _ rfl
    rw [hy4] at g4
    obtain ⟨y5, hy5⟩ := hsome 5 (by omega)
    have g5 := hf 5 _ rfl
    rw [hy5] at g5
    obtain ⟨y6, hy6⟩ := hsome 6 (by omega)
    have g6 := hf 6 _ rfl
    rw [hy6] at g6
    obtain ⟨y7, hy7⟩ := hsome 7 (by omega)
    have g7 := hf 7 _ rfl
    rw [hy7] at g7
    obtain ⟨y8, hy8⟩ := hsome 8 (by omega)
    have g8 := hf 8 _ rfl
    rw [hy8] at g8
    obtain ⟨y9, hy9⟩ := hsome 9 (by omega)
    have g9 := hf 9 _ rfl
    rw [hy9] at g9
    obtain ⟨z0, rfl⟩ := trod_i64 Try.underlying3 (v := v0) (by simpa [show Try.prog.cellsOf 3 = 1 from by kernel_rfl] using g0)
    obtain ⟨z1, rfl⟩ := trod_i64 Try.underlying3 (v := v1) (by simpa [show Try.prog.cellsOf 3 = 1 from by kernel_rfl] using g1)
    obtain ⟨z2, rfl⟩ := trod_i64 Try.underlying3 (v := v2) (by simpa [show Try.prog.cellsOf 3 = 1 from by kernel_rfl] using g2)
    obtain ⟨z4, rfl⟩ := trod_i64 Try.underlying3 (v := v4) (by simpa [show Try.prog.cellsOf 3 = 1 from by kernel_rfl] using g4)
    obtain ⟨z5, rfl⟩ := trod_i64 Try.underlying3 (v := v5) (by simpa [show Try.prog.cellsOf 3 = 1 from by kernel_rfl] using g5)
    obtain ⟨z6, rfl⟩ := trod_boo Try.underlying4 (v := v6) (by simpa [show Try.prog.cellsOf 4 = 1 from by kernel_rfl] using g6)
    obtain ⟨z7, rfl⟩ := trod_boo Try.underlying4 (v := v7) (by simpa [show Try.prog.cellsOf 4 = 1 from by kernel_rfl] using g7)
    obtain ⟨z8, rfl⟩ := trod_i64 Try.underlying3 (v := v8) (by simpa [show Try.prog.cellsOf 3 = 1 from by kernel_rfl] using g8)
    obtain ⟨z9, rfl⟩ := trod_str Try.underlying9 (v := v9) (by simpa [show Try.prog.cellsOf 9 = 1 from by kernel_rfl] using g9)
    have g3' : DataW.trod enc Try.prog W base spare held n 23 [v3] = some y3 := by simpa [show Try.prog.cellsOf 23 = 1 from by kernel_rfl] using g3
    obtain ⟨ks, A, c, lv, hv3, hkl, hks, hkv⟩ := open_kids (fun m hm => ih m (by omega)) g3'
    obtain rfl : v3 = .slice A ks.length c := by simpa using hv3
    exact ⟨.mk z0 z1 z2 ks z4 z5 z6 z7 z8 z9, A, c, rfl, ⟨hkl, hks⟩, lv, hkv⟩

set_option maxRecDepth 100000 in
/-- a tree that comes in as an argument -/
theorem open_ryArg {H : Type} {enc : TypeId × Value → H} {W : World} {base base' : Nat} {spare : Nat → Bool} {held : Bool} {v : Value} {x : DataW H × List MemPlace} (hv : Value.okWide Try.prog W .any base TRx v)
    (h : ∃ fuel, DataW.trod enc Try.prog W base' spare held fuel TRx v.cells.toList = some x) : ∃ (t : Ry) (A : Option Addr) (c : Nat), v = ryAgg t (.slice A t.kids.length c) ∧ Sy maxLen t ∧ KTy W t A c := by
  unfold Value.okWide at hv
  rw [Try.underlying25] at hv
  obtain ⟨cs, rfl, _, _⟩ := hv
  obtain ⟨fuel, h⟩ := h
  obtain ⟨t, A, c, e, h1, h2⟩ := open_ry fuel _ _ h
  refine ⟨t, A, c, ?_, h1, h2⟩
  have e' : cs = (ryCells t (.slice A t.kids.length c)).toArray := by rw [← e]; rfl
  rw [e']
  rfl

end Go.Proofs.Ytoniccokohjenaa
