/-
  The walks of utf's Implode and Slice.
-/
import Derived.Test.YtoniccokohjenaaDoorUtfG
import Derived.Test.YtoniccokohjenaaDoorUtfH
import Derived.ShutString
namespace Go.Proofs.YtoniccokohjenaaDoor
open Go.RowKit

theorem bld_below {T e : TypeId} {B b : Nat} {bs : List Value} {w w' : World} (h : Lib.IsBuilderF T e B b bs w) (hb : Below w.heap.size w w') : Lib.IsBuilderF T e B b bs w' := by
  rcases h with h | h
  · left
    obtain ⟨hB, v, hbk, hown, hne⟩ := h
    refine ⟨hB, v, by rw [hb.block b (Array.getElem?_eq_some_iff.1 hbk).1]; exact hbk, ?_, hne⟩
    refine ⟨hown.1, ?_⟩
    rcases hown.2 with h2 | ⟨g, cap, cur, fz, hv, hg, hh, r⟩
    · exact .inl h2
    · exact .inr ⟨g, cap, cur, fz, hv, hg, by rw [hb.block g (Array.getElem?_eq_some_iff.1 hh).1]; exact hh, r⟩
  · right
    obtain ⟨hB, v, hbk, hown, hne⟩ := h
    refine ⟨hB, v, by rw [hb.block b (Array.getElem?_eq_some_iff.1 hbk).1]; exact hbk, ?_, hne⟩
    refine ⟨hown.1, ?_⟩
    rcases hown.2 with h2 | ⟨g, cap, cur, fz, hv, hg, hh, r⟩
    · exact .inl h2
    · exact .inr ⟨g, cap, cur, fz, hv, hg, by rw [hb.block g (Array.getElem?_eq_some_iff.1 hh).1]; exact hh, r⟩

theorem within_minmax (p : Int) (n : Nat) : min (max p 0) (n : Int) = (within p n : Int) := by unfold within; (repeat' split) <;> omega

set_option maxHeartbeats 1000000 in
set_option maxRecDepth 100000 in
theorem utfSlice_any (s : ByteArray) (p q : Int) (w : World) (hs : s.size ≤ 17592186044416) :
    Calls Tryd.prog 19 #[.string s, .int .i64 p, .int .i64 q] w fun e w' => e = .returned (.string ⟨(part s.data.toList p q).toArray⟩) ∧ Below w.heap.size w w' := by
  have hlen : (explode s.data.toList).length ≤ 17592186044416 := by have := explode_len s.data.toList; rw [← Lib.size_eq] at this; omega
  have hpt := explode_pt s.data.toList
  have hpart : ∀ i k, within p (explode s.data.toList).length = i → within q (explode s.data.toList).length = k → part s.data.toList p q = allB (((explode s.data.toList).drop i).take (k - i)) := by
    rintro i k rfl rfl; rfl
  have hnone := part_none s.data.toList p q
  go_enter Tryd.func19, Tryd.ntmps19
  go_wp2_with (go_at_call 6; refine (utfExplode_any _ _ hs).mono ?_)
  rintro e w1 ⟨v, rfl, hown, hb⟩
  obtain ⟨A, cap, rfl, hcap, hR⟩ := hown.rd
  have mm1 := within_minmax p (explode s.data.toList).length
  have mm2 := within_minmax q (explode s.data.toList).length
  have hi := within_le p (explode s.data.toList).length
  have hk := within_le q (explode s.data.toList).length
  generalize explode s.data.toList = l at *
  generalize hgi : within p l.length = i at *
  generalize hgk : within q l.length = k at *
  have HPT := Lib.hid hpt
  have HPART := Lib.hid hpart
  have HNONE := Lib.hid hnone
  have HR := Lib.hid hR
  have HOWN := Lib.hid hown
  have HGI := Lib.hid hgi
  have HGK := Lib.hid hgk
  clear hpt hpart hnone hR hown hgi hgk
  by_cases hik : k ≤ i
  · go_wp2
    go_ret
    exact ⟨by rw [HNONE.out hik]; rfl, hb⟩
  · obtain ⟨b, off, rfl, hRc⟩ := HR.out.cut (i := i) (k := k) (by omega) hk
    have hm : ∀ x ∈ (l.drop i).take (k - i), isPt x = true := fun x hx => HPT.out x (List.mem_of_mem_drop (List.mem_of_mem_take hx))
    have hpp := HPART.out i k rfl rfl
    generalize hmm : (l.drop i).take (k - i) = m at *
    obtain ⟨hml, hat⟩ := hRc
    have HAT := Lib.hid hat
    have HML := Lib.hid hml
    have HM := Lib.hid hm
    have HPP := Lib.hid hpp
    have HMM := Lib.hid hmm
    have hki : k - i ≤ 17592186044416 := by omega
    have hcki : k ≤ cap := by omega
    have hw1 := hb.size
    clear hml hat hm hpp hmm
    go_wp2
    go_loopw [31] (fun a wr => ∃ j : Nat, j ≤ k - i ∧ a = .int .i64 j ∧ Lib.IsBuilderF 66 5 w1.heap.size w1.heap.size (Lib.byteCells (allB (m.take j))) wr ∧ Below w1.heap.size w1 wr) (fun a _ => (k - i) - (intOf a).toNat)
    case atStart => exact ⟨0, Nat.zero_le _, rfl, Lib.IsBuilderF.of (Lib.fresh_isBuilder 66 5 w1), (Below.refl _ w1).alloc (Nat.le_refl _) _⟩
    case round =>
      obtain ⟨j, hj, rfl, hI, hb1⟩ := hrel
      have hsz1 := hb1.size
      have HI := Lib.hid hI
      clear hI
      by_cases hlt : j < k - i
      · obtain ⟨b', off', he, hbl, hc⟩ := HAT.out (by omega)
        have he1 : b = b' ∧ off + i = off' := by simpa using he
        obtain ⟨rfl, rfl⟩ := he1
        have hcell : wr.cell? ⟨b, off + i + j, none⟩ = some (.int .i64 (m.getD j 0)) := (hb1.cell (p := ⟨b, off + i + j, none⟩) hbl).trans (hc j hlt)
        have hptx := HM.out (m.getD j 0) (by rw [List.getD, List.getElem?_eq_getElem (by rw [HML.out]; omega)]; exact List.getElem_mem _)
        have HT := Lib.hid (allB_snoc m j (by rw [HML.out]; omega))
        have hal : (allB (m.take j)).length ≤ 4 * j := by have := allB_len (m.take j); rw [List.length_take] at this; omega
        have HRC := Lib.hid (runeCells_enc _ hptx)
        have hb4 := (isPt_iff _).1 hptx
        clear hc he hptx
        generalize hx : m.getD j 0 = x at hcell HT HRC hb4
        clear hx
        obtain ⟨hx0, hx1, _⟩ := hb4
        go_wp2_with (go_at_call 22; refine (bld_writeRune w1.heap.size w1.heap.size _ x (by omega) (by omega) _ HI.out (by rw [Lib.byteCells_length]; omega) hsz1).mono ?_)
        rintro e w2 ⟨rfl, h2, b2, k2⟩
        go_wp2
        go_roundw
        case rel =>
          refine ⟨j + 1, by omega, by go_num, ?_, hb1.trans b2⟩
          rw [HT.out, Lib.byteCells_append, ← HRC.out]
          exact Or.inr h2
        case measure => simp [intOf]; omega
      · have hj' : j = k - i := by omega
        have ht : m.take j = m := List.take_of_length_le (by rw [HML.out]; omega)
        have HT := Lib.hid ht
        clear hj' ht
        go_wp2_with (go_at_call 20; refine (Tryd.Builder_String_any_k w1.heap.size w1.heap.size _ _ HI.out (by omega)).mono ?_)
        rintro e w2 ⟨rfl, _, b2, _⟩
        rw [HT.out]
        go_wp2
        go_ret
        exact ⟨by rw [HPP.out]; rfl, hb.trans ((hb1.trans b2).mono hw1)⟩

end Go.Proofs.YtoniccokohjenaaDoor
