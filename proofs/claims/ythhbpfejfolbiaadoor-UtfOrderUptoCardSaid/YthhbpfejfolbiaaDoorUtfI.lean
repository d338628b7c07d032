/-
  The walks of utf's Implode and Slice.
-/
import Derived.Test.YthhbpfejfolbiaaDoorUtfG
import Derived.Test.YthhbpfejfolbiaaDoorUtfH
import Derived.ShutString
namespace Go.Proofs.YthhbpfejfolbiaaDoor
open Go.RowKit

theorem utfEncode_yes (p : Int) (w : World) (h : isPt p = true) :
    Calls Tryd.prog 14 #[.int .i64 p] w fun e w' => e = .returned (.tuple #[.string ⟨(enc p).toArray⟩, .int .i64 0]) ∧ Below w.heap.size w w' := by
  have := utfEncode_any p w
  rw [← encVal_yes p h] at this
  exact this
theorem utfEncode_bad (p : Int) (w : World) (h : isPt p = false) :
    Calls Tryd.prog 14 #[.int .i64 p] w fun e w' => e = .returned (.tuple #[.string ⟨#[]⟩, .int .i64 1]) ∧ Below w.heap.size w w' := by
  have := utfEncode_any p w
  rw [← encVal_no p h] at this
  exact this

theorem bld_below {T e : TypeId} {B b : Nat} {bs : List Value} {w w' : World} (h : Lib.IsBuilderF T e B b bs w) (hb : Below w.heap.size w w') : Lib.IsBuilderF T e B b bs w' := by
  rcases h with h | h
  · left
    obtain ⟨hB, v, hbk, hown, hne⟩ := h
    refine ⟨hB, v, by rw [hb.block b (Array.getElem?_eq_some_iff.1 hbk).1]; exact hbk, ?_, hne⟩
    refine ⟨hown.1, ?_⟩
    rcases hown.2 with h2 | ⟨g, cap, cur, fz, hv, hg, hh, r⟩
    · exact .inl h2
    · exact .inr ⟨g, cap, cur, fz, hv, hg, by rw [hb.block g (Array.getElem?_eq_some_iff.1 hh).1]; exact hh, r⟩
  · right
    obtain ⟨hB, v, hbk, hown, hne⟩ := h
    refine ⟨hB, v, by rw [hb.block b (Array.getElem?_eq_some_iff.1 hbk).1]; exact hbk, ?_, hne⟩
    refine ⟨hown.1, ?_⟩
    rcases hown.2 with h2 | ⟨g, cap, cur, fz, hv, hg, hh, r⟩
    · exact .inl h2
    · exact .inr ⟨g, cap, cur, fz, hv, hg, by rw [hb.block g (Array.getElem?_eq_some_iff.1 hh).1]; exact hh, r⟩

set_option maxHeartbeats 1000000 in
set_option maxRecDepth 100000 in
theorem utfImplode_any (A : Option Addr) (n cap : Nat) (l : List Int) (w : World) (hR : RdI w A n l) (hn : n ≤ 17592186044416) :
    Calls Tryd.prog 25 #[.slice A n cap] w fun e w' => e = .returned (impVal l) ∧ Below w.heap.size w w' := by
  obtain ⟨hlen, hat⟩ := hR
  have HLEN := Lib.hid hlen
  have HAT := Lib.hid hat
  clear hlen hat
  go_enter Tryd.func25, Tryd.ntmps25
  go_wp2
  go_loopw [11] (fun a wr => ∃ k : Nat, k ≤ n ∧ a = .int .i64 k ∧ Lib.IsBuilderF 55 5 w.heap.size w.heap.size (Lib.byteCells (allB (l.take k))) wr ∧ Hid (allPt (l.take k) = true) ∧ Below w.heap.size w wr) (fun a _ => n - (intOf a).toNat)
  case atStart => exact ⟨0, Nat.zero_le _, rfl, Lib.IsBuilderF.of (Lib.fresh_isBuilder 55 5 w), rfl, (Below.refl _ w).alloc (Nat.le_refl _) _⟩
  case round =>
    obtain ⟨k, hk, rfl, hI, hv, hb⟩ := hrel
    have hsz0 := hb.size
    have HI := Lib.hid hI
    clear hI
    by_cases hlt : k < n
    · obtain ⟨b, off, rfl, hbl, hc⟩ := HAT.out (by omega)
      have hcell : wr.cell? ⟨b, off + k, none⟩ = some (.int .i64 (l.getD k 0)) := (hb.cell (p := ⟨b, off + k, none⟩) hbl).trans (hc k hlt)
      have HS := Lib.hid (allPt_snoc l k (by rw [HLEN.out]; omega))
      have HB := Lib.hid (allPt_bad l k (by rw [HLEN.out]; omega))
      have HT := Lib.hid (allB_snoc l k (by rw [HLEN.out]; omega))
      have hal : (allB (l.take k)).length ≤ 4 * k := by have := allB_len (l.take k); rw [List.length_take] at this; omega
      have he4 := enc_pos (l.getD k 0)
      clear hc
      generalize hx : l.getD k 0 = x at hcell HS HB HT he4
      clear hx
      cases hI : isPt x
      · have HP := Lib.hid hI
        clear hI
        go_wp2_with (go_at_call 14; refine (utfEncode_bad _ _ HP.out).mono ?_)
        rintro e w1 ⟨rfl, hb1⟩
        go_wp2
        go_ret2
        exact ⟨congrArg _ (impVal_no l (HB.out HP.out)), hb.trans (hb1.mono hsz0)⟩
      · have HP := Lib.hid hI
        clear hI
        go_wp2_with (go_at_call 14; refine (utfEncode_yes _ _ HP.out).mono ?_)
        rintro e w1 ⟨rfl, hb1⟩
        have hsz1 := hb1.size
        have HES := Lib.hid (size_of_list (enc x))
        generalize hs : (⟨(enc x).toArray⟩ : ByteArray) = s at HES
        have HSS := Lib.hid hs
        clear hs
        go_wp2_with (go_at_call 38; refine (bld_writeString w.heap.size w.heap.size _ s _ (bld_below HI.out hb1) (by rw [Lib.byteCells_length, HES.out]; omega) (by omega)).mono ?_)
        rintro e w2 ⟨rfl, h2, b2, k2⟩
        go_wp2
        go_roundw
        case rel =>
          refine ⟨k + 1, by omega, by go_num, ?_, by show _ = _; rw [HS.out, hv.out, HP.out]; rfl, (hb.trans (hb1.mono hsz0)).trans b2⟩
          rw [HT.out, Lib.byteCells_append]
          have e3 : Lib.strCells s = Lib.byteCells (enc x) := by rw [← HSS.out]; rfl
          rw [e3] at h2
          exact Or.inr h2
        case measure => simp [intOf]; omega
    · have hk' : k = n := by omega
      have hall : allPt l = true := by
        have := hv.out
        rwa [List.take_of_length_le (by rw [HLEN.out]; omega)] at this
      have ht : l.take k = l := List.take_of_length_le (by rw [HLEN.out]; omega)
      have HALL := Lib.hid hall
      have HT := Lib.hid ht
      clear hk' hall ht
      go_wp2_with (go_at_call 35; refine (Tryd.Builder_String_any_k w.heap.size w.heap.size _ _ HI.out (by omega)).mono ?_)
      rintro e w1 ⟨rfl, _, hb1, _⟩
      rw [HT.out]
      go_wp2
      go_ret2
      exact ⟨congrArg _ (impVal_yes l HALL.out), hb.trans hb1⟩

theorem within_minmax (p : Int) (n : Nat) : min (max p 0) (n : Int) = (within p n : Int) := by unfold within; (repeat' split) <;> omega

set_option maxHeartbeats 1000000 in
set_option maxRecDepth 100000 in
theorem utfSlice_any (s : ByteArray) (p q : Int) (w : World) (hs : s.size ≤ 17592186044416) :
    Calls Tryd.prog 23 #[.string s, .int .i64 p, .int .i64 q] w fun e w' => e = .returned (.string ⟨(part s.data.toList p q).toArray⟩) ∧ Below w.heap.size w w' := by
  have hlen : (explode s.data.toList).length ≤ 17592186044416 := by have := explode_len s.data.toList; rw [← Lib.size_eq] at this; omega
  have hpt := explode_pt s.data.toList
  have hpart : ∀ i k, within p (explode s.data.toList).length = i → within q (explode s.data.toList).length = k → part s.data.toList p q = allB (((explode s.data.toList).drop i).take (k - i)) := by
    rintro i k rfl rfl; rfl
  have hnone := part_none s.data.toList p q
  go_enter Tryd.func23, Tryd.ntmps23
  go_wp2_with (go_at_call 17; refine (utfExplode_any _ _ hs).mono ?_)
  rintro e w1 ⟨v, rfl, hown, hb⟩
  obtain ⟨A, cap, rfl, hcap, hR⟩ := hown.rd
  have mm1 := within_minmax p (explode s.data.toList).length
  have mm2 := within_minmax q (explode s.data.toList).length
  have hi := within_le p (explode s.data.toList).length
  have hk := within_le q (explode s.data.toList).length
  generalize explode s.data.toList = l at *
  generalize hgi : within p l.length = i at *
  generalize hgk : within q l.length = k at *
  have HPT := Lib.hid hpt
  have HPART := Lib.hid hpart
  have HNONE := Lib.hid hnone
  have HR := Lib.hid hR
  have HOWN := Lib.hid hown
  have HGI := Lib.hid hgi
  have HGK := Lib.hid hgk
  clear hpt hpart hnone hR hown hgi hgk
  by_cases hik : k ≤ i
  · go_wp2
    go_ret
    exact ⟨by rw [HNONE.out hik]; rfl, hb⟩
  · obtain ⟨b, off, rfl, hRc⟩ := HR.out.cut (i := i) (k := k) (by omega) hk
    have hm : ∀ x ∈ (l.drop i).take (k - i), isPt x = true := fun x hx => HPT.out x (List.mem_of_mem_drop (List.mem_of_mem_take hx))
    have hpp := HPART.out i k rfl rfl
    generalize hmm : (l.drop i).take (k - i) = m at *
    obtain ⟨hml, hat⟩ := hRc
    have HAT := Lib.hid hat
    have HML := Lib.hid hml
    have HM := Lib.hid hm
    have HPP := Lib.hid hpp
    have HMM := Lib.hid hmm
    have hki : k - i ≤ 17592186044416 := by omega
    have hcki : k ≤ cap := by omega
    have hw1 := hb.size
    clear hml hat hm hpp hmm
    go_wp2
    go_loopw [31] (fun a wr => ∃ j : Nat, j ≤ k - i ∧ a = .int .i64 j ∧ Lib.IsBuilderF 55 5 w1.heap.size w1.heap.size (Lib.byteCells (allB (m.take j))) wr ∧ Below w1.heap.size w1 wr) (fun a _ => (k - i) - (intOf a).toNat)
    case atStart => exact ⟨0, Nat.zero_le _, rfl, Lib.IsBuilderF.of (Lib.fresh_isBuilder 55 5 w1), (Below.refl _ w1).alloc (Nat.le_refl _) _⟩
    case round =>
      obtain ⟨j, hj, rfl, hI, hb1⟩ := hrel
      have hsz1 := hb1.size
      have HI := Lib.hid hI
      clear hI
      by_cases hlt : j < k - i
      · obtain ⟨b', off', he, hbl, hc⟩ := HAT.out (by omega)
        have he1 : b = b' ∧ off + i = off' := by simpa using he
        obtain ⟨rfl, rfl⟩ := he1
        have hcell : wr.cell? ⟨b, off + i + j, none⟩ = some (.int .i64 (m.getD j 0)) := (hb1.cell (p := ⟨b, off + i + j, none⟩) hbl).trans (hc j hlt)
        have hptx := HM.out (m.getD j 0) (by rw [List.getD, List.getElem?_eq_getElem (by rw [HML.out]; omega)]; exact List.getElem_mem _)
        have HT := Lib.hid (allB_snoc m j (by rw [HML.out]; omega))
        have hal : (allB (m.take j)).length ≤ 4 * j := by have := allB_len (m.take j); rw [List.length_take] at this; omega
        have HRC := Lib.hid (runeCells_enc _ hptx)
        have hb4 := (isPt_iff _).1 hptx
        clear hc he hptx
        generalize hx : m.getD j 0 = x at hcell HT HRC hb4
        clear hx
        obtain ⟨hx0, hx1, _⟩ := hb4
        go_wp2_with (go_at_call 34; refine (bld_writeRune w1.heap.size w1.heap.size _ x (by omega) (by omega) _ HI.out (by rw [Lib.byteCells_length]; omega) hsz1).mono ?_)
        rintro e w2 ⟨rfl, h2, b2, k2⟩
        go_wp2
        go_roundw
        case rel =>
          refine ⟨j + 1, by omega, by go_num, ?_, hb1.trans b2⟩
          rw [HT.out, Lib.byteCells_append, ← HRC.out]
          exact Or.inr h2
        case measure => simp [intOf]; omega
      · have hj' : j = k - i := by omega
        have ht : m.take j = m := List.take_of_length_le (by rw [HML.out]; omega)
        have HT := Lib.hid ht
        clear hj' ht
        go_wp2_with (go_at_call 35; refine (Tryd.Builder_String_any_k w1.heap.size w1.heap.size _ _ HI.out (by omega)).mono ?_)
        rintro e w2 ⟨rfl, _, b2, _⟩
        rw [HT.out]
        go_wp2
        go_ret
        exact ⟨by rw [HPP.out]; rfl, hb.trans ((hb1.trans b2).mono hw1)⟩

end Go.Proofs.YthhbpfejfolbiaaDoor
