/-
  The walk of the closure flush (chapter 14).
-/
import Derived.Test.YtnbfikfngekfoaaDoorLexH
namespace Go.Proofs.YtnbfikfngekfoaaDoor
open Go.RowKit

set_option maxHeartbeats 32000000 in
set_option maxRecDepth 100000 in
theorem lexFlush_any (w0 : World) (g br bf bb : Nat) (S : ByteArray) (s : LS) (p : Nat) (o : List UInt8) (w : World) (hp0 : s.pos ≤ p) (hp : p ≤ 1073741824) (ht : s.toks.length ≤ 1073741824) (h : TxV w0 g br bf bb S { s with pos := p } s.pos o w) :
    Calls Tryd.prog 36 #[.pointer (some ⟨br, 0, none⟩), .pointer (some ⟨bf, 0, none⟩), .pointer (some ⟨bb, 0, none⟩)] w fun e w' => e = .returned (.tuple #[]) ∧ LxV w0 g S (flushS s (p - s.pos) o) w' ∧ w'.heap[br]? = some (.cells #[.pointer (some ⟨g, 0, none⟩)] 34 (0, 0)) := by
  have H := Lib.hid h
  have cr := h.cr
  have cf := h.cf
  have c1 := h.reader.c1
  simp only at c1
  by_cases hpos : s.pos < p
  · obtain ⟨i0, hi, hz0, hz1, hz2⟩ := info_parts infoToken
    have g2 := h.reader.frozen 2
    obtain ⟨tv, xv, hh, c2, c3, hot, hox⟩ := h.reader.rows
    have hbs := h.reader.size
    have hne1 : br ≠ g := fun e => by have := h.2.2.1; rw [e, hh] at this; injection this with this; injection this with _ this _; exact absurd this (by decide)
    have hne2 : bf ≠ g := fun e => by have := h.2.2.2.1; rw [e, hh] at this; injection this with this; injection this with _ this _; exact absurd this (by decide)
    have ks : ∀ m, Calls Tryd.prog 37 #[.pointer (some ⟨bb, 0, none⟩)] (w.drewN m) fun e w' => e = .returned (.string ⟨o.toArray⟩) ∧ TxV w0 g br bf bb S { s with pos := p } s.pos o w' ∧ w'.cell? ⟨g, 2, none⟩ = some tv ∧ w.heap.size ≤ w'.heap.size := fun m => (Tryd.Builder_String_any_k w0.heap.size bb o (w.drewN m) (h.drewN m).bld hbs.2.2).mono (by
      rintro e w' ⟨rfl, h1, h2, h3⟩
      refine ⟨rfl, (h.drewN m).written h2 h3 h1, ?_, h2.size⟩
      obtain ⟨c0, z0, hbb⟩ := lbld_block h.bld
      have hg : w'.heap[g]? = _ := others_keep (W := w.drewN m) h3 (by decide) (fun e => by subst e; rw [hbb] at hh; injection hh with hh; injection hh with _ hh _; exact absurd hh (by decide)) hh
      rw [Lib.cell_of_heap hg]; rfl)
    have KS := Lib.hid ks
    have HNE := Lib.hid hne1
    have hfl : flushS s (p - s.pos) o = { pos := p, toks := s.toks ++ [⟨8, o, s.pos⟩], texts := s.texts, err := s.err } := by
      unfold flushS
      rw [if_pos (by omega), show s.pos + (p - s.pos) = p by omega]
    have HF := Lib.hid hfl
    clear h hh hox c3 hot ks hne1 hne2 hfl
    go_enter Tryd.func36, Tryd.ntmps36
    go_wp2
    go_quiet (fail)
    go_wp2
    clear c1 g2 hpos
    go_region_law
      (first
      | (refine lstep_append_own _ rfl (.tmp 13) (.tmp 17) 24 rfl w0.heap.size 30 i0 (.agg #[.int .i64 0, .string ⟨#[]⟩, .int .i64 0]) 3 32 Tryd.underlying24 hi hz0 hz1 hz2 rfl (by decide) tv s.toks.length (tkCells s.toks) (by simp [Act.eval]) (lowns_below (H1.out.reader.row_of E2.out) ((Below.refl _ w1).alloc (Nat.le_refl _) _)) ⟨w1.heap.size, 0, none⟩ 1 1 [.int .i64 ((8 : Nat) : Int), .string ⟨o.toArray⟩, .int .i64 (s.pos : Int)] (by simp [Act.eval]) rfl (news3' w1 _ _ _ _) (one3 _ _ _ _) (by unfold maxLen; omega) (by omega) (by simp; omega) ?_; intro v5 w5 hown5 hgrow5; obtain ⟨e6, e7, e8⟩ := H1.out.reader.grows0 E2.out hgrow5; have E8 := Lib.hid (e8 v5 ⟨8, o, s.pos⟩ hown5); clear e8; have h5 := H1.out.reader.grown_far E2.out hgrow5 (by decide) H1.out.2.2.1; have h6 := H1.out.reader.grown_far E2.out hgrow5 (by decide) H1.out.2.2.2.1; have H5 := Lib.hid h5; have cr5 : w5.cell? ⟨br, 0, none⟩ = some (.pointer (some ⟨g, 0, none⟩)) := (by rw [Lib.cell_of_heap h5]; rfl); have cf5 : w5.cell? ⟨bf, 0, none⟩ = some (.int .i64 (s.pos : Int)) := (by rw [Lib.cell_of_heap h6]; rfl); clear h5 h6; obtain ⟨A5, cap5, rfl⟩ := lowns_slice hown5)
      | (go_simp; go_at_call 37; refine (KS.out _).mono ?_; rintro e w1 ⟨rfl, h1, e2, hs1⟩; have H1 := Lib.hid h1; have cr1 := h1.cr; have cf1 := h1.cf; have g21 := h1.reader.frozen 2; have E2 := Lib.hid e2; have cr21 : ∀ ob : Obj, (w1.alloc ob).cell? ⟨br, 0, none⟩ = some (.pointer (some ⟨g, 0, none⟩)) := (fun ob => by rw [World.cell?_alloc_past (hn := (Array.getElem?_eq_some_iff.1 h1.2.2.1).1)]; exact cr1); have c21 : ∀ ob : Obj, (w1.alloc ob).cell? ⟨g, 2, none⟩ = some tv := (fun ob => by rw [World.cell?_alloc_past (hn := h1.reader.size.2.1)]; exact e2); clear h1))
    all_goals
      go_wp2
      go_returns
      exact ⟨rfl, by rw [HF.out]; exact E8.out, (lheap_far (fun e => HNE.out e.symm)).trans H5.out⟩
  · obtain rfl : s.pos = p := by omega
    clear h
    go_enter Tryd.func36, Tryd.ntmps36
    go_wp2
    go_quiet (fail)
    go_wp2
    go_returns
    exact ⟨rfl, by rw [Nat.sub_self]; exact (H.out.drewN _).reader, H.out.2.2.1⟩

end Go.Proofs.YtnbfikfngekfoaaDoor
