/-
  The walk of the parser's part (chapter 18).
-/
import Derived.Test.YtoniccokohjenaaDoorRegZ
namespace Go.Proofs.YtoniccokohjenaaDoor
open Go.RowKit

theorem KX.setRow {B b k : Nat} {w : World} {t : Rx} {kv : Value} (h : KX (fun q => B ≤ q ∧ q ≠ b) w t kv) (x : Value) : KX (fun q => B ≤ q ∧ q ≠ b) (w.setCell ⟨b, k, none⟩ x) t kv :=
  h.kept fun q _ _ hq hh => ⟨by rw [rheap_far (fun e => hq.2 (show b = q from e).symm)]; exact hh, hq⟩
theorem KX.un {B b : Nat} {w : World} {t : Rx} {kv : Value} (h : KX (fun q => B ≤ q ∧ q ≠ b) w t kv) : KX (fun q => B ≤ q) w t kv := h.kept fun _ _ _ hq hh => ⟨hh, hq.1⟩
theorem KX.same {F : Nat → Prop} {w : World} {t u : Rx} {kv : Value} (h : KX F w t kv) (e : u.kids = t.kids) : KX F w u kv := by
  unfold KX; rw [e]; exact h

section
variable (w0 : World) (g : Nat) (l : List Int) (free : Bool) (s : PS) (w : World) (rec : PS → PR Rx)
theorem rxSkipV (hp : s.pos ≤ l.length) (hl : l.length ≤ 1000) (h : PrV w0 g l free s w) :
    Calls Tryd.prog 40 #[.pointer (some ⟨g, 0, none⟩)] w (RetE (.tuple #[]) fun w' => PrV w0 g l free (skipS' free l s) w' ∧ PK g w w') := rxSkip_any w0 g l free s s.names w hp hl h
/-- a repeat's end: whether it is lazy -/
theorem rxLazyT (hp : s.pos ≤ l.length) (hl : l.length ≤ 1000) : ∃ (z : Bool) (s4 : PS), (∀ W, PrV w0 g l free (skipS' free l s) W → Calls Tryd.prog 33 #[.pointer (some ⟨g, 0, none⟩), .int .i64 63] W (RetE (.bool z) fun w' => PrV w0 g l free s4 w' ∧ PK g W w')) ∧ ∀ (x : Rx) (a b : Int), lazyR free l x a b s = .ok (rxRepeat x a b z) s4 := by
  have ha := (skip_adv (free := free) (l := l) s).le hp
  by_cases h : due l (skipS' free l s).pos = 63
  · exact ⟨true, { skipS' free l s with pos := (skipS' free l s).pos + 1 }, fun W hW => RetE.of (rxTakes_yes w0 g l free (skipS' free l s) (skipS' free l s).names W 63 hl h (by decide) hW), fun x a b => by unfold lazyR; exact if_pos h⟩
  · exact ⟨false, skipS' free l s, fun W hW => RetE.of (rxTakes_no w0 g l free (skipS' free l s) (skipS' free l s).names W 63 (by omega) hl h hW), fun x a b => by unfold lazyR; exact if_neg h⟩

set_option maxHeartbeats 4000000 in
set_option maxRecDepth 100000 in
theorem rxPart_any (hadv : ∀ s v s', rec s = .ok v s' → Adv l s s') (hlt : s.pos < l.length) (HR : s.deep < 50 → AltOk w0 g l free (s.deep + 1) rec) (hf : Fin1 l s) (h : PrV w0 g l free s w) :
    Calls Tryd.prog 42 #[.pointer (some ⟨g, 0, none⟩)] w (ResT w0 g l free w (partR free l rec s)) := by
  have H := Lib.hid h
  have hl := hf.len
  have hsz := h.size
  have KA0 := fun (W : World) (h : PrV w0 g l free s W) => rxAtom_any w0 g l free s W rec hadv hlt HR hf h
  clear h HR
  cases hat : atomR l rec s with
  | bad a n =>
    have HT := Lib.hid (show partR free l rec s = .bad a n by unfold partR; rw [hat]; rfl)
    rw [hat] at KA0
    have KA := Lib.hid (fun (W : World) (h : PrV w0 g l free s W) => show Calls Tryd.prog 47 #[.pointer (some ⟨g, 0, none⟩)] W (BdP w0 a n) from KA0 W h)
    clear KA0 hat
    go_enter Tryd.func42, Tryd.ntmps42
    go_wp2_with (go_at_call 47; refine (KA.out _ (H.out.alloc _)).mono ?_)
    rintro e w1 ⟨rfl, hb1⟩
    unfold stopE
    go_wp2
    rw [HT.out]
    exact ⟨rfl, rfl, hb1⟩
  | ok x s1 =>
    have had := atom_adv hadv hlt hat
    have hf1 := hf.adv had.1
    have hf2 := hf1.adv (skip_adv (free := free) s1)
    have hp1 := hf1.pos
    have hpart : partR free l rec s = if due l (skipS' free l s1).pos = 42 then lazyR free l x 0 (-1) { skipS' free l s1 with pos := (skipS' free l s1).pos + 1 } else if due l (skipS' free l s1).pos = 43 then lazyR free l x 1 (-1) { skipS' free l s1 with pos := (skipS' free l s1).pos + 1 } else if due l (skipS' free l s1).pos = 63 then lazyR free l x 0 1 { skipS' free l s1 with pos := (skipS' free l s1).pos + 1 } else if due l (skipS' free l s1).pos = 123 then (timesR l { skipS' free l s1 with pos := (skipS' free l s1).pos + 1 }).bind fun q s => lazyR free l x q.1 q.2 s else .ok x (skipS' free l s1) := by unfold partR; rw [hat]; rfl
    have HPART := Lib.hid hpart
    clear hpart
    have KSK := Lib.hid (fun (W : World) (h : PrV w0 g l free s1 W) => rxSkipV w0 g l free s1 W hp1 hl h)
    rw [hat] at KA0
    have KA := Lib.hid (fun (W : World) (h : PrV w0 g l free s W) => show Calls Tryd.prog 47 #[.pointer (some ⟨g, 0, none⟩)] W (OkT w0 g l free s1 W x) from KA0 W h)
    clear KA0 hat had
    generalize skipS' free l s1 = s2 at *
    have hp2 := hf2.pos
    have KD := fun (W : World) (h : PrV w0 g l free s2 W) => rxDueV w0 g l free s2 s2.names W (by omega) hl h
    go_enter Tryd.func42, Tryd.ntmps42
    go_wp2_with (go_at_call 47; refine (KA.out _ (H.out.alloc _)).mono ?_)
    rintro e w1 ⟨kv, rfl, hx1, h1, k1⟩
    obtain ⟨A1, cap1, rfl⟩ := hx1.slice
    have hr1 := k1.at (Go.heap_alloc_new w (.cells zRx TRx)) (by omega) (by decide)
    have hs1 := k1.1
    rw [World.size_alloc] at hs1 hx1
    have H1 := Lib.hid h1
    have HG1 := Lib.hid (h1.alloc (.cells (rxCells x (.slice A1 x.kids.length cap1)).toArray TRx)).blk
    have HX1 := Lib.hid hx1
    have HK1 := Lib.hid (((PK.refl g w).alloc (.cells zRx TRx)).trans k1)
    have hr1' := (Below.heap_alloc w1 (.cells (rxCells x (.slice A1 x.kids.length cap1)).toArray TRx) w.heap.size (by omega)).trans hr1
    have hgz1 := h1.size.2.1
    clear h1 k1 hx1
    simp only [rxAgg]
    go_wp2_with (go_at_call 40; refine (KSK.out _ (H1.out.alloc _)).mono ?_)
    rintro e w2 ⟨rfl, h2, k2⟩
    have hr2 := k2.at hr1' (by omega) (by decide)
    have hb2 := k2.at (Go.heap_alloc_new w1 (.cells (rxCells x (.slice A1 x.kids.length cap1)).toArray TRx)) (by omega) (by decide)
    have HX2 := Lib.hid (((HX1.out.alloc (.cells (rxCells x (.slice A1 x.kids.length cap1)).toArray TRx)).pk k2 HG1.out))
    have hs2 := k2.1
    rw [World.size_alloc] at hs2
    have H2 := Lib.hid h2
    have HK2 := Lib.hid ((HK1.out.alloc (.cells (rxCells x (.slice A1 x.kids.length cap1)).toArray TRx)).trans k2)
    have hbx : ∃ z, w2.heap[w1.heap.size]? = some (.cells (rxCells x (.slice A1 x.kids.length cap1)).toArray TRx z) := ⟨_, hb2⟩
    clear h2 k2 hr1 hr1'
    go_upto_region 4 with (with_reducible refine load_rxL (by with_reducible rfl) _ (by with_reducible rfl) w1.heap.size (rxCells x (.slice A1 x.kids.length cap1)) (by simp [Act.eval]) hbx (rx_len _ _) ?_; simp only [rxCells])
    generalize hW3 : World.alloc (World.alloc w2 _) _ = W3
    have hp3 : W3.heap[w2.heap.size + 1]? = some (.cells (rxCells (rxRepeat x 0 (-1) false) (.slice (some ⟨w2.heap.size, 0, none⟩) 1 1)).toArray TRx (0, 0)) := by
      rw [← hW3, show w2.heap.size + 1 = (w2.alloc (.cells (rxCells x (.slice A1 x.kids.length cap1)).toArray TRx)).heap.size by rw [World.size_alloc]]
      exact Go.heap_alloc_new _ _
    have hold : ∀ (q : Nat) (ob : Obj), w2.heap[q]? = some ob → W3.heap[q]? = some ob := fun q ob hh => by
      have hl := (Array.getElem?_eq_some_iff.1 hh).1
      rw [← hW3]
      exact (Below.heap_alloc _ _ q (by rw [World.size_alloc]; omega)).trans ((Below.heap_alloc w2 _ q hl).trans hh)
    have hn3 : W3.heap[w2.heap.size]? = some (.cells (rxCells x (.slice A1 x.kids.length cap1)).toArray TRx (0, 0)) := by
      rw [← hW3]
      exact (Below.heap_alloc _ _ w2.heap.size (by rw [World.size_alloc]; omega)).trans (Go.heap_alloc_new w2 _)
    have H3 : PrV w0 g l free s2 W3 := by rw [← hW3]; exact (H2.out.alloc _).alloc _
    have HK3 : PK g w W3 := by rw [← hW3]; exact (HK2.out.alloc _).alloc _
    have hr3 := hold _ _ hr2
    have hb3 := hold _ _ hb2
    have HX3 : KX (fun q => w.heap.size + 1 ≤ q ∧ q ≠ w2.heap.size + 1) W3 x (.slice A1 x.kids.length cap1) := HX2.out.kept fun q c z hq hh => ⟨hold _ _ hh, hq, by have := (Array.getElem?_eq_some_iff.1 hh).1; omega⟩
    have HY3 : ∀ t : Rx, t.kids = [x] → KX (fun q => w.heap.size + 1 ≤ q ∧ q ≠ w2.heap.size + 1) W3 t (.slice (some ⟨w2.heap.size, 0, none⟩) 1 1) := fun t ht => KX.one hn3 HX3 (by omega) ht
    clear hW3 hold hn3 hr2 hb2 hbx H2 HK2 HX2
    generalize w2.heap.size = n2 at *
    have hb4g : n2 + 1 ≠ g := fun e => by
      obtain ⟨c', z', hc⟩ := H3.blk
      rw [← e, hp3] at hc; injection hc with hc; injection hc with _ hc _; exact absurd hc (by decide)
    have hwb : w.heap.size < n2 + 1 := by omega
    generalize n2 + 1 = b4 at *
    have HX3 := Lib.hid HX3
    have HY3 := Lib.hid HY3
    have H3 := Lib.hid H3
    have HK3 := Lib.hid HK3
    have HR3 := Lib.hid hr3
    have HB3 := Lib.hid hb3
    have HP3 := Lib.hid hp3
    clear hr3 hb3 hp3
    by_cases h42 : due l s2.pos = 42
    · have hlt2 := due_lt h42 (by decide)
      have hf3 := hf2.adv (.step h42 (by decide))
      have hp3 := hf3.pos
      have hpart := HPART.out
      rw [if_pos h42] at hpart
      simp only [h42] at KD
      have K := Lib.hid KD
      clear KD h42
      go_wp2_with (go_at_call 41; refine (K.out _ H3.out).mono ?_)
      rintro e w4 ⟨rfl, h4, k4⟩
      have hr4 := k4.at HR3.out (by omega) (by decide)
      have hp4 := k4.at HP3.out hb4g (by decide)
      have HG4 := Lib.hid h4.blk
      have HY4 := Lib.hid ((HY3.out (rxRepeat x 0 (-1) false) rfl).pk k4 H3.out.blk)
      have c14 := h4.c1
      have f14 := h4.frozen 1
      have H4 := Lib.hid h4
      have HK4 := Lib.hid (HK3.out.trans k4)
      clear h4 k4
      have hr4' := (rheap_far (p := ⟨g, 1, none⟩) (v := .int .i64 ((s2.pos : Int) + 1)) (show g ≠ w.heap.size by omega)).trans hr4
      have hp4' := (rheap_far (p := ⟨g, 1, none⟩) (v := .int .i64 ((s2.pos : Int) + 1)) (show g ≠ b4 from fun e => hb4g e.symm)).trans hp4
      have HY4' := Lib.hid (HY4.out.pk ((PK.refl g w4).setOwn 1 (.int .i64 ((s2.pos : Int) + 1))) HG4.out)
      have H4' := Lib.hid (H4.out.put_pos (s2.pos + 1))
      have HK4' := Lib.hid (HK4.out.setOwn 1 (.int .i64 ((s2.pos : Int) + 1)))
      have H5 := H4'
      have HR5 := Lib.hid hr4'
      have HP5 := Lib.hid hp4'
      have HY5 := HY4'
      have HK5 := HK4'
      have hr6 := HR5.out
      have hp6 := HP5.out
      obtain ⟨z, s4, hkt, hlz⟩ := rxLazyT w0 g l free { s2 with pos := s2.pos + 1 } hp3 hl
      have KT := Lib.hid hkt
      have KS5 := Lib.hid (fun (W : World) (h : PrV w0 g l free { s2 with pos := s2.pos + 1 } W) => rxSkipV w0 g l free { s2 with pos := s2.pos + 1 } W hp3 hl h)
      have HT := Lib.hid (show partR free l rec s = .ok (rxRepeat x 0 (-1) z) s4 by rw [hpart]; exact hlz x 0 (-1))
      clear hkt hlz hr6 hp6 hpart
      go_wp2_with (go_at_call 40; refine (KS5.out _ H5.out).mono ?_)
      rintro e w6 ⟨rfl, h6, k6⟩
      have hr6 := k6.at HR5.out (by omega) (by decide)
      have hp6 := k6.at HP5.out hb4g (by decide)
      have HY6 := Lib.hid (HY5.out.pk k6 H5.out.blk)
      have H6 := Lib.hid h6
      have HK6 := Lib.hid (HK5.out.trans k6)
      clear h6 k6
      go_wp2_with (go_at_call 33; refine (KT.out _ H6.out).mono ?_)
      rintro e w7 ⟨rfl, h7, k7⟩
      have hr7 := k7.at hr6 (by omega) (by decide)
      have hp7 := k7.at hp6 hb4g (by decide)
      have HY7 := Lib.hid (HY6.out.pk k7 H6.out.blk)
      have H7 := Lib.hid h7
      have HK7 := Lib.hid (HK6.out.trans k7)
      have f67 := Lib.frozen_of_heap hp7 6
      have c67 : w7.cell? ⟨b4, 6, none⟩ = some (.bool false) := by rw [Lib.cell_of_heap hp7]; rfl
      have hp8 : (w7.setCell ⟨b4, 6, none⟩ (.bool z)).heap[b4]? = some (.cells (rxCells (rxRepeat x 0 (-1) z) (.slice (some ⟨n2, 0, none⟩) 1 1)).toArray TRx (0, 0)) := rheap_set (k := 6) hp7 _
      have hr8 := (rheap_far (p := ⟨b4, 6, none⟩) (v := .bool z) (show b4 ≠ w.heap.size by omega)).trans hr7
      have hb9 : ∃ z', (w7.setCell ⟨b4, 6, none⟩ (.bool z)).heap[b4]? = some (.cells (rxCells (rxRepeat x 0 (-1) z) (.slice (some ⟨n2, 0, none⟩) 1 1)).toArray TRx z') := ⟨_, hp8⟩
      have hr9 : ∃ c, (w7.setCell ⟨b4, 6, none⟩ (.bool z)).heap[w.heap.size]? = some (.cells c TRx (0, 0)) ∧ c.size = 10 := ⟨_, hr8, rfl⟩
      have H8 := Lib.hid (show PrV w0 g l free s4 (w7.setCell ⟨b4, 6, none⟩ (.bool z)) from h7.setOther hp7 (by omega) (by decide) (by decide) (by decide) 6 _)
      clear h7 k7 hr6 hp6
      go_wp2_with (first | (with_reducible refine load_rxL (by with_reducible rfl) _ (by with_reducible rfl) b4 (rxCells (rxRepeat x 0 (-1) z) (.slice (some ⟨n2, 0, none⟩) 1 1)) (by simp [Act.eval]) hb9 (rx_len _ _) ?_; simp only [rxCells]) | (with_reducible refine store_rx (by with_reducible rfl) _ _ (by with_reducible rfl) w.heap.size (rxCells (rxRepeat x 0 (-1) z) (.slice (some ⟨n2, 0, none⟩) 1 1)) (by simp [Act.eval, Act.put]) (by simp [Act.eval, Act.put, rxCells]) hr9 (rx_len _ _) (rx_one _ _ _ _) ?_; intro w9 hw9))
      obtain rfl := hw9.out
      refine ret_rx Tryd.results42 (setCells_whole (vs := rxCells (rxRepeat x 0 (-1) z) (.slice (some ⟨n2, 0, none⟩) 1 1)) hr8 rfl) (rx_len _ _) (by simp [Act.put]) rfl ?_
      rw [HT.out]
      exact ⟨.slice (some ⟨n2, 0, none⟩) 1 1, rfl, KX.weak (B := w.heap.size + 1) (KX.setRx (((HY7.out.setRow (.bool z)).un).same rfl) (by omega) 0 _) (by omega), H8.out.setRx hr8 (by omega) 0 _, (HK7.out.setNew (by omega) 6 _).setRx (Nat.le_refl _) 0 _⟩
    by_cases h43 : due l s2.pos = 43
    · have hlt2 := due_lt h43 (by decide)
      have hf3 := hf2.adv (.step h43 (by decide))
      have hp3 := hf3.pos
      have hpart := HPART.out
      rw [if_neg h42, if_pos h43] at hpart
      simp only [h43] at KD
      have K := Lib.hid KD
      clear KD h43 h42
      go_wp2_with (go_at_call 41; refine (K.out _ H3.out).mono ?_)
      rintro e w4 ⟨rfl, h4, k4⟩
      have hr4 := k4.at HR3.out (by omega) (by decide)
      have hp4 := k4.at HP3.out hb4g (by decide)
      have HG4 := Lib.hid h4.blk
      have HY4 := Lib.hid ((HY3.out (rxRepeat x 0 (-1) false) rfl).pk k4 H3.out.blk)
      have c14 := h4.c1
      have f14 := h4.frozen 1
      have H4 := Lib.hid h4
      have HK4 := Lib.hid (HK3.out.trans k4)
      clear h4 k4
      have hr4' := (rheap_far (p := ⟨g, 1, none⟩) (v := .int .i64 ((s2.pos : Int) + 1)) (show g ≠ w.heap.size by omega)).trans hr4
      have hp4' := (rheap_far (p := ⟨g, 1, none⟩) (v := .int .i64 ((s2.pos : Int) + 1)) (show g ≠ b4 from fun e => hb4g e.symm)).trans hp4
      have HY4' := Lib.hid (HY4.out.pk ((PK.refl g w4).setOwn 1 (.int .i64 ((s2.pos : Int) + 1))) HG4.out)
      have H4' := Lib.hid (H4.out.put_pos (s2.pos + 1))
      have HK4' := Lib.hid (HK4.out.setOwn 1 (.int .i64 ((s2.pos : Int) + 1)))
      have ck4 : (w4.setCell ⟨g, 1, none⟩ (.int .i64 ((s2.pos : Int) + 1))).cell? ⟨b4, 4, none⟩ = some (.int .i64 0) := by rw [Lib.cell_of_heap hp4']; rfl
      have fk4 := Lib.frozen_of_heap hp4' 4
      have H5 := Lib.hid (H4'.out.setOther hp4' (by omega) (by decide) (by decide) (by decide) 4 (.int .i64 1))
      have HR5 := Lib.hid ((rheap_far (p := ⟨b4, 4, none⟩) (v := .int .i64 1) (show b4 ≠ w.heap.size by omega)).trans hr4')
      have HP5 := Lib.hid (show ((w4.setCell ⟨g, 1, none⟩ (.int .i64 ((s2.pos : Int) + 1))).setCell ⟨b4, 4, none⟩ (.int .i64 1)).heap[b4]? = some (.cells (rxCells (rxRepeat x 1 (-1) false) (.slice (some ⟨n2, 0, none⟩) 1 1)).toArray TRx (0, 0)) from rheap_set (k := 4) hp4' _)
      have HY5 := Lib.hid (HY4'.out.setRow (k := 4) (.int .i64 1))
      have HK5 := Lib.hid (HK4'.out.setNew (q := b4) (by omega) 4 (.int .i64 1))
      have hr6 := HR5.out
      have hp6 := HP5.out
      obtain ⟨z, s4, hkt, hlz⟩ := rxLazyT w0 g l free { s2 with pos := s2.pos + 1 } hp3 hl
      have KT := Lib.hid hkt
      have KS5 := Lib.hid (fun (W : World) (h : PrV w0 g l free { s2 with pos := s2.pos + 1 } W) => rxSkipV w0 g l free { s2 with pos := s2.pos + 1 } W hp3 hl h)
      have HT := Lib.hid (show partR free l rec s = .ok (rxRepeat x 1 (-1) z) s4 by rw [hpart]; exact hlz x 1 (-1))
      clear hkt hlz hr6 hp6 hpart
      go_wp2_with (go_at_call 40; refine (KS5.out _ H5.out).mono ?_)
      rintro e w6 ⟨rfl, h6, k6⟩
      have hr6 := k6.at HR5.out (by omega) (by decide)
      have hp6 := k6.at HP5.out hb4g (by decide)
      have HY6 := Lib.hid (HY5.out.pk k6 H5.out.blk)
      have H6 := Lib.hid h6
      have HK6 := Lib.hid (HK5.out.trans k6)
      clear h6 k6
      go_wp2_with (go_at_call 33; refine (KT.out _ H6.out).mono ?_)
      rintro e w7 ⟨rfl, h7, k7⟩
      have hr7 := k7.at hr6 (by omega) (by decide)
      have hp7 := k7.at hp6 hb4g (by decide)
      have HY7 := Lib.hid (HY6.out.pk k7 H6.out.blk)
      have H7 := Lib.hid h7
      have HK7 := Lib.hid (HK6.out.trans k7)
      have f67 := Lib.frozen_of_heap hp7 6
      have c67 : w7.cell? ⟨b4, 6, none⟩ = some (.bool false) := by rw [Lib.cell_of_heap hp7]; rfl
      have hp8 : (w7.setCell ⟨b4, 6, none⟩ (.bool z)).heap[b4]? = some (.cells (rxCells (rxRepeat x 1 (-1) z) (.slice (some ⟨n2, 0, none⟩) 1 1)).toArray TRx (0, 0)) := rheap_set (k := 6) hp7 _
      have hr8 := (rheap_far (p := ⟨b4, 6, none⟩) (v := .bool z) (show b4 ≠ w.heap.size by omega)).trans hr7
      have hb9 : ∃ z', (w7.setCell ⟨b4, 6, none⟩ (.bool z)).heap[b4]? = some (.cells (rxCells (rxRepeat x 1 (-1) z) (.slice (some ⟨n2, 0, none⟩) 1 1)).toArray TRx z') := ⟨_, hp8⟩
      have hr9 : ∃ c, (w7.setCell ⟨b4, 6, none⟩ (.bool z)).heap[w.heap.size]? = some (.cells c TRx (0, 0)) ∧ c.size = 10 := ⟨_, hr8, rfl⟩
      have H8 := Lib.hid (show PrV w0 g l free s4 (w7.setCell ⟨b4, 6, none⟩ (.bool z)) from h7.setOther hp7 (by omega) (by decide) (by decide) (by decide) 6 _)
      clear h7 k7 hr6 hp6
      go_wp2_with (first | (with_reducible refine load_rxL (by with_reducible rfl) _ (by with_reducible rfl) b4 (rxCells (rxRepeat x 1 (-1) z) (.slice (some ⟨n2, 0, none⟩) 1 1)) (by simp [Act.eval]) hb9 (rx_len _ _) ?_; simp only [rxCells]) | (with_reducible refine store_rx (by with_reducible rfl) _ _ (by with_reducible rfl) w.heap.size (rxCells (rxRepeat x 1 (-1) z) (.slice (some ⟨n2, 0, none⟩) 1 1)) (by simp [Act.eval, Act.put]) (by simp [Act.eval, Act.put, rxCells]) hr9 (rx_len _ _) (rx_one _ _ _ _) ?_; intro w9 hw9))
      obtain rfl := hw9.out
      refine ret_rx Tryd.results42 (setCells_whole (vs := rxCells (rxRepeat x 1 (-1) z) (.slice (some ⟨n2, 0, none⟩) 1 1)) hr8 rfl) (rx_len _ _) (by simp [Act.put]) rfl ?_
      rw [HT.out]
      exact ⟨.slice (some ⟨n2, 0, none⟩) 1 1, rfl, KX.weak (B := w.heap.size + 1) (KX.setRx (((HY7.out.setRow (.bool z)).un).same rfl) (by omega) 0 _) (by omega), H8.out.setRx hr8 (by omega) 0 _, (HK7.out.setNew (by omega) 6 _).setRx (Nat.le_refl _) 0 _⟩
    by_cases h63 : due l s2.pos = 63
    · have hlt2 := due_lt h63 (by decide)
      have hf3 := hf2.adv (.step h63 (by decide))
      have hp3 := hf3.pos
      have hpart := HPART.out
      rw [if_neg h42, if_neg h43, if_pos h63] at hpart
      simp only [h63] at KD
      have K := Lib.hid KD
      clear KD h63 h42 h43
      go_wp2_with (go_at_call 41; refine (K.out _ H3.out).mono ?_)
      rintro e w4 ⟨rfl, h4, k4⟩
      have hr4 := k4.at HR3.out (by omega) (by decide)
      have hp4 := k4.at HP3.out hb4g (by decide)
      have HG4 := Lib.hid h4.blk
      have HY4 := Lib.hid ((HY3.out (rxRepeat x 0 (-1) false) rfl).pk k4 H3.out.blk)
      have c14 := h4.c1
      have f14 := h4.frozen 1
      have H4 := Lib.hid h4
      have HK4 := Lib.hid (HK3.out.trans k4)
      clear h4 k4
      have hr4' := (rheap_far (p := ⟨g, 1, none⟩) (v := .int .i64 ((s2.pos : Int) + 1)) (show g ≠ w.heap.size by omega)).trans hr4
      have hp4' := (rheap_far (p := ⟨g, 1, none⟩) (v := .int .i64 ((s2.pos : Int) + 1)) (show g ≠ b4 from fun e => hb4g e.symm)).trans hp4
      have HY4' := Lib.hid (HY4.out.pk ((PK.refl g w4).setOwn 1 (.int .i64 ((s2.pos : Int) + 1))) HG4.out)
      have H4' := Lib.hid (H4.out.put_pos (s2.pos + 1))
      have HK4' := Lib.hid (HK4.out.setOwn 1 (.int .i64 ((s2.pos : Int) + 1)))
      have ck4 : (w4.setCell ⟨g, 1, none⟩ (.int .i64 ((s2.pos : Int) + 1))).cell? ⟨b4, 5, none⟩ = some (.int .i64 (-1)) := by rw [Lib.cell_of_heap hp4']; rfl
      have fk4 := Lib.frozen_of_heap hp4' 5
      have H5 := Lib.hid (H4'.out.setOther hp4' (by omega) (by decide) (by decide) (by decide) 5 (.int .i64 1))
      have HR5 := Lib.hid ((rheap_far (p := ⟨b4, 5, none⟩) (v := .int .i64 1) (show b4 ≠ w.heap.size by omega)).trans hr4')
      have HP5 := Lib.hid (show ((w4.setCell ⟨g, 1, none⟩ (.int .i64 ((s2.pos : Int) + 1))).setCell ⟨b4, 5, none⟩ (.int .i64 1)).heap[b4]? = some (.cells (rxCells (rxRepeat x 0 1 false) (.slice (some ⟨n2, 0, none⟩) 1 1)).toArray TRx (0, 0)) from rheap_set (k := 5) hp4' _)
      have HY5 := Lib.hid (HY4'.out.setRow (k := 5) (.int .i64 1))
      have HK5 := Lib.hid (HK4'.out.setNew (q := b4) (by omega) 5 (.int .i64 1))
      have hr6 := HR5.out
      have hp6 := HP5.out
      obtain ⟨z, s4, hkt, hlz⟩ := rxLazyT w0 g l free { s2 with pos := s2.pos + 1 } hp3 hl
      have KT := Lib.hid hkt
      have KS5 := Lib.hid (fun (W : World) (h : PrV w0 g l free { s2 with pos := s2.pos + 1 } W) => rxSkipV w0 g l free { s2 with pos := s2.pos + 1 } W hp3 hl h)
      have HT := Lib.hid (show partR free l rec s = .ok (rxRepeat x 0 1 z) s4 by rw [hpart]; exact hlz x 0 1)
      clear hkt hlz hr6 hp6 hpart
      go_wp2_with (go_at_call 40; refine (KS5.out _ H5.out).mono ?_)
      rintro e w6 ⟨rfl, h6, k6⟩
      have hr6 := k6.at HR5.out (by omega) (by decide)
      have hp6 := k6.at HP5.out hb4g (by decide)
      have HY6 := Lib.hid (HY5.out.pk k6 H5.out.blk)
      have H6 := Lib.hid h6
      have HK6 := Lib.hid (HK5.out.trans k6)
      clear h6 k6
      go_wp2_with (go_at_call 33; refine (KT.out _ H6.out).mono ?_)
      rintro e w7 ⟨rfl, h7, k7⟩
      have hr7 := k7.at hr6 (by omega) (by decide)
      have hp7 := k7.at hp6 hb4g (by decide)
      have HY7 := Lib.hid (HY6.out.pk k7 H6.out.blk)
      have H7 := Lib.hid h7
      have HK7 := Lib.hid (HK6.out.trans k7)
      have f67 := Lib.frozen_of_heap hp7 6
      have c67 : w7.cell? ⟨b4, 6, none⟩ = some (.bool false) := by rw [Lib.cell_of_heap hp7]; rfl
      have hp8 : (w7.setCell ⟨b4, 6, none⟩ (.bool z)).heap[b4]? = some (.cells (rxCells (rxRepeat x 0 1 z) (.slice (some ⟨n2, 0, none⟩) 1 1)).toArray TRx (0, 0)) := rheap_set (k := 6) hp7 _
      have hr8 := (rheap_far (p := ⟨b4, 6, none⟩) (v := .bool z) (show b4 ≠ w.heap.size by omega)).trans hr7
      have hb9 : ∃ z', (w7.setCell ⟨b4, 6, none⟩ (.bool z)).heap[b4]? = some (.cells (rxCells (rxRepeat x 0 1 z) (.slice (some ⟨n2, 0, none⟩) 1 1)).toArray TRx z') := ⟨_, hp8⟩
      have hr9 : ∃ c, (w7.setCell ⟨b4, 6, none⟩ (.bool z)).heap[w.heap.size]? = some (.cells c TRx (0, 0)) ∧ c.size = 10 := ⟨_, hr8, rfl⟩
      have H8 := Lib.hid (show PrV w0 g l free s4 (w7.setCell ⟨b4, 6, none⟩ (.bool z)) from h7.setOther hp7 (by omega) (by decide) (by decide) (by decide) 6 _)
      clear h7 k7 hr6 hp6
      go_wp2_with (first | (with_reducible refine load_rxL (by with_reducible rfl) _ (by with_reducible rfl) b4 (rxCells (rxRepeat x 0 1 z) (.slice (some ⟨n2, 0, none⟩) 1 1)) (by simp [Act.eval]) hb9 (rx_len _ _) ?_; simp only [rxCells]) | (with_reducible refine store_rx (by with_reducible rfl) _ _ (by with_reducible rfl) w.heap.size (rxCells (rxRepeat x 0 1 z) (.slice (some ⟨n2, 0, none⟩) 1 1)) (by simp [Act.eval, Act.put]) (by simp [Act.eval, Act.put, rxCells]) hr9 (rx_len _ _) (rx_one _ _ _ _) ?_; intro w9 hw9))
      obtain rfl := hw9.out
      refine ret_rx Tryd.results42 (setCells_whole (vs := rxCells (rxRepeat x 0 1 z) (.slice (some ⟨n2, 0, none⟩) 1 1)) hr8 rfl) (rx_len _ _) (by simp [Act.put]) rfl ?_
      rw [HT.out]
      exact ⟨.slice (some ⟨n2, 0, none⟩) 1 1, rfl, KX.weak (B := w.heap.size + 1) (KX.setRx (((HY7.out.setRow (.bool z)).un).same rfl) (by omega) 0 _) (by omega), H8.out.setRx hr8 (by omega) 0 _, (HK7.out.setNew (by omega) 6 _).setRx (Nat.le_refl _) 0 _⟩
    by_cases h123 : due l s2.pos = 123
    · have hlt2 := due_lt h123 (by decide)
      have hf3 := hf2.adv (.step h123 (by decide))
      have hp3 := hf3.pos
      have hpart := HPART.out
      rw [if_neg h42, if_neg h43, if_neg h63, if_pos h123] at hpart
      have KM0 := fun (W : World) (h : PrV w0 g l free { s2 with pos := s2.pos + 1 } W) => rxTimes_any w0 g l free { s2 with pos := s2.pos + 1 } W hf3 h
      simp only [h123] at KD
      have K := Lib.hid KD
      clear KD h123 h42 h43 h63
      cases htm : timesR l { s2 with pos := s2.pos + 1 } with
      | bad a n =>
        rw [htm] at hpart KM0
        have HT := Lib.hid (show partR free l rec s = .bad a n from hpart)
        have KM := Lib.hid (fun (W : World) (h : PrV w0 g l free { s2 with pos := s2.pos + 1 } W) => show Calls Tryd.prog 48 #[.pointer (some ⟨g, 0, none⟩)] W (BdP w0 a n) from KM0 W h)
        clear htm KM0 hpart
        go_wp2_with (go_at_call 41; refine (K.out _ H3.out).mono ?_)
        rintro e w4 ⟨rfl, h4, k4⟩
        have hr4 := k4.at HR3.out (by omega) (by decide)
        have c14 := h4.c1
        have f14 := h4.frozen 1
        have H4' := Lib.hid (h4.put_pos (s2.pos + 1))
        clear h4 k4
        go_wp2_with (go_at_call 48; refine (KM.out _ H4'.out).mono ?_)
        rintro e w5 ⟨rfl, hb5⟩
        unfold stopE
        go_wp2
        rw [HT.out]
        exact ⟨rfl, rfl, hb5⟩
      | ok q s5 =>
        obtain ⟨a, b⟩ := q
        rw [htm] at hpart KM0
        have hf5 := hf3.adv (times_adv htm).1
        have hp5 := hf5.pos
        have KM := Lib.hid (fun (W : World) (h : PrV w0 g l free { s2 with pos := s2.pos + 1 } W) => show Calls Tryd.prog 48 #[.pointer (some ⟨g, 0, none⟩)] W (OkV w0 g l free s5 W (.tuple #[.int .i64 (a : Int), .int .i64 b])) from KM0 W h)
        clear htm KM0
        go_wp2_with (go_at_call 41; refine (K.out _ H3.out).mono ?_)
        rintro e w4 ⟨rfl, h4, k4⟩
        have hr4 := k4.at HR3.out (by omega) (by decide)
        have hp4 := k4.at HP3.out hb4g (by decide)
        have HG4 := Lib.hid h4.blk
        have HY4 := Lib.hid ((HY3.out (rxRepeat x 0 (-1) false) rfl).pk k4 H3.out.blk)
        have c14 := h4.c1
        have f14 := h4.frozen 1
        have H4 := Lib.hid h4
        have HK4 := Lib.hid (HK3.out.trans k4)
        clear h4 k4
        have hr4' := (rheap_far (p := ⟨g, 1, none⟩) (v := .int .i64 ((s2.pos : Int) + 1)) (show g ≠ w.heap.size by omega)).trans hr4
        have hp4' := (rheap_far (p := ⟨g, 1, none⟩) (v := .int .i64 ((s2.pos : Int) + 1)) (show g ≠ b4 from fun e => hb4g e.symm)).trans hp4
        have HY4' := Lib.hid (HY4.out.pk ((PK.refl g w4).setOwn 1 (.int .i64 ((s2.pos : Int) + 1))) HG4.out)
        have H4' := Lib.hid (H4.out.put_pos (s2.pos + 1))
        have HK4' := Lib.hid (HK4.out.setOwn 1 (.int .i64 ((s2.pos : Int) + 1)))
        go_wp2_with (go_at_call 48; refine (KM.out _ H4'.out).mono ?_)
        rintro e w5 ⟨rfl, h5, k5⟩
        have hr5 := k5.at hr4' (by omega) (by decide)
        have hp5' := k5.at hp4' hb4g (by decide)
        have HYa := Lib.hid (HY4'.out.pk k5 H4'.out.blk)
        have HKa := Lib.hid (HK4'.out.trans k5)
        have ck4 : w5.cell? ⟨b4, 4, none⟩ = some (.int .i64 0) := by rw [Lib.cell_of_heap hp5']; rfl
        have ck5 : w5.cell? ⟨b4, 5, none⟩ = some (.int .i64 (-1)) := by rw [Lib.cell_of_heap hp5']; rfl
        have fk4 := Lib.frozen_of_heap hp5' 4
        have fk5 := Lib.frozen_of_heap hp5' 5
        have hp5a := rheap_set (k := 4) hp5' (.int .i64 (a : Int))
        have H5 := Lib.hid ((h5.setOther hp5' (by omega) (by decide) (by decide) (by decide) 4 (.int .i64 (a : Int))).setOther hp5a (by omega) (by decide) (by decide) (by decide) 5 (.int .i64 b))
        have HR5 := Lib.hid ((rheap_far (p := ⟨b4, 5, none⟩) (v := .int .i64 b) (show b4 ≠ w.heap.size by omega)).trans ((rheap_far (p := ⟨b4, 4, none⟩) (v := .int .i64 (a : Int)) (show b4 ≠ w.heap.size by omega)).trans hr5))
        have HP5 := Lib.hid (show ((w5.setCell ⟨b4, 4, none⟩ (.int .i64 (a : Int))).setCell ⟨b4, 5, none⟩ (.int .i64 b)).heap[b4]? = some (.cells (rxCells (rxRepeat x a b false) (.slice (some ⟨n2, 0, none⟩) 1 1)).toArray TRx (0, 0)) from rheap_set (k := 5) hp5a _)
        have HY5 := Lib.hid ((HYa.out.setRow (k := 4) (.int .i64 (a : Int))).setRow (k := 5) (.int .i64 b))
        have HK5 := Lib.hid ((HKa.out.setNew (q := b4) (by omega) 4 (.int .i64 (a : Int))).setNew (q := b4) (by omega) 5 (.int .i64 b))
        clear h5 k5
        have hr6 := HR5.out
        have hp6 := HP5.out
        obtain ⟨z, s4, hkt, hlz⟩ := rxLazyT w0 g l free s5 hp5 hl
        have KT := Lib.hid hkt
        have KS5 := Lib.hid (fun (W : World) (h : PrV w0 g l free s5 W) => rxSkipV w0 g l free s5 W hp5 hl h)
        have HT := Lib.hid (show partR free l rec s = .ok (rxRepeat x a b z) s4 by rw [hpart]; exact hlz x a b)
        clear hkt hlz hr6 hp6 hpart
        go_wp2_with (go_at_call 40; refine (KS5.out _ H5.out).mono ?_)
        rintro e w6 ⟨rfl, h6, k6⟩
        have hr6 := k6.at HR5.out (by omega) (by decide)
        have hp6 := k6.at HP5.out hb4g (by decide)
        have HY6 := Lib.hid (HY5.out.pk k6 H5.out.blk)
        have H6 := Lib.hid h6
        have HK6 := Lib.hid (HK5.out.trans k6)
        clear h6 k6
        go_wp2_with (go_at_call 33; refine (KT.out _ H6.out).mono ?_)
        rintro e w7 ⟨rfl, h7, k7⟩
        have hr7 := k7.at hr6 (by omega) (by decide)
        have hp7 := k7.at hp6 hb4g (by decide)
        have HY7 := Lib.hid (HY6.out.pk k7 H6.out.blk)
        have H7 := Lib.hid h7
        have HK7 := Lib.hid (HK6.out.trans k7)
        have f67 := Lib.frozen_of_heap hp7 6
        have c67 : w7.cell? ⟨b4, 6, none⟩ = some (.bool false) := by rw [Lib.cell_of_heap hp7]; rfl
        have hp8 : (w7.setCell ⟨b4, 6, none⟩ (.bool z)).heap[b4]? = some (.cells (rxCells (rxRepeat x a b z) (.slice (some ⟨n2, 0, none⟩) 1 1)).toArray TRx (0, 0)) := rheap_set (k := 6) hp7 _
        have hr8 := (rheap_far (p := ⟨b4, 6, none⟩) (v := .bool z) (show b4 ≠ w.heap.size by omega)).trans hr7
        have hb9 : ∃ z', (w7.setCell ⟨b4, 6, none⟩ (.bool z)).heap[b4]? = some (.cells (rxCells (rxRepeat x a b z) (.slice (some ⟨n2, 0, none⟩) 1 1)).toArray TRx z') := ⟨_, hp8⟩
        have hr9 : ∃ c, (w7.setCell ⟨b4, 6, none⟩ (.bool z)).heap[w.heap.size]? = some (.cells c TRx (0, 0)) ∧ c.size = 10 := ⟨_, hr8, rfl⟩
        have H8 := Lib.hid (show PrV w0 g l free s4 (w7.setCell ⟨b4, 6, none⟩ (.bool z)) from h7.setOther hp7 (by omega) (by decide) (by decide) (by decide) 6 _)
        clear h7 k7 hr6 hp6
        go_wp2_with (first | (with_reducible refine load_rxL (by with_reducible rfl) _ (by with_reducible rfl) b4 (rxCells (rxRepeat x a b z) (.slice (some ⟨n2, 0, none⟩) 1 1)) (by simp [Act.eval]) hb9 (rx_len _ _) ?_; simp only [rxCells]) | (with_reducible refine store_rx (by with_reducible rfl) _ _ (by with_reducible rfl) w.heap.size (rxCells (rxRepeat x a b z) (.slice (some ⟨n2, 0, none⟩) 1 1)) (by simp [Act.eval, Act.put]) (by simp [Act.eval, Act.put, rxCells]) hr9 (rx_len _ _) (rx_one _ _ _ _) ?_; intro w9 hw9))
        obtain rfl := hw9.out
        refine ret_rx Tryd.results42 (setCells_whole (vs := rxCells (rxRepeat x a b z) (.slice (some ⟨n2, 0, none⟩) 1 1)) hr8 rfl) (rx_len _ _) (by simp [Act.put]) rfl ?_
        rw [HT.out]
        exact ⟨.slice (some ⟨n2, 0, none⟩) 1 1, rfl, KX.weak (B := w.heap.size + 1) (KX.setRx (((HY7.out.setRow (.bool z)).un).same rfl) (by omega) 0 _) (by omega), H8.out.setRx hr8 (by omega) 0 _, (HK7.out.setNew (by omega) 6 _).setRx (Nat.le_refl _) 0 _⟩
    have HT := Lib.hid (show partR free l rec s = .ok x s2 by rw [HPART.out, if_neg h42, if_neg h43, if_neg h63, if_neg h123])
    generalize due l s2.pos = d at *
    have y42 : (d == 42) = false := beq_false_of_ne h42
    have y43 : (d == 43) = false := beq_false_of_ne h43
    have y63 : (d == 63) = false := beq_false_of_ne h63
    have y123 : (d == 123) = false := beq_false_of_ne h123
    have K := Lib.hid KD
    clear KD HPART h42 h43 h63 h123
    go_wp2_with (go_at_call 41; refine (K.out _ H3.out).mono ?_)
    rintro e w4 ⟨rfl, h4, k4⟩
    have hr4 := k4.at HR3.out (by omega) (by decide)
    have hb4 := k4.at HB3.out (by omega) (by decide)
    have HX4 := Lib.hid (HX3.out.pk k4 H3.out.blk)
    have H4 := Lib.hid h4
    have HK4 := Lib.hid (HK3.out.trans k4)
    have hb9 : ∃ z, w4.heap[w1.heap.size]? = some (.cells (rxCells x (.slice A1 x.kids.length cap1)).toArray TRx z) := ⟨_, hb4⟩
    have hr9 : ∃ c, w4.heap[w.heap.size]? = some (.cells c TRx (0, 0)) ∧ c.size = 10 := ⟨_, hr4, rfl⟩
    clear h4 k4
    go_wp2_with (first | (with_reducible refine load_rxL (by with_reducible rfl) _ (by with_reducible rfl) w1.heap.size (rxCells x (.slice A1 x.kids.length cap1)) (by simp [Act.eval]) hb9 (rx_len _ _) ?_; simp only [rxCells]) | (with_reducible refine store_rx (by with_reducible rfl) _ _ (by with_reducible rfl) w.heap.size (rxCells x (.slice A1 x.kids.length cap1)) (by simp [Act.eval, Act.put]) (by simp [Act.eval, Act.put, rxCells]) hr9 (rx_len _ _) (rx_one _ _ _ _) ?_; intro w9 hw9))
    obtain rfl := hw9.out
    refine ret_rx Tryd.results42 (setCells_whole (vs := rxCells x (.slice A1 x.kids.length cap1)) hr4 rfl) (rx_len _ _) (by simp [Act.put]) rfl ?_
    rw [HT.out]
    exact ⟨.slice A1 x.kids.length cap1, rfl, KX.weak (B := w.heap.size + 1) (KX.setRx HX4.out.un (by omega) 0 _) (by omega), H4.out.setRx hr4 (by omega) 0 _, HK4.out.setRx (Nat.le_refl _) 0 _⟩
end

end Go.Proofs.YtoniccokohjenaaDoor
