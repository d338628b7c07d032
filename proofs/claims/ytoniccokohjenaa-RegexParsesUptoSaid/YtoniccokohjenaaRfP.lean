/-
  The walk of the reference's atom (chapter 18).
-/
import Derived.Test.YtoniccokohjenaaRfG
namespace Go.Proofs.Ytoniccokohjenaa
open Go.RowKit

set_option maxHeartbeats 4000000 in
set_option maxRecDepth 100000 in
theorem rfAtom_any (L : LX) (l : List Int) (s : PS) (p : PX) (w : World) (rec : PS → PR Rx) (hlt : s.pos < l.length)
    (KG : due l s.pos = 40 → ∀ W, Lv W L l s p → Calls Try.prog 97 #[pAgg L p] W (RxP L l W (groupR l rec s)))
    (KSE : ∀ (s' : PS) (p' : PX) (W : World), Lv W L l s' p' → Calls Try.prog 98 #[pAgg L p'] W (RxP L l W (setR l s')))
    (h : Lv w L l s p) :
    Calls Try.prog 83 #[pAgg L p] w (RxP L l w (atomR l rec s)) := by
  have HLv := Lib.hid h
  have HI := Lib.hid h.i
  have hl := h.fin.len
  have hp := h.fin.pos
  have k0 := fun (W : World) (h : Lv W L l s p) => show Calls Try.prog 55 #[pAgg L p, .int .i64 0] W (RetE (.int .i64 (due l s.pos)) fun w' => Below W.heap.size W w') from rfSignL L l s p 0 W h (by omega)
  by_cases hbad : due l s.pos = 42 ∨ due l s.pos = 43 ∨ due l s.pos = 63 ∨ due l s.pos = 123 ∨ due l s.pos = 125 ∨ due l s.pos = 93
  · have hrb : atomR l rec s = failR l s.pos := by unfold atomR; simp only; rw [if_pos hbad]
    clear h KG KSE
    generalize due l s.pos = d at *
    rcases hbad with rfl | rfl | rfl | rfl | rfl | rfl <;>
    · have KS0 := Lib.hid k0
      clear k0
      go_enter Try.func83, Try.ntmps83
      go_wp2_with (with_reducible refine box_p (by with_reducible rfl) _ (by with_reducible rfl) (L := L) (p := p) (by simp [Act.eval]) ?_)
      intro V hV bV sV
      go_wp2_with (with_reducible refine room_p (by with_reducible rfl) (by with_reducible rfl) hV ?_)
      intro W hW bW sW
      clear hV bV sV bW sW
      have H := Lib.hid hW
      clear hW
      -- the sign at the place is read
      go_wp2_with (first
        | (with_reducible refine load_p (by with_reducible rfl) _ (by with_reducible rfl) w.heap.size (by first | (simp [Act.eval]; done) | simp [Act.eval, Act.put]) H.out ?_)
        | (go_at_call 55; (with_reducible refine (KS0.out _ (HLv.out.below H.out.below)).mono ?_)))
      rintro e w1 ⟨rfl, hb1⟩
      have HPW := Lib.hid (H.out.call hb1)
      clear hb1
      -- the place is told: HRB: what is answered; F, slots as the function has them
      obtain ⟨a', m', hf, hbx⟩ := stopX_fail (α := Rx) (L := L) (l := l) (p := p) (i := s.pos) HLv.out.pat.1.symm
      have HM := Lib.hid (hrb.trans hf)
      have HBX := Lib.hid hbx
      have KST := Lib.hid (fun W => rfStop L p (s.pos : Int) W)
      have c1 := HPW.out.i
      rw [HI.out] at c1
      clear hf hbx hrb
      go_wp2_with (first
        | (with_reducible refine load_p (by with_reducible rfl) _ (by with_reducible rfl) w.heap.size (by first | (simp [Act.eval]; done) | simp [Act.eval, Act.put]) HPW.out ?_)
        | (go_at_call 32; (with_reducible refine (KST.out _).mono ?_)))
      rintro e w8 ⟨rfl, hb8⟩
      have H8 := Lib.hid (HPW.out.call hb8)
      clear hb8 c1
      go_wp2_with (first
        | (with_reducible refine store_r (by with_reducible rfl) _ _ (by with_reducible rfl) (w.heap.size + 1) (p' := stopX L p (s.pos : Int)) (by first | (simp [Act.eval]; done) | simp [Act.eval, Act.put]) (by first | (simp [Act.eval]; done) | simp [Act.eval, Act.put]) H8.out ?_))
      intro W2 h2 b2 _
      go_wp2
      refine ret_p (k := 2) Try.results83 h2 (by first | (simp; done) | simp [Act.put]) rfl ?_
      rw [HM.out]
      exact ⟨_, rfl, HBX.out, b2⟩
  obtain ⟨pB, hpB⟩ : ∃ q : PX, q = { p with i := wrap64 (p.i + 1) } := ⟨_, rfl⟩
  have KON := Lib.hid (fun W => show Calls Try.prog 56 #[pAgg L p, .int .i64 1] W (RetE (pAgg L pB) fun w' => Below W.heap.size W w') by rw [hpB]; exact rfOn L p 1 W)
  by_cases h40 : due l s.pos = 40
  · have HT := Lib.hid (show atomR l rec s = groupR l rec s by unfold atomR; simp only [h40]; rfl)
    have HG := Lib.hid (KG h40)
    rw [h40] at k0
    have KS0 := Lib.hid k0
    clear k0 h40 hbad KG KSE h hpB
    go_enter Try.func83, Try.ntmps83
    go_wp2_with (with_reducible refine box_p (by with_reducible rfl) _ (by with_reducible rfl) (L := L) (p := p) (by simp [Act.eval]) ?_)
    intro V hV bV sV
    go_wp2_with (with_reducible refine room_p (by with_reducible rfl) (by with_reducible rfl) hV ?_)
    intro W hW bW sW
    clear hV bV sV bW sW
    have H := Lib.hid hW
    clear hW
    -- the sign at the place is read
    go_wp2_with (first
      | (with_reducible refine load_p (by with_reducible rfl) _ (by with_reducible rfl) w.heap.size (by first | (simp [Act.eval]; done) | simp [Act.eval, Act.put]) H.out ?_)
      | (go_at_call 55; (with_reducible refine (KS0.out _ (HLv.out.below H.out.below)).mono ?_)))
    rintro e w1 ⟨rfl, hb1⟩
    have HPW := Lib.hid (H.out.call hb1)
    clear hb1
    go_wp2_with (first
      | (with_reducible refine load_p (by with_reducible rfl) _ (by with_reducible rfl) w.heap.size (by first | (simp [Act.eval]; done) | simp [Act.eval, Act.put]) HPW.out ?_)
      | (go_at_call 97; (with_reducible refine (HG.out _ (HLv.out.below HPW.out.below)).mono ?_)))
    cases hgr : groupR l rec s with
    | bad a m =>
      rintro e w8 ⟨p8, rfl, hbx, hb8⟩
      have H8 := Lib.hid (HPW.out.call hb8)
      have HBX := Lib.hid hbx
      have HM := Lib.hid (HT.out.trans hgr)
      clear hb8 hbx hgr
      go_wp2_with (first
        | (with_reducible refine store_r (by with_reducible rfl) _ _ (by with_reducible rfl) (w.heap.size + 1) (p' := p8) (by first | (simp [Act.eval]; done) | simp [Act.eval, Act.put]) (by first | (simp [Act.eval]; done) | simp [Act.eval, Act.put]) H8.out ?_))
      intro W2 h2 b2 _
      go_wp2
      refine ret_p (k := 2) Try.results83 h2 (by first | (simp; done) | simp [Act.put]) rfl ?_
      rw [HM.out]
      exact ⟨_, rfl, HBX.out, b2⟩
    | ok x s8 =>
      rintro e w8 ⟨p8, rfl, hl8, hx8, ht8, hb8⟩
      have hsw := HPW.out.size
      have H8 := Lib.hid (HPW.out.call hb8)
      have HL8 := Lib.hid hl8
      have HTX := Lib.hid (And.intro hx8 ht8)
      have HM := Lib.hid (HT.out.trans hgr)
      clear hb8 hl8 hx8 ht8 hgr
      go_wp2_with (first
        | (with_reducible refine store_r (by with_reducible rfl) _ _ (by with_reducible rfl) (w.heap.size + 1) (p' := p8) (by first | (simp [Act.eval]; done) | simp [Act.eval, Act.put]) (by first | (simp [Act.eval]; done) | simp [Act.eval, Act.put]) H8.out ?_))
      intro W2 h2 b2 o2
      go_wp2
      refine ret_p (k := 2) Try.results83 h2 (by first | (simp; done) | simp [Act.put]) rfl ?_
      rw [HM.out]
      exact ⟨p8, rfl, HL8.out.off o2 (HLv.out.pat.below b2), HTX.out.1, ⟨HTX.out.2.1, KX.off (HTX.out.2.2.kept fun _ _ _ hq hh => ⟨hh, by omega⟩) o2⟩, b2⟩
  by_cases h92 : due l s.pos = 92
  · have HG := Lib.hid (fun W hW => rfEscape_any L l s p W rec hW h92)
    rw [h92] at k0
    have KS0 := Lib.hid k0
    clear k0 h92 h40 hbad KG KSE h hpB
    go_enter Try.func83, Try.ntmps83
    go_wp2_with (with_reducible refine box_p (by with_reducible rfl) _ (by with_reducible rfl) (L := L) (p := p) (by simp [Act.eval]) ?_)
    intro V hV bV sV
    go_wp2_with (with_reducible refine room_p (by with_reducible rfl) (by with_reducible rfl) hV ?_)
    intro W hW bW sW
    clear hV bV sV bW sW
    have H := Lib.hid hW
    clear hW
    -- the sign at the place is read
    go_wp2_with (first
      | (with_reducible refine load_p (by with_reducible rfl) _ (by with_reducible rfl) w.heap.size (by first | (simp [Act.eval]; done) | simp [Act.eval, Act.put]) H.out ?_)
      | (go_at_call 55; (with_reducible refine (KS0.out _ (HLv.out.below H.out.below)).mono ?_)))
    rintro e w1 ⟨rfl, hb1⟩
    have HPW := Lib.hid (H.out.call hb1)
    clear hb1
    go_wp2_with (first
      | (with_reducible refine load_p (by with_reducible rfl) _ (by with_reducible rfl) w.heap.size (by first | (simp [Act.eval]; done) | simp [Act.eval, Act.put]) HPW.out ?_)
      | (go_at_call 99; (with_reducible refine (HG.out _ (HLv.out.below HPW.out.below)).mono ?_)))
    cases hgr : atomR l rec s with
    | bad a m =>
      rintro e w8 ⟨p8, rfl, hbx, hb8⟩
      have H8 := Lib.hid (HPW.out.call hb8)
      have HBX := Lib.hid hbx
      have HM := Lib.hid hgr
      clear hb8 hbx hgr
      go_wp2_with (first
        | (with_reducible refine store_r (by with_reducible rfl) _ _ (by with_reducible rfl) (w.heap.size + 1) (p' := p8) (by first | (simp [Act.eval]; done) | simp [Act.eval, Act.put]) (by first | (simp [Act.eval]; done) | simp [Act.eval, Act.put]) H8.out ?_))
      intro W2 h2 b2 _
      go_wp2
      refine ret_p (k := 2) Try.results83 h2 (by first | (simp; done) | simp [Act.put]) rfl ?_
      rw [HM.out]
      exact ⟨_, rfl, HBX.out, b2⟩
    | ok x s8 =>
      rintro e w8 ⟨p8, rfl, hl8, hx8, ht8, hb8⟩
      have hsw := HPW.out.size
      have H8 := Lib.hid (HPW.out.call hb8)
      have HL8 := Lib.hid hl8
      have HTX := Lib.hid (And.intro hx8 ht8)
      have HM := Lib.hid hgr
      clear hb8 hl8 hx8 ht8 hgr
      go_wp2_with (first
        | (with_reducible refine store_r (by with_reducible rfl) _ _ (by with_reducible rfl) (w.heap.size + 1) (p' := p8) (by first | (simp [Act.eval]; done) | simp [Act.eval, Act.put]) (by first | (simp [Act.eval]; done) | simp [Act.eval, Act.put]) H8.out ?_))
      intro W2 h2 b2 o2
      go_wp2
      refine ret_p (k := 2) Try.results83 h2 (by first | (simp; done) | simp [Act.put]) rfl ?_
      rw [HM.out]
      exact ⟨p8, rfl, HL8.out.off o2 (HLv.out.pat.below b2), HTX.out.1, ⟨HTX.out.2.1, KX.off (HTX.out.2.2.kept fun _ _ _ hq hh => ⟨hh, by omega⟩) o2⟩, b2⟩
  by_cases h91 : due l s.pos = 91
  · have HT := Lib.hid (show atomR l rec s = setR l { s with pos := s.pos + 1 } by unfold atomR; simp only [h91]; rfl)
    have HG := Lib.hid (fun W hW => KSE { s with pos := s.pos + 1 } pB W hW)
    have HVB := Lib.hid (show Lv w L l { s with pos := s.pos + 1 } pB by rw [hpB]; exact HLv.out.on 1 hlt)
    rw [h91] at k0
    have KS0 := Lib.hid k0
    clear k0 h92 h40 h91 hbad KG KSE h hpB
    go_enter Try.func83, Try.ntmps83
    go_wp2_with (with_reducible refine box_p (by with_reducible rfl) _ (by with_reducible rfl) (L := L) (p := p) (by simp [Act.eval]) ?_)
    intro V hV bV sV
    go_wp2_with (with_reducible refine room_p (by with_reducible rfl) (by with_reducible rfl) hV ?_)
    intro W hW bW sW
    clear hV bV sV bW sW
    have H := Lib.hid hW
    clear hW
    -- the sign at the place is read
    go_wp2_with (first
      | (with_reducible refine load_p (by with_reducible rfl) _ (by with_reducible rfl) w.heap.size (by first | (simp [Act.eval]; done) | simp [Act.eval, Act.put]) H.out ?_)
      | (go_at_call 55; (with_reducible refine (KS0.out _ (HLv.out.below H.out.below)).mono ?_)))
    rintro e w1 ⟨rfl, hb1⟩
    have HPW := Lib.hid (H.out.call hb1)
    clear hb1
    go_wp2_with (first
      | (with_reducible refine load_p (by with_reducible rfl) _ (by with_reducible rfl) w.heap.size (by first | (simp [Act.eval]; done) | simp [Act.eval, Act.put]) HPW.out ?_)
      | (go_at_call 56; (with_reducible refine (KON.out _).mono ?_)))
    rintro e w7 ⟨rfl, hb7⟩
    have HQ7 := Lib.hid (HPW.out.call hb7)
    clear hb7 HPW
    have HPW := HQ7
    go_wp2_with (first
      | (go_at_call 98; (with_reducible refine (HG.out _ (HVB.out.below HPW.out.below)).mono ?_)))
    cases hgr : setR l { s with pos := s.pos + 1 } with
    | bad a m =>
      rintro e w8 ⟨p8, rfl, hbx, hb8⟩
      have H8 := Lib.hid (HPW.out.call hb8)
      have HBX := Lib.hid hbx
      have HM := Lib.hid (HT.out.trans hgr)
      clear hb8 hbx hgr
      go_wp2_with (first
        | (with_reducible refine store_r (by with_reducible rfl) _ _ (by with_reducible rfl) (w.heap.size + 1) (p' := p8) (by first | (simp [Act.eval]; done) | simp [Act.eval, Act.put]) (by first | (simp [Act.eval]; done) | simp [Act.eval, Act.put]) H8.out ?_))
      intro W2 h2 b2 _
      go_wp2
      refine ret_p (k := 2) Try.results83 h2 (by first | (simp; done) | simp [Act.put]) rfl ?_
      rw [HM.out]
      exact ⟨_, rfl, HBX.out, b2⟩
    | ok x s8 =>
      rintro e w8 ⟨p8, rfl, hl8, hx8, ht8, hb8⟩
      have hsw := HPW.out.size
      have H8 := Lib.hid (HPW.out.call hb8)
      have HL8 := Lib.hid hl8
      have HTX := Lib.hid (And.intro hx8 ht8)
      have HM := Lib.hid (HT.out.trans hgr)
      clear hb8 hl8 hx8 ht8 hgr
      go_wp2_with (first
        | (with_reducible refine store_r (by with_reducible rfl) _ _ (by with_reducible rfl) (w.heap.size + 1) (p' := p8) (by first | (simp [Act.eval]; done) | simp [Act.eval, Act.put]) (by first | (simp [Act.eval]; done) | simp [Act.eval, Act.put]) H8.out ?_))
      intro W2 h2 b2 o2
      go_wp2
      refine ret_p (k := 2) Try.results83 h2 (by first | (simp; done) | simp [Act.put]) rfl ?_
      rw [HM.out]
      exact ⟨p8, rfl, HL8.out.off o2 (HLv.out.pat.below b2), HTX.out.1, ⟨HTX.out.2.1, KX.off (HTX.out.2.2.kept fun _ _ _ hq hh => ⟨hh, by omega⟩) o2⟩, b2⟩
  by_cases h46 : due l s.pos = 46
  · obtain ⟨X, hX⟩ : ∃ x, x = rxKind 2 := ⟨_, rfl⟩
    have HT := Lib.hid (show atomR l rec s = .ok X { s with pos := s.pos + 1 } by rw [hX]; unfold atomR; simp only [h46]; rfl)
    have KTO := Lib.hid (fun W => show Calls Try.prog 57 #[pAgg L pB, .agg #[.int .i64 2, .int .i64 0, .int .i64 0, .slice none 0 0, .int .i64 0, .int .i64 0, .bool false, .bool false, .int .i64 0, .string ⟨#[]⟩]] W (RetE (pAgg L (toldX pB X none 0 0)) fun w' => Below W.heap.size W w') by rw [hX]; exact rfTold L pB (rxKind 2) none 0 0 W)
    rw [h46] at k0
    have KS0 := Lib.hid k0
    clear k0 hbad h40 h92 h91 h46 KG KSE h
    -- a part of one sign that stands for itself: X
    have HV2 := Lib.hid (show Lv w L l { s with pos := s.pos + 1 } pB by rw [hpB]; exact HLv.out.on 1 hlt)
    have hXk : X.kids = [] := by rw [hX]; rfl
    clear hpB hX
    go_enter Try.func83, Try.ntmps83
    go_wp2_with (with_reducible refine box_p (by with_reducible rfl) _ (by with_reducible rfl) (L := L) (p := p) (by simp [Act.eval]) ?_)
    intro V hV bV sV
    go_wp2_with (with_reducible refine room_p (by with_reducible rfl) (by with_reducible rfl) hV ?_)
    intro W hW bW sW
    clear hV bV sV bW sW
    have H := Lib.hid hW
    clear hW
    -- the sign at the place is read
    go_wp2_with (first
      | (with_reducible refine load_p (by with_reducible rfl) _ (by with_reducible rfl) w.heap.size (by first | (simp [Act.eval]; done) | simp [Act.eval, Act.put]) H.out ?_)
      | (go_at_call 55; (with_reducible refine (KS0.out _ (HLv.out.below H.out.below)).mono ?_)))
    rintro e w1 ⟨rfl, hb1⟩
    have HPW := Lib.hid (H.out.call hb1)
    clear hb1
    -- a leaf is told behind some signs: KON, KTO, pB the state behind them, X the leaf
    go_wp2_with (first
      | (with_reducible refine load_p (by with_reducible rfl) _ (by with_reducible rfl) w.heap.size (by first | (simp [Act.eval]; done) | simp [Act.eval, Act.put]) HPW.out ?_)
      | (go_at_call 56; (with_reducible refine (KON.out _).mono ?_)))
    rintro e w8 ⟨rfl, hb8⟩
    have H8 := Lib.hid (HPW.out.call hb8)
    clear hb8
    go_wp2_with (first
      | (go_at_call 57; (with_reducible refine (KTO.out _).mono ?_)))
    rintro e w9 ⟨rfl, hb9⟩
    have H9 := Lib.hid (H8.out.call hb9)
    clear hb9
    go_wp2_with (first
      | (with_reducible refine store_r (by with_reducible rfl) _ _ (by with_reducible rfl) (w.heap.size + 1) (p' := toldX pB X none 0 0) (by first | (simp [Act.eval]; done) | simp [Act.eval, Act.put]) (by first | (simp [Act.eval]; done) | simp [Act.eval, Act.put]) H9.out ?_))
    intro W2 h2 b2 _
    go_wp2
    refine ret_p (k := 2) Try.results83 h2 (by first | (simp; done) | simp [Act.put]) rfl ?_
    rw [HT.out]
    exact told_leaf (HV2.out.below b2) hXk b2
  by_cases h94 : due l s.pos = 94
  · obtain ⟨X, hX⟩ : ∃ x, x = rxKind 10 := ⟨_, rfl⟩
    have HT := Lib.hid (show atomR l rec s = .ok X { s with pos := s.pos + 1 } by rw [hX]; unfold atomR; simp only [h94]; rfl)
    have KTO := Lib.hid (fun W => show Calls Try.prog 57 #[pAgg L pB, .agg #[.int .i64 10, .int .i64 0, .int .i64 0, .slice none 0 0, .int .i64 0, .int .i64 0, .bool false, .bool false, .int .i64 0, .string ⟨#[]⟩]] W (RetE (pAgg L (toldX pB X none 0 0)) fun w' => Below W.heap.size W w') by rw [hX]; exact rfTold L pB (rxKind 10) none 0 0 W)
    rw [h94] at k0
    have KS0 := Lib.hid k0
    clear k0 hbad h40 h92 h91 h94 KG KSE h
    -- a part of one sign that stands for itself: X
    have HV2 := Lib.hid (show Lv w L l { s with pos := s.pos + 1 } pB by rw [hpB]; exact HLv.out.on 1 hlt)
    have hXk : X.kids = [] := by rw [hX]; rfl
    clear hpB hX
    go_enter Try.func83, Try.ntmps83
    go_wp2_with (with_reducible refine box_p (by with_reducible rfl) _ (by with_reducible rfl) (L := L) (p := p) (by simp [Act.eval]) ?_)
    intro V hV bV sV
    go_wp2_with (with_reducible refine room_p (by with_reducible rfl) (by with_reducible rfl) hV ?_)
    intro W hW bW sW
    clear hV bV sV bW sW
    have H := Lib.hid hW
    clear hW
    -- the sign at the place is read
    go_wp2_with (first
      | (with_reducible refine load_p (by with_reducible rfl) _ (by with_reducible rfl) w.heap.size (by first | (simp [Act.eval]; done) | simp [Act.eval, Act.put]) H.out ?_)
      | (go_at_call 55; (with_reducible refine (KS0.out _ (HLv.out.below H.out.below)).mono ?_)))
    rintro e w1 ⟨rfl, hb1⟩
    have HPW := Lib.hid (H.out.call hb1)
    clear hb1
    -- a leaf is told behind some signs: KON, KTO, pB the state behind them, X the leaf
    go_wp2_with (first
      | (with_reducible refine load_p (by with_reducible rfl) _ (by with_reducible rfl) w.heap.size (by first | (simp [Act.eval]; done) | simp [Act.eval, Act.put]) HPW.out ?_)
      | (go_at_call 56; (with_reducible refine (KON.out _).mono ?_)))
    rintro e w8 ⟨rfl, hb8⟩
    have H8 := Lib.hid (HPW.out.call hb8)
    clear hb8
    go_wp2_with (first
      | (go_at_call 57; (with_reducible refine (KTO.out _).mono ?_)))
    rintro e w9 ⟨rfl, hb9⟩
    have H9 := Lib.hid (H8.out.call hb9)
    clear hb9
    go_wp2_with (first
      | (with_reducible refine store_r (by with_reducible rfl) _ _ (by with_reducible rfl) (w.heap.size + 1) (p' := toldX pB X none 0 0) (by first | (simp [Act.eval]; done) | simp [Act.eval, Act.put]) (by first | (simp [Act.eval]; done) | simp [Act.eval, Act.put]) H9.out ?_))
    intro W2 h2 b2 _
    go_wp2
    refine ret_p (k := 2) Try.results83 h2 (by first | (simp; done) | simp [Act.put]) rfl ?_
    rw [HT.out]
    exact told_leaf (HV2.out.below b2) hXk b2
  by_cases h36 : due l s.pos = 36
  · obtain ⟨X, hX⟩ : ∃ x, x = rxKind 11 := ⟨_, rfl⟩
    have HT := Lib.hid (show atomR l rec s = .ok X { s with pos := s.pos + 1 } by rw [hX]; unfold atomR; simp only [h36]; rfl)
    have KTO := Lib.hid (fun W => show Calls Try.prog 57 #[pAgg L pB, .agg #[.int .i64 11, .int .i64 0, .int .i64 0, .slice none 0 0, .int .i64 0, .int .i64 0, .bool false, .bool false, .int .i64 0, .string ⟨#[]⟩]] W (RetE (pAgg L (toldX pB X none 0 0)) fun w' => Below W.heap.size W w') by rw [hX]; exact rfTold L pB (rxKind 11) none 0 0 W)
    rw [h36] at k0
    have KS0 := Lib.hid k0
    clear k0 hbad h40 h92 h91 h36 KG KSE h
    -- a part of one sign that stands for itself: X
    have HV2 := Lib.hid (show Lv w L l { s with pos := s.pos + 1 } pB by rw [hpB]; exact HLv.out.on 1 hlt)
    have hXk : X.kids = [] := by rw [hX]; rfl
    clear hpB hX
    go_enter Try.func83, Try.ntmps83
    go_wp2_with (with_reducible refine box_p (by with_reducible rfl) _ (by with_reducible rfl) (L := L) (p := p) (by simp [Act.eval]) ?_)
    intro V hV bV sV
    go_wp2_with (with_reducible refine room_p (by with_reducible rfl) (by with_reducible rfl) hV ?_)
    intro W hW bW sW
    clear hV bV sV bW sW
    have H := Lib.hid hW
    clear hW
    -- the sign at the place is read
    go_wp2_with (first
      | (with_reducible refine load_p (by with_reducible rfl) _ (by with_reducible rfl) w.heap.size (by first | (simp [Act.eval]; done) | simp [Act.eval, Act.put]) H.out ?_)
      | (go_at_call 55; (with_reducible refine (KS0.out _ (HLv.out.below H.out.below)).mono ?_)))
    rintro e w1 ⟨rfl, hb1⟩
    have HPW := Lib.hid (H.out.call hb1)
    clear hb1
    -- a leaf is told behind some signs: KON, KTO, pB the state behind them, X the leaf
    go_wp2_with (first
      | (with_reducible refine load_p (by with_reducible rfl) _ (by with_reducible rfl) w.heap.size (by first | (simp [Act.eval]; done) | simp [Act.eval, Act.put]) HPW.out ?_)
      | (go_at_call 56; (with_reducible refine (KON.out _).mono ?_)))
    rintro e w8 ⟨rfl, hb8⟩
    have H8 := Lib.hid (HPW.out.call hb8)
    clear hb8
    go_wp2_with (first
      | (go_at_call 57; (with_reducible refine (KTO.out _).mono ?_)))
    rintro e w9 ⟨rfl, hb9⟩
    have H9 := Lib.hid (H8.out.call hb9)
    clear hb9
    go_wp2_with (first
      | (with_reducible refine store_r (by with_reducible rfl) _ _ (by with_reducible rfl) (w.heap.size + 1) (p' := toldX pB X none 0 0) (by first | (simp [Act.eval]; done) | simp [Act.eval, Act.put]) (by first | (simp [Act.eval]; done) | simp [Act.eval, Act.put]) H9.out ?_))
    intro W2 h2 b2 _
    go_wp2
    refine ret_p (k := 2) Try.results83 h2 (by first | (simp; done) | simp [Act.put]) rfl ?_
    rw [HT.out]
    exact told_leaf (HV2.out.below b2) hXk b2
  · obtain ⟨X, hX⟩ : ∃ x, x = rxRune (due l s.pos) := ⟨_, rfl⟩
    have HT := Lib.hid (show atomR l rec s = .ok X { s with pos := s.pos + 1 } by
      rw [hX]; unfold atomR; simp only
      rw [if_neg hbad, if_neg h40, if_neg h91, if_neg h46, if_neg h94, if_neg h36, if_neg h92])
    have KTO := Lib.hid (fun W => show Calls Try.prog 57 #[pAgg L pB, .agg #[.int .i64 1, .int .i64 (due l s.pos), .int .i64 0, .slice none 0 0, .int .i64 0, .int .i64 0, .bool false, .bool false, .int .i64 0, .string ⟨#[]⟩]] W (RetE (pAgg L (toldX pB X none 0 0)) fun w' => Below W.heap.size W w') by rw [hX]; exact rfTold L pB (rxRune (due l s.pos)) none 0 0 W)
    have hXk : X.kids = [] := by rw [hX]; rfl
    have HV2 := Lib.hid (show Lv w L l { s with pos := s.pos + 1 } pB by rw [hpB]; exact HLv.out.on 1 hlt)
    clear hX hpB KG KSE h
    generalize due l s.pos = d at *
    have z0 : (d == 42) = false := beq_false_of_ne (by omega)
    have z1 : (d == 43) = false := beq_false_of_ne (by omega)
    have z2 : (d == 63) = false := beq_false_of_ne (by omega)
    have z3 : (d == 123) = false := beq_false_of_ne (by omega)
    have z4 : (d == 125) = false := beq_false_of_ne (by omega)
    have z5 : (d == 93) = false := beq_false_of_ne (by omega)
    have z6 : (d == 46) = false := beq_false_of_ne (by omega)
    have z7 : (d == 94) = false := beq_false_of_ne (by omega)
    have z8 : (d == 36) = false := beq_false_of_ne (by omega)
    have z9 : (d == 40) = false := beq_false_of_ne (by omega)
    have z10 : (d == 91) = false := beq_false_of_ne (by omega)
    have z11 : (d == 92) = false := beq_false_of_ne (by omega)
    have KS0 := Lib.hid k0
    clear k0 hbad h40 h92 h91 h46 h94 h36
    go_enter Try.func83, Try.ntmps83
    go_wp2_with (with_reducible refine box_p (by with_reducible rfl) _ (by with_reducible rfl) (L := L) (p := p) (by simp [Act.eval]) ?_)
    intro V hV bV sV
    go_wp2_with (with_reducible refine room_p (by with_reducible rfl) (by with_reducible rfl) hV ?_)
    intro W hW bW sW
    clear hV bV sV bW sW
    have H := Lib.hid hW
    clear hW
    -- the sign at the place is read
    go_wp2_with (first
      | (with_reducible refine load_p (by with_reducible rfl) _ (by with_reducible rfl) w.heap.size (by first | (simp [Act.eval]; done) | simp [Act.eval, Act.put]) H.out ?_)
      | (go_at_call 55; (with_reducible refine (KS0.out _ (HLv.out.below H.out.below)).mono ?_)))
    rintro e w1 ⟨rfl, hb1⟩
    have HPW := Lib.hid (H.out.call hb1)
    clear hb1
    -- a leaf is told behind some signs: KON, KTO, pB the state behind them, X the leaf
    go_wp2_with (first
      | (with_reducible refine load_p (by with_reducible rfl) _ (by with_reducible rfl) w.heap.size (by first | (simp [Act.eval]; done) | simp [Act.eval, Act.put]) HPW.out ?_)
      | (go_at_call 56; (with_reducible refine (KON.out _).mono ?_)))
    rintro e w8 ⟨rfl, hb8⟩
    have H8 := Lib.hid (HPW.out.call hb8)
    clear hb8
    go_wp2_with (first
      | (go_at_call 57; (with_reducible refine (KTO.out _).mono ?_)))
    rintro e w9 ⟨rfl, hb9⟩
    have H9 := Lib.hid (H8.out.call hb9)
    clear hb9
    go_wp2_with (first
      | (with_reducible refine store_r (by with_reducible rfl) _ _ (by with_reducible rfl) (w.heap.size + 1) (p' := toldX pB X none 0 0) (by first | (simp [Act.eval]; done) | simp [Act.eval, Act.put]) (by first | (simp [Act.eval]; done) | simp [Act.eval, Act.put]) H9.out ?_))
    intro W2 h2 b2 _
    go_wp2
    refine ret_p (k := 2) Try.results83 h2 (by first | (simp; done) | simp [Act.put]) rfl ?_
    rw [HT.out]
    exact told_leaf (HV2.out.below b2) hXk b2

end Go.Proofs.Ytoniccokohjenaa
