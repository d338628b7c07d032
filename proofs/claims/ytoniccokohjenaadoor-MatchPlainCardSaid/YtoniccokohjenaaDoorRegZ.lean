/-
  The walk of the parser's atom (chapter 18).
-/
import Derived.Test.YtoniccokohjenaaDoorRegY
namespace Go.Proofs.YtoniccokohjenaaDoor
open Go.RowKit

section
variable (w0 : World) (g : Nat) (l : List Int) (free : Bool) (s : PS) (w : World) (rec : PS → PR Rx)
set_option maxHeartbeats 4000000 in
set_option maxRecDepth 100000 in
theorem rxAtom_any (hadv : ∀ s v s', rec s = .ok v s' → Adv l s s') (hlt : s.pos < l.length) (HR : s.deep < 50 → AltOk w0 g l free (s.deep + 1) rec) (hf : Fin1 l s) (h : PrV w0 g l free s w) :
    Calls Tryd.prog 47 #[.pointer (some ⟨g, 0, none⟩)] w (ResT w0 g l free w (atomR l rec s)) := by
  have H := Lib.hid h
  have hp := hf.pos
  have hl := hf.len
  have hsz := h.size
  have KD := fun (W : World) (h : PrV w0 g l free s W) => rxDueV w0 g l free s s.names W (by omega) hl h
  have KF := Lib.hid (fun (W : World) (a' n' : Nat) (hf : (failR l s.pos : PR Unit) = .bad a' n') (h : PrV w0 g l free s W) => rxFailV w0 g l free s s.names W s.pos hf h)
  have hf1 : Fin1 l { s with pos := s.pos + 1 } := ⟨hlt, by have := hf.names; simp only; omega, hl, hf.deep, hf.pts⟩
  have KG0 := fun (W : World) (h : PrV w0 g l free s W) => rxGroup_any w0 g l free s W rec hadv hlt HR hf h
  have KS0 := fun (W : World) (h : PrV w0 g l free { s with pos := s.pos + 1 } W) => rxSet_any w0 g l free { s with pos := s.pos + 1 } W hf1 h
  clear h HR
  by_cases hbad : due l s.pos = 42 ∨ due l s.pos = 43 ∨ due l s.pos = 63 ∨ due l s.pos = 123 ∨ due l s.pos = 125 ∨ due l s.pos = 93
  · obtain ⟨a', n', hfa, hfb⟩ := failR_to (α := Rx) (l := l) s.pos
    have HT := Lib.hid (show atomR l rec s = .bad a' n' by unfold atomR; simp only; rw [if_pos hbad, hfb])
    have KF := Lib.hid (fun W => KF.out W a' n' hfa)
    clear hfa hfb KG0 KS0
    generalize due l s.pos = d at *
    rcases hbad with rfl | rfl | rfl | rfl | rfl | rfl <;>
    (have K := Lib.hid KD
     clear KD
     go_enter Tryd.func47, Tryd.ntmps47
     go_wp2_with (go_at_call 41; refine (K.out _ (H.out.alloc _)).mono ?_)
     rintro e w1 ⟨rfl, h1, k1⟩
     have c1 := h1.c1
     have f1 := h1.frozen 1
     have hr := k1.at (Go.heap_alloc_new w (.cells zRx TRx)) (by omega) (by decide)
     have hs1 := k1.1
     rw [World.size_alloc] at hs1
     have H1 := Lib.hid h1
     have HK := Lib.hid (((PK.refl g w).alloc _).trans k1)
     clear h1 k1
     go_wp2_with (go_at_call 25; refine (KF.out _ H1.out).mono ?_)
     rintro e w3 ⟨rfl, hb3⟩
     unfold stopE
     go_wp2
     rw [HT.out]
     exact ⟨rfl, rfl, hb3⟩)
  by_cases h40 : due l s.pos = 40
  · have hat : atomR l rec s = groupR l rec s := by unfold atomR; simp only; rw [if_neg hbad, if_pos h40]
    simp only [h40] at KD
    have K := Lib.hid KD
    clear KD hbad h40 KS0
    cases hgr : groupR l rec s with
    | bad a n =>
      rw [hgr] at hat KG0
      have HT := Lib.hid hat
      have KG := Lib.hid (fun (W : World) (h : PrV w0 g l free s W) => show Calls Tryd.prog 50 #[.pointer (some ⟨g, 0, none⟩)] W (BdP w0 a n) from KG0 W h)
      clear hat KG0 hgr
      go_enter Tryd.func47, Tryd.ntmps47
      go_wp2_with (go_at_call 41; refine (K.out _ (H.out.alloc _)).mono ?_)
      rintro e w1 ⟨rfl, h1, k1⟩
      have c1 := h1.c1
      have f1 := h1.frozen 1
      have hr := k1.at (Go.heap_alloc_new w (.cells zRx TRx)) (by omega) (by decide)
      have hs1 := k1.1
      rw [World.size_alloc] at hs1
      have H1 := Lib.hid h1
      have HK := Lib.hid (((PK.refl g w).alloc _).trans k1)
      clear h1 k1
      go_wp2_with (go_at_call 50; refine (KG.out _ H1.out).mono ?_)
      rintro e w3 ⟨rfl, hb3⟩
      unfold stopE
      go_wp2
      rw [HT.out]
      exact ⟨rfl, rfl, hb3⟩
    | ok t s3 =>
      rw [hgr] at hat KG0
      have HT := Lib.hid hat
      have KG := Lib.hid (fun (W : World) (h : PrV w0 g l free s W) => show Calls Tryd.prog 50 #[.pointer (some ⟨g, 0, none⟩)] W (OkT w0 g l free s3 W t) from KG0 W h)
      clear hat KG0 hgr
      go_enter Tryd.func47, Tryd.ntmps47
      go_wp2_with (go_at_call 41; refine (K.out _ (H.out.alloc _)).mono ?_)
      rintro e w1 ⟨rfl, h1, k1⟩
      have c1 := h1.c1
      have f1 := h1.frozen 1
      have hr := k1.at (Go.heap_alloc_new w (.cells zRx TRx)) (by omega) (by decide)
      have hs1 := k1.1
      rw [World.size_alloc] at hs1
      have H1 := Lib.hid h1
      have HK := Lib.hid (((PK.refl g w).alloc _).trans k1)
      clear h1 k1
      go_wp2_with (go_at_call 50; refine (KG.out _ H1.out).mono ?_)
      rintro e w3 ⟨kv, rfl, hx3, h3, k3⟩
      obtain ⟨A3, cap3, rfl⟩ := hx3.slice
      have hr3 := k3.at hr (by omega) (by decide)
      have H3 := Lib.hid h3
      have HK3 := Lib.hid (HK.out.trans k3)
      have HX3 := Lib.hid hx3
      have hb9 : ∃ c, w3.heap[w.heap.size]? = some (.cells c TRx (0, 0)) ∧ c.size = 10 := ⟨_, hr3, rfl⟩
      clear h3 k3 hx3
      simp only [rxAgg]
      go_wp2_with (with_reducible refine store_rx (by with_reducible rfl) _ _ (by with_reducible rfl) w.heap.size (rxCells t (.slice A3 t.kids.length cap3)) (by simp [Act.eval]) (by simp [Act.eval, rxCells]) hb9 (rx_len _ _) (rx_one _ _ _ _) ?_; intro w9 hw9)
      obtain rfl := hw9.out
      refine ret_rx Tryd.results47 (setCells_whole (vs := rxCells t (.slice A3 t.kids.length cap3)) hr3 rfl) (rx_len _ _) (by simp [Act.put]) rfl ?_
      rw [HT.out]
      refine ⟨.slice A3 t.kids.length cap3, rfl, ?_, H3.out.setRx hr3 hsz.2.2 0 _, HK3.out.setRx (Nat.le_refl _) 0 _⟩
      exact KX.weak (B := w.heap.size + 1) (KX.setRx (HX3.out.weak (by omega)) (by omega) 0 _) (by omega)
  by_cases h91 : due l s.pos = 91
  · have hat : atomR l rec s = setR l { s with pos := s.pos + 1 } := by unfold atomR; simp only; rw [if_neg hbad, if_neg h40, if_pos h91]
    simp only [h91] at KD
    have K := Lib.hid KD
    clear KD hbad h40 h91 KG0
    cases hgr : setR l { s with pos := s.pos + 1 } with
    | bad a n =>
      rw [hgr] at hat KS0
      have HT := Lib.hid hat
      have KG := Lib.hid (fun (W : World) (h : PrV w0 g l free { s with pos := s.pos + 1 } W) => show Calls Tryd.prog 51 #[.pointer (some ⟨g, 0, none⟩)] W (BdP w0 a n) from KS0 W h)
      clear hat KS0 hgr
      go_enter Tryd.func47, Tryd.ntmps47
      go_wp2_with (go_at_call 41; refine (K.out _ (H.out.alloc _)).mono ?_)
      rintro e w1 ⟨rfl, h1, k1⟩
      have c1 := h1.c1
      have f1 := h1.frozen 1
      have hr := k1.at (Go.heap_alloc_new w (.cells zRx TRx)) (by omega) (by decide)
      have hs1 := k1.1
      rw [World.size_alloc] at hs1
      have H1 := Lib.hid h1
      have HK := Lib.hid (((PK.refl g w).alloc _).trans k1)
      clear h1 k1
      have hr1 := (rheap_far (p := ⟨g, 1, none⟩) (v := .int .i64 ((s.pos : Int) + 1)) (show g ≠ w.heap.size by omega)).trans hr
      have H2 := Lib.hid (H1.out.put_pos (s.pos + 1))
      have HK2 := Lib.hid (HK.out.setOwn 1 (.int .i64 ((s.pos : Int) + 1)))
      go_wp2_with (go_at_call 51; refine (KG.out _ H2.out).mono ?_)
      rintro e w3 ⟨rfl, hb3⟩
      unfold stopE
      go_wp2
      rw [HT.out]
      exact ⟨rfl, rfl, hb3⟩
    | ok t s3 =>
      rw [hgr] at hat KS0
      have HT := Lib.hid hat
      have KG := Lib.hid (fun (W : World) (h : PrV w0 g l free { s with pos := s.pos + 1 } W) => show Calls Tryd.prog 51 #[.pointer (some ⟨g, 0, none⟩)] W (OkT w0 g l free s3 W t) from KS0 W h)
      clear hat KS0 hgr
      go_enter Tryd.func47, Tryd.ntmps47
      go_wp2_with (go_at_call 41; refine (K.out _ (H.out.alloc _)).mono ?_)
      rintro e w1 ⟨rfl, h1, k1⟩
      have c1 := h1.c1
      have f1 := h1.frozen 1
      have hr := k1.at (Go.heap_alloc_new w (.cells zRx TRx)) (by omega) (by decide)
      have hs1 := k1.1
      rw [World.size_alloc] at hs1
      have H1 := Lib.hid h1
      have HK := Lib.hid (((PK.refl g w).alloc _).trans k1)
      clear h1 k1
      have hr1 := (rheap_far (p := ⟨g, 1, none⟩) (v := .int .i64 ((s.pos : Int) + 1)) (show g ≠ w.heap.size by omega)).trans hr
      have H2 := Lib.hid (H1.out.put_pos (s.pos + 1))
      have HK2 := Lib.hid (HK.out.setOwn 1 (.int .i64 ((s.pos : Int) + 1)))
      have es2 : (w1.setCell ⟨g, 1, none⟩ (.int .i64 ((s.pos + 1 : Nat) : Int))).heap.size = w1.heap.size := by simp [World.setCell]
      go_wp2_with (go_at_call 51; refine (KG.out _ H2.out).mono ?_)
      rintro e w3 ⟨kv, rfl, hx3, h3, k3⟩
      obtain ⟨A3, cap3, rfl⟩ := hx3.slice
      have hr3 := k3.at hr1 (by omega) (by decide)
      have H3 := Lib.hid h3
      have HK3 := Lib.hid (HK2.out.trans k3)
      have HX3 := Lib.hid hx3
      have hb9 : ∃ c, w3.heap[w.heap.size]? = some (.cells c TRx (0, 0)) ∧ c.size = 10 := ⟨_, hr3, rfl⟩
      clear h3 k3 hx3
      simp only [rxAgg]
      go_wp2_with (with_reducible refine store_rx (by with_reducible rfl) _ _ (by with_reducible rfl) w.heap.size (rxCells t (.slice A3 t.kids.length cap3)) (by simp [Act.eval]) (by simp [Act.eval, rxCells]) hb9 (rx_len _ _) (rx_one _ _ _ _) ?_; intro w9 hw9)
      obtain rfl := hw9.out
      refine ret_rx Tryd.results47 (setCells_whole (vs := rxCells t (.slice A3 t.kids.length cap3)) hr3 rfl) (rx_len _ _) (by simp [Act.put]) rfl ?_
      rw [HT.out]
      refine ⟨.slice A3 t.kids.length cap3, rfl, ?_, H3.out.setRx hr3 hsz.2.2 0 _, HK3.out.setRx (Nat.le_refl _) 0 _⟩
      exact KX.weak (B := w.heap.size + 1) (KX.setRx (HX3.out.weak (by omega)) (by omega) 0 _) (by omega)
  clear KG0 KS0
  by_cases h46 : due l s.pos = 46
  · have HT := Lib.hid (show atomR l rec s = .ok (rxKind 2) { s with pos := s.pos + 1 } by unfold atomR; simp only; rw [if_neg hbad, if_neg h40, if_neg h91, if_pos h46])
    simp only [h46] at KD
    have K := Lib.hid KD
    clear KD hbad h40 h91 h46
    go_enter Tryd.func47, Tryd.ntmps47
    go_wp2_with (go_at_call 41; refine (K.out _ (H.out.alloc _)).mono ?_)
    rintro e w1 ⟨rfl, h1, k1⟩
    have c1 := h1.c1
    have f1 := h1.frozen 1
    have hr := k1.at (Go.heap_alloc_new w (.cells zRx TRx)) (by omega) (by decide)
    have hs1 := k1.1
    rw [World.size_alloc] at hs1
    have H1 := Lib.hid h1
    have HK := Lib.hid (((PK.refl g w).alloc _).trans k1)
    clear h1 k1
    have hr1 := (rheap_far (p := ⟨g, 1, none⟩) (v := .int .i64 ((s.pos : Int) + 1)) (show g ≠ w.heap.size by omega)).trans hr
    have H2 := Lib.hid (H1.out.put_pos (s.pos + 1))
    have HK2 := Lib.hid (HK.out.setOwn 1 (.int .i64 ((s.pos : Int) + 1)))
    have hb9 : ∃ c, (w1.setCell ⟨g, 1, none⟩ (.int .i64 ((s.pos : Int) + 1))).heap[w.heap.size]? = some (.cells c TRx (0, 0)) ∧ c.size = 10 := ⟨_, hr1, rfl⟩
    go_wp2_with (with_reducible refine store_rx (by with_reducible rfl) _ _ (by with_reducible rfl) w.heap.size (rxCells (rxKind 2) (.slice none 0 0)) (by simp [Act.eval]) (by simp [Act.eval, rxCells, rxKind, Rx.kind, Rx.rune, Rx.to, Rx.min, Rx.max, Rx.lazy, Rx.not, Rx.group, Rx.name]) hb9 (rx_len _ _) (rx_one _ _ _ _) ?_; intro w9 hw9)
    obtain rfl := hw9.out
    refine ret_rx Tryd.results47 (setCells_whole (vs := rxCells (rxKind 2) (.slice none 0 0)) hr1 rfl) (rx_len _ _) (by simp [Act.put]) rfl ?_
    rw [HT.out]
    exact ⟨.slice none 0 0, rfl, KX.leaf rfl, H2.out.setRx hr1 hsz.2.2 0 _, HK2.out.setRx (Nat.le_refl _) 0 _⟩
  by_cases h94 : due l s.pos = 94
  · have HT := Lib.hid (show atomR l rec s = .ok (rxKind 10) { s with pos := s.pos + 1 } by unfold atomR; simp only; rw [if_neg hbad, if_neg h40, if_neg h91, if_neg h46, if_pos h94])
    simp only [h94] at KD
    have K := Lib.hid KD
    clear KD hbad h40 h91 h94 h46
    go_enter Tryd.func47, Tryd.ntmps47
    go_wp2_with (go_at_call 41; refine (K.out _ (H.out.alloc _)).mono ?_)
    rintro e w1 ⟨rfl, h1, k1⟩
    have c1 := h1.c1
    have f1 := h1.frozen 1
    have hr := k1.at (Go.heap_alloc_new w (.cells zRx TRx)) (by omega) (by decide)
    have hs1 := k1.1
    rw [World.size_alloc] at hs1
    have H1 := Lib.hid h1
    have HK := Lib.hid (((PK.refl g w).alloc _).trans k1)
    clear h1 k1
    have hr1 := (rheap_far (p := ⟨g, 1, none⟩) (v := .int .i64 ((s.pos : Int) + 1)) (show g ≠ w.heap.size by omega)).trans hr
    have H2 := Lib.hid (H1.out.put_pos (s.pos + 1))
    have HK2 := Lib.hid (HK.out.setOwn 1 (.int .i64 ((s.pos : Int) + 1)))
    have hb9 : ∃ c, (w1.setCell ⟨g, 1, none⟩ (.int .i64 ((s.pos : Int) + 1))).heap[w.heap.size]? = some (.cells c TRx (0, 0)) ∧ c.size = 10 := ⟨_, hr1, rfl⟩
    go_wp2_with (with_reducible refine store_rx (by with_reducible rfl) _ _ (by with_reducible rfl) w.heap.size (rxCells (rxKind 10) (.slice none 0 0)) (by simp [Act.eval]) (by simp [Act.eval, rxCells, rxKind, Rx.kind, Rx.rune, Rx.to, Rx.min, Rx.max, Rx.lazy, Rx.not, Rx.group, Rx.name]) hb9 (rx_len _ _) (rx_one _ _ _ _) ?_; intro w9 hw9)
    obtain rfl := hw9.out
    refine ret_rx Tryd.results47 (setCells_whole (vs := rxCells (rxKind 10) (.slice none 0 0)) hr1 rfl) (rx_len _ _) (by simp [Act.put]) rfl ?_
    rw [HT.out]
    exact ⟨.slice none 0 0, rfl, KX.leaf rfl, H2.out.setRx hr1 hsz.2.2 0 _, HK2.out.setRx (Nat.le_refl _) 0 _⟩
  by_cases h36 : due l s.pos = 36
  · have HT := Lib.hid (show atomR l rec s = .ok (rxKind 11) { s with pos := s.pos + 1 } by unfold atomR; simp only; rw [if_neg hbad, if_neg h40, if_neg h91, if_neg h46, if_neg h94, if_pos h36])
    simp only [h36] at KD
    have K := Lib.hid KD
    clear KD hbad h40 h91 h36 h46 h94
    go_enter Tryd.func47, Tryd.ntmps47
    go_wp2_with (go_at_call 41; refine (K.out _ (H.out.alloc _)).mono ?_)
    rintro e w1 ⟨rfl, h1, k1⟩
    have c1 := h1.c1
    have f1 := h1.frozen 1
    have hr := k1.at (Go.heap_alloc_new w (.cells zRx TRx)) (by omega) (by decide)
    have hs1 := k1.1
    rw [World.size_alloc] at hs1
    have H1 := Lib.hid h1
    have HK := Lib.hid (((PK.refl g w).alloc _).trans k1)
    clear h1 k1
    have hr1 := (rheap_far (p := ⟨g, 1, none⟩) (v := .int .i64 ((s.pos : Int) + 1)) (show g ≠ w.heap.size by omega)).trans hr
    have H2 := Lib.hid (H1.out.put_pos (s.pos + 1))
    have HK2 := Lib.hid (HK.out.setOwn 1 (.int .i64 ((s.pos : Int) + 1)))
    have hb9 : ∃ c, (w1.setCell ⟨g, 1, none⟩ (.int .i64 ((s.pos : Int) + 1))).heap[w.heap.size]? = some (.cells c TRx (0, 0)) ∧ c.size = 10 := ⟨_, hr1, rfl⟩
    go_wp2_with (with_reducible refine store_rx (by with_reducible rfl) _ _ (by with_reducible rfl) w.heap.size (rxCells (rxKind 11) (.slice none 0 0)) (by simp [Act.eval]) (by simp [Act.eval, rxCells, rxKind, Rx.kind, Rx.rune, Rx.to, Rx.min, Rx.max, Rx.lazy, Rx.not, Rx.group, Rx.name]) hb9 (rx_len _ _) (rx_one _ _ _ _) ?_; intro w9 hw9)
    obtain rfl := hw9.out
    refine ret_rx Tryd.results47 (setCells_whole (vs := rxCells (rxKind 11) (.slice none 0 0)) hr1 rfl) (rx_len _ _) (by simp [Act.put]) rfl ?_
    rw [HT.out]
    exact ⟨.slice none 0 0, rfl, KX.leaf rfl, H2.out.setRx hr1 hsz.2.2 0 _, HK2.out.setRx (Nat.le_refl _) 0 _⟩
  by_cases h92 : due l s.pos = 92
  · have hone : atomR l rec s = match classI (due l (s.pos + 1)) with
      | some (r, n) => .ok (rxClass r n) { s with pos := s.pos + 2 }
      | none => if due l (s.pos + 1) = 98 ∨ due l (s.pos + 1) = 66 then .ok (rxWord (due l (s.pos + 1) == 66)) { s with pos := s.pos + 2 } else (litR l { s with pos := s.pos + 1 }).bind fun c s => .ok (rxRune c) s := by unfold atomR; simp only; rw [if_neg hbad, if_neg h40, if_neg h91, if_neg h46, if_neg h94, if_neg h36, if_pos h92]; rfl
    have KD2 := Lib.hid (fun (W : World) (h : PrV w0 g l free { s with pos := s.pos + 1 } W) => rxDueV w0 g l free { s with pos := s.pos + 1 } s.names W (show s.pos + 1 ≤ 1001 by omega) hl h)
    have KL := Lib.hid (fun (W : World) (h : PrV w0 g l free { s with pos := s.pos + 1 } W) => rxLiteral_any w0 g l free { s with pos := s.pos + 1 } W hf1 h)
    have kd := KD2.out
    simp only [h92] at KD
    simp only at kd
    clear KD2 hbad h40 h91 h46 h94 h36
    generalize due l (s.pos + 1) = d at *
    have K := Lib.hid KD
    have KC0 := fun W => RetE.of (rxClass_any d W)
    clear KD h92
    cases hcl : classI d with
    | some rn =>
      obtain ⟨r, n⟩ := rn
      rw [hcl] at hone KC0
      have HT := Lib.hid hone
      have KC := Lib.hid (fun W => show Calls Tryd.prog 52 #[.int .i64 d] W (RetE (.tuple #[.agg (rxCells (rxClass r n) (.slice none 0 0)).toArray, .bool true]) (Below W.heap.size W)) from KC0 W)
      have KD2 := Lib.hid kd
      clear hone KC0 hcl kd
      go_enter Tryd.func47, Tryd.ntmps47
      go_wp2_with (go_at_call 41; refine (K.out _ (H.out.alloc _)).mono ?_)
      rintro e w1 ⟨rfl, h1, k1⟩
      have c1 := h1.c1
      have f1 := h1.frozen 1
      have hr := k1.at (Go.heap_alloc_new w (.cells zRx TRx)) (by omega) (by decide)
      have hs1 := k1.1
      rw [World.size_alloc] at hs1
      have H1 := Lib.hid h1
      have HK := Lib.hid (((PK.refl g w).alloc _).trans k1)
      clear h1 k1
      have hr1 := (rheap_far (p := ⟨g, 1, none⟩) (v := .int .i64 ((s.pos : Int) + 1)) (show g ≠ w.heap.size by omega)).trans hr
      have H2 := Lib.hid (H1.out.put_pos (s.pos + 1))
      have HK2 := Lib.hid (HK.out.setOwn 1 (.int .i64 ((s.pos : Int) + 1)))
      clear H1
      go_wp2_with (go_at_call 41; refine (KD2.out _ H2.out).mono ?_)
      rintro e w2 ⟨rfl, h2, k2⟩
      have hr2 := k2.at hr1 (by omega) (by decide)
      have H3 := Lib.hid h2
      have HK3 := Lib.hid (HK2.out.trans k2)
      clear h2 k2
      go_wp2_with (go_at_call 52; refine (KC.out _).mono ?_)
      rintro e w3 ⟨rfl, hb3⟩
      have hr3 := (hb3.block w.heap.size (Array.getElem?_eq_some_iff.1 hr2).1).trans hr2
      have hsz3 := hb3.size
      have H4 := Lib.hid (H3.out.below hb3)
      have HK4 := Lib.hid (HK3.out.below hb3)
      have c4 := H4.out.c1
      have f4 := H4.out.frozen 1
      have ca : ∀ o, (w3.alloc o).cell? ⟨g, 1, none⟩ = some (.int .i64 ((s.pos + 1 : Nat) : Int)) := fun o => (H4.out.alloc o).c1
      have fa : ∀ o, (w3.alloc o).frozen? ⟨g, 1, none⟩ = false := fun o => (H4.out.alloc o).frozen 1
      have hg3 := H4.out.size
      have hse : ∀ v, (w3.setCell ⟨g, 1, none⟩ v).heap.size = w3.heap.size := fun v => by simp [World.setCell]
      have hbx : ∀ (cs : List Value) (v : Value), ∃ z, ((w3.setCell ⟨g, 1, none⟩ v).alloc (.cells cs.toArray TRx)).heap[w3.heap.size]? = some (.cells cs.toArray TRx z) := fun cs v => ⟨_, by rw [← hse v]; exact Go.heap_alloc_new _ _⟩
      have hrr : ∀ (o : Obj) (v : Value), ((w3.setCell ⟨g, 1, none⟩ v).alloc o).heap[w.heap.size]? = some (.cells zRx TRx (0, 0)) := fun o v => (Below.heap_alloc (w3.setCell ⟨g, 1, none⟩ v) o w.heap.size (by rw [hse]; exact (Array.getElem?_eq_some_iff.1 hr3).1)).trans ((rheap_far (p := ⟨g, 1, none⟩) (show g ≠ w.heap.size by omega)).trans hr3)
      have hrx : ∀ (o : Obj) (v : Value), ∃ c, ((w3.setCell ⟨g, 1, none⟩ v).alloc o).heap[w.heap.size]? = some (.cells c TRx (0, 0)) ∧ c.size = 10 := fun o v => ⟨_, hrr o v, rfl⟩
      have HBX := Lib.hid hbx
      have HRX := Lib.hid hrx
      clear hb3 hbx hrx
      simp only [rxCells]
      go_wp2_with (first | (with_reducible refine load_rxL (by with_reducible rfl) _ (by with_reducible rfl) w3.heap.size (rxCells (rxClass r n) (.slice none 0 0)) (by simp [Act.eval]) (HBX.out _ _) (rx_len _ _) ?_; simp only [rxCells]) | (with_reducible refine store_rx (by with_reducible rfl) _ _ (by with_reducible rfl) w.heap.size (rxCells (rxClass r n) (.slice none 0 0)) (by simp [Act.eval, Act.put]) (by simp [Act.eval, Act.put, rxCells]) (HRX.out _ _) (rx_len _ _) (rx_one _ _ _ _) ?_; intro w9 hw9))
      obtain rfl := hw9.out
      refine ret_rx Tryd.results47 (setCells_whole (vs := rxCells (rxClass r n) (.slice none 0 0)) (hrr _ _) rfl) (rx_len _ _) (by simp) rfl ?_
      rw [HT.out]
      exact ⟨.slice none 0 0, rfl, KX.leaf rfl, ((H4.out.put_pos (s.pos + 2)).alloc _).setRx (hrr _ _) hsz.2.2 0 _, ((HK4.out.setOwn 1 _).alloc _).setRx (Nat.le_refl _) 0 _⟩
    | none =>
      rw [hcl] at hone KC0
      have KC := Lib.hid (fun W => show Calls Tryd.prog 52 #[.int .i64 d] W (RetE (.tuple #[.agg (rxCells rxNone (.slice none 0 0)).toArray, .bool false]) (Below W.heap.size W)) from KC0 W)
      clear KC0 hcl
      by_cases hw : d = 98 ∨ d = 66
      · rw [if_pos hw] at hone
        rcases hw with rfl | rfl
        · have HT := Lib.hid (show atomR l rec s = .ok (rxWord false) { s with pos := s.pos + 2 } from hone)
          have KD2 := Lib.hid kd
          clear hone kd
          go_enter Tryd.func47, Tryd.ntmps47
          go_wp2_with (go_at_call 41; refine (K.out _ (H.out.alloc _)).mono ?_)
          rintro e w1 ⟨rfl, h1, k1⟩
          have c1 := h1.c1
          have f1 := h1.frozen 1
          have hr := k1.at (Go.heap_alloc_new w (.cells zRx TRx)) (by omega) (by decide)
          have hs1 := k1.1
          rw [World.size_alloc] at hs1
          have H1 := Lib.hid h1
          have HK := Lib.hid (((PK.refl g w).alloc _).trans k1)
          clear h1 k1
          have hr1 := (rheap_far (p := ⟨g, 1, none⟩) (v := .int .i64 ((s.pos : Int) + 1)) (show g ≠ w.heap.size by omega)).trans hr
          have H2 := Lib.hid (H1.out.put_pos (s.pos + 1))
          have HK2 := Lib.hid (HK.out.setOwn 1 (.int .i64 ((s.pos : Int) + 1)))
          clear H1
          go_wp2_with (go_at_call 41; refine (KD2.out _ H2.out).mono ?_)
          rintro e w2 ⟨rfl, h2, k2⟩
          have hr2 := k2.at hr1 (by omega) (by decide)
          have H3 := Lib.hid h2
          have HK3 := Lib.hid (HK2.out.trans k2)
          clear h2 k2
          go_wp2_with (go_at_call 52; refine (KC.out _).mono ?_)
          rintro e w3 ⟨rfl, hb3⟩
          have hr3 := (hb3.block w.heap.size (Array.getElem?_eq_some_iff.1 hr2).1).trans hr2
          have hsz3 := hb3.size
          have H4 := Lib.hid (H3.out.below hb3)
          have HK4 := Lib.hid (HK3.out.below hb3)
          have h4a := H4.out.alloc (.cells (rxCells rxNone (.slice none 0 0)).toArray TRx)
          have hr4 := (Below.heap_alloc w3 (.cells (rxCells rxNone (.slice none 0 0)).toArray TRx) w.heap.size (Array.getElem?_eq_some_iff.1 hr3).1).trans hr3
          have HK5 := Lib.hid (HK4.out.alloc (.cells (rxCells rxNone (.slice none 0 0)).toArray TRx))
          have H5 := Lib.hid h4a
          clear hb3 h4a
          simp only [rxCells]
          go_wp2_with (go_at_call 41; refine (KD2.out _ H5.out).mono ?_)
          rintro e w4 ⟨rfl, h4, k4⟩
          have c14 := h4.c1
          have f14 := h4.frozen 1
          have hr5 := k4.at hr4 (by omega) (by decide)
          have H6 := Lib.hid h4
          have HK6 := Lib.hid (HK5.out.trans k4)
          clear h4 k4
          have hr6 := (rheap_far (p := ⟨g, 1, none⟩) (v := .int .i64 ((s.pos : Int) + 1 + 1)) (show g ≠ w.heap.size by omega)).trans hr5
          have hb9 : ∃ c, (w4.setCell ⟨g, 1, none⟩ (.int .i64 ((s.pos : Int) + 1 + 1))).heap[w.heap.size]? = some (.cells c TRx (0, 0)) ∧ c.size = 10 := ⟨_, hr6, rfl⟩
          go_wp2_with (with_reducible refine store_rx (by with_reducible rfl) _ _ (by with_reducible rfl) w.heap.size (rxCells (rxWord false) (.slice none 0 0)) (by simp [Act.eval]) (by simp [Act.eval, rxCells, rxWord, Rx.kind, Rx.rune, Rx.to, Rx.min, Rx.max, Rx.lazy, Rx.not, Rx.group, Rx.name]) hb9 (rx_len _ _) (rx_one _ _ _ _) ?_; intro w9 hw9)
          obtain rfl := hw9.out
          refine ret_rx Tryd.results47 (setCells_whole (vs := rxCells (rxWord false) (.slice none 0 0)) hr6 rfl) (rx_len _ _) (by simp [Act.put]) rfl ?_
          rw [HT.out]
          exact ⟨.slice none 0 0, rfl, KX.leaf rfl, (H6.out.put_pos (s.pos + 2)).setRx hr6 hsz.2.2 0 _, (HK6.out.setOwn 1 _).setRx (Nat.le_refl _) 0 _⟩
        · have HT := Lib.hid (show atomR l rec s = .ok (rxWord true) { s with pos := s.pos + 2 } from hone)
          have KD2 := Lib.hid kd
          clear hone kd
          go_enter Tryd.func47, Tryd.ntmps47
          go_wp2_with (go_at_call 41; refine (K.out _ (H.out.alloc _)).mono ?_)
          rintro e w1 ⟨rfl, h1, k1⟩
          have c1 := h1.c1
          have f1 := h1.frozen 1
          have hr := k1.at (Go.heap_alloc_new w (.cells zRx TRx)) (by omega) (by decide)
          have hs1 := k1.1
          rw [World.size_alloc] at hs1
          have H1 := Lib.hid h1
          have HK := Lib.hid (((PK.refl g w).alloc _).trans k1)
          clear h1 k1
          have hr1 := (rheap_far (p := ⟨g, 1, none⟩) (v := .int .i64 ((s.pos : Int) + 1)) (show g ≠ w.heap.size by omega)).trans hr
          have H2 := Lib.hid (H1.out.put_pos (s.pos + 1))
          have HK2 := Lib.hid (HK.out.setOwn 1 (.int .i64 ((s.pos : Int) + 1)))
          clear H1
          go_wp2_with (go_at_call 41; refine (KD2.out _ H2.out).mono ?_)
          rintro e w2 ⟨rfl, h2, k2⟩
          have hr2 := k2.at hr1 (by omega) (by decide)
          have H3 := Lib.hid h2
          have HK3 := Lib.hid (HK2.out.trans k2)
          clear h2 k2
          go_wp2_with (go_at_call 52; refine (KC.out _).mono ?_)
          rintro e w3 ⟨rfl, hb3⟩
          have hr3 := (hb3.block w.heap.size (Array.getElem?_eq_some_iff.1 hr2).1).trans hr2
          have hsz3 := hb3.size
          have H4 := Lib.hid (H3.out.below hb3)
          have HK4 := Lib.hid (HK3.out.below hb3)
          have h4a := H4.out.alloc (.cells (rxCells rxNone (.slice none 0 0)).toArray TRx)
          have hr4 := (Below.heap_alloc w3 (.cells (rxCells rxNone (.slice none 0 0)).toArray TRx) w.heap.size (Array.getElem?_eq_some_iff.1 hr3).1).trans hr3
          have HK5 := Lib.hid (HK4.out.alloc (.cells (rxCells rxNone (.slice none 0 0)).toArray TRx))
          have H5 := Lib.hid h4a
          clear hb3 h4a
          simp only [rxCells]
          go_wp2_with (go_at_call 41; refine (KD2.out _ H5.out).mono ?_)
          rintro e w4 ⟨rfl, h4, k4⟩
          have c14 := h4.c1
          have f14 := h4.frozen 1
          have hr5 := k4.at hr4 (by omega) (by decide)
          have H6 := Lib.hid h4
          have HK6 := Lib.hid (HK5.out.trans k4)
          clear h4 k4
          have hr6 := (rheap_far (p := ⟨g, 1, none⟩) (v := .int .i64 ((s.pos : Int) + 1 + 1)) (show g ≠ w.heap.size by omega)).trans hr5
          have hb9 : ∃ c, (w4.setCell ⟨g, 1, none⟩ (.int .i64 ((s.pos : Int) + 1 + 1))).heap[w.heap.size]? = some (.cells c TRx (0, 0)) ∧ c.size = 10 := ⟨_, hr6, rfl⟩
          go_wp2_with (with_reducible refine store_rx (by with_reducible rfl) _ _ (by with_reducible rfl) w.heap.size (rxCells (rxWord true) (.slice none 0 0)) (by simp [Act.eval]) (by simp [Act.eval, rxCells, rxWord, Rx.kind, Rx.rune, Rx.to, Rx.min, Rx.max, Rx.lazy, Rx.not, Rx.group, Rx.name]) hb9 (rx_len _ _) (rx_one _ _ _ _) ?_; intro w9 hw9)
          obtain rfl := hw9.out
          refine ret_rx Tryd.results47 (setCells_whole (vs := rxCells (rxWord true) (.slice none 0 0)) hr6 rfl) (rx_len _ _) (by simp [Act.put]) rfl ?_
          rw [HT.out]
          exact ⟨.slice none 0 0, rfl, KX.leaf rfl, (H6.out.put_pos (s.pos + 2)).setRx hr6 hsz.2.2 0 _, (HK6.out.setOwn 1 _).setRx (Nat.le_refl _) 0 _⟩
      rw [if_neg hw] at hone
      have z98 : (d == 98) = false := beq_false_of_ne (fun e => hw (.inl e))
      have z66 : (d == 66) = false := beq_false_of_ne (fun e => hw (.inr e))
      have KD2 := Lib.hid kd
      clear hw kd
      cases hlr : litR l { s with pos := s.pos + 1 } with
      | bad a n =>
        rw [hlr] at hone
        have HT := Lib.hid (show atomR l rec s = .bad a n from hone)
        have kl := KL.out
        rw [hlr] at kl
        have KL := Lib.hid (fun (W : World) (h : PrV w0 g l free { s with pos := s.pos + 1 } W) => show Calls Tryd.prog 53 #[.pointer (some ⟨g, 0, none⟩)] W (BdP w0 a n) from kl W h)
        clear hone hlr kl
        go_enter Tryd.func47, Tryd.ntmps47
        go_wp2_with (go_at_call 41; refine (K.out _ (H.out.alloc _)).mono ?_)
        rintro e w1 ⟨rfl, h1, k1⟩
        have c1 := h1.c1
        have f1 := h1.frozen 1
        have hr := k1.at (Go.heap_alloc_new w (.cells zRx TRx)) (by omega) (by decide)
        have hs1 := k1.1
        rw [World.size_alloc] at hs1
        have H1 := Lib.hid h1
        have HK := Lib.hid (((PK.refl g w).alloc _).trans k1)
        clear h1 k1
        have hr1 := (rheap_far (p := ⟨g, 1, none⟩) (v := .int .i64 ((s.pos : Int) + 1)) (show g ≠ w.heap.size by omega)).trans hr
        have H2 := Lib.hid (H1.out.put_pos (s.pos + 1))
        have HK2 := Lib.hid (HK.out.setOwn 1 (.int .i64 ((s.pos : Int) + 1)))
        clear H1
        go_wp2_with (go_at_call 41; refine (KD2.out _ H2.out).mono ?_)
        rintro e w2 ⟨rfl, h2, k2⟩
        have hr2 := k2.at hr1 (by omega) (by decide)
        have H3 := Lib.hid h2
        have HK3 := Lib.hid (HK2.out.trans k2)
        clear h2 k2
        go_wp2_with (go_at_call 52; refine (KC.out _).mono ?_)
        rintro e w3 ⟨rfl, hb3⟩
        have hr3 := (hb3.block w.heap.size (Array.getElem?_eq_some_iff.1 hr2).1).trans hr2
        have hsz3 := hb3.size
        have H4 := Lib.hid (H3.out.below hb3)
        have HK4 := Lib.hid (HK3.out.below hb3)
        have h4a := H4.out.alloc (.cells (rxCells rxNone (.slice none 0 0)).toArray TRx)
        have hr4 := (Below.heap_alloc w3 (.cells (rxCells rxNone (.slice none 0 0)).toArray TRx) w.heap.size (Array.getElem?_eq_some_iff.1 hr3).1).trans hr3
        have HK5 := Lib.hid (HK4.out.alloc (.cells (rxCells rxNone (.slice none 0 0)).toArray TRx))
        have H5 := Lib.hid h4a
        clear hb3 h4a
        simp only [rxCells]
        go_wp2_with (go_at_call 41; refine (KD2.out _ H5.out).mono ?_)
        rintro e w4 ⟨rfl, h4, k4⟩
        have c14 := h4.c1
        have f14 := h4.frozen 1
        have hr5 := k4.at hr4 (by omega) (by decide)
        have H6 := Lib.hid h4
        have HK6 := Lib.hid (HK5.out.trans k4)
        clear h4 k4
        go_wp2_with (go_at_call 53; refine (KL.out _ H6.out).mono ?_)
        rintro e w5 ⟨rfl, hb5⟩
        unfold stopE
        go_wp2
        rw [HT.out]
        exact ⟨rfl, rfl, hb5⟩
      | ok c s2 =>
        rw [hlr] at hone
        have HT := Lib.hid (show atomR l rec s = .ok (rxRune c) s2 from hone)
        have kl := KL.out
        rw [hlr] at kl
        have KL := Lib.hid (fun (W : World) (h : PrV w0 g l free { s with pos := s.pos + 1 } W) => show Calls Tryd.prog 53 #[.pointer (some ⟨g, 0, none⟩)] W (OkV w0 g l free s2 W (.int .i64 c)) from kl W h)
        clear hone hlr kl
        go_enter Tryd.func47, Tryd.ntmps47
        go_wp2_with (go_at_call 41; refine (K.out _ (H.out.alloc _)).mono ?_)
        rintro e w1 ⟨rfl, h1, k1⟩
        have c1 := h1.c1
        have f1 := h1.frozen 1
        have hr := k1.at (Go.heap_alloc_new w (.cells zRx TRx)) (by omega) (by decide)
        have hs1 := k1.1
        rw [World.size_alloc] at hs1
        have H1 := Lib.hid h1
        have HK := Lib.hid (((PK.refl g w).alloc _).trans k1)
        clear h1 k1
        have hr1 := (rheap_far (p := ⟨g, 1, none⟩) (v := .int .i64 ((s.pos : Int) + 1)) (show g ≠ w.heap.size by omega)).trans hr
        have H2 := Lib.hid (H1.out.put_pos (s.pos + 1))
        have HK2 := Lib.hid (HK.out.setOwn 1 (.int .i64 ((s.pos : Int) + 1)))
        clear H1
        go_wp2_with (go_at_call 41; refine (KD2.out _ H2.out).mono ?_)
        rintro e w2 ⟨rfl, h2, k2⟩
        have hr2 := k2.at hr1 (by omega) (by decide)
        have H3 := Lib.hid h2
        have HK3 := Lib.hid (HK2.out.trans k2)
        clear h2 k2
        go_wp2_with (go_at_call 52; refine (KC.out _).mono ?_)
        rintro e w3 ⟨rfl, hb3⟩
        have hr3 := (hb3.block w.heap.size (Array.getElem?_eq_some_iff.1 hr2).1).trans hr2
        have hsz3 := hb3.size
        have H4 := Lib.hid (H3.out.below hb3)
        have HK4 := Lib.hid (HK3.out.below hb3)
        have h4a := H4.out.alloc (.cells (rxCells rxNone (.slice none 0 0)).toArray TRx)
        have hr4 := (Below.heap_alloc w3 (.cells (rxCells rxNone (.slice none 0 0)).toArray TRx) w.heap.size (Array.getElem?_eq_some_iff.1 hr3).1).trans hr3
        have HK5 := Lib.hid (HK4.out.alloc (.cells (rxCells rxNone (.slice none 0 0)).toArray TRx))
        have H5 := Lib.hid h4a
        clear hb3 h4a
        simp only [rxCells]
        go_wp2_with (go_at_call 41; refine (KD2.out _ H5.out).mono ?_)
        rintro e w4 ⟨rfl, h4, k4⟩
        have c14 := h4.c1
        have f14 := h4.frozen 1
        have hr5 := k4.at hr4 (by omega) (by decide)
        have H6 := Lib.hid h4
        have HK6 := Lib.hid (HK5.out.trans k4)
        clear h4 k4
        go_wp2_with (go_at_call 53; refine (KL.out _ H6.out).mono ?_)
        rintro e w5 ⟨rfl, h5, k5⟩
        have hr6 := k5.at hr5 (by omega) (by decide)
        have H7 := Lib.hid h5
        have HK7 := Lib.hid (HK6.out.trans k5)
        have hb9 : ∃ c, w5.heap[w.heap.size]? = some (.cells c TRx (0, 0)) ∧ c.size = 10 := ⟨_, hr6, rfl⟩
        clear h5 k5
        go_wp2_with (with_reducible refine store_rx (by with_reducible rfl) _ _ (by with_reducible rfl) w.heap.size (rxCells (rxRune c) (.slice none 0 0)) (by simp [Act.eval]) (by simp [Act.eval, rxCells, rxRune, Rx.kind, Rx.rune, Rx.to, Rx.min, Rx.max, Rx.lazy, Rx.not, Rx.group, Rx.name]) hb9 (rx_len _ _) (rx_one _ _ _ _) ?_; intro w9 hw9)
        obtain rfl := hw9.out
        refine ret_rx Tryd.results47 (setCells_whole (vs := rxCells (rxRune c) (.slice none 0 0)) hr6 rfl) (rx_len _ _) (by simp [Act.put]) rfl ?_
        rw [HT.out]
        exact ⟨.slice none 0 0, rfl, KX.leaf rfl, H7.out.setRx hr6 hsz.2.2 0 _, HK7.out.setRx (Nat.le_refl _) 0 _⟩
  · have HT := Lib.hid (show atomR l rec s = .ok (rxRune (due l s.pos)) { s with pos := s.pos + 1 } by unfold atomR; simp only; rw [if_neg hbad, if_neg h40, if_neg h91, if_neg h46, if_neg h94, if_neg h36, if_neg h92])
    generalize due l s.pos = d at *
    have y42 : (d == 42) = false := beq_false_of_ne (fun e => hbad (.inl e))
    have y43 : (d == 43) = false := beq_false_of_ne (fun e => hbad (.inr (.inl e)))
    have y63 : (d == 63) = false := beq_false_of_ne (fun e => hbad (.inr (.inr (.inl e))))
    have y123 : (d == 123) = false := beq_false_of_ne (fun e => hbad (.inr (.inr (.inr (.inl e)))))
    have y125 : (d == 125) = false := beq_false_of_ne (fun e => hbad (.inr (.inr (.inr (.inr (.inl e))))))
    have y93 : (d == 93) = false := beq_false_of_ne (fun e => hbad (.inr (.inr (.inr (.inr (.inr e))))))
    have y40 : (d == 40) = false := beq_false_of_ne h40
    have y91 : (d == 91) = false := beq_false_of_ne h91
    have y46 : (d == 46) = false := beq_false_of_ne h46
    have y94 : (d == 94) = false := beq_false_of_ne h94
    have y36 : (d == 36) = false := beq_false_of_ne h36
    have y92 : (d == 92) = false := beq_false_of_ne h92
    have K := Lib.hid KD
    clear KD hbad h40 h91 h46 h94 h36 h92
    go_enter Tryd.func47, Tryd.ntmps47
    go_wp2_with (go_at_call 41; refine (K.out _ (H.out.alloc _)).mono ?_)
    rintro e w1 ⟨rfl, h1, k1⟩
    have c1 := h1.c1
    have f1 := h1.frozen 1
    have hr := k1.at (Go.heap_alloc_new w (.cells zRx TRx)) (by omega) (by decide)
    have hs1 := k1.1
    rw [World.size_alloc] at hs1
    have H1 := Lib.hid h1
    have HK := Lib.hid (((PK.refl g w).alloc _).trans k1)
    clear h1 k1
    have hr1 := (rheap_far (p := ⟨g, 1, none⟩) (v := .int .i64 ((s.pos : Int) + 1)) (show g ≠ w.heap.size by omega)).trans hr
    have H2 := Lib.hid (H1.out.put_pos (s.pos + 1))
    have HK2 := Lib.hid (HK.out.setOwn 1 (.int .i64 ((s.pos : Int) + 1)))
    have hb9 : ∃ c, (w1.setCell ⟨g, 1, none⟩ (.int .i64 ((s.pos : Int) + 1))).heap[w.heap.size]? = some (.cells c TRx (0, 0)) ∧ c.size = 10 := ⟨_, hr1, rfl⟩
    go_wp2_with (with_reducible refine store_rx (by with_reducible rfl) _ _ (by with_reducible rfl) w.heap.size (rxCells (rxRune d) (.slice none 0 0)) (by simp [Act.eval]) (by simp [Act.eval, rxCells, rxRune, Rx.kind, Rx.rune, Rx.to, Rx.min, Rx.max, Rx.lazy, Rx.not, Rx.group, Rx.name]) hb9 (rx_len _ _) (rx_one _ _ _ _) ?_; intro w9 hw9)
    obtain rfl := hw9.out
    refine ret_rx Tryd.results47 (setCells_whole (vs := rxCells (rxRune d) (.slice none 0 0)) hr1 rfl) (rx_len _ _) (by simp [Act.put]) rfl ?_
    rw [HT.out]
    exact ⟨.slice none 0 0, rfl, KX.leaf rfl, H2.out.setRx hr1 hsz.2.2 0 _, HK2.out.setRx (Nat.le_refl _) 0 _⟩
end

end Go.Proofs.YtoniccokohjenaaDoor
