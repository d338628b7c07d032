/-
  The walk of the reference's escape (chapter 18).
-/
import Derived.Test.YtoniccokohjenaaRfF
namespace Go.Proofs.Ytoniccokohjenaa
open Go.RowKit

set_option maxHeartbeats 4000000 in
set_option maxRecDepth 100000 in
theorem rfEscape_any (L : LX) (l : List Int) (s : PS) (p : PX) (w : World) (rec : PS → PR Rx) (h : Lv w L l s p) (h92 : due l s.pos = 92) :
    Calls Try.prog 99 #[pAgg L p] w (RxP L l w (atomR l rec s)) := by
  have HLv := Lib.hid h
  have HI := Lib.hid h.i
  have hl := h.fin.len
  have hp := h.fin.pos
  have hlt1 := due_lt h92 (by decide)
  have hat : atomR l rec s = match classI (due l (s.pos + 1)) with
    | some (r, n) => .ok (rxClass r n) { s with pos := s.pos + 2 }
    | none =>
      if due l (s.pos + 1) = 98 ∨ due l (s.pos + 1) = 66 then .ok (rxWord (due l (s.pos + 1) == 66)) { s with pos := s.pos + 2 }
      else (litR l { s with pos := s.pos + 1 }).bind fun c s => .ok (rxRune c) s := by
    unfold atomR; simp only [h92]; rfl
  have k1 := fun (W : World) (h : Lv W L l s p) => show Calls Try.prog 55 #[pAgg L p, .int .i64 1] W (RetE (.int .i64 (due l (s.pos + 1))) fun w' => Below W.heap.size W w') from rfSignL L l s p 1 W h (by omega)
  have kc := fun W => RetE.of (rfClass_any (due l (s.pos + 1)) W)
  have kl := fun W => RetE.of (rfLiteral_any (due l (s.pos + 1)) W)
  clear h h92
  generalize hY : atomR l rec s = Y at *
  clear hY
  obtain ⟨pB, hpB⟩ : ∃ q : PX, q = { p with i := wrap64 (p.i + 2) } := ⟨_, rfl⟩
  have KON := Lib.hid (fun W => show Calls Try.prog 56 #[pAgg L p, .int .i64 2] W (RetE (pAgg L pB) fun w' => Below W.heap.size W w') by rw [hpB]; exact rfOn L p 2 W)
  have hv2 := fun (h : s.pos + 1 < l.length) => show Lv w L l { s with pos := s.pos + 2 } pB by rw [hpB]; exact HLv.out.on 2 h
  clear hpB
  cases hcl : classI (due l (s.pos + 1)) with
  | some rn =>
    obtain ⟨r, n⟩ := rn
    rw [hcl] at hat kc
    have HT := Lib.hid (show Y = .ok (rxClass r n) { s with pos := s.pos + 2 } from hat)
    have HV2 := Lib.hid (hv2 (due_lt rfl (cls_in hcl)))
    clear hcl hat kl hv2
    generalize due l (s.pos + 1) = d at *
    have KC := Lib.hid (fun W => show Calls Try.prog 110 #[.int .i64 d] W (RetE (.tuple #[rxAgg (rxClass r n) (.slice none 0 0), .bool true]) (Below W.heap.size W)) from kc W)
    have KS1 := Lib.hid k1
    clear k1 kc
    generalize hX : rxClass r n = X at *
    have hXk : X.kids = [] := by rw [← hX]; rfl
    have KTO := Lib.hid (fun W => rfTold L pB X none 0 0 W)
    clear hX
    simp only [rxAgg] at KC KTO
    go_enter Try.func99, Try.ntmps99
    go_wp2_with (with_reducible refine box_p (by with_reducible rfl) _ (by with_reducible rfl) (L := L) (p := p) (by simp [Act.eval]) ?_)
    intro V hV bV sV
    go_wp2_with (with_reducible refine room_p (by with_reducible rfl) (by with_reducible rfl) hV ?_)
    intro W hW bW sW
    clear hV bV sV bW sW
    have H := Lib.hid hW
    clear hW
    go_wp2_with (first
      | (with_reducible refine load_p (by with_reducible rfl) _ (by with_reducible rfl) w.heap.size (by first | (simp [Act.eval]; done) | simp [Act.eval, Act.put]) H.out ?_)
      | (go_at_call 55; (with_reducible refine (KS1.out _ (HLv.out.below H.out.below)).mono ?_)))
    rintro e w2 ⟨rfl, hb2⟩
    have H2 := Lib.hid (H.out.call hb2)
    clear hb2
    go_wp2_with (first
      | (go_at_call 110; (with_reducible refine (KC.out _).mono ?_)))
    rintro e w3 ⟨rfl, hb3⟩
    have H3 := Lib.hid (H2.out.call hb3)
    clear hb3 H2
    obtain ⟨Wx, hWx⟩ : ∃ W, W = w3.alloc (.cells (rxCells X (.slice none 0 0)).toArray TRx) := ⟨_, rfl⟩
    have HPX := Lib.hid (show PF w Wx w.heap.size (w.heap.size + 1) L p by rw [hWx]; exact H3.out.alloc _)
    have HXH := Lib.hid (show Wx.heap[w3.heap.size]? = some (.cells (rxCells X (.slice none 0 0)).toArray TRx (0, 0)) by rw [hWx]; exact Go.heap_alloc_new w3 _)
    simp only [rxCells] at hWx
    go_upto_region 4 with fail
    rw [← hWx]
    clear hWx
    -- a tree is told, behind some signs: a region that draws its order; world Wx, the tree X (its parts at A n c) in block qx
    refine wp_region_held_drew (S := (fun Y => PF w Y w.heap.size (w.heap.size + 1) L p ∧ Y.heap[w3.heap.size]? = some (.cells (rxCells X (.slice none 0 0)).toArray TRx (0, 0)))) (by kernel_rfl) ⟨HPX.out.drew, HXH.out⟩ (fun hS0 => ?_)
    refine wpAnyH_take (i := 0) (v := pAgg L p) rfl (by kernel_rfl) (by kernel_rfl) (by kernel_rfl) (fun _ _ _ h => h) (yields_p (fun _ h => h.1) (by rfl) _ rfl rfl) hS0 ?_
    refine wpAnyH_take (i := 2) (v := rxAgg X (.slice none 0 0)) rfl (by kernel_rfl) (by kernel_rfl) (by kernel_rfl) (fun _ _ _ h => h) (yields_x (fun _ h => h.2) (by rfl) _ rfl rfl) hS0 ?_
    simp only [rxAgg]
    have HS1 := Lib.hid hS0
    have OX := Lib.hid (OffP.drew Wx)
    generalize Wx.drew = w4 at *
    clear hS0
    refine wpAnyH_ready (rs := [1]) (by kernel_rfl) (by simp) ?_
    refine AllReadyH.cons rfl (fun K hK => ?_) AllReadyH.nil
    go_simp
    go_at_call 56
    with_reducible refine (KON.out _).mono ?_
    rintro e w5 ⟨rfl, hb5⟩
    try dsimp only
    refine hK.out _ _ ⟨HS1.out.1.call hb5, heap_call HS1.out.2 hb5⟩ (fun hS0 => ?_)
    clear hK K
    have HS5 := Lib.hid hS0
    have O5 := Lib.hid (OX.out.trans (OffP.call hb5))
    clear hS0 hb5 HS1 OX
    refine wpAnyH_ready (rs := [3]) (by kernel_rfl) (by simp) ?_
    refine AllReadyH.cons rfl (fun K hK => ?_) AllReadyH.nil
    go_simp
    go_at_call 57
    with_reducible refine (KTO.out _).mono ?_
    rintro e w6 ⟨rfl, hb6⟩
    try dsimp only
    refine hK.out _ _ ⟨HS5.out.1.call hb6, heap_call HS5.out.2 hb6⟩ (fun hS0 => ?_)
    clear hK K
    have HS6 := Lib.hid hS0
    have O6 := Lib.hid (O5.out.trans (OffP.call hb6))
    clear hS0 hb6 HS5 O5
    refine wpAnyH_ready (rs := [4]) (by kernel_rfl) (by simp) ?_
    refine AllReadyH.cons rfl (fun K hK => ?_) AllReadyH.nil
    rw [if_pos (by rfl)]
    refine wp_store_r _ _ rfl rfl rfl HS6.out.1 ?_
    intro V7 h7 b7 o7 P7
    try dsimp only
    refine hK.out _ _ ⟨P7, o7 _ _ _ _ (by decide) HS6.out.2⟩ (fun hS0 => ?_)
    clear hK K
    have O7 := Lib.hid (O6.out.trans o7)
    clear hS0 o7 O6 HS6 P7
    refine wpAnyH_done (by kernel_rfl) ?_ _
    go_wp2
    refine ret_p (k := 2) Try.results99 h7 (by first | (simp; done) | simp [Act.put]) rfl ?_
    rw [HT.out]
    exact told_leaf (HV2.out.below b7) hXk b7
  | none =>
    rw [hcl] at hat kc
    replace hat : Y = if due l (s.pos + 1) = 98 ∨ due l (s.pos + 1) = 66 then .ok (rxWord (due l (s.pos + 1) == 66)) { s with pos := s.pos + 2 } else (litR l { s with pos := s.pos + 1 }).bind fun c s => .ok (rxRune c) s := hat
    have KC := Lib.hid (fun W => show Calls Try.prog 110 #[.int .i64 (due l (s.pos + 1))] W (RetE (.tuple #[rxAgg rxNone (.slice none 0 0), .bool false]) (Below W.heap.size W)) from kc W)
    simp only [rxAgg] at KC
    clear kc hcl
    generalize rxNone = N at *
    by_cases hb : due l (s.pos + 1) = 98 ∨ due l (s.pos + 1) = 66
    · rw [if_pos hb] at hat
      have HV2 := Lib.hid (hv2 (by rcases hb with h | h <;> exact due_lt h (by decide)))
      clear hv2 kl
      generalize due l (s.pos + 1) = d at *
      obtain ⟨X, hX⟩ : ∃ x, x = rxWord (d == 66) := ⟨_, rfl⟩
      have KTO := Lib.hid (fun W => show Calls Try.prog 57 #[pAgg L pB, .agg #[.int .i64 12, .int .i64 0, .int .i64 0, .slice none 0 0, .int .i64 0, .int .i64 0, .bool false, .bool (d == 66), .int .i64 0, .string ⟨#[]⟩]] W (RetE (pAgg L (toldX pB X none 0 0)) fun w' => Below W.heap.size W w') by rw [hX]; exact rfTold L pB (rxWord (d == 66)) none 0 0 W)
      have HT := Lib.hid (show Y = .ok X { s with pos := s.pos + 2 } by rw [hX]; exact hat)
      have hXk : X.kids = [] := by rw [hX]; rfl
      have KS1 := Lib.hid k1
      clear hX hat k1
      rcases hb with rfl | rfl <;>
      · simp only [show ((98 : Int) == 66) = false from rfl, show ((66 : Int) == 66) = true from rfl] at KTO
        go_enter Try.func99, Try.ntmps99
        go_wp2_with (with_reducible refine box_p (by with_reducible rfl) _ (by with_reducible rfl) (L := L) (p := p) (by simp [Act.eval]) ?_)
        intro V hV bV sV
        go_wp2_with (with_reducible refine room_p (by with_reducible rfl) (by with_reducible rfl) hV ?_)
        intro W hW bW sW
        clear hV bV sV bW sW
        have H := Lib.hid hW
        clear hW
        go_wp2_with (first
          | (with_reducible refine load_p (by with_reducible rfl) _ (by with_reducible rfl) w.heap.size (by first | (simp [Act.eval]; done) | simp [Act.eval, Act.put]) H.out ?_)
          | (go_at_call 55; (with_reducible refine (KS1.out _ (HLv.out.below H.out.below)).mono ?_)))
        rintro e w2 ⟨rfl, hb2⟩
        have H2 := Lib.hid (H.out.call hb2)
        clear hb2
        go_wp2_with (first
          | (go_at_call 110; (with_reducible refine (KC.out _).mono ?_)))
        rintro e w3 ⟨rfl, hb3⟩
        have H3 := Lib.hid (H2.out.call hb3)
        clear hb3 H2
        have HPW := Lib.hid (H3.out.alloc (.cells #[.int .i64 (N.kind : Int), .int .i64 N.rune, .int .i64 N.to, .slice none 0 0, .int .i64 N.min, .int .i64 N.max, .bool N.lazy, .bool N.not, .int .i64 (N.group : Int), .string ⟨N.name.toArray⟩] 25))
        -- a leaf is told behind some signs: KON, KTO, pB the state behind them, X the leaf
        go_wp2_with (first
          | (with_reducible refine load_p (by with_reducible rfl) _ (by with_reducible rfl) w.heap.size (by first | (simp [Act.eval]; done) | simp [Act.eval, Act.put]) HPW.out ?_)
          | (go_at_call 56; (with_reducible refine (KON.out _).mono ?_)))
        rintro e w8 ⟨rfl, hb8⟩
        have H8 := Lib.hid (HPW.out.call hb8)
        clear hb8
        go_wp2_with (first
          | (go_at_call 57; (with_reducible refine (KTO.out _).mono ?_)))
        rintro e w9 ⟨rfl, hb9⟩
        have H9 := Lib.hid (H8.out.call hb9)
        clear hb9
        go_wp2_with (first
          | (with_reducible refine store_r (by with_reducible rfl) _ _ (by with_reducible rfl) (w.heap.size + 1) (p' := toldX pB X none 0 0) (by first | (simp [Act.eval]; done) | simp [Act.eval, Act.put]) (by first | (simp [Act.eval]; done) | simp [Act.eval, Act.put]) H9.out ?_))
        intro W2 h2 b2 _
        go_wp2
        refine ret_p (k := 2) Try.results99 h2 (by first | (simp; done) | simp [Act.put]) rfl ?_
        rw [HT.out]
        exact told_leaf (HV2.out.below b2) hXk b2
    rw [if_neg hb, lit_ref] at hat
    simp only at hat
    have z1 : (due l (s.pos + 1) == 98) = false := beq_false_of_ne (by omega)
    have z2 : (due l (s.pos + 1) == 66) = false := beq_false_of_ne (by omega)
    clear hb
    by_cases hlit : litI (due l (s.pos + 1)) < 0
    · rw [if_pos hlit] at hat
      have hrb : Y = failR l (s.pos + 1) := by rw [hat]; unfold failR; split <;> rfl
      clear hat hv2
      generalize litI (due l (s.pos + 1)) = v at *
      generalize due l (s.pos + 1) = d at *
      have KS1 := Lib.hid k1
      have KL := Lib.hid kl
      clear k1 kl
      have z0 : decide (v < 0) = true := decide_eq_true hlit
      go_enter Try.func99, Try.ntmps99
      go_wp2_with (with_reducible refine box_p (by with_reducible rfl) _ (by with_reducible rfl) (L := L) (p := p) (by simp [Act.eval]) ?_)
      intro V hV bV sV
      go_wp2_with (with_reducible refine room_p (by with_reducible rfl) (by with_reducible rfl) hV ?_)
      intro W hW bW sW
      clear hV bV sV bW sW
      have H := Lib.hid hW
      clear hW
      go_wp2_with (first
        | (with_reducible refine load_p (by with_reducible rfl) _ (by with_reducible rfl) w.heap.size (by first | (simp [Act.eval]; done) | simp [Act.eval, Act.put]) H.out ?_)
        | (go_at_call 55; (with_reducible refine (KS1.out _ (HLv.out.below H.out.below)).mono ?_)))
      rintro e w2 ⟨rfl, hb2⟩
      have H2 := Lib.hid (H.out.call hb2)
      clear hb2
      go_wp2_with (first
        | (go_at_call 110; (with_reducible refine (KC.out _).mono ?_)))
      rintro e w3 ⟨rfl, hb3⟩
      have H3 := Lib.hid (H2.out.call hb3)
      clear hb3 H2
      go_wp2_with (first
        | (go_at_call 111; (with_reducible refine (KL.out _).mono ?_)))
      rintro e w5 ⟨rfl, rfl⟩
      have HPW := Lib.hid (H3.out.alloc (.cells #[.int .i64 (N.kind : Int), .int .i64 N.rune, .int .i64 N.to, .slice none 0 0, .int .i64 N.min, .int .i64 N.max, .bool N.lazy, .bool N.not, .int .i64 (N.group : Int), .string ⟨N.name.toArray⟩] 25))
      obtain ⟨a', m', hf, hbx⟩ := stopX_fail (α := Rx) (L := L) (l := l) (p := p) (i := s.pos + 1) HLv.out.pat.1.symm
      have HM := Lib.hid (hrb.trans hf)
      have HBX := Lib.hid (show BadX (stopX L p ((s.pos : Int) + 1)) a' m' from hbx)
      have KST := Lib.hid (fun W => rfStop L p ((s.pos : Int) + 1) W)
      have c1 := HPW.out.i
      rw [HI.out] at c1
      clear hf hbx hrb
      go_wp2_with (first
        | (with_reducible refine load_p (by with_reducible rfl) _ (by with_reducible rfl) w.heap.size (by first | (simp [Act.eval]; done) | simp [Act.eval, Act.put]) HPW.out ?_)
        | (go_at_call 32; (with_reducible refine (KST.out _).mono ?_)))
      rintro e w8 ⟨rfl, hb8⟩
      have H8 := Lib.hid (HPW.out.call hb8)
      clear hb8 c1
      go_wp2_with (first
        | (with_reducible refine store_r (by with_reducible rfl) _ _ (by with_reducible rfl) (w.heap.size + 1) (p' := stopX L p ((s.pos : Int) + 1)) (by first | (simp [Act.eval]; done) | simp [Act.eval, Act.put]) (by first | (simp [Act.eval]; done) | simp [Act.eval, Act.put]) H8.out ?_))
      intro W2 h2 b2 _
      go_wp2
      refine ret_p (k := 2) Try.results99 h2 (by first | (simp; done) | simp [Act.put]) rfl ?_
      rw [HM.out]
      exact ⟨_, rfl, HBX.out, b2⟩
    · rw [if_neg hlit] at hat
      have HV2 := Lib.hid (hv2 (due_lt rfl (lit_in hlit)))
      clear hv2
      generalize litI (due l (s.pos + 1)) = v at *
      generalize due l (s.pos + 1) = d at *
      have KS1 := Lib.hid k1
      have KL := Lib.hid kl
      clear k1 kl
      have z0 : decide (v < 0) = false := decide_eq_false hlit
      obtain ⟨X, hX⟩ : ∃ x, x = rxRune v := ⟨_, rfl⟩
      have KTO := Lib.hid (fun W => show Calls Try.prog 57 #[pAgg L pB, .agg #[.int .i64 1, .int .i64 v, .int .i64 0, .slice none 0 0, .int .i64 0, .int .i64 0, .bool false, .bool false, .int .i64 0, .string ⟨#[]⟩]] W (RetE (pAgg L (toldX pB X none 0 0)) fun w' => Below W.heap.size W w') by rw [hX]; exact rfTold L pB (rxRune v) none 0 0 W)
      have HT := Lib.hid (show Y = .ok X { s with pos := s.pos + 2 } by rw [hX]; exact hat)
      have hXk : X.kids = [] := by rw [hX]; rfl
      clear hX hat
      go_enter Try.func99, Try.ntmps99
      go_wp2_with (with_reducible refine box_p (by with_reducible rfl) _ (by with_reducible rfl) (L := L) (p := p) (by simp [Act.eval]) ?_)
      intro V hV bV sV
      go_wp2_with (with_reducible refine room_p (by with_reducible rfl) (by with_reducible rfl) hV ?_)
      intro W hW bW sW
      clear hV bV sV bW sW
      have H := Lib.hid hW
      clear hW
      go_wp2_with (first
        | (with_reducible refine load_p (by with_reducible rfl) _ (by with_reducible rfl) w.heap.size (by first | (simp [Act.eval]; done) | simp [Act.eval, Act.put]) H.out ?_)
        | (go_at_call 55; (with_reducible refine (KS1.out _ (HLv.out.below H.out.below)).mono ?_)))
      rintro e w2 ⟨rfl, hb2⟩
      have H2 := Lib.hid (H.out.call hb2)
      clear hb2
      go_wp2_with (first
        | (go_at_call 110; (with_reducible refine (KC.out _).mono ?_)))
      rintro e w3 ⟨rfl, hb3⟩
      have H3 := Lib.hid (H2.out.call hb3)
      clear hb3 H2
      go_wp2_with (first
        | (go_at_call 111; (with_reducible refine (KL.out _).mono ?_)))
      rintro e w5 ⟨rfl, rfl⟩
      have HPW := Lib.hid (H3.out.alloc (.cells #[.int .i64 (N.kind : Int), .int .i64 N.rune, .int .i64 N.to, .slice none 0 0, .int .i64 N.min, .int .i64 N.max, .bool N.lazy, .bool N.not, .int .i64 (N.group : Int), .string ⟨N.name.toArray⟩] 25))
      -- a leaf is told behind some signs: KON, KTO, pB the state behind them, X the leaf
      go_wp2_with (first
        | (with_reducible refine load_p (by with_reducible rfl) _ (by with_reducible rfl) w.heap.size (by first | (simp [Act.eval]; done) | simp [Act.eval, Act.put]) HPW.out ?_)
        | (go_at_call 56; (with_reducible refine (KON.out _).mono ?_)))
      rintro e w8 ⟨rfl, hb8⟩
      have H8 := Lib.hid (HPW.out.call hb8)
      clear hb8
      go_wp2_with (first
        | (go_at_call 57; (with_reducible refine (KTO.out _).mono ?_)))
      rintro e w9 ⟨rfl, hb9⟩
      have H9 := Lib.hid (H8.out.call hb9)
      clear hb9
      go_wp2_with (first
        | (with_reducible refine store_r (by with_reducible rfl) _ _ (by with_reducible rfl) (w.heap.size + 1) (p' := toldX pB X none 0 0) (by first | (simp [Act.eval]; done) | simp [Act.eval, Act.put]) (by first | (simp [Act.eval]; done) | simp [Act.eval, Act.put]) H9.out ?_))
      intro W2 h2 b2 _
      go_wp2
      refine ret_p (k := 2) Try.results99 h2 (by first | (simp; done) | simp [Act.put]) rfl ?_
      rw [HT.out]
      exact told_leaf (HV2.out.below b2) hXk b2

end Go.Proofs.Ytoniccokohjenaa
