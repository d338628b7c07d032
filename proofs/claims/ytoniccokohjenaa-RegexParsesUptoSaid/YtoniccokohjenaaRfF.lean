/-
  The walks of the reference's one, escape, set (chapter 18).
-/
import Derived.Test.YtoniccokohjenaaRfE
import Derived.Test.YtoniccokohjenaaRegSq
namespace Go.Proofs.Ytoniccokohjenaa
open Go.RowKit

theorem PF.drew {w0 W : World} {b r : Nat} {L : LX} {p : PX} (h : PF w0 W b r L p) : PF w0 W.drew b r L p :=
  ⟨h.heap, h.res, h.ne, h.lo, h.lor, h.below.drew⟩
theorem OffP.drew (W : World) : OffP W W.drew := fun _ _ _ _ _ h => h
section
variable {w0 W : World} {b r : Nat} {L : LX} {p : PX} {S : World → Prop} {ops : Array Oper} {op : Oper} {a : Act}
theorem yields_p (hS : ∀ W, S W → PF w0 W b r L p) (hw : Region.wanted op (yielded ops a.tmps) = true) (x : Operand) (ho : op.op = .load TP x) (hx : a.eval x = .pointer (some ⟨b, 0, none⟩)) : YieldsIf Try.prog ops S op (pAgg L p) a := by
  obtain ⟨d, hd, hrow⟩ := underP
  rw [p_agg]
  exact yieldsIf_load_mid hw TP x ho b 0 hx (pCells L p) d (fun W h => range_of (hS W h).heap) hd hrow (by rw [sizeP, p_len])
theorem yields_x {q : Nat} {x : Rx} {A : Option Addr} {n c : Nat} {z : Nat × Nat} (hS : ∀ W, S W → W.heap[q]? = some (.cells (rxCells x (.slice A n c)).toArray TRx z)) (hw : Region.wanted op (yielded ops a.tmps) = true) (y : Operand) (ho : op.op = .load TRx y) (hx : a.eval y = .pointer (some ⟨q, 0, none⟩)) : YieldsIf Try.prog ops S op (rxAgg x (.slice A n c)) a := by
  obtain ⟨d, hd, hrow⟩ := underRx
  exact yieldsIf_load_mid hw TRx y ho q 0 hx (rxCells x (.slice A n c)) d (fun W h => range_of (hS W h)) hd hrow (by rw [sizeRx, rx_len])
end

theorem heap_call {w w' : World} {q : Nat} {o : Obj} (h : w.heap[q]? = some o) (hb : Below w.heap.size w w') : w'.heap[q]? = some o := (hb.block q (Array.getElem?_eq_some_iff.1 h).1).trans h
theorem PF.stored {w0 W V : World} {b r : Nat} {L : LX} {p p' : PX} (h : PF w0 W b r L p) (hr : V.heap[r]? = some (.cells (pCells L p').toArray TP (0, 0))) (hb : Below w0.heap.size w0 V) (hh : V.heap[b]? = W.heap[b]?) : PF w0 V b r L p :=
  ⟨hh.trans h.heap, ⟨_, hr, rfl⟩, h.ne, h.lo, h.lor, hb⟩
/-- the answer is stored, at the end of a region that draws its order -/
theorem wp_store_r {w0 W : World} {b r : Nat} {L : LX} {p p' : PX} {op : Oper} {a : Act} {K : Act → World → Prop} {Q : Exit → Act → World → Prop} (x y : Operand) (ho : op.op = .store TP x y) (hx : a.eval x = .pointer (some ⟨r, 0, none⟩)) (hy : a.eval y = pAgg L p') (hb : PF w0 W b r L p)
    (h : ∀ V, V.heap[r]? = some (.cells (pCells L p').toArray TP (0, 0)) → Below w0.heap.size w0 V → OffP W V → PF w0 V b r L p → K (a.put op.dst undef) V) : op.wp Try.prog a W K Q := by
  rw [p_agg] at hy
  obtain ⟨c, hc, hs⟩ := hb.res
  have h1 := hb.answer p'
  have h2 := hb.ansBelow p'
  exact wp_store_mid TP x y ho r 0 (pCells L p').toArray hx hy (there_of hc (by rw [hs]; rfl)) (by rw [sizeP]; rfl) (all_oneCell_toArray (p_one L p')) (by simpa using h _ h1 h2 (OffP.of hc fun q hq => setCells_far r _ 0 W q hq) (hb.stored h1 h2 (setCells_far r _ 0 W b hb.ne)))

/-- how a tree's parts lie -/
def TX (B : Nat) (w : World) (p : PX) : Prop := p.xn = p.x.kids.length ∧ KX (fun q => B ≤ q) w p.x (.slice p.xa p.xn p.xc)
/-- what the functions of the grammar answer -/
def RxP (L : LX) (l : List Int) (w : World) : PR Rx → Ending → World → Prop
  | .ok x s, e, w' => ∃ p, e = .returned (pAgg L p) ∧ Lv w' L l s p ∧ p.x = x ∧ TX w.heap.size w' p ∧ Below w.heap.size w w'
  | .bad a m, e, w' => ∃ p, e = .returned (pAgg L p) ∧ BadX p a m ∧ Below w.heap.size w w'
/-- a tree without parts is told -/
theorem told_leaf {L : LX} {l : List Int} {w w' : World} {s : PS} {p : PX} {x : Rx} (h : Lv w' L l s p) (hx : x.kids = []) (hb : Below w.heap.size w w') : RxP L l w (.ok x s) (.returned (pAgg L (toldX p x none 0 0))) w' := by
  refine ⟨_, rfl, h.told x none 0 0, ?_, ?_, hb⟩
  · rw [toldX_ok h.bad]
  · rw [toldX_ok h.bad]; exact ⟨by simp only [hx]; rfl, KX.leaf hx⟩

theorem lit_ref {l : List Int} {s : PS} : litR l s = if litI (due l s.pos) < 0 then failR l s.pos else .ok (litI (due l s.pos)) { s with pos := s.pos + 1 } := by
  unfold litR litI
  by_cases h1 : due l s.pos = 110
  · rw [if_pos h1, if_pos h1]; rfl
  rw [if_neg h1, if_neg h1]
  by_cases h2 : due l s.pos = 116
  · rw [if_pos h2, if_pos h2]; rfl
  rw [if_neg h2, if_neg h2]
  by_cases h3 : due l s.pos = 114
  · rw [if_pos h3, if_pos h3]; rfl
  rw [if_neg h3, if_neg h3]
  by_cases h4 : signI (due l s.pos) = true
  · have : 33 ≤ due l s.pos := by unfold signI at h4; simp at h4; omega
    rw [if_pos h4, if_pos h4, if_neg (by omega)]
  · rw [if_neg h4, if_neg h4, if_pos (by decide)]
theorem cls_in {c : Int} {r : Int} {n : Bool} (h : classI c = some (r, n)) : c ≠ -1 := fun e => by
  subst e; exact absurd (show classI (-1) = none by decide) (by rw [h]; simp)
theorem lit_in {c : Int} (h : ¬ litI c < 0) : c ≠ -1 := fun e => by subst e; exact h (by decide)

set_option maxHeartbeats 4000000 in
set_option maxRecDepth 100000 in
theorem rfOne_any (L : LX) (l : List Int) (s : PS) (p : PX) (w : World) (h : Lv w L l s p) :
    Calls Try.prog 109 #[pAgg L p] w (RxP L l w ((oneR l s).bind fun x s => .ok x.1 s)) := by
  have HLv := Lib.hid h
  have HI := Lib.hid h.i
  have hl := h.fin.len
  have hp := h.fin.pos
  have k0 := fun (W : World) (h : Lv W L l s p) => show Calls Try.prog 55 #[pAgg L p, .int .i64 0] W (RetE (.int .i64 (due l s.pos)) fun w' => Below W.heap.size W w') from rfSignL L l s p 0 W h (by omega)
  clear h
  by_cases hbad : due l s.pos = -1 ∨ due l s.pos = 91 ∨ due l s.pos = 93
  · have hrb : ((oneR l s).bind fun x s => PR.ok x.1 s) = failR l s.pos := by
      unfold oneR; simp only; rw [if_pos hbad]; unfold failR; split <;> rfl
    generalize due l s.pos = d at *
    rcases hbad with rfl | rfl | rfl <;>
    · have KS0 := Lib.hid k0
      clear k0
      go_enter Try.func109, Try.ntmps109
      go_wp2_with (with_reducible refine box_p (by with_reducible rfl) _ (by with_reducible rfl) (L := L) (p := p) (by simp [Act.eval]) ?_)
      intro V hV bV sV
      go_wp2_with (with_reducible refine room_p (by with_reducible rfl) (by with_reducible rfl) hV ?_)
      intro W hW bW sW
      clear hV bV sV bW sW
      have H := Lib.hid hW
      clear hW
      -- the sign at the place is read
      go_wp2_with (first
        | (with_reducible refine load_p (by with_reducible rfl) _ (by with_reducible rfl) w.heap.size (by first | (simp [Act.eval]; done) | simp [Act.eval, Act.put]) H.out ?_)
        | (go_at_call 55; (with_reducible refine (KS0.out _ (HLv.out.below H.out.below)).mono ?_)))
      rintro e w1 ⟨rfl, hb1⟩
      have HPW := Lib.hid (H.out.call hb1)
      clear hb1
      -- the place is told: HRB: what is answered; F, slots as the function has them
      obtain ⟨a', m', hf, hbx⟩ := stopX_fail (α := Rx) (L := L) (l := l) (p := p) (i := s.pos) HLv.out.pat.1.symm
      have HM := Lib.hid (hrb.trans hf)
      have HBX := Lib.hid hbx
      have KST := Lib.hid (fun W => rfStop L p (s.pos : Int) W)
      have c1 := HPW.out.i
      rw [HI.out] at c1
      clear hf hbx hrb
      go_wp2_with (first
        | (with_reducible refine load_p (by with_reducible rfl) _ (by with_reducible rfl) w.heap.size (by first | (simp [Act.eval]; done) | simp [Act.eval, Act.put]) HPW.out ?_)
        | (go_at_call 32; (with_reducible refine (KST.out _).mono ?_)))
      rintro e w8 ⟨rfl, hb8⟩
      have H8 := Lib.hid (HPW.out.call hb8)
      clear hb8 c1
      go_wp2_with (first
        | (with_reducible refine store_r (by with_reducible rfl) _ _ (by with_reducible rfl) (w.heap.size + 1) (p' := stopX L p (s.pos : Int)) (by first | (simp [Act.eval]; done) | simp [Act.eval, Act.put]) (by first | (simp [Act.eval]; done) | simp [Act.eval, Act.put]) H8.out ?_))
      intro W2 h2 b2 _
      go_wp2
      refine ret_p (k := 2) Try.results109 h2 (by first | (simp; done) | simp [Act.put]) rfl ?_
      rw [HM.out]
      exact ⟨_, rfl, HBX.out, b2⟩
  by_cases h92 : due l s.pos = 92
  · have hlt1 := due_lt h92 (by decide)
    have hone : oneR l s = match classI (due l (s.pos + 1)) with
      | some (r, n) => .ok (rxClass r n, false) { s with pos := s.pos + 2 }
      | none => (litR l { s with pos := s.pos + 1 }).bind fun c s => .ok (rxRune c, true) s := by unfold oneR; simp only; rw [if_neg hbad, if_pos h92]; rfl
    have k1 := fun (W : World) (h : Lv W L l s p) => show Calls Try.prog 55 #[pAgg L p, .int .i64 1] W (RetE (.int .i64 (due l (s.pos + 1))) fun w' => Below W.heap.size W w') from rfSignL L l s p 1 W h (by omega)
    rw [h92] at k0
    have KS0 := Lib.hid k0
    have kc := fun W => RetE.of (rfClass_any (due l (s.pos + 1)) W)
    have kl := fun W => RetE.of (rfLiteral_any (due l (s.pos + 1)) W)
    have KON := Lib.hid (fun W => rfOn L p 2 W)
    clear k0 h92 hbad
    cases hcl : classI (due l (s.pos + 1)) with
    | some rn =>
      obtain ⟨r, n⟩ := rn
      rw [hcl] at hone kc
      have hlt2 : s.pos + 1 < l.length := due_lt rfl (cls_in hcl)
      have HT := Lib.hid (show ((oneR l s).bind fun x s => PR.ok x.1 s) = .ok (rxClass r n) { s with pos := s.pos + 2 } by rw [hone]; rfl)
      have HV2 := Lib.hid (HLv.out.on 2 hlt2)
      clear hcl hone kl
      generalize due l (s.pos + 1) = d at *
      have KC := Lib.hid (fun W => show Calls Try.prog 110 #[.int .i64 d] W (RetE (.tuple #[rxAgg (rxClass r n) (.slice none 0 0), .bool true]) (Below W.heap.size W)) from kc W)
      have KS1 := Lib.hid k1
      clear k1 kc
      generalize hX : rxClass r n = X at *
      have hXk : X.kids = [] := by rw [← hX]; rfl
      have KTO := Lib.hid (fun W => rfTold L { p with i := wrap64 (p.i + 2) } X none 0 0 W)
      clear hX
      simp only [rxAgg] at KC KTO
      go_enter Try.func109, Try.ntmps109
      go_wp2_with (with_reducible refine box_p (by with_reducible rfl) _ (by with_reducible rfl) (L := L) (p := p) (by simp [Act.eval]) ?_)
      intro V hV bV sV
      go_wp2_with (with_reducible refine room_p (by with_reducible rfl) (by with_reducible rfl) hV ?_)
      intro W hW bW sW
      clear hV bV sV bW sW
      have H := Lib.hid hW
      clear hW
      -- the sign at the place is read
      go_wp2_with (first
        | (with_reducible refine load_p (by with_reducible rfl) _ (by with_reducible rfl) w.heap.size (by first | (simp [Act.eval]; done) | simp [Act.eval, Act.put]) H.out ?_)
        | (go_at_call 55; (with_reducible refine (KS0.out _ (HLv.out.below H.out.below)).mono ?_)))
      rintro e w1 ⟨rfl, hb1⟩
      have HPW := Lib.hid (H.out.call hb1)
      clear hb1
      go_wp2_with (first
        | (with_reducible refine load_p (by with_reducible rfl) _ (by with_reducible rfl) w.heap.size (by first | (simp [Act.eval]; done) | simp [Act.eval, Act.put]) HPW.out ?_)
        | (go_at_call 55; (with_reducible refine (KS1.out _ (HLv.out.below HPW.out.below)).mono ?_)))
      rintro e w2 ⟨rfl, hb2⟩
      have H2 := Lib.hid (HPW.out.call hb2)
      clear hb2
      go_wp2_with (first
        | (go_at_call 110; (with_reducible refine (KC.out _).mono ?_)))
      rintro e w3 ⟨rfl, hb3⟩
      have H3 := Lib.hid (H2.out.call hb3)
      clear hb3
      obtain ⟨Wx, hWx⟩ : ∃ W, W = w3.alloc (.cells (rxCells X (.slice none 0 0)).toArray TRx) := ⟨_, rfl⟩
      have HPX := Lib.hid (show PF w Wx w.heap.size (w.heap.size + 1) L p by rw [hWx]; exact H3.out.alloc _)
      have HXH := Lib.hid (show Wx.heap[w3.heap.size]? = some (.cells (rxCells X (.slice none 0 0)).toArray TRx (0, 0)) by rw [hWx]; exact Go.heap_alloc_new w3 _)
      simp only [rxCells] at hWx
      go_upto_region 8 with fail
      rw [← hWx]
      clear hWx
      -- a tree is told, behind some signs: a region that draws its order; world Wx, the tree X (its parts at A n c) in block qx
      refine wp_region_held_drew (S := (fun Y => PF w Y w.heap.size (w.heap.size + 1) L p ∧ Y.heap[w3.heap.size]? = some (.cells (rxCells X (.slice none 0 0)).toArray TRx (0, 0)))) (by kernel_rfl) ⟨HPX.out.drew, HXH.out⟩ (fun hS0 => ?_)
      refine wpAnyH_take (i := 0) (v := pAgg L p) rfl (by kernel_rfl) (by kernel_rfl) (by kernel_rfl) (fun _ _ _ h => h) (yields_p (fun _ h => h.1) (by rfl) _ rfl rfl) hS0 ?_
      refine wpAnyH_take (i := 2) (v := rxAgg X (.slice none 0 0)) rfl (by kernel_rfl) (by kernel_rfl) (by kernel_rfl) (fun _ _ _ h => h) (yields_x (fun _ h => h.2) (by rfl) _ rfl rfl) hS0 ?_
      simp only [rxAgg]
      have HS1 := Lib.hid hS0
      have OX := Lib.hid (OffP.drew Wx)
      generalize Wx.drew = w4 at *
      clear hS0
      refine wpAnyH_ready (rs := [1]) (by kernel_rfl) (by simp) ?_
      refine AllReadyH.cons rfl (fun K hK => ?_) AllReadyH.nil
      go_simp
      go_at_call 56
      with_reducible refine (KON.out _).mono ?_
      rintro e w5 ⟨rfl, hb5⟩
      try dsimp only
      refine hK.out _ _ ⟨HS1.out.1.call hb5, heap_call HS1.out.2 hb5⟩ (fun hS0 => ?_)
      clear hK K
      have HS5 := Lib.hid hS0
      have O5 := Lib.hid (OX.out.trans (OffP.call hb5))
      clear hS0 hb5 HS1 OX
      refine wpAnyH_ready (rs := [3]) (by kernel_rfl) (by simp) ?_
      refine AllReadyH.cons rfl (fun K hK => ?_) AllReadyH.nil
      go_simp
      go_at_call 57
      with_reducible refine (KTO.out _).mono ?_
      rintro e w6 ⟨rfl, hb6⟩
      try dsimp only
      refine hK.out _ _ ⟨HS5.out.1.call hb6, heap_call HS5.out.2 hb6⟩ (fun hS0 => ?_)
      clear hK K
      have HS6 := Lib.hid hS0
      have O6 := Lib.hid (O5.out.trans (OffP.call hb6))
      clear hS0 hb6 HS5 O5
      refine wpAnyH_ready (rs := [4]) (by kernel_rfl) (by simp) ?_
      refine AllReadyH.cons rfl (fun K hK => ?_) AllReadyH.nil
      rw [if_pos (by rfl)]
      refine wp_store_r _ _ rfl rfl rfl HS6.out.1 ?_
      intro V7 h7 b7 o7 P7
      try dsimp only
      refine hK.out _ _ ⟨P7, o7 _ _ _ _ (by decide) HS6.out.2⟩ (fun hS0 => ?_)
      clear hK K
      have O7 := Lib.hid (O6.out.trans o7)
      clear hS0 o7 O6 HS6 P7
      refine wpAnyH_done (by kernel_rfl) ?_ _
      go_wp2
      refine ret_p (k := 2) Try.results109 h7 (by first | (simp; done) | simp [Act.put]) rfl ?_
      rw [HT.out]
      exact told_leaf (HV2.out.below b7) hXk b7
    | none =>
      rw [hcl] at hone kc
      have hone2 : ((oneR l s).bind fun x s => PR.ok x.1 s) = (litR l { s with pos := s.pos + 1 }).bind fun c s => .ok (rxRune c) s := by
        rw [hone]; cases litR l { s with pos := s.pos + 1 } <;> rfl
      rw [lit_ref] at hone2
      simp only at hone2
      have KC := Lib.hid (fun W => show Calls Try.prog 110 #[.int .i64 (due l (s.pos + 1))] W (RetE (.tuple #[rxAgg rxNone (.slice none 0 0), .bool false]) (Below W.heap.size W)) from kc W)
      simp only [rxAgg] at KC
      clear kc hcl hone
      generalize rxNone = N at *
      by_cases hlit : litI (due l (s.pos + 1)) < 0
      · rw [if_pos hlit] at hone2
        have hrb : ((oneR l s).bind fun x s => PR.ok x.1 s) = failR l (s.pos + 1) := by rw [hone2]; unfold failR; split <;> rfl
        clear hone2
        generalize litI (due l (s.pos + 1)) = v at *
        generalize due l (s.pos + 1) = d at *
        have KS1 := Lib.hid k1
        have KL := Lib.hid kl
        clear k1 kl
        have z0 : decide (v < 0) = true := decide_eq_true hlit
        go_enter Try.func109, Try.ntmps109
        go_wp2_with (with_reducible refine box_p (by with_reducible rfl) _ (by with_reducible rfl) (L := L) (p := p) (by simp [Act.eval]) ?_)
        intro V hV bV sV
        go_wp2_with (with_reducible refine room_p (by with_reducible rfl) (by with_reducible rfl) hV ?_)
        intro W hW bW sW
        clear hV bV sV bW sW
        have H := Lib.hid hW
        clear hW
        -- the sign at the place is read
        go_wp2_with (first
          | (with_reducible refine load_p (by with_reducible rfl) _ (by with_reducible rfl) w.heap.size (by first | (simp [Act.eval]; done) | simp [Act.eval, Act.put]) H.out ?_)
          | (go_at_call 55; (with_reducible refine (KS0.out _ (HLv.out.below H.out.below)).mono ?_)))
        rintro e w1 ⟨rfl, hb1⟩
        have HPW := Lib.hid (H.out.call hb1)
        clear hb1
        go_wp2_with (first
          | (with_reducible refine load_p (by with_reducible rfl) _ (by with_reducible rfl) w.heap.size (by first | (simp [Act.eval]; done) | simp [Act.eval, Act.put]) HPW.out ?_)
          | (go_at_call 55; (with_reducible refine (KS1.out _ (HLv.out.below HPW.out.below)).mono ?_)))
        rintro e w2 ⟨rfl, hb2⟩
        have H2 := Lib.hid (HPW.out.call hb2)
        clear hb2
        go_wp2_with (first
          | (go_at_call 110; (with_reducible refine (KC.out _).mono ?_)))
        rintro e w3 ⟨rfl, hb3⟩
        have H3 := Lib.hid (H2.out.call hb3)
        clear hb3 HPW H2
        go_wp2_with (first
          | (with_reducible refine load_p (by with_reducible rfl) _ (by with_reducible rfl) w.heap.size (by first | (simp [Act.eval]; done) | simp [Act.eval, Act.put]) (H3.out.alloc _) ?_)
          | (go_at_call 55; (with_reducible refine (KS1.out _ (HLv.out.below (H3.out.alloc _).below)).mono ?_)))
        rintro e w4 ⟨rfl, hb4⟩
        have H4 := Lib.hid ((H3.out.alloc _).call hb4)
        clear hb4
        go_wp2_with (first
          | (go_at_call 111; (with_reducible refine (KL.out _).mono ?_)))
        rintro e w5 ⟨rfl, rfl⟩
        have HPW := H4
        clear H4
        obtain ⟨a', m', hf, hbx⟩ := stopX_fail (α := Rx) (L := L) (l := l) (p := p) (i := s.pos + 1) HLv.out.pat.1.symm
        have HM := Lib.hid (hrb.trans hf)
        have HBX := Lib.hid (show BadX (stopX L p ((s.pos : Int) + 1)) a' m' from hbx)
        have KST := Lib.hid (fun W => rfStop L p ((s.pos : Int) + 1) W)
        have c1 := HPW.out.i
        rw [HI.out] at c1
        clear hf hbx hrb
        go_wp2_with (first
          | (with_reducible refine load_p (by with_reducible rfl) _ (by with_reducible rfl) w.heap.size (by first | (simp [Act.eval]; done) | simp [Act.eval, Act.put]) HPW.out ?_)
          | (go_at_call 32; (with_reducible refine (KST.out _).mono ?_)))
        rintro e w8 ⟨rfl, hb8⟩
        have H8 := Lib.hid (HPW.out.call hb8)
        clear hb8 c1
        go_wp2_with (first
          | (with_reducible refine store_r (by with_reducible rfl) _ _ (by with_reducible rfl) (w.heap.size + 1) (p' := stopX L p ((s.pos : Int) + 1)) (by first | (simp [Act.eval]; done) | simp [Act.eval, Act.put]) (by first | (simp [Act.eval]; done) | simp [Act.eval, Act.put]) H8.out ?_))
        intro W2 h2 b2 _
        go_wp2
        refine ret_p (k := 2) Try.results109 h2 (by first | (simp; done) | simp [Act.put]) rfl ?_
        rw [HM.out]
        exact ⟨_, rfl, HBX.out, b2⟩
      · rw [if_neg hlit] at hone2
        have HT := Lib.hid (show ((oneR l s).bind fun x s => PR.ok x.1 s) = .ok (rxRune (litI (due l (s.pos + 1)))) { s with pos := s.pos + 2 } by rw [hone2]; rfl)
        have hlt2 : s.pos + 1 < l.length := due_lt rfl (lit_in hlit)
        have HV2 := Lib.hid (HLv.out.on 2 hlt2)
        clear hone2
        generalize litI (due l (s.pos + 1)) = v at *
        generalize due l (s.pos + 1) = d at *
        have KS1 := Lib.hid k1
        have KL := Lib.hid kl
        clear k1 kl
        have z0 : decide (v < 0) = false := decide_eq_false hlit
        obtain ⟨pB, hpB⟩ : ∃ q : PX, q = { p with i := wrap64 (p.i + 2) } := ⟨_, rfl⟩
        obtain ⟨X, hX⟩ : ∃ x, x = rxRune v := ⟨_, rfl⟩
        have KON := Lib.hid (fun W => show Calls Try.prog 56 #[pAgg L p, .int .i64 2] W (RetE (pAgg L pB) fun w' => Below W.heap.size W w') by rw [hpB]; exact KON.out W)
        have HV2 := Lib.hid (show Lv w L l { s with pos := s.pos + 2 } pB by rw [hpB]; exact HV2.out)
        have KTO := Lib.hid (fun W => show Calls Try.prog 57 #[pAgg L pB, .agg #[.int .i64 1, .int .i64 v, .int .i64 0, .slice none 0 0, .int .i64 0, .int .i64 0, .bool false, .bool false, .int .i64 0, .string ⟨#[]⟩]] W (RetE (pAgg L (toldX pB X none 0 0)) fun w' => Below W.heap.size W w') by rw [hX]; exact rfTold L pB (rxRune v) none 0 0 W)
        have HT := Lib.hid (show ((oneR l s).bind fun x s => PR.ok x.1 s) = .ok X { s with pos := s.pos + 2 } by rw [hX]; exact HT.out)
        have hXk : X.kids = [] := by rw [hX]; rfl
        clear hpB hX
        go_enter Try.func109, Try.ntmps109
        go_wp2_with (with_reducible refine box_p (by with_reducible rfl) _ (by with_reducible rfl) (L := L) (p := p) (by simp [Act.eval]) ?_)
        intro V hV bV sV
        go_wp2_with (with_reducible refine room_p (by with_reducible rfl) (by with_reducible rfl) hV ?_)
        intro W hW bW sW
        clear hV bV sV bW sW
        have H := Lib.hid hW
        clear hW
        -- the sign at the place is read
        go_wp2_with (first
          | (with_reducible refine load_p (by with_reducible rfl) _ (by with_reducible rfl) w.heap.size (by first | (simp [Act.eval]; done) | simp [Act.eval, Act.put]) H.out ?_)
          | (go_at_call 55; (with_reducible refine (KS0.out _ (HLv.out.below H.out.below)).mono ?_)))
        rintro e w1 ⟨rfl, hb1⟩
        have HPW := Lib.hid (H.out.call hb1)
        clear hb1
        go_wp2_with (first
          | (with_reducible refine load_p (by with_reducible rfl) _ (by with_reducible rfl) w.heap.size (by first | (simp [Act.eval]; done) | simp [Act.eval, Act.put]) HPW.out ?_)
          | (go_at_call 55; (with_reducible refine (KS1.out _ (HLv.out.below HPW.out.below)).mono ?_)))
        rintro e w2 ⟨rfl, hb2⟩
        have H2 := Lib.hid (HPW.out.call hb2)
        clear hb2
        go_wp2_with (first
          | (go_at_call 110; (with_reducible refine (KC.out _).mono ?_)))
        rintro e w3 ⟨rfl, hb3⟩
        have H3 := Lib.hid (H2.out.call hb3)
        clear hb3 HPW H2
        go_wp2_with (first
          | (with_reducible refine load_p (by with_reducible rfl) _ (by with_reducible rfl) w.heap.size (by first | (simp [Act.eval]; done) | simp [Act.eval, Act.put]) (H3.out.alloc _) ?_)
          | (go_at_call 55; (with_reducible refine (KS1.out _ (HLv.out.below (H3.out.alloc _).below)).mono ?_)))
        rintro e w4 ⟨rfl, hb4⟩
        have H4 := Lib.hid ((H3.out.alloc _).call hb4)
        clear hb4
        go_wp2_with (first
          | (go_at_call 111; (with_reducible refine (KL.out _).mono ?_)))
        rintro e w5 ⟨rfl, rfl⟩
        have HPW := H4
        clear H4
        -- a leaf is told behind some signs: KON, KTO, pB the state behind them, X the leaf
        go_wp2_with (first
          | (with_reducible refine load_p (by with_reducible rfl) _ (by with_reducible rfl) w.heap.size (by first | (simp [Act.eval]; done) | simp [Act.eval, Act.put]) HPW.out ?_)
          | (go_at_call 56; (with_reducible refine (KON.out _).mono ?_)))
        rintro e w8 ⟨rfl, hb8⟩
        have H8 := Lib.hid (HPW.out.call hb8)
        clear hb8
        go_wp2_with (first
          | (go_at_call 57; (with_reducible refine (KTO.out _).mono ?_)))
        rintro e w9 ⟨rfl, hb9⟩
        have H9 := Lib.hid (H8.out.call hb9)
        clear hb9
        go_wp2_with (first
          | (with_reducible refine store_r (by with_reducible rfl) _ _ (by with_reducible rfl) (w.heap.size + 1) (p' := toldX pB X none 0 0) (by first | (simp [Act.eval]; done) | simp [Act.eval, Act.put]) (by first | (simp [Act.eval]; done) | simp [Act.eval, Act.put]) H9.out ?_))
        intro W2 h2 b2 _
        go_wp2
        refine ret_p (k := 2) Try.results109 h2 (by first | (simp; done) | simp [Act.put]) rfl ?_
        rw [HT.out]
        exact told_leaf (HV2.out.below b2) hXk b2
  · have HT := Lib.hid (show ((oneR l s).bind fun x s => PR.ok x.1 s) = .ok (rxRune (due l s.pos)) { s with pos := s.pos + 1 } by unfold oneR; simp only; rw [if_neg hbad, if_neg h92]; rfl)
    have hlt1 : s.pos < l.length := due_lt rfl (fun e => hbad (.inl e))
    have HV2 := Lib.hid (HLv.out.on 1 hlt1)
    have z1 : (due l s.pos == -1) = false := beq_false_of_ne (by omega)
    have z2 : (due l s.pos == 91) = false := beq_false_of_ne (by omega)
    have z3 : (due l s.pos == 93) = false := beq_false_of_ne (by omega)
    have z4 : (due l s.pos != 92) = true := by simp [h92]
    clear hbad h92
    generalize due l s.pos = v at *
    have KS0 := Lib.hid k0
    clear k0
    obtain ⟨pB, hpB⟩ : ∃ q : PX, q = { p with i := wrap64 (p.i + 1) } := ⟨_, rfl⟩
    obtain ⟨X, hX⟩ : ∃ x, x = rxRune v := ⟨_, rfl⟩
    have KON := Lib.hid (fun W => show Calls Try.prog 56 #[pAgg L p, .int .i64 1] W (RetE (pAgg L pB) fun w' => Below W.heap.size W w') by rw [hpB]; exact rfOn L p 1 W)
    have HV2 := Lib.hid (show Lv w L l { s with pos := s.pos + 1 } pB by rw [hpB]; exact HV2.out)
    have KTO := Lib.hid (fun W => show Calls Try.prog 57 #[pAgg L pB, .agg #[.int .i64 1, .int .i64 v, .int .i64 0, .slice none 0 0, .int .i64 0, .int .i64 0, .bool false, .bool false, .int .i64 0, .string ⟨#[]⟩]] W (RetE (pAgg L (toldX pB X none 0 0)) fun w' => Below W.heap.size W w') by rw [hX]; exact rfTold L pB (rxRune v) none 0 0 W)
    have HT := Lib.hid (show ((oneR l s).bind fun x s => PR.ok x.1 s) = .ok X { s with pos := s.pos + 1 } by rw [hX]; exact HT.out)
    have hXk : X.kids = [] := by rw [hX]; rfl
    clear hpB hX
    go_enter Try.func109, Try.ntmps109
    go_wp2_with (with_reducible refine box_p (by with_reducible rfl) _ (by with_reducible rfl) (L := L) (p := p) (by simp [Act.eval]) ?_)
    intro V hV bV sV
    go_wp2_with (with_reducible refine room_p (by with_reducible rfl) (by with_reducible rfl) hV ?_)
    intro W hW bW sW
    clear hV bV sV bW sW
    have H := Lib.hid hW
    clear hW
    -- the sign at the place is read
    go_wp2_with (first
      | (with_reducible refine load_p (by with_reducible rfl) _ (by with_reducible rfl) w.heap.size (by first | (simp [Act.eval]; done) | simp [Act.eval, Act.put]) H.out ?_)
      | (go_at_call 55; (with_reducible refine (KS0.out _ (HLv.out.below H.out.below)).mono ?_)))
    rintro e w1 ⟨rfl, hb1⟩
    have HPW := Lib.hid (H.out.call hb1)
    clear hb1
    -- a leaf is told behind some signs: KON, KTO, pB the state behind them, X the leaf
    go_wp2_with (first
      | (with_reducible refine load_p (by with_reducible rfl) _ (by with_reducible rfl) w.heap.size (by first | (simp [Act.eval]; done) | simp [Act.eval, Act.put]) HPW.out ?_)
      | (go_at_call 56; (with_reducible refine (KON.out _).mono ?_)))
    rintro e w8 ⟨rfl, hb8⟩
    have H8 := Lib.hid (HPW.out.call hb8)
    clear hb8
    go_wp2_with (first
      | (go_at_call 57; (with_reducible refine (KTO.out _).mono ?_)))
    rintro e w9 ⟨rfl, hb9⟩
    have H9 := Lib.hid (H8.out.call hb9)
    clear hb9
    go_wp2_with (first
      | (with_reducible refine store_r (by with_reducible rfl) _ _ (by with_reducible rfl) (w.heap.size + 1) (p' := toldX pB X none 0 0) (by first | (simp [Act.eval]; done) | simp [Act.eval, Act.put]) (by first | (simp [Act.eval]; done) | simp [Act.eval, Act.put]) H9.out ?_))
    intro W2 h2 b2 _
    go_wp2
    refine ret_p (k := 2) Try.results109 h2 (by first | (simp; done) | simp [Act.put]) rfl ?_
    rw [HT.out]
    exact told_leaf (HV2.out.below b2) hXk b2

end Go.Proofs.Ytoniccokohjenaa
