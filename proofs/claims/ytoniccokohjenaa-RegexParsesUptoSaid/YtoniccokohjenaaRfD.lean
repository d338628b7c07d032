/-
  The walk of the reference's skip (chapter 18).
-/
import Derived.Test.YtoniccokohjenaaRfC
namespace Go.Proofs.Ytoniccokohjenaa
open Go.RowKit

/-- where a state that lies in b stands -/
def pPos (b : Nat) (w : World) : Nat := match w.cell? ⟨b, 1, none⟩ with
  | some (.int _ p) => p.toNat
  | _ => 0
theorem PF.pos_of {w0 w : World} {b r : Nat} {L : LX} {p : PX} (h : PF w0 w b r L p) {j : Nat} (hi : p.i = (j : Int)) : pPos b w = j := by unfold pPos; rw [h.i, hi]; simp
theorem PX.at_i {p : PX} {j : Int} (h : p.i = j) : { p with i := j } = p := by cases p; simp at h; simp [h]

set_option maxHeartbeats 4000000 in
set_option maxRecDepth 100000 in
theorem rfSkipBad (L : LX) (p : PX) (w : World) (h : p.bad ≠ 0) :
    Calls Try.prog 72 #[pAgg L p] w (RetE (pAgg L p) fun w' => Below w.heap.size w w') := by
  have z : (p.bad == 0) = false := by simp [h]
  go_enter Try.func72, Try.ntmps72
  go_wp2_with (with_reducible refine box_p (by with_reducible rfl) _ (by with_reducible rfl) (L := L) (p := p) (by simp [Act.eval]) ?_)
  intro V hV bV sV
  go_wp2_with (with_reducible refine room_p (by with_reducible rfl) (by with_reducible rfl) hV ?_)
  intro W hW bW sW
  clear hV bV sV bW sW h
  have H := Lib.hid hW
  have c2 := hW.free
  have c16 := hW.bad
  clear hW
  generalize L.free = fr at *
  go_wp2
  go_loopw [] (fun wr => wr = W) (fun _ => 0)
  case atStart => rfl
  case round =>
    subst hrel
    cases fr <;>
    · go_wp2_with (first
        | (with_reducible refine load_p (by with_reducible rfl) _ (by with_reducible rfl) w.heap.size (by first | (simp [Act.eval]; done) | simp [Act.eval, Act.put]) H.out ?_)
        | (with_reducible refine store_r (by with_reducible rfl) _ _ (by with_reducible rfl) (w.heap.size + 1) (p' := p) (by first | (simp [Act.eval]; done) | simp [Act.eval, Act.put]) (by first | (simp [Act.eval]; done) | simp [Act.eval, Act.put]) H.out ?_))
      intro W2 h2 b2 _
      go_wp2
      refine ret_p (k := 2) Try.results72 h2 (by simp) rfl ?_
      exact ⟨rfl, b2⟩

set_option maxHeartbeats 4000000 in
set_option maxRecDepth 100000 in
theorem rfSkipOk (L : LX) (l : List Int) (s : PS) (p : PX) (w : World) (h : Lv w L l s p) :
    Calls Try.prog 72 #[pAgg L p] w (RetE (pAgg L { p with i := (skipP L.free l s.pos : Int) }) fun w' => Below w.heap.size w w') := by
  have hl := h.fin.len
  have hp := h.fin.pos
  cases hfr : L.free with
  | false =>
    have e : skipP false l s.pos = s.pos := rfl
    rw [e, PX.at_i h.i]
    clear e
    go_enter Try.func72, Try.ntmps72
    go_wp2_with (with_reducible refine box_p (by with_reducible rfl) _ (by with_reducible rfl) (L := L) (p := p) (by simp [Act.eval]) ?_)
    intro V hV bV sV
    go_wp2_with (with_reducible refine room_p (by with_reducible rfl) (by with_reducible rfl) hV ?_)
    intro W hW bW sW
    clear hV bV sV bW sW h
    have H := Lib.hid hW
    have c2 := hW.free
    rw [hfr] at c2
    clear hW
    go_wp2
    go_loopw [] (fun wr => wr = W) (fun _ => 0)
    case atStart => rfl
    case round =>
      subst hrel
      go_wp2_with (first
        | (with_reducible refine load_p (by with_reducible rfl) _ (by with_reducible rfl) w.heap.size (by first | (simp [Act.eval]; done) | simp [Act.eval, Act.put]) H.out ?_)
        | (with_reducible refine store_r (by with_reducible rfl) _ _ (by with_reducible rfl) (w.heap.size + 1) (p' := p) (by first | (simp [Act.eval]; done) | simp [Act.eval, Act.put]) (by first | (simp [Act.eval]; done) | simp [Act.eval, Act.put]) H.out ?_))
      intro W2 h2 b2 _
      go_wp2
      refine ret_p (k := 2) Try.results72 h2 (by simp) rfl ?_
      exact ⟨rfl, b2⟩
  | true =>
    have hb0 := Lib.hid h.bad
    have HLv := Lib.hid h
    have hi := h.i
    have HS := Lib.hid (show skipP true l s.pos = s.pos + skipL false (l.drop s.pos) from rfl)
    have KS := Lib.hid (fun (j : Nat) (W : World) (hL : LRd W L l) (hj : j ≤ 1000) => show Calls Try.prog 55 #[pAgg L { p with i := (j : Int) }, .int .i64 0] W (RetE (.int .i64 (due l j)) fun w' => Below W.heap.size W w') from rfSign L { p with i := (j : Int) } l j 0 W hL rfl hl (by omega) (by omega))
    generalize hfin : skipP true l s.pos = fin at *
    clear hfin h
    go_enter Try.func72, Try.ntmps72
    go_wp2_with (with_reducible refine box_p (by with_reducible rfl) _ (by with_reducible rfl) (L := L) (p := p) (by simp [Act.eval]) ?_)
    intro V hV bV sV
    go_wp2_with (with_reducible refine room_p (by with_reducible rfl) (by with_reducible rfl) hV ?_)
    intro W hW bW sW
    clear hV bV sV bW sW
    have hW0 : PF w W w.heap.size (w.heap.size + 1) L { p with i := (s.pos : Int) } := by rw [PX.at_i hi]; exact hW
    have H := Lib.hid hW0
    clear hW hW0
    go_wp2
    go_loopw [] (fun wr => ∃ j : Nat, s.pos ≤ j ∧ j ≤ l.length ∧ PF w wr w.heap.size (w.heap.size + 1) L { p with i := (j : Int) } ∧ Hid (fin = j + skipL false (l.drop j))) (fun wr => l.length - pPos w.heap.size wr)
    case atStart => exact ⟨s.pos, Nat.le_refl _, hp, H.out, HS.out⟩
    case round =>
      obtain ⟨j, hj, hjl, hv, he⟩ := hrel
      have H1 := Lib.hid hv
      have c2 := hv.free
      have c16 := hv.bad
      rw [hfr] at c2
      have hpo : pPos w.heap.size wr = j := hv.pos_of rfl
      have HPO := Lib.hid hpo
      have KJ := Lib.hid (fun W hL => KS.out j W hL (by omega))
      rw [show ({ p with i := (j : Int) } : PX).bad = 0 from hb0.out] at c16
      clear hv hpo
      go_wp2_with (first
        | (with_reducible refine load_p (by with_reducible rfl) _ (by with_reducible rfl) w.heap.size (by first | (simp [Act.eval]; done) | simp [Act.eval, Act.put]) H1.out ?_)
        | (go_at_call 55; (with_reducible refine (KJ.out _ (HLv.out.pat.below H1.out.below)).mono ?_)))
      rintro e w1 ⟨rfl, hb1⟩
      have h1 := H1.out.call hb1
      have c1 := h1.i
      have f1 := h1.frozen 1
      have H2 := Lib.hid h1
      clear hb1 h1
      by_cases hb : blkI (due l j) = true
      · have hp2 : j < l.length := due_lt rfl (fun e => by rw [e] at hb; exact absurd hb (by decide))
        have he2 := Lib.hid (by rw [he.out, skip_blk hb]; omega : fin = (j + 1) + skipL false (l.drop (j + 1)))
        have hd : due l j = 32 ∨ due l j = 9 ∨ due l j = 10 ∨ due l j = 13 := by
          simp only [blkI, Bool.or_eq_true, beq_iff_eq] at hb; omega
        clear hb he
        generalize due l j = d at *
        rcases hd with rfl | rfl | rfl | rfl <;>
        · go_wp2
          go_roundw
          case rel => exact ⟨j + 1, by omega, by omega, H2.out.set (j := 1) (v := .int .i64 ((j : Int) + 1)) rfl, he2⟩
          case measure =>
            have hm : pPos w.heap.size (w1.setCell ⟨w.heap.size, 1, none⟩ (.int .i64 ((j : Int) + 1))) = j + 1 := (H2.out.set (j := 1) (v := .int .i64 ((j : Int) + 1)) (p' := { p with i := ((j + 1 : Nat) : Int) }) rfl).pos_of rfl
            rw [hm, HPO.out]; omega
      have hb' : blkI (due l j) = false := by simpa using hb
      by_cases h35 : due l j = 35
      · have hp2 : j < l.length := due_lt h35 (by decide)
        have he2 := Lib.hid (by rw [he.out, skip_hash h35] : fin = j + skipL true (l.drop j))
        have H35 := Lib.hid h35
        rw [h35]
        clear h35 hb hb' he
        go_wp2
        go_loopw [] (fun wq => ∃ q : Nat, j ≤ q ∧ (q = j → Hid (due l j = 35)) ∧ q ≤ l.length ∧ PF w wq w.heap.size (w.heap.size + 1) L { p with i := (q : Int) } ∧ Hid (fin = q + skipL true (l.drop q))) (fun wq => l.length - pPos w.heap.size wq)
        case atStart => exact ⟨j, Nat.le_refl _, fun _ => H35, hjl, H2.out, he2⟩
        case round =>
          obtain ⟨q, hpq, hq35, hql, hv, he3⟩ := hrel
          have HQ := Lib.hid hq35
          have H3 := Lib.hid hv
          have hpo3 := Lib.hid (show pPos w.heap.size wr = q from hv.pos_of rfl)
          have KQ := Lib.hid (fun W hL => KS.out q W hL (by omega))
          clear hv hq35
          by_cases h10 : due l q = 10
          · have he4 := Lib.hid (by rw [he3.out, note_end (.inr h10)] : fin = q + skipL false (l.drop q))
            have hjq : j < q := by
              rcases Nat.lt_or_ge j q with h | h
              · exact h
              · have e : q = j := by omega
                rw [e, (HQ.out e).out] at h10; exact absurd h10 (by decide)
            have k0 := KQ.out
            rw [h10] at k0
            have K3 := Lib.hid k0
            clear h10 he3 k0 HQ
            go_wp2_with (first
              | (with_reducible refine load_p (by with_reducible rfl) _ (by with_reducible rfl) w.heap.size (by first | (simp [Act.eval]; done) | simp [Act.eval, Act.put]) H3.out ?_)
              | (go_at_call 55; (with_reducible refine (K3.out _ (HLv.out.pat.below H3.out.below)).mono ?_)))
            rintro e w2 ⟨rfl, hb2⟩
            have H4 := Lib.hid (H3.out.call hb2)
            clear hb2
            go_wp2
            go_roundw
            case rel => exact ⟨q, by omega, hql, H4.out, he4⟩
            case measure =>
              have hm : pPos w.heap.size w2 = q := H4.out.pos_of rfl
              rw [hm, HPO.out]; omega
          · have z1 : (due l q != 10) = true := by simp [h10]
            rcases Nat.lt_or_ge q l.length with hlt | hge
            · have he4 := Lib.hid (by rw [he3.out, note_in hlt h10]; omega : fin = (q + 1) + skipL true (l.drop (q + 1)))
              have z2 : (due l q != -1) = true := by
                have h9 := (HLv.out.fin.pts _ (List.getElem_mem hlt)).1
                rw [← due_at hlt] at h9
                rw [bne_iff_ne]; omega
              clear h10 he3 HQ
              generalize due l q = d at *
              go_wp2_with (first
                | (with_reducible refine load_p (by with_reducible rfl) _ (by with_reducible rfl) w.heap.size (by first | (simp [Act.eval]; done) | simp [Act.eval, Act.put]) H3.out ?_)
                | (go_at_call 55; (with_reducible refine (KQ.out _ (HLv.out.pat.below H3.out.below)).mono ?_)))
              rintro e w2 ⟨rfl, hb2⟩
              have H4 := Lib.hid (H3.out.call hb2)
              clear hb2
              go_wp2_with (first
                | (with_reducible refine load_pG (by with_unfolding_all rfl) _ (by with_reducible rfl) w.heap.size (by first | (simp [Act.eval]; done) | simp [Act.eval, Act.put]) H4.out ?_)
                | (go_at_call 55; (with_reducible refine (KQ.out _ (HLv.out.pat.below H4.out.below)).mono ?_)))
              rintro e w3 ⟨rfl, hb3⟩
              have h5 := H4.out.call hb3
              have c1 := h5.i
              have f1 := h5.frozen 1
              have H5 := Lib.hid h5
              clear hb3 h5
              go_wp2
              go_roundw
              case rel => exact ⟨q + 1, by omega, fun h => by omega, by omega, H5.out.set (j := 1) (v := .int .i64 ((q : Int) + 1)) rfl, he4⟩
              case measure =>
                have hm : pPos w.heap.size (w3.setCell ⟨w.heap.size, 1, none⟩ (.int .i64 ((q : Int) + 1))) = q + 1 := (H5.out.set (j := 1) (v := .int .i64 ((q : Int) + 1)) (p' := { p with i := ((q + 1 : Nat) : Int) }) rfl).pos_of rfl
                rw [hm, hpo3.out]; omega
            · have he4 := Lib.hid (by rw [he3.out, note_end (.inl hge)] : fin = q + skipL false (l.drop q))
              have hjq : j < q := by omega
              have k0 := KQ.out
              rw [due_past hge] at k0 z1
              have K3 := Lib.hid k0
              clear h10 he3 k0 HQ z1
              go_wp2_with (first
                | (with_reducible refine load_p (by with_reducible rfl) _ (by with_reducible rfl) w.heap.size (by first | (simp [Act.eval]; done) | simp [Act.eval, Act.put]) H3.out ?_)
                | (go_at_call 55; (with_reducible refine (K3.out _ (HLv.out.pat.below H3.out.below)).mono ?_)))
              rintro e w2 ⟨rfl, hb2⟩
              have H4 := Lib.hid (H3.out.call hb2)
              clear hb2
              go_wp2_with (first
                | (with_reducible refine load_pG (by with_unfolding_all rfl) _ (by with_reducible rfl) w.heap.size (by first | (simp [Act.eval]; done) | simp [Act.eval, Act.put]) H4.out ?_)
                | (go_at_call 55; (with_reducible refine (K3.out _ (HLv.out.pat.below H4.out.below)).mono ?_)))
              rintro e w3 ⟨rfl, hb3⟩
              have H5 := Lib.hid (H4.out.call hb3)
              clear hb3
              go_wp2
              go_roundw
              case rel => exact ⟨q, by omega, hql, H5.out, he4⟩
              case measure =>
                have hm : pPos w.heap.size w3 = q := H5.out.pos_of rfl
                rw [hm, HPO.out]; omega
      · have hz : skipL false (l.drop j) = 0 := skip_else hb' h35
        have hfj : fin = j := by rw [he.out, hz]; rfl
        have z1 : (due l j == 32) = false := by rw [blkI] at hb'; simp at hb'; simp [hb']
        have z2 : (due l j == 9) = false := by rw [blkI] at hb'; simp at hb'; simp [hb']
        have z3 : (due l j == 10) = false := by rw [blkI] at hb'; simp at hb'; simp [hb']
        have z4 : (due l j == 13) = false := by rw [blkI] at hb'; simp at hb'; simp [hb']
        have z5 : (due l j == 35) = false := beq_false_of_ne h35
        subst hfj
        clear hb hb' h35 he hz HS
        generalize due l fin = d at *
        go_wp2_with (first
          | (with_reducible refine load_p (by with_reducible rfl) _ (by with_reducible rfl) w.heap.size (by first | (simp [Act.eval]; done) | simp [Act.eval, Act.put]) H2.out ?_)
          | (with_reducible refine store_r (by with_reducible rfl) _ _ (by with_reducible rfl) (w.heap.size + 1) (p' := { p with i := (fin : Int) }) (by first | (simp [Act.eval]; done) | simp [Act.eval, Act.put]) (by first | (simp [Act.eval]; done) | simp [Act.eval, Act.put]) H2.out ?_))
        intro W2 h2 b2 _
        go_wp2
        refine ret_p (k := 2) Try.results72 h2 (by simp) rfl ?_
        exact ⟨rfl, b2⟩

end Go.Proofs.Ytoniccokohjenaa
