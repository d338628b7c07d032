/-
  The walk of the reference's set (chapter 18).
-/
import Derived.Test.YtoniccokohjenaaRfOa
import Derived.Test.YtoniccokohjenaaRfJ
namespace Go.Proofs.Ytoniccokohjenaa
open Go.RowKit


set_option maxHeartbeats 12000000 in
set_option maxRecDepth 100000 in
theorem rfSet_any (L : LX) (l : List Int) (s : PS) (p : PX) (w : World) (h : Lv w L l s p) :
    Calls Try.prog 98 #[pAgg L p] w (RxP L l w (setR l s)) := by
  obtain ⟨i0, hi0, hz0, hz1, hz2⟩ := info_parts infoRx
  have HLv := Lib.hid h
  have HPT := Lib.hid h.pat
  have hl := h.fin.len
  have hp := h.fin.pos
  have KS0 := Lib.hid (fun W h => show Calls Try.prog 55 #[pAgg L p, .int .i64 0] W (RetE (.int .i64 (due l s.pos)) fun w' => Below W.heap.size W w') from rfSignL L l s p 0 W h (by omega))
  clear h
  go_enter Try.func98, Try.ntmps98
  go_wp2_with (with_reducible refine box_p (by with_reducible rfl) _ (by with_reducible rfl) (L := L) (p := p) (by simp [Act.eval]) ?_)
  intro V hV bV sV
  go_wp2_with (with_reducible refine room_p (by with_reducible rfl) (by with_reducible rfl) hV ?_)
  intro W hW bW sW
  clear hV bV sV bW sW
  have H := Lib.hid hW
  clear hW
  go_upto_region 2 with fail
  obtain ⟨W1, hW1⟩ : ∃ W', W' = W.alloc (.cells #[.int .i64 3, .int .i64 0, .int .i64 0, .slice none 0 0, .int .i64 0, .int .i64 0, .bool false, .bool false, .int .i64 0, .string ⟨#[]⟩] 25) := ⟨_, rfl⟩
  have H1 := Lib.hid (show PF w W1 w.heap.size (w.heap.size + 1) L p by rw [hW1]; exact H.out.alloc _)
  have HB1 := Lib.hid (show SetB w W1 w.heap.size (w.heap.size + 1) W.heap.size false (.slice none 0 0) by
    rw [hW1]
    have h1 := H.out.lt
    have h2 := H.out.ltr
    exact ⟨Go.heap_alloc_new W _, H.out.size, by omega, by omega⟩)
  rw [← hW1]
  clear hW1 H
  generalize W.heap.size = qx at *
  have hset : setR l s = if due l s.pos = 94 then (itemsR l (l.length + 1) { s with pos := s.pos + 1 }).bind (fun xs s => .ok (rxSet true xs) s) else (itemsR l (l.length + 1) s).bind (fun xs s => .ok (rxSet false xs) s) := rfl
  have HSET := Lib.hid hset
  clear hset
  have kd := KS0.out W1 (HLv.out.below H1.out.below)
  obtain ⟨cn, hcn⟩ : ∃ b, b = (due l s.pos == 94) := ⟨_, rfl⟩
  have HCN := Lib.hid (show cn = true ↔ due l s.pos = 94 by rw [hcn]; simp)
  have hcn' := hcn.symm
  clear hcn
  generalize hdd : due l s.pos = d at *
  have HDD := Lib.hid hdd
  have KD := Lib.hid kd
  clear kd hdd
  go_wp2_with (first
    | (with_reducible refine load_p (by with_reducible rfl) _ (by with_reducible rfl) w.heap.size (by first | (simp [Act.eval]; done) | simp [Act.eval, Act.put]) H1.out ?_)
    | (go_at_call 55; (with_reducible refine (KD.out).mono ?_)))
  rintro e w2 ⟨rfl, hb2⟩
  have H2 := Lib.hid (H1.out.call hb2)
  have HB2 := Lib.hid (HB1.out.call hb2)
  clear hb2 H1 HB1
  go_upto_if 8 with (fail)
  clear hcn'
  go_cut [] from 9 to 11 (fun wx => ∃ (nt : Bool) (s0 : PS) (p0 : PX), PF w wx w.heap.size (w.heap.size + 1) L p0 ∧ SetB w wx w.heap.size (w.heap.size + 1) qx nt (.slice none 0 0) ∧ Lv wx L l s0 p0 ∧ s.pos ≤ s0.pos ∧ Hid (setR l s = (itemsR l (l.length + 1) s0).bind (fun xs s => .ok (rxSet nt xs) s)))
  case first =>
    cases cn with
    | true =>
      have h94 : due l s.pos = 94 := by rw [HDD.out]; exact HCN.out.1 rfl
      have hlt := due_lt h94 (by decide)
      have KON := Lib.hid (fun W => rfOn L p 1 W)
      have HM := Lib.hid (show setR l s = (itemsR l (l.length + 1) { s with pos := s.pos + 1 }).bind (fun xs s => .ok (rxSet true xs) s) by rw [HSET.out, if_pos (HCN.out.1 rfl)])
      have c7 := HB2.out.cell (j := 7) rfl
      have f7 := HB2.out.frozen 7
      have H3 := Lib.hid (H2.out.setB HB2.out 7 (.bool true))
      have HB3 := Lib.hid (HB2.out.not true)
      clear h94
      go_upto_region 4 with fail
      generalize w2.setCell ⟨qx, 7, none⟩ (.bool true) = w3 at *
      go_wp2_with (first
        | (with_reducible refine load_p (by with_reducible rfl) _ (by with_reducible rfl) w.heap.size (by first | (simp [Act.eval]; done) | simp [Act.eval, Act.put]) H3.out ?_)
        | (go_at_call 56; (with_reducible refine (KON.out _).mono ?_)))
      rintro e w4 ⟨rfl, hb4⟩
      have H4 := Lib.hid (H3.out.call hb4)
      have HB4 := Lib.hid (HB3.out.call hb4)
      clear hb4
      go_wp2_with (first
        | (with_reducible refine store_p (by with_reducible rfl) _ _ (by with_reducible rfl) w.heap.size (p' := { p with i := wrap64 (p.i + 1) }) (by first | (simp [Act.eval]; done) | simp [Act.eval, Act.put]) (by first | (simp [Act.eval]; done) | simp [Act.eval, Act.put]) H4.out ?_))
      intro V5 hV5 o5
      have HB5 := Lib.hid (HB4.out.off o5)
      have H5 := Lib.hid hV5
      clear hV5 o5
      go_wp2_with fail
      go_meet
      exact ⟨true, { s with pos := s.pos + 1 }, _, H5.out, HB5.out, (HLv.out.on 1 hlt).below H5.out.below, Nat.le_succ _, HM⟩
    | false =>
      have h94 : ¬ d = 94 := fun e => Bool.noConfusion (HCN.out.2 e)
      have HM := Lib.hid (show setR l s = (itemsR l (l.length + 1) s).bind (fun xs s => .ok (rxSet false xs) s) by rw [HSET.out, if_neg h94])
      clear h94
      go_wp2_with fail
      go_meet
      exact ⟨false, s, p, H2.out, HB2.out, HLv.out.below H2.out.below, Nat.le_refl _, HM⟩
  case rest =>
    obtain ⟨nt, s0, p0, hp0, hq0, hl0, hps, hset⟩ := hcut
    clear H2 HB2 HCN HSET HDD KD KS0
    have H3 := Lib.hid hp0
    have HB3 := Lib.hid hq0
    have HL3 := Lib.hid hl0
    have HST := Lib.hid hset.out
    clear hp0 hq0 hl0 hset
    go_wp2
    go_loopg [] (l.length + 2) (fun kx wr => ∃ (pr : PX) (zs : List (Rx × Value)) (A : Option Addr) (c : Nat), PF w wr w.heap.size (w.heap.size + 1) L pr ∧ SetB w wr w.heap.size (w.heap.size + 1) qx nt (.slice A zs.length c) ∧ RowC (qx + 1) wr (.slice A zs.length c) zs ∧ zs.length ≤ 1001 ∧
      ((∃ (s' : PS) (f : Nat), f + 1 ≤ kx ∧ Lv wr L l s' pr ∧ l.length < f + s'.pos ∧ zs.length ≤ s'.pos ∧ Leaves zs ∧ Hid (setR l s = (itemsR l f s').bind fun xs s => .ok (rxSet nt (zs.map Prod.fst ++ xs)) s)) ∨
        (∃ a m, BadX pr a m ∧ Hid (setR l s = .bad a m))))
    case atStart =>
      exact ⟨p0, [], none, 0, H3.out, HB3.out, RowC.nil _ _, by simp, .inl ⟨s0, l.length + 1, Nat.le_refl _, HL3.out, by omega, Nat.zero_le _, (fun z hz => by cases hz), HST.out⟩⟩
    case round =>
      obtain ⟨pr, zs, A, c, hv, hq, hz, hzl, hst⟩ := hrel
      have H4 := Lib.hid hv
      have HB4 := Lib.hid hq
      have HZ4 := Lib.hid hz
      have c16 := hv.bad
      clear hv hq hz H3 HB3 HL3 HST
      rcases hst with ⟨s', f, hfk, hlv, hfu, hzp, hlf, hrel⟩ | ⟨a, m, hbx, hrel⟩
      · have hb0 := hlv.bad
        rw [hb0] at c16
        have hpl := hlv.fin.pos
        obtain ⟨f, rfl⟩ : ∃ k, f = k + 1 := ⟨f - 1, by omega⟩
        have HL4 := Lib.hid hlv
        have HLF := Lib.hid hlf
        have HREL := Lib.hid hrel.out
        have HPTS := Lib.hid hlv.fin.pts
        have KONE := Lib.hid (fun W h => rfOneG L l s' pr W h)
        clear hlv hlf hrel hb0
        go_wp2_with (first
          | (with_reducible refine load_p (by with_reducible rfl) _ (by with_reducible rfl) w.heap.size (by first | (simp [Act.eval]; done) | simp [Act.eval, Act.put]) H4.out ?_)
          | (go_at_call 109; (with_reducible refine (KONE.out _ HL4.out).mono ?_)))
        rintro e w5 ⟨p1, rfl, hg, hb5⟩
        have H5 := Lib.hid (H4.out.call hb5)
        have HG5 := Lib.hid hg
        have HO5 := Lib.hid (OffP.call hb5)
        clear hb5 hg c16 HL4 KONE
        go_wp2_with (first
          | (with_reducible refine store_p (by with_reducible rfl) _ _ (by with_reducible rfl) w.heap.size (p' := p1) (by first | (simp [Act.eval]; done) | simp [Act.eval, Act.put]) (by first | (simp [Act.eval]; done) | simp [Act.eval, Act.put]) H5.out ?_))
        intro V6 hV6 o6
        have H6 := Lib.hid hV6
        have HG6 := Lib.hid (HG5.out.off o6 (HPT.out.below hV6.below))
        have HO6 := Lib.hid (HO5.out.trans o6)
        clear hV6 o6 H5 HG5 HO5
        go_upto_region 8 with (first
          | ((with_reducible refine load_px (by with_reducible rfl) _ (by with_reducible rfl) w.heap.size (by first | (simp [Act.eval]; done) | simp [Act.eval, Act.put]) H6.out ?_); simp only [rxAgg]))
        obtain ⟨W7, hW7⟩ : ∃ W, W = V6.alloc (.cells #[.int .i64 (p1.x.kind : Int), .int .i64 p1.x.rune, .int .i64 p1.x.to, .slice p1.xa p1.xn p1.xc, .int .i64 p1.x.min, .int .i64 p1.x.max, .bool p1.x.lazy, .bool p1.x.not, .int .i64 (p1.x.group : Int), .string ⟨p1.x.name.toArray⟩] 25) := ⟨_, rfl⟩
        have H7 := Lib.hid (show PF w W7 w.heap.size (w.heap.size + 1) L p1 by rw [hW7]; exact H6.out.alloc _)
        have HI7 := Lib.hid (show ItB w W7 w.heap.size (w.heap.size + 1) V6.heap.size p1.x (.slice p1.xa p1.xn p1.xc) by
          rw [hW7]
          have h1 := H6.out.lt
          have h2 := H6.out.ltr
          exact ⟨Go.heap_alloc_new V6 _, H6.out.size, by omega, by omega⟩)
        have b67 := Lib.hid (show Below V6.heap.size V6 W7 by rw [hW7]; exact (Below.refl _ V6).alloc (Nat.le_refl _) _)
        have HG7 := Lib.hid (HG6.out.below b67.out)
        have HO7 := Lib.hid (HO6.out.trans (OffP.call b67.out))
        have HN := Lib.hid (NewQ.of HO6.out)
        have HGQ := Lib.hid (show qx ≠ V6.heap.size from fun e => HN.out _ _ _ (by decide) (e ▸ HB4.out.heap))
        rw [← hW7]
        clear hW7 b67 H6 HG6 HO6
        generalize V6.heap.size = g at *
        go_cut [41] from 12 to 92 (fun t wx => ∃ cnd : Bool, t = .bool cnd ∧ Below W7.heap.size W7 wx ∧ Hid (ItC L l W7 s' p1 cnd))
        case first =>
          have c16 := H7.out.bad
          have c0 := HI7.out.cell (j := 0) rfl
          rcases HG7.out with ⟨x, fl, s1, hone, hl1, hx, hn⟩ | ⟨a, m, hone, hbx⟩
          · rw [hl1.bad] at c16
            rw [hx] at c0
            obtain ⟨hk1, hkd⟩ := one_kind hone
            have hp1 := hl1.fin.pos
            cases fl with
            | false =>
              have z1 : ((x.kind : Int) == 1) = false := by
                have : x.kind ≠ 1 := fun e => Bool.noConfusion (hk1.1 e)
                exact beq_false_of_ne (by omega)
              have HC := Lib.hid (show ItC L l W7 s' p1 false from .inr ⟨rfl, .inl ⟨s1, by rw [hx]; exact item_no hone (fun h => Bool.noConfusion h.1), hl1, by rw [hx]; exact hkd, hn⟩⟩)
              clear hone hl1 hx hn hk1 hkd HG7
              go_wp2_with fail
              go_meet
              exact ⟨false, rfl, Below.refl _ _, HC.out⟩
            | true =>
              have z1 : ((x.kind : Int) == 1) = true := by
                have : x.kind = 1 := hk1.2 rfl
                simp [this]
              have HL7 := Lib.hid hl1
              have k0 := fun (W : World) (h : Lv W L l s1 p1) => show Calls Try.prog 55 #[pAgg L p1, .int .i64 0] W (RetE (.int .i64 (due l s1.pos)) fun w' => Below W.heap.size W w') from rfSignL L l s1 p1 0 W h (by omega)
              have k1 := fun (W : World) (h : Lv W L l s1 p1) => show Calls Try.prog 55 #[pAgg L p1, .int .i64 1] W (RetE (.int .i64 (due l (s1.pos + 1))) fun w' => Below W.heap.size W w') from rfSignL L l s1 p1 1 W h (by omega)
              by_cases d45 : due l s1.pos = 45
              · by_cases d93 : due l (s1.pos + 1) = 93
                · have HC := Lib.hid (show ItC L l W7 s' p1 false from .inr ⟨rfl, .inl ⟨s1, by rw [hx]; exact item_no hone (fun h => h.2.2.2 d93), hl1, by rw [hx]; exact hkd, hn⟩⟩)
                  rw [d45] at k0
                  rw [d93] at k1
                  have K0 := Lib.hid k0
                  have K1 := Lib.hid k1
                  clear k0 k1 d45 d93 hone hl1 hx hn hk1 hkd HG7
                  go_wp2_with (first
                    | (with_reducible refine load_pG (by with_unfolding_all rfl) _ (by with_reducible rfl) w.heap.size (by first | (simp [Act.eval]; done) | simp [Act.eval, Act.put]) H7.out ?_)
                    | (go_at_call 55; (with_reducible refine (K0.out _ HL7.out).mono ?_)))
                  rintro e w8 ⟨rfl, hb8⟩
                  have H8 := Lib.hid (H7.out.call hb8)
                  have HL8 := Lib.hid (HL7.out.below hb8)
                  have HB8 := Lib.hid hb8
                  clear hb8
                  go_wp2_with (first
                    | (with_reducible refine load_pG (by with_unfolding_all rfl) _ (by with_reducible rfl) w.heap.size (by first | (simp [Act.eval]; done) | simp [Act.eval, Act.put]) H8.out ?_)
                    | (go_at_call 55; (with_reducible refine (K1.out _ HL8.out).mono ?_)))
                  rintro e w9 ⟨rfl, hb9⟩
                  have HB9 := Lib.hid (HB8.out.trans (hb9.mono HB8.out.size))
                  clear hb9
                  go_wp2_with fail
                  go_meet
                  exact ⟨false, rfl, HB9.out, HC.out⟩
                · have z93 : (due l (s1.pos + 1) != 93) = true := by simp [d93]
                  obtain ⟨c4, hc4⟩ : ∃ b, b = (due l (s1.pos + 1) != -1) := ⟨_, rfl⟩
                  have HC := Lib.hid (show ItC L l W7 s' p1 c4 by
                    by_cases hlt : s1.pos + 1 < l.length
                    · have hd1 : due l (s1.pos + 1) ≠ -1 := by
                        have := (HPTS.out _ (List.getElem_mem hlt)).1
                        rw [← due_at hlt] at this; omega
                      have : c4 = true := by rw [hc4]; simp [hd1]
                      exact .inl ⟨this, s1, by rw [hx]; exact hone, hl1, d45, hlt, d93⟩
                    · have : c4 = false := by rw [hc4, due_past (by omega)]; rfl
                      exact .inr ⟨this, .inl ⟨s1, by rw [hx]; exact item_no hone (fun h => hlt h.2.2.1), hl1, by rw [hx]; exact hkd, hn⟩⟩)
                  rw [d45] at k0
                  have z4 := hc4.symm
                  clear hc4 d93 d45
                  generalize due l (s1.pos + 1) = d at *
                  have K0 := Lib.hid k0
                  have K1 := Lib.hid k1
                  clear k0 k1 hone hl1 hx hn hk1 hkd HG7
                  go_wp2_with (first
                    | (with_reducible refine load_pG (by with_unfolding_all rfl) _ (by with_reducible rfl) w.heap.size (by first | (simp [Act.eval]; done) | simp [Act.eval, Act.put]) H7.out ?_)
                    | (go_at_call 55; (with_reducible refine (K0.out _ HL7.out).mono ?_)))
                  rintro e w8 ⟨rfl, hb8⟩
                  have H8 := Lib.hid (H7.out.call hb8)
                  have HL8 := Lib.hid (HL7.out.below hb8)
                  have HB8 := Lib.hid hb8
                  clear hb8
                  go_wp2_with (first
                    | (with_reducible refine load_pG (by with_unfolding_all rfl) _ (by with_reducible rfl) w.heap.size (by first | (simp [Act.eval]; done) | simp [Act.eval, Act.put]) H8.out ?_)
                    | (go_at_call 55; (with_reducible refine (K1.out _ HL8.out).mono ?_)))
                  rintro e w9 ⟨rfl, hb9⟩
                  have H9 := Lib.hid (H8.out.call hb9)
                  have HL9 := Lib.hid (HL8.out.below hb9)
                  have HB9 := Lib.hid (HB8.out.trans (hb9.mono HB8.out.size))
                  clear hb9
                  go_wp2_with (first
                    | (with_reducible refine load_pG (by with_unfolding_all rfl) _ (by with_reducible rfl) w.heap.size (by first | (simp [Act.eval]; done) | simp [Act.eval, Act.put]) H9.out ?_)
                    | (go_at_call 55; (with_reducible refine (K1.out _ HL9.out).mono ?_)))
                  rintro e w10 ⟨rfl, hb10⟩
                  have HB10 := Lib.hid (HB9.out.trans (hb10.mono HB9.out.size))
                  clear hb10
                  go_wp2_with fail
                  go_meet
                  exact ⟨c4, rfl, HB10.out, HC.out⟩
              · have z45 : (due l s1.pos == 45) = false := by simp [d45]
                have HC := Lib.hid (show ItC L l W7 s' p1 false from .inr ⟨rfl, .inl ⟨s1, by rw [hx]; exact item_no hone (fun h => d45 h.2.1), hl1, by rw [hx]; exact hkd, hn⟩⟩)
                clear d45
                generalize due l s1.pos = d at *
                have K0 := Lib.hid k0
                clear k0 k1 hone hl1 hx hn hk1 hkd HG7
                go_wp2_with (first
                  | (with_reducible refine load_pG (by with_unfolding_all rfl) _ (by with_reducible rfl) w.heap.size (by first | (simp [Act.eval]; done) | simp [Act.eval, Act.put]) H7.out ?_)
                  | (go_at_call 55; (with_reducible refine (K0.out _ HL7.out).mono ?_)))
                rintro e w8 ⟨rfl, hb8⟩
                have HB8 := Lib.hid hb8
                clear hb8
                go_wp2_with fail
                go_meet
                exact ⟨false, rfl, HB8.out, HC.out⟩
          · have z16 : (p1.bad == 0) = false := by simp [hbx.ne0]
            have HC := Lib.hid (show ItC L l W7 s' p1 false from .inr ⟨rfl, .inr ⟨a, m, item_bad0 hone, hbx⟩⟩)
            clear hone hbx HG7
            go_wp2_with fail
            go_meet
            exact ⟨false, rfl, Below.refl _ _, HC.out⟩
        case rest =>
          obtain ⟨cnd, rfl, hb8, hc8⟩ := hcut
          have H8 := Lib.hid (H7.out.call hb8)
          have HI8 := Lib.hid (HI7.out.call hb8)
          have HO8 := Lib.hid (HO7.out.trans (OffP.call hb8))
          have HC8 := Lib.hid (hc8.out.below hb8)
          clear hb8 hc8 H7 HI7 HO7 HG7
          obtain ⟨w8, hw8⟩ : ∃ W, W = wc := ⟨_, rfl⟩
          rw [← hw8] at H8 HI8 HO8 HC8 ⊢
          clear hw8
          go_upto_if 41 with (fail)
          go_cut [] from 12 to 92 (fun wx => ∃ (pn : PX) (X : Rx) (A1 : Option Addr) (n1 c1 : Nat), PF w wx w.heap.size (w.heap.size + 1) L pn ∧ ItB w wx w.heap.size (w.heap.size + 1) g X (.slice A1 n1 c1) ∧ OffP wr wx ∧ ItE L l wx s' pn X n1)
          case first =>
            cases cnd with
            | false =>
              have HE8 := Lib.hid (show ItE L l w8 s' p1 p1.x p1.xn by
                rcases HC8.out with ⟨h, _⟩ | ⟨_, h⟩
                · exact Bool.noConfusion h
                · exact h)
              go_wp2_with fail
              go_meet
              exact ⟨p1, p1.x, p1.xa, p1.xn, p1.xc, H8.out, HI8.out, HO8.out, HE8.out⟩
            | true =>
              have hT : ItT L l w8 s' p1 := by
                rcases HC8.out with ⟨_, h⟩ | ⟨h, _⟩
                · exact h
                · exact Bool.noConfusion h
              obtain ⟨s1, hone, hl1, d45, hlt, d93⟩ := hT
              have HIT := Lib.hid (item_yes hone d45 hlt d93)
              have KON := Lib.hid (fun W => rfOn L p1 1 W)
              have HV8 := Lib.hid (hl1.on 1 (by omega))
              clear hone hl1 d45 d93 HC8
              obtain ⟨pB, hpB⟩ : ∃ q : PX, q = { p1 with i := wrap64 (p1.i + 1) } := ⟨_, rfl⟩
              have KON := Lib.hid (fun W => show Calls Try.prog 56 #[pAgg L p1, .int .i64 1] W (RetE (pAgg L pB) fun w' => Below W.heap.size W w') by rw [hpB]; exact rfOn L p1 1 W)
              have HV8 := Lib.hid (show Lv w8 L l { s1 with pos := s1.pos + 1 } pB by rw [hpB]; exact HV8.out)
              clear hpB
              have hs2 : ∀ y s2, oneR l { s1 with pos := s1.pos + 1 } = .ok y s2 → 1 ≤ s2.pos := fun y s2 h => by have := (one_adv h).2.1; omega
              have HS2 := Lib.hid hs2
              generalize ({ s1 with pos := s1.pos + 1 } : PS) = sB at *
              have KO2 := Lib.hid (fun W h => rfOneG L l sB pB W h)
              clear hs2
              go_wp2_with (first
                | (with_reducible refine load_p (by with_reducible rfl) _ (by with_reducible rfl) w.heap.size (by first | (simp [Act.eval]; done) | simp [Act.eval, Act.put]) H8.out ?_)
                | (go_at_call 56; (with_reducible refine (KON.out _).mono ?_)))
              rintro e w9 ⟨rfl, hb9⟩
              have H9 := Lib.hid (H8.out.call hb9)
              have HI9 := Lib.hid (HI8.out.call hb9)
              have HO9 := Lib.hid (HO8.out.trans (OffP.call hb9))
              have HV9 := Lib.hid (HV8.out.below hb9)
              clear hb9 H8 HI8 HO8 HV8
              go_wp2_with (first
                | (go_at_call 109; (with_reducible refine (KO2.out _ HV9.out).mono ?_)))
              rintro e w10 ⟨p2, rfl, hg2, hb10⟩
              have H10 := Lib.hid (H9.out.call hb10)
              have HI10 := Lib.hid (HI9.out.call hb10)
              have HO10 := Lib.hid (HO9.out.trans (OffP.call hb10))
              have HG10 := Lib.hid hg2
              clear hb10 hg2 H9 HI9 HO9 HV9
              go_wp2_with (first
                | (with_reducible refine store_p (by with_reducible rfl) _ _ (by with_reducible rfl) w.heap.size (p' := p2) (by first | (simp [Act.eval]; done) | simp [Act.eval, Act.put]) (by first | (simp [Act.eval]; done) | simp [Act.eval, Act.put]) H10.out ?_))
              intro V11 hV11 o11
              have H11 := Lib.hid hV11
              have HI11 := Lib.hid (HI10.out.off o11)
              have HO11 := Lib.hid (HO10.out.trans o11)
              have HG11 := Lib.hid (HG10.out.off o11 (HPT.out.below hV11.below))
              clear hV11 o11 H10 HI10 HO10 HG10 KO2 KON
              go_upto_region 10 with fail
              go_cut [61] from 12 to 92 (fun t wx => ∃ c2 : Bool, t = .bool c2 ∧ V11 = wx ∧ Hid (ItD L l V11 s' p2 p1.x c2))
              case first =>
                have c16 := H11.out.bad
                have c5 := H11.out.cell (j := 5) rfl
                have c6 := H11.out.cell (j := 6) rfl
                have c1 := HI11.out.cell (j := 1) rfl
                rcases HG11.out with ⟨y, fl, s2, hone, hl2, hy, hn⟩ | ⟨a, m, hone, hbx⟩
                · rw [hl2.bad] at c16
                  obtain ⟨hk1, hkd⟩ := one_kind hone
                  have hpos := HS2.out _ _ hone
                  cases fl with
                  | false =>
                    have z1 : ((p2.x.kind : Int) != 1) = true := by
                      have : p2.x.kind ≠ 1 := fun e => Bool.noConfusion (hk1.1 (hy ▸ e))
                      simp; omega
                    have HD := Lib.hid (show ItD L l V11 s' p2 p1.x true from .inl ⟨rfl, s2, by rw [HIT.out, hone]; simp [PR.bind], hl2, hpos⟩)
                    clear hone hl2 hy hn hk1 hkd HG11
                    go_wp2_with fail
                    go_meet
                    exact ⟨true, rfl, rfl, HD.out⟩
                  | true =>
                    have z1 : ((p2.x.kind : Int) != 1) = false := by
                      have : p2.x.kind = 1 := by rw [hy]; exact hk1.2 rfl
                      simp [this]
                    obtain ⟨c2, hc2⟩ : ∃ b, b = decide (p2.x.rune < p1.x.rune) := ⟨_, rfl⟩
                    have HD := Lib.hid (show ItD L l V11 s' p2 p1.x c2 by
                      by_cases hr : p2.x.rune < p1.x.rune
                      · exact .inl ⟨by rw [hc2]; exact decide_eq_true hr, s2, by rw [HIT.out, hone]; simp only [PR.bind]; rw [if_pos (.inr (hy ▸ hr))], hl2, hpos⟩
                      · exact .inr ⟨by rw [hc2]; exact decide_eq_false hr, .inl ⟨s2, by rw [HIT.out, hone]; simp only [PR.bind]; rw [if_neg (by rw [← hy]; simp [hr]), hy], hl2, rfl, rfl⟩⟩)
                    have z2 := hc2.symm
                    clear hone hl2 hy hn hk1 hkd HG11 hc2
                    go_wp2_with fail
                    go_meet
                    exact ⟨c2, rfl, rfl, HD.out⟩
                · have z16 : (p2.bad == 0) = false := by simp [hbx.ne0]
                  have HD := Lib.hid (show ItD L l V11 s' p2 p1.x false from .inr ⟨rfl, .inr ⟨a, m, by rw [HIT.out, hone]; rfl, hbx⟩⟩)
                  clear hone hbx HG11
                  go_wp2_with fail
                  go_meet
                  exact ⟨false, rfl, rfl, HD.out⟩
              case rest =>
                obtain ⟨c2, rfl, rfl, hd⟩ := hcut
                have HD := Lib.hid hd.out
                clear hd HG11 HIT HS2
                go_upto_if 61 with (fail)
                go_cut [] from 12 to 92 (fun wx => ∃ p3 : PX, PF w wx w.heap.size (w.heap.size + 1) L p3 ∧ p3.x = p2.x ∧ OffP V11 wx ∧ ItE L l wx s' p3 (rxRange p1.x.rune p2.x.rune) 0)
                case first =>
                  cases c2 with
                  | false =>
                    have HE11 := Lib.hid (show ItE L l V11 s' p2 (rxRange p1.x.rune p2.x.rune) 0 by
                      rcases HD.out with ⟨h, _⟩ | ⟨_, h⟩
                      · exact Bool.noConfusion h
                      · exact h)
                    go_wp2_with fail
                    go_meet
                    exact ⟨p2, H11.out, rfl, OffP.refl _, HE11.out⟩
                  | true =>
                    obtain ⟨s2, hit, hl2, hpos⟩ : ∃ s2, itemR l s' = failR l (s2.pos - 1) ∧ Lv V11 L l s2 p2 ∧ 1 ≤ s2.pos := by
                      rcases HD.out with ⟨_, h⟩ | ⟨h, _⟩
                      · exact h
                      · exact Bool.noConfusion h
                    have hp2 := hl2.fin.pos
                    obtain ⟨a', m', hf, hbx⟩ := stopX_fail (α := Rx) (L := L) (l := l) (p := p2) (i := s2.pos - 1) hl2.pat.1.symm
                    have e1 : ((s2.pos - 1 : Nat) : Int) = (s2.pos : Int) - 1 := by omega
                    rw [e1] at hbx
                    have HM := Lib.hid (hit.trans hf)
                    have HBX := Lib.hid hbx
                    have KST := Lib.hid (fun W => rfStop L p2 ((s2.pos : Int) - 1) W)
                    have hx3 : (stopX L p2 ((s2.pos : Int) - 1)).x = p2.x := by unfold stopX; split <;> rfl
                    have HX3 := Lib.hid hx3
                    have c1 := H11.out.i
                    rw [hl2.i] at c1
                    clear hf hbx hit hl2 hx3 HD e1
                    go_wp2_with (first
                      | (with_reducible refine load_p (by with_reducible rfl) _ (by with_reducible rfl) w.heap.size (by first | (simp [Act.eval]; done) | simp [Act.eval, Act.put]) H11.out ?_)
                      | (go_at_call 32; (with_reducible refine (KST.out _).mono ?_)))
                    rintro e w12 ⟨rfl, hb12⟩
                    have H12 := Lib.hid (H11.out.call hb12)
                    have HO12 := Lib.hid (OffP.call hb12)
                    clear hb12 c1
                    go_wp2_with (first
                      | (with_reducible refine store_p (by with_reducible rfl) _ _ (by with_reducible rfl) w.heap.size (p' := stopX L p2 ((s2.pos : Int) - 1)) (by first | (simp [Act.eval]; done) | simp [Act.eval, Act.put]) (by first | (simp [Act.eval]; done) | simp [Act.eval, Act.put]) H12.out ?_))
                    intro V13 hV13 o13
                    have H13 := Lib.hid hV13
                    have HO13 := Lib.hid (HO12.out.trans o13)
                    clear hV13 o13
                    go_wp2_with fail
                    go_meet
                    exact ⟨_, H13.out, HX3.out, HO13.out, .inr ⟨a', m', HM.out, HBX.out⟩⟩
                case rest =>
                  obtain ⟨p3, hp3, hx3, ho3, he3⟩ := hcut
                  have H14 := Lib.hid hp3
                  have HI14 := Lib.hid (HI11.out.off ho3)
                  have HO14 := Lib.hid (HO11.out.trans ho3)
                  have HE14 := Lib.hid he3
                  have c6 := hp3.cell (j := 6) rfl
                  have c1 := HI14.out.cell (j := 1) rfl
                  rw [hx3] at c6
                  clear hp3 hx3 ho3 he3 H11 HI11 HO11 HD
                  go_wp2_with (first
                    | (with_reducible refine store_xb (q := g) (Y := rxRange p1.x.rune p2.x.rune) (A := none) (n := 0) (c := 0) (by with_reducible rfl) _ _ (by with_reducible rfl) (by first | (simp [Act.eval]; done) | simp [Act.eval, Act.put]) (by first | rfl | (simp [Act.eval, rxCells, rxRange, Rx.kind, Rx.rune, Rx.to, Rx.min, Rx.max, Rx.lazy, Rx.not, Rx.group, Rx.name]; done)) HI14.out H14.out ?_))
                  intro V15 hI15 hP15 e15
                  have H15 := Lib.hid hP15
                  have HI15 := Lib.hid hI15
                  have HO15 := Lib.hid (HO14.out.new HN.out e15)
                  have HE15 := Lib.hid (HE14.out.new _ _ HI14.out.heap e15 (HPT.out.below hP15.below))
                  clear hI15 hP15 e15 H14 HI14 HO14 HE14 c6 c1
                  go_wp2_with fail
                  go_meet
                  exact ⟨p3, _, _, _, _, H15.out, HI15.out, HO15.out, HE15.out⟩
          case rest =>
            obtain ⟨pn, X, A1, n1, c1, hp, hi, ho, he⟩ := hcut
            have HP7 := Lib.hid hp
            have HI7 := Lib.hid hi
            have HE7 := Lib.hid he
            have HB7 := Lib.hid (HB4.out.off ho)
            have HZ7 := Lib.hid (HZ4.out.off ho)
            clear hp hi ho he H8 HI8 HO8 HC8 HB4 HZ4 H4 HN
            obtain ⟨V7, hV7⟩ : ∃ W, W = wc := ⟨_, rfl⟩
            rw [← hV7] at HP7 HI7 HE7 HB7 HZ7 ⊢
            clear hV7
            have hzl2 : zs.length ≤ 1000 := by omega
            go_upto_region 13 with fail
            go_cut [] from 12 to 92 (fun wx => ∃ v' : Value, PF w wx w.heap.size (w.heap.size + 1) L pn ∧ SetB w wx w.heap.size (w.heap.size + 1) qx nt v' ∧ RowC (qx + 1) wx v' (zs ++ [(X, .slice A1 n1 c1)]) ∧ ItE L l wx s' pn X n1)
            case first =>
              have HYO := Lib.hid (rx_one X A1 n1 c1)
              have ZO := Lib.hid (z_one zs HZ7.out.form)
              have ZR := HZ7
              have hqx := HB7.out.lt
              have cKW := Lib.hid (HB7.out.cell (j := 3) rfl)
              refine wp_region_held_drew (S := (fun Y => Below w.heap.size w Y ∧ Y.heap[g]? = some (.cells (rxCells X (.slice A1 n1 c1)).toArray TRx (0, 0)))) (by kernel_rfl) ⟨HP7.out.below.drew, HI7.out.heap⟩ (fun hS0 => ?_)
              have HB := Lib.hid ((Below.refl V7.heap.size V7).drew)
              refine wpAnyH_take (i := 1) (v := Value.pointer (some ⟨qx, 3, none⟩)) rfl (by kernel_rfl) (by kernel_rfl) (by kernel_rfl) (fun _ _ _ h => h) (.inl ⟨by rfl, fun _ _ => by go_simp⟩) hS0 ?_
              refine wpAnyH_take (i := 4) (v := rxAgg X (.slice A1 n1 c1)) rfl (by kernel_rfl) (by kernel_rfl) (by kernel_rfl) (fun _ _ _ h => h) (yields_x (fun _ h => h.2) (by rfl) _ rfl rfl) hS0 ?_
              simp only [rxAgg]
              generalize V7.drew = Y0 at *
              clear hS0
              refine wpAnyH_ready (rs := [0, 2, 5]) (by kernel_rfl) (by simp) ?_
              refine AllReadyH.cons rfl ?_ (AllReadyH.cons rfl ?_ (AllReadyH.cons rfl ?_ AllReadyH.nil))
              · intro K hK
                go_simp
                refine hK.out _ _ ⟨(HP7.out.call (HB.out.alloc HB.out.size (.cells #[] 25))).below, heap_call HI7.out.heap (HB.out.alloc HB.out.size (.cells #[] 25))⟩ (fun hS0 => ?_)
                clear hK K
                have E0 := Lib.hid (And.intro (Go.heap_alloc_new Y0 (.cells #[] 25)) HB.out.size)
                have HB := Lib.hid (HB.out.alloc HB.out.size (.cells #[] 25))
                generalize Y0.alloc (.cells #[] 25) = Y1 at *
                refine wpAnyH_ready (rs := [2, 5]) (by kernel_rfl) (by simp) ?_
                refine AllReadyH.cons rfl ?_ (AllReadyH.cons rfl ?_ AllReadyH.nil)
                · intro K hK
                  have cK := HB.out.cell (p := ⟨qx, 3, none⟩) hqx
                  rw [cKW.out] at cK
                  go_simp
                  refine hK.out _ _ ⟨(HP7.out.call HB.out).below, heap_call HI7.out.heap HB.out⟩ (fun hS0 => ?_)
                  clear hK K cK
                  refine wpAnyH_ready (rs := [3, 5]) (by kernel_rfl) (by simp) ?_
                  refine AllReadyH.cons rfl ?_ (AllReadyH.cons rfl ?_ AllReadyH.nil)
                  · intro K hK
                    rw [if_pos (by kernel_rfl)]
                    obtain ⟨v3, Y2, hr, ho, hb, hke, hob⟩ := copy_run (P := Try.prog) (ty := 23) Try.underlying23 hi0 hz0 hz1 hz2 rfl (by decide) HB.out ZR.out.own ZO.out E0.out.1 E0.out.2 (by unfold maxLen; omega) (by omega)
                    with_reducible refine wp_app _ _ (by with_unfolding_all rfl) (by with_unfolding_all rfl) (by with_unfolding_all rfl) hr ?_
                    refine hK.out _ _ ⟨(HP7.out.call hb).below, heap_call HI7.out.heap hb⟩ (fun hS0 => ?_)
                    clear hK K hr
                    have C3 := Lib.hid ho
                    have HB := Lib.hid hb
                    clear ho hb hke hob E0
                    refine wpAnyH_ready (rs := [5]) (by kernel_rfl) (by simp) ?_
                    refine AllReadyH.cons rfl ?_ AllReadyH.nil
                    intro K hK
                    go_simp
                    refine hK.out _ _ ⟨(HP7.out.call (HB.out.alloc HB.out.size (.cells #[.int .i64 (X.kind : Int), .int .i64 X.rune, .int .i64 X.to, .slice A1 n1 c1, .int .i64 X.min, .int .i64 X.max, .bool X.lazy, .bool X.not, .int .i64 (X.group : Int), .string ⟨X.name.toArray⟩] 25))).below, heap_call HI7.out.heap (HB.out.alloc HB.out.size (.cells #[.int .i64 (X.kind : Int), .int .i64 X.rune, .int .i64 X.to, .slice A1 n1 c1, .int .i64 X.min, .int .i64 X.max, .bool X.lazy, .bool X.not, .int .i64 (X.group : Int), .string ⟨X.name.toArray⟩] 25))⟩ (fun hS0 => ?_)
                    clear hK K
                    have F5 := Lib.hid (Go.heap_alloc_new Y2 (.cells #[.int .i64 (X.kind : Int), .int .i64 X.rune, .int .i64 X.to, .slice A1 n1 c1, .int .i64 X.min, .int .i64 X.max, .bool X.lazy, .bool X.not, .int .i64 (X.group : Int), .string ⟨X.name.toArray⟩] 25))
                    have C3 := Lib.hid (rowns_below C3.out ((Below.refl _ Y2).alloc (Nat.le_refl _) (.cells #[.int .i64 (X.kind : Int), .int .i64 X.rune, .int .i64 X.to, .slice A1 n1 c1, .int .i64 X.min, .int .i64 X.max, .bool X.lazy, .bool X.not, .int .i64 (X.group : Int), .string ⟨X.name.toArray⟩] 25)))
                    have HB := Lib.hid (HB.out.alloc HB.out.size (.cells #[.int .i64 (X.kind : Int), .int .i64 X.rune, .int .i64 X.to, .slice A1 n1 c1, .int .i64 X.min, .int .i64 X.max, .bool X.lazy, .bool X.not, .int .i64 (X.group : Int), .string ⟨X.name.toArray⟩] 25))
                    generalize Y2.alloc (.cells #[.int .i64 (X.kind : Int), .int .i64 X.rune, .int .i64 X.to, .slice A1 n1 c1, .int .i64 X.min, .int .i64 X.max, .bool X.lazy, .bool X.not, .int .i64 (X.group : Int), .string ⟨X.name.toArray⟩] 25) = Y3 at *
                    refine wpAnyH_ready (rs := [6]) (by kernel_rfl) (by simp) ?_
                    refine AllReadyH.cons rfl ?_ AllReadyH.nil
                    intro K hK
                    rw [if_pos (by kernel_rfl)]
                    obtain ⟨v6, Y4, hr, ho, hb⟩ := push_run (P := Try.prog) (ty := 23) Try.underlying23 hi0 hz0 hz1 hz2 rfl (by decide) HB.out C3.out F5.out rfl HYO.out (by unfold maxLen; omega) (by omega)
                    with_reducible refine wp_app _ _ (by with_unfolding_all rfl) (by with_unfolding_all rfl) (by with_unfolding_all rfl) hr ?_
                    refine hK.out _ _ ⟨(HP7.out.call hb).below, heap_call HI7.out.heap hb⟩ (fun hS0 => ?_)
                    clear hK K hr
                    have C6 := Lib.hid ho
                    have HB := Lib.hid hb
                    clear ho hb C3 F5
                    obtain ⟨A9, c9, hv6⟩ := rowns_slice C6.out
                    refine wpAnyH_take (i := 7) (v := Value.pointer (some ⟨qx, 3, none⟩)) rfl (by kernel_rfl) (by kernel_rfl) (by kernel_rfl) (fun _ _ _ h => h) (.inl ⟨by rfl, fun _ _ => by go_simp⟩) hS0 ?_
                    clear hS0
                    refine wpAnyH_ready (rs := [8]) (by kernel_rfl) (by simp) ?_
                    refine AllReadyH.cons rfl ?_ AllReadyH.nil
                    intro K hK
                    have HSY := Lib.hid (HB7.out.call HB.out)
                    have HPY := Lib.hid (HP7.out.call HB.out)
                    have cS := HSY.out.cell (j := 3) rfl
                    have fS := HSY.out.frozen 3
                    go_simp
                    refine hK.out _ _ ⟨(HPY.out.setB HSY.out 3 (.slice A9 (zs.length + 1) c9)).below, (rheap_far (p := ⟨qx, 3, none⟩) HGQ.out).trans (heap_call HI7.out.heap HB.out)⟩ (fun hS0 => ?_)
                    clear hK K hS0 cS fS
                    refine wpAnyH_done (by kernel_rfl) ?_ _
                    go_wp2_with fail
                    go_meet
                    exact ⟨.slice A9 (zs.length + 1) c9, HPY.out.setB HSY.out 3 _, HSY.out.kids _, (HZ7.out.pushed HB7.out.lt (hv6 ▸ C6.out)).setAt, (HE7.out.below HB.out).setS HSY.out.heap (HPT.out.below (HPY.out.setB HSY.out 3 _).below)⟩
                  · intro K hK
                    go_simp
                    refine hK.out _ _ ⟨(HP7.out.call (HB.out.alloc HB.out.size (.cells #[.int .i64 (X.kind : Int), .int .i64 X.rune, .int .i64 X.to, .slice A1 n1 c1, .int .i64 X.min, .int .i64 X.max, .bool X.lazy, .bool X.not, .int .i64 (X.group : Int), .string ⟨X.name.toArray⟩] 25))).below, heap_call HI7.out.heap (HB.out.alloc HB.out.size (.cells #[.int .i64 (X.kind : Int), .int .i64 X.rune, .int .i64 X.to, .slice A1 n1 c1, .int .i64 X.min, .int .i64 X.max, .bool X.lazy, .bool X.not, .int .i64 (X.group : Int), .string ⟨X.name.toArray⟩] 25))⟩ (fun hS0 => ?_)
                    clear hK K
                    have F5 := Lib.hid (Go.heap_alloc_new Y1 (.cells #[.int .i64 (X.kind : Int), .int .i64 X.rune, .int .i64 X.to, .slice A1 n1 c1, .int .i64 X.min, .int .i64 X.max, .bool X.lazy, .bool X.not, .int .i64 (X.group : Int), .string ⟨X.name.toArray⟩] 25))
                    have E0 := Lib.hid (And.intro ((Below.heap_alloc Y1 (.cells #[.int .i64 (X.kind : Int), .int .i64 X.rune, .int .i64 X.to, .slice A1 n1 c1, .int .i64 X.min, .int .i64 X.max, .bool X.lazy, .bool X.not, .int .i64 (X.group : Int), .string ⟨X.name.toArray⟩] 25) _ (Array.getElem?_eq_some_iff.1 E0.out.1).1).trans E0.out.1) E0.out.2)
                    have HB := Lib.hid (HB.out.alloc HB.out.size (.cells #[.int .i64 (X.kind : Int), .int .i64 X.rune, .int .i64 X.to, .slice A1 n1 c1, .int .i64 X.min, .int .i64 X.max, .bool X.lazy, .bool X.not, .int .i64 (X.group : Int), .string ⟨X.name.toArray⟩] 25))
                    generalize Y1.alloc (.cells #[.int .i64 (X.kind : Int), .int .i64 X.rune, .int .i64 X.to, .slice A1 n1 c1, .int .i64 X.min, .int .i64 X.max, .bool X.lazy, .bool X.not, .int .i64 (X.group : Int), .string ⟨X.name.toArray⟩] 25) = Y2 at *
                    refine wpAnyH_ready (rs := [3]) (by kernel_rfl) (by simp) ?_
                    refine AllReadyH.cons rfl ?_ AllReadyH.nil
                    intro K hK
                    rw [if_pos (by kernel_rfl)]
                    obtain ⟨v3, Y3, hr, ho, hb, hke, hob⟩ := copy_run (P := Try.prog) (ty := 23) Try.underlying23 hi0 hz0 hz1 hz2 rfl (by decide) HB.out ZR.out.own ZO.out E0.out.1 E0.out.2 (by unfold maxLen; omega) (by omega)
                    with_reducible refine wp_app _ _ (by with_unfolding_all rfl) (by with_unfolding_all rfl) (by with_unfolding_all rfl) hr ?_
                    refine hK.out _ _ ⟨(HP7.out.call hb).below, heap_call HI7.out.heap hb⟩ (fun hS0 => ?_)
                    clear hK K hr
                    have C3 := Lib.hid ho
                    have HB := Lib.hid hb
                    have F5 := Lib.hid (hke _ _ F5.out (cells_ne F5.out E0.out.1 rfl))
                    clear ho hb hke hob E0
                    refine wpAnyH_ready (rs := [6]) (by kernel_rfl) (by simp) ?_
                    refine AllReadyH.cons rfl ?_ AllReadyH.nil
                    intro K hK
                    rw [if_pos (by kernel_rfl)]
                    obtain ⟨v6, Y4, hr, ho, hb⟩ := push_run (P := Try.prog) (ty := 23) Try.underlying23 hi0 hz0 hz1 hz2 rfl (by decide) HB.out C3.out F5.out rfl HYO.out (by unfold maxLen; omega) (by omega)
                    with_reducible refine wp_app _ _ (by with_unfolding_all rfl) (by with_unfolding_all rfl) (by with_unfolding_all rfl) hr ?_
                    refine hK.out _ _ ⟨(HP7.out.call hb).below, heap_call HI7.out.heap hb⟩ (fun hS0 => ?_)
                    clear hK K hr
                    have C6 := Lib.hid ho
                    have HB := Lib.hid hb
                    clear ho hb C3 F5
                    obtain ⟨A9, c9, hv6⟩ := rowns_slice C6.out
                    refine wpAnyH_take (i := 7) (v := Value.pointer (some ⟨qx, 3, none⟩)) rfl (by kernel_rfl) (by kernel_rfl) (by kernel_rfl) (fun _ _ _ h => h) (.inl ⟨by rfl, fun _ _ => by go_simp⟩) hS0 ?_
                    clear hS0
                    refine wpAnyH_ready (rs := [8]) (by kernel_rfl) (by simp) ?_
                    refine AllReadyH.cons rfl ?_ AllReadyH.nil
                    intro K hK
                    have HSY := Lib.hid (HB7.out.call HB.out)
                    have HPY := Lib.hid (HP7.out.call HB.out)
                    have cS := HSY.out.cell (j := 3) rfl
                    have fS := HSY.out.frozen 3
                    go_simp
                    refine hK.out _ _ ⟨(HPY.out.setB HSY.out 3 (.slice A9 (zs.length + 1) c9)).below, (rheap_far (p := ⟨qx, 3, none⟩) HGQ.out).trans (heap_call HI7.out.heap HB.out)⟩ (fun hS0 => ?_)
                    clear hK K hS0 cS fS
                    refine wpAnyH_done (by kernel_rfl) ?_ _
                    go_wp2_with fail
                    go_meet
                    exact ⟨.slice A9 (zs.length + 1) c9, HPY.out.setB HSY.out 3 _, HSY.out.kids _, (HZ7.out.pushed HB7.out.lt (hv6 ▸ C6.out)).setAt, (HE7.out.below HB.out).setS HSY.out.heap (HPT.out.below (HPY.out.setB HSY.out 3 _).below)⟩
                · intro K hK
                  go_simp
                  refine hK.out _ _ ⟨(HP7.out.call (HB.out.alloc HB.out.size (.cells #[.int .i64 (X.kind : Int), .int .i64 X.rune, .int .i64 X.to, .slice A1 n1 c1, .int .i64 X.min, .int .i64 X.max, .bool X.lazy, .bool X.not, .int .i64 (X.group : Int), .string ⟨X.name.toArray⟩] 25))).below, heap_call HI7.out.heap (HB.out.alloc HB.out.size (.cells #[.int .i64 (X.kind : Int), .int .i64 X.rune, .int .i64 X.to, .slice A1 n1 c1, .int .i64 X.min, .int .i64 X.max, .bool X.lazy, .bool X.not, .int .i64 (X.group : Int), .string ⟨X.name.toArray⟩] 25))⟩ (fun hS0 => ?_)
                  clear hK K
                  have F5 := Lib.hid (Go.heap_alloc_new Y1 (.cells #[.int .i64 (X.kind : Int), .int .i64 X.rune, .int .i64 X.to, .slice A1 n1 c1, .int .i64 X.min, .int .i64 X.max, .bool X.lazy, .bool X.not, .int .i64 (X.group : Int), .string ⟨X.name.toArray⟩] 25))
                  have E0 := Lib.hid (And.intro ((Below.heap_alloc Y1 (.cells #[.int .i64 (X.kind : Int), .int .i64 X.rune, .int .i64 X.to, .slice A1 n1 c1, .int .i64 X.min, .int .i64 X.max, .bool X.lazy, .bool X.not, .int .i64 (X.group : Int), .string ⟨X.name.toArray⟩] 25) _ (Array.getElem?_eq_some_iff.1 E0.out.1).1).trans E0.out.1) E0.out.2)
                  have HB := Lib.hid (HB.out.alloc HB.out.size (.cells #[.int .i64 (X.kind : Int), .int .i64 X.rune, .int .i64 X.to, .slice A1 n1 c1, .int .i64 X.min, .int .i64 X.max, .bool X.lazy, .bool X.not, .int .i64 (X.group : Int), .string ⟨X.name.toArray⟩] 25))
                  generalize Y1.alloc (.cells #[.int .i64 (X.kind : Int), .int .i64 X.rune, .int .i64 X.to, .slice A1 n1 c1, .int .i64 X.min, .int .i64 X.max, .bool X.lazy, .bool X.not, .int .i64 (X.group : Int), .string ⟨X.name.toArray⟩] 25) = Y1 at *
                  refine wpAnyH_ready (rs := [2]) (by kernel_rfl) (by simp) ?_
                  refine AllReadyH.cons rfl ?_ AllReadyH.nil
                  intro K hK
                  have cK := HB.out.cell (p := ⟨qx, 3, none⟩) hqx
                  rw [cKW.out] at cK
                  go_simp
                  refine hK.out _ _ ⟨(HP7.out.call HB.out).below, heap_call HI7.out.heap HB.out⟩ (fun hS0 => ?_)
                  clear hK K cK
                  refine wpAnyH_ready (rs := [3]) (by kernel_rfl) (by simp) ?_
                  refine AllReadyH.cons rfl ?_ AllReadyH.nil
                  intro K hK
                  rw [if_pos (by kernel_rfl)]
                  obtain ⟨v3, Y2, hr, ho, hb, hke, hob⟩ := copy_run (P := Try.prog) (ty := 23) Try.underlying23 hi0 hz0 hz1 hz2 rfl (by decide) HB.out ZR.out.own ZO.out E0.out.1 E0.out.2 (by unfold maxLen; omega) (by omega)
                  with_reducible refine wp_app _ _ (by with_unfolding_all rfl) (by with_unfolding_all rfl) (by with_unfolding_all rfl) hr ?_
                  refine hK.out _ _ ⟨(HP7.out.call hb).below, heap_call HI7.out.heap hb⟩ (fun hS0 => ?_)
                  clear hK K hr
                  have C3 := Lib.hid ho
                  have HB := Lib.hid hb
                  have F5 := Lib.hid (hke _ _ F5.out (cells_ne F5.out E0.out.1 rfl))
                  clear ho hb hke hob E0
                  refine wpAnyH_ready (rs := [6]) (by kernel_rfl) (by simp) ?_
                  refine AllReadyH.cons rfl ?_ AllReadyH.nil
                  intro K hK
                  rw [if_pos (by kernel_rfl)]
                  obtain ⟨v6, Y3, hr, ho, hb⟩ := push_run (P := Try.prog) (ty := 23) Try.underlying23 hi0 hz0 hz1 hz2 rfl (by decide) HB.out C3.out F5.out rfl HYO.out (by unfold maxLen; omega) (by omega)
                  with_reducible refine wp_app _ _ (by with_unfolding_all rfl) (by with_unfolding_all rfl) (by with_unfolding_all rfl) hr ?_
                  refine hK.out _ _ ⟨(HP7.out.call hb).below, heap_call HI7.out.heap hb⟩ (fun hS0 => ?_)
                  clear hK K hr
                  have C6 := Lib.hid ho
                  have HB := Lib.hid hb
                  clear ho hb C3 F5
                  obtain ⟨A9, c9, hv6⟩ := rowns_slice C6.out
                  refine wpAnyH_take (i := 7) (v := Value.pointer (some ⟨qx, 3, none⟩)) rfl (by kernel_rfl) (by kernel_rfl) (by kernel_rfl) (fun _ _ _ h => h) (.inl ⟨by rfl, fun _ _ => by go_simp⟩) hS0 ?_
                  clear hS0
                  refine wpAnyH_ready (rs := [8]) (by kernel_rfl) (by simp) ?_
                  refine AllReadyH.cons rfl ?_ AllReadyH.nil
                  intro K hK
                  have HSY := Lib.hid (HB7.out.call HB.out)
                  have HPY := Lib.hid (HP7.out.call HB.out)
                  have cS := HSY.out.cell (j := 3) rfl
                  have fS := HSY.out.frozen 3
                  go_simp
                  refine hK.out _ _ ⟨(HPY.out.setB HSY.out 3 (.slice A9 (zs.length + 1) c9)).below, (rheap_far (p := ⟨qx, 3, none⟩) HGQ.out).trans (heap_call HI7.out.heap HB.out)⟩ (fun hS0 => ?_)
                  clear hK K hS0 cS fS
                  refine wpAnyH_done (by kernel_rfl) ?_ _
                  go_wp2_with fail
                  go_meet
                  exact ⟨.slice A9 (zs.length + 1) c9, HPY.out.setB HSY.out 3 _, HSY.out.kids _, (HZ7.out.pushed HB7.out.lt (hv6 ▸ C6.out)).setAt, (HE7.out.below HB.out).setS HSY.out.heap (HPT.out.below (HPY.out.setB HSY.out 3 _).below)⟩
              · intro K hK
                have cK := HB.out.cell (p := ⟨qx, 3, none⟩) hqx
                rw [cKW.out] at cK
                go_simp
                refine hK.out _ _ ⟨(HP7.out.call HB.out).below, heap_call HI7.out.heap HB.out⟩ (fun hS0 => ?_)
                clear hK K cK
                refine wpAnyH_ready (rs := [0, 5]) (by kernel_rfl) (by simp) ?_
                refine AllReadyH.cons rfl ?_ (AllReadyH.cons rfl ?_ AllReadyH.nil)
                · intro K hK
                  go_simp
                  refine hK.out _ _ ⟨(HP7.out.call (HB.out.alloc HB.out.size (.cells #[] 25))).below, heap_call HI7.out.heap (HB.out.alloc HB.out.size (.cells #[] 25))⟩ (fun hS0 => ?_)
                  clear hK K
                  have E0 := Lib.hid (And.intro (Go.heap_alloc_new Y0 (.cells #[] 25)) HB.out.size)
                  have HB := Lib.hid (HB.out.alloc HB.out.size (.cells #[] 25))
                  generalize Y0.alloc (.cells #[] 25) = Y1 at *
                  refine wpAnyH_ready (rs := [3, 5]) (by kernel_rfl) (by simp) ?_
                  refine AllReadyH.cons rfl ?_ (AllReadyH.cons rfl ?_ AllReadyH.nil)
                  · intro K hK
                    rw [if_pos (by kernel_rfl)]
                    obtain ⟨v3, Y2, hr, ho, hb, hke, hob⟩ := copy_run (P := Try.prog) (ty := 23) Try.underlying23 hi0 hz0 hz1 hz2 rfl (by decide) HB.out ZR.out.own ZO.out E0.out.1 E0.out.2 (by unfold maxLen; omega) (by omega)
                    with_reducible refine wp_app _ _ (by with_unfolding_all rfl) (by with_unfolding_all rfl) (by with_unfolding_all rfl) hr ?_
                    refine hK.out _ _ ⟨(HP7.out.call hb).below, heap_call HI7.out.heap hb⟩ (fun hS0 => ?_)
                    clear hK K hr
                    have C3 := Lib.hid ho
                    have HB := Lib.hid hb
                    clear ho hb hke hob E0
                    refine wpAnyH_ready (rs := [5]) (by kernel_rfl) (by simp) ?_
                    refine AllReadyH.cons rfl ?_ AllReadyH.nil
                    intro K hK
                    go_simp
                    refine hK.out _ _ ⟨(HP7.out.call (HB.out.alloc HB.out.size (.cells #[.int .i64 (X.kind : Int), .int .i64 X.rune, .int .i64 X.to, .slice A1 n1 c1, .int .i64 X.min, .int .i64 X.max, .bool X.lazy, .bool X.not, .int .i64 (X.group : Int), .string ⟨X.name.toArray⟩] 25))).below, heap_call HI7.out.heap (HB.out.alloc HB.out.size (.cells #[.int .i64 (X.kind : Int), .int .i64 X.rune, .int .i64 X.to, .slice A1 n1 c1, .int .i64 X.min, .int .i64 X.max, .bool X.lazy, .bool X.not, .int .i64 (X.group : Int), .string ⟨X.name.toArray⟩] 25))⟩ (fun hS0 => ?_)
                    clear hK K
                    have F5 := Lib.hid (Go.heap_alloc_new Y2 (.cells #[.int .i64 (X.kind : Int), .int .i64 X.rune, .int .i64 X.to, .slice A1 n1 c1, .int .i64 X.min, .int .i64 X.max, .bool X.lazy, .bool X.not, .int .i64 (X.group : Int), .string ⟨X.name.toArray⟩] 25))
                    have C3 := Lib.hid (rowns_below C3.out ((Below.refl _ Y2).alloc (Nat.le_refl _) (.cells #[.int .i64 (X.kind : Int), .int .i64 X.rune, .int .i64 X.to, .slice A1 n1 c1, .int .i64 X.min, .int .i64 X.max, .bool X.lazy, .bool X.not, .int .i64 (X.group : Int), .string ⟨X.name.toArray⟩] 25)))
                    have HB := Lib.hid (HB.out.alloc HB.out.size (.cells #[.int .i64 (X.kind : Int), .int .i64 X.rune, .int .i64 X.to, .slice A1 n1 c1, .int .i64 X.min, .int .i64 X.max, .bool X.lazy, .bool X.not, .int .i64 (X.group : Int), .string ⟨X.name.toArray⟩] 25))
                    generalize Y2.alloc (.cells #[.int .i64 (X.kind : Int), .int .i64 X.rune, .int .i64 X.to, .slice A1 n1 c1, .int .i64 X.min, .int .i64 X.max, .bool X.lazy, .bool X.not, .int .i64 (X.group : Int), .string ⟨X.name.toArray⟩] 25) = Y3 at *
                    refine wpAnyH_ready (rs := [6]) (by kernel_rfl) (by simp) ?_
                    refine AllReadyH.cons rfl ?_ AllReadyH.nil
                    intro K hK
                    rw [if_pos (by kernel_rfl)]
                    obtain ⟨v6, Y4, hr, ho, hb⟩ := push_run (P := Try.prog) (ty := 23) Try.underlying23 hi0 hz0 hz1 hz2 rfl (by decide) HB.out C3.out F5.out rfl HYO.out (by unfold maxLen; omega) (by omega)
                    with_reducible refine wp_app _ _ (by with_unfolding_all rfl) (by with_unfolding_all rfl) (by with_unfolding_all rfl) hr ?_
                    refine hK.out _ _ ⟨(HP7.out.call hb).below, heap_call HI7.out.heap hb⟩ (fun hS0 => ?_)
                    clear hK K hr
                    have C6 := Lib.hid ho
                    have HB := Lib.hid hb
                    clear ho hb C3 F5
                    obtain ⟨A9, c9, hv6⟩ := rowns_slice C6.out
                    refine wpAnyH_take (i := 7) (v := Value.pointer (some ⟨qx, 3, none⟩)) rfl (by kernel_rfl) (by kernel_rfl) (by kernel_rfl) (fun _ _ _ h => h) (.inl ⟨by rfl, fun _ _ => by go_simp⟩) hS0 ?_
                    clear hS0
                    refine wpAnyH_ready (rs := [8]) (by kernel_rfl) (by simp) ?_
                    refine AllReadyH.cons rfl ?_ AllReadyH.nil
                    intro K hK
                    have HSY := Lib.hid (HB7.out.call HB.out)
                    have HPY := Lib.hid (HP7.out.call HB.out)
                    have cS := HSY.out.cell (j := 3) rfl
                    have fS := HSY.out.frozen 3
                    go_simp
                    refine hK.out _ _ ⟨(HPY.out.setB HSY.out 3 (.slice A9 (zs.length + 1) c9)).below, (rheap_far (p := ⟨qx, 3, none⟩) HGQ.out).trans (heap_call HI7.out.heap HB.out)⟩ (fun hS0 => ?_)
                    clear hK K hS0 cS fS
                    refine wpAnyH_done (by kernel_rfl) ?_ _
                    go_wp2_with fail
                    go_meet
                    exact ⟨.slice A9 (zs.length + 1) c9, HPY.out.setB HSY.out 3 _, HSY.out.kids _, (HZ7.out.pushed HB7.out.lt (hv6 ▸ C6.out)).setAt, (HE7.out.below HB.out).setS HSY.out.heap (HPT.out.below (HPY.out.setB HSY.out 3 _).below)⟩
                  · intro K hK
                    go_simp
                    refine hK.out _ _ ⟨(HP7.out.call (HB.out.alloc HB.out.size (.cells #[.int .i64 (X.kind : Int), .int .i64 X.rune, .int .i64 X.to, .slice A1 n1 c1, .int .i64 X.min, .int .i64 X.max, .bool X.lazy, .bool X.not, .int .i64 (X.group : Int), .string ⟨X.name.toArray⟩] 25))).below, heap_call HI7.out.heap (HB.out.alloc HB.out.size (.cells #[.int .i64 (X.kind : Int), .int .i64 X.rune, .int .i64 X.to, .slice A1 n1 c1, .int .i64 X.min, .int .i64 X.max, .bool X.lazy, .bool X.not, .int .i64 (X.group : Int), .string ⟨X.name.toArray⟩] 25))⟩ (fun hS0 => ?_)
                    clear hK K
                    have F5 := Lib.hid (Go.heap_alloc_new Y1 (.cells #[.int .i64 (X.kind : Int), .int .i64 X.rune, .int .i64 X.to, .slice A1 n1 c1, .int .i64 X.min, .int .i64 X.max, .bool X.lazy, .bool X.not, .int .i64 (X.group : Int), .string ⟨X.name.toArray⟩] 25))
                    have E0 := Lib.hid (And.intro ((Below.heap_alloc Y1 (.cells #[.int .i64 (X.kind : Int), .int .i64 X.rune, .int .i64 X.to, .slice A1 n1 c1, .int .i64 X.min, .int .i64 X.max, .bool X.lazy, .bool X.not, .int .i64 (X.group : Int), .string ⟨X.name.toArray⟩] 25) _ (Array.getElem?_eq_some_iff.1 E0.out.1).1).trans E0.out.1) E0.out.2)
                    have HB := Lib.hid (HB.out.alloc HB.out.size (.cells #[.int .i64 (X.kind : Int), .int .i64 X.rune, .int .i64 X.to, .slice A1 n1 c1, .int .i64 X.min, .int .i64 X.max, .bool X.lazy, .bool X.not, .int .i64 (X.group : Int), .string ⟨X.name.toArray⟩] 25))
                    generalize Y1.alloc (.cells #[.int .i64 (X.kind : Int), .int .i64 X.rune, .int .i64 X.to, .slice A1 n1 c1, .int .i64 X.min, .int .i64 X.max, .bool X.lazy, .bool X.not, .int .i64 (X.group : Int), .string ⟨X.name.toArray⟩] 25) = Y2 at *
                    refine wpAnyH_ready (rs := [3]) (by kernel_rfl) (by simp) ?_
                    refine AllReadyH.cons rfl ?_ AllReadyH.nil
                    intro K hK
                    rw [if_pos (by kernel_rfl)]
                    obtain ⟨v3, Y3, hr, ho, hb, hke, hob⟩ := copy_run (P := Try.prog) (ty := 23) Try.underlying23 hi0 hz0 hz1 hz2 rfl (by decide) HB.out ZR.out.own ZO.out E0.out.1 E0.out.2 (by unfold maxLen; omega) (by omega)
                    with_reducible refine wp_app _ _ (by with_unfolding_all rfl) (by with_unfolding_all rfl) (by with_unfolding_all rfl) hr ?_
                    refine hK.out _ _ ⟨(HP7.out.call hb).below, heap_call HI7.out.heap hb⟩ (fun hS0 => ?_)
                    clear hK K hr
                    have C3 := Lib.hid ho
                    have HB := Lib.hid hb
                    have F5 := Lib.hid (hke _ _ F5.out (cells_ne F5.out E0.out.1 rfl))
                    clear ho hb hke hob E0
                    refine wpAnyH_ready (rs := [6]) (by kernel_rfl) (by simp) ?_
                    refine AllReadyH.cons rfl ?_ AllReadyH.nil
                    intro K hK
                    rw [if_pos (by kernel_rfl)]
                    obtain ⟨v6, Y4, hr, ho, hb⟩ := push_run (P := Try.prog) (ty := 23) Try.underlying23 hi0 hz0 hz1 hz2 rfl (by decide) HB.out C3.out F5.out rfl HYO.out (by unfold maxLen; omega) (by omega)
                    with_reducible refine wp_app _ _ (by with_unfolding_all rfl) (by with_unfolding_all rfl) (by with_unfolding_all rfl) hr ?_
                    refine hK.out _ _ ⟨(HP7.out.call hb).below, heap_call HI7.out.heap hb⟩ (fun hS0 => ?_)
                    clear hK K hr
                    have C6 := Lib.hid ho
                    have HB := Lib.hid hb
                    clear ho hb C3 F5
                    obtain ⟨A9, c9, hv6⟩ := rowns_slice C6.out
                    refine wpAnyH_take (i := 7) (v := Value.pointer (some ⟨qx, 3, none⟩)) rfl (by kernel_rfl) (by kernel_rfl) (by kernel_rfl) (fun _ _ _ h => h) (.inl ⟨by rfl, fun _ _ => by go_simp⟩) hS0 ?_
                    clear hS0
                    refine wpAnyH_ready (rs := [8]) (by kernel_rfl) (by simp) ?_
                    refine AllReadyH.cons rfl ?_ AllReadyH.nil
                    intro K hK
                    have HSY := Lib.hid (HB7.out.call HB.out)
                    have HPY := Lib.hid (HP7.out.call HB.out)
                    have cS := HSY.out.cell (j := 3) rfl
                    have fS := HSY.out.frozen 3
                    go_simp
                    refine hK.out _ _ ⟨(HPY.out.setB HSY.out 3 (.slice A9 (zs.length + 1) c9)).below, (rheap_far (p := ⟨qx, 3, none⟩) HGQ.out).trans (heap_call HI7.out.heap HB.out)⟩ (fun hS0 => ?_)
                    clear hK K hS0 cS fS
                    refine wpAnyH_done (by kernel_rfl) ?_ _
                    go_wp2_with fail
                    go_meet
                    exact ⟨.slice A9 (zs.length + 1) c9, HPY.out.setB HSY.out 3 _, HSY.out.kids _, (HZ7.out.pushed HB7.out.lt (hv6 ▸ C6.out)).setAt, (HE7.out.below HB.out).setS HSY.out.heap (HPT.out.below (HPY.out.setB HSY.out 3 _).below)⟩
                · intro K hK
                  go_simp
                  refine hK.out _ _ ⟨(HP7.out.call (HB.out.alloc HB.out.size (.cells #[.int .i64 (X.kind : Int), .int .i64 X.rune, .int .i64 X.to, .slice A1 n1 c1, .int .i64 X.min, .int .i64 X.max, .bool X.lazy, .bool X.not, .int .i64 (X.group : Int), .string ⟨X.name.toArray⟩] 25))).below, heap_call HI7.out.heap (HB.out.alloc HB.out.size (.cells #[.int .i64 (X.kind : Int), .int .i64 X.rune, .int .i64 X.to, .slice A1 n1 c1, .int .i64 X.min, .int .i64 X.max, .bool X.lazy, .bool X.not, .int .i64 (X.group : Int), .string ⟨X.name.toArray⟩] 25))⟩ (fun hS0 => ?_)
                  clear hK K
                  have F5 := Lib.hid (Go.heap_alloc_new Y0 (.cells #[.int .i64 (X.kind : Int), .int .i64 X.rune, .int .i64 X.to, .slice A1 n1 c1, .int .i64 X.min, .int .i64 X.max, .bool X.lazy, .bool X.not, .int .i64 (X.group : Int), .string ⟨X.name.toArray⟩] 25))
                  have HB := Lib.hid (HB.out.alloc HB.out.size (.cells #[.int .i64 (X.kind : Int), .int .i64 X.rune, .int .i64 X.to, .slice A1 n1 c1, .int .i64 X.min, .int .i64 X.max, .bool X.lazy, .bool X.not, .int .i64 (X.group : Int), .string ⟨X.name.toArray⟩] 25))
                  generalize Y0.alloc (.cells #[.int .i64 (X.kind : Int), .int .i64 X.rune, .int .i64 X.to, .slice A1 n1 c1, .int .i64 X.min, .int .i64 X.max, .bool X.lazy, .bool X.not, .int .i64 (X.group : Int), .string ⟨X.name.toArray⟩] 25) = Y1 at *
                  refine wpAnyH_ready (rs := [0]) (by kernel_rfl) (by simp) ?_
                  refine AllReadyH.cons rfl ?_ AllReadyH.nil
                  intro K hK
                  go_simp
                  refine hK.out _ _ ⟨(HP7.out.call (HB.out.alloc HB.out.size (.cells #[] 25))).below, heap_call HI7.out.heap (HB.out.alloc HB.out.size (.cells #[] 25))⟩ (fun hS0 => ?_)
                  clear hK K
                  have E0 := Lib.hid (And.intro (Go.heap_alloc_new Y1 (.cells #[] 25)) HB.out.size)
                  have HB := Lib.hid (HB.out.alloc HB.out.size (.cells #[] 25))
                  have F5 := Lib.hid ((Below.heap_alloc Y1 (.cells #[] 25) _ (Array.getElem?_eq_some_iff.1 F5.out).1).trans F5.out)
                  generalize Y1.alloc (.cells #[] 25) = Y2 at *
                  refine wpAnyH_ready (rs := [3]) (by kernel_rfl) (by simp) ?_
                  refine AllReadyH.cons rfl ?_ AllReadyH.nil
                  intro K hK
                  rw [if_pos (by kernel_rfl)]
                  obtain ⟨v3, Y3, hr, ho, hb, hke, hob⟩ := copy_run (P := Try.prog) (ty := 23) Try.underlying23 hi0 hz0 hz1 hz2 rfl (by decide) HB.out ZR.out.own ZO.out E0.out.1 E0.out.2 (by unfold maxLen; omega) (by omega)
                  with_reducible refine wp_app _ _ (by with_unfolding_all rfl) (by with_unfolding_all rfl) (by with_unfolding_all rfl) hr ?_
                  refine hK.out _ _ ⟨(HP7.out.call hb).below, heap_call HI7.out.heap hb⟩ (fun hS0 => ?_)
                  clear hK K hr
                  have C3 := Lib.hid ho
                  have HB := Lib.hid hb
                  have F5 := Lib.hid (hke _ _ F5.out (cells_ne F5.out E0.out.1 rfl))
                  clear ho hb hke hob E0
                  refine wpAnyH_ready (rs := [6]) (by kernel_rfl) (by simp) ?_
                  refine AllReadyH.cons rfl ?_ AllReadyH.nil
                  intro K hK
                  rw [if_pos (by kernel_rfl)]
                  obtain ⟨v6, Y4, hr, ho, hb⟩ := push_run (P := Try.prog) (ty := 23) Try.underlying23 hi0 hz0 hz1 hz2 rfl (by decide) HB.out C3.out F5.out rfl HYO.out (by unfold maxLen; omega) (by omega)
                  with_reducible refine wp_app _ _ (by with_unfolding_all rfl) (by with_unfolding_all rfl) (by with_unfolding_all rfl) hr ?_
                  refine hK.out _ _ ⟨(HP7.out.call hb).below, heap_call HI7.out.heap hb⟩ (fun hS0 => ?_)
                  clear hK K hr
                  have C6 := Lib.hid ho
                  have HB := Lib.hid hb
                  clear ho hb C3 F5
                  obtain ⟨A9, c9, hv6⟩ := rowns_slice C6.out
                  refine wpAnyH_take (i := 7) (v := Value.pointer (some ⟨qx, 3, none⟩)) rfl (by kernel_rfl) (by kernel_rfl) (by kernel_rfl) (fun _ _ _ h => h) (.inl ⟨by rfl, fun _ _ => by go_simp⟩) hS0 ?_
                  clear hS0
                  refine wpAnyH_ready (rs := [8]) (by kernel_rfl) (by simp) ?_
                  refine AllReadyH.cons rfl ?_ AllReadyH.nil
                  intro K hK
                  have HSY := Lib.hid (HB7.out.call HB.out)
                  have HPY := Lib.hid (HP7.out.call HB.out)
                  have cS := HSY.out.cell (j := 3) rfl
                  have fS := HSY.out.frozen 3
                  go_simp
                  refine hK.out _ _ ⟨(HPY.out.setB HSY.out 3 (.slice A9 (zs.length + 1) c9)).below, (rheap_far (p := ⟨qx, 3, none⟩) HGQ.out).trans (heap_call HI7.out.heap HB.out)⟩ (fun hS0 => ?_)
                  clear hK K hS0 cS fS
                  refine wpAnyH_done (by kernel_rfl) ?_ _
                  go_wp2_with fail
                  go_meet
                  exact ⟨.slice A9 (zs.length + 1) c9, HPY.out.setB HSY.out 3 _, HSY.out.kids _, (HZ7.out.pushed HB7.out.lt (hv6 ▸ C6.out)).setAt, (HE7.out.below HB.out).setS HSY.out.heap (HPT.out.below (HPY.out.setB HSY.out 3 _).below)⟩
              · intro K hK
                go_simp
                refine hK.out _ _ ⟨(HP7.out.call (HB.out.alloc HB.out.size (.cells #[.int .i64 (X.kind : Int), .int .i64 X.rune, .int .i64 X.to, .slice A1 n1 c1, .int .i64 X.min, .int .i64 X.max, .bool X.lazy, .bool X.not, .int .i64 (X.group : Int), .string ⟨X.name.toArray⟩] 25))).below, heap_call HI7.out.heap (HB.out.alloc HB.out.size (.cells #[.int .i64 (X.kind : Int), .int .i64 X.rune, .int .i64 X.to, .slice A1 n1 c1, .int .i64 X.min, .int .i64 X.max, .bool X.lazy, .bool X.not, .int .i64 (X.group : Int), .string ⟨X.name.toArray⟩] 25))⟩ (fun hS0 => ?_)
                clear hK K
                have F5 := Lib.hid (Go.heap_alloc_new Y0 (.cells #[.int .i64 (X.kind : Int), .int .i64 X.rune, .int .i64 X.to, .slice A1 n1 c1, .int .i64 X.min, .int .i64 X.max, .bool X.lazy, .bool X.not, .int .i64 (X.group : Int), .string ⟨X.name.toArray⟩] 25))
                have HB := Lib.hid (HB.out.alloc HB.out.size (.cells #[.int .i64 (X.kind : Int), .int .i64 X.rune, .int .i64 X.to, .slice A1 n1 c1, .int .i64 X.min, .int .i64 X.max, .bool X.lazy, .bool X.not, .int .i64 (X.group : Int), .string ⟨X.name.toArray⟩] 25))
                generalize Y0.alloc (.cells #[.int .i64 (X.kind : Int), .int .i64 X.rune, .int .i64 X.to, .slice A1 n1 c1, .int .i64 X.min, .int .i64 X.max, .bool X.lazy, .bool X.not, .int .i64 (X.group : Int), .string ⟨X.name.toArray⟩] 25) = Y0 at *
                refine wpAnyH_ready (rs := [0, 2]) (by kernel_rfl) (by simp) ?_
                refine AllReadyH.cons rfl ?_ (AllReadyH.cons rfl ?_ AllReadyH.nil)
                · intro K hK
                  go_simp
                  refine hK.out _ _ ⟨(HP7.out.call (HB.out.alloc HB.out.size (.cells #[] 25))).below, heap_call HI7.out.heap (HB.out.alloc HB.out.size (.cells #[] 25))⟩ (fun hS0 => ?_)
                  clear hK K
                  have E0 := Lib.hid (And.intro (Go.heap_alloc_new Y0 (.cells #[] 25)) HB.out.size)
                  have HB := Lib.hid (HB.out.alloc HB.out.size (.cells #[] 25))
                  have F5 := Lib.hid ((Below.heap_alloc Y0 (.cells #[] 25) _ (Array.getElem?_eq_some_iff.1 F5.out).1).trans F5.out)
                  generalize Y0.alloc (.cells #[] 25) = Y1 at *
                  refine wpAnyH_ready (rs := [2]) (by kernel_rfl) (by simp) ?_
                  refine AllReadyH.cons rfl ?_ AllReadyH.nil
                  intro K hK
                  have cK := HB.out.cell (p := ⟨qx, 3, none⟩) hqx
                  rw [cKW.out] at cK
                  go_simp
                  refine hK.out _ _ ⟨(HP7.out.call HB.out).below, heap_call HI7.out.heap HB.out⟩ (fun hS0 => ?_)
                  clear hK K cK
                  refine wpAnyH_ready (rs := [3]) (by kernel_rfl) (by simp) ?_
                  refine AllReadyH.cons rfl ?_ AllReadyH.nil
                  intro K hK
                  rw [if_pos (by kernel_rfl)]
                  obtain ⟨v3, Y2, hr, ho, hb, hke, hob⟩ := copy_run (P := Try.prog) (ty := 23) Try.underlying23 hi0 hz0 hz1 hz2 rfl (by decide) HB.out ZR.out.own ZO.out E0.out.1 E0.out.2 (by unfold maxLen; omega) (by omega)
                  with_reducible refine wp_app _ _ (by with_unfolding_all rfl) (by with_unfolding_all rfl) (by with_unfolding_all rfl) hr ?_
                  refine hK.out _ _ ⟨(HP7.out.call hb).below, heap_call HI7.out.heap hb⟩ (fun hS0 => ?_)
                  clear hK K hr
                  have C3 := Lib.hid ho
                  have HB := Lib.hid hb
                  have F5 := Lib.hid (hke _ _ F5.out (cells_ne F5.out E0.out.1 rfl))
                  clear ho hb hke hob E0
                  refine wpAnyH_ready (rs := [6]) (by kernel_rfl) (by simp) ?_
                  refine AllReadyH.cons rfl ?_ AllReadyH.nil
                  intro K hK
                  rw [if_pos (by kernel_rfl)]
                  obtain ⟨v6, Y3, hr, ho, hb⟩ := push_run (P := Try.prog) (ty := 23) Try.underlying23 hi0 hz0 hz1 hz2 rfl (by decide) HB.out C3.out F5.out rfl HYO.out (by unfold maxLen; omega) (by omega)
                  with_reducible refine wp_app _ _ (by with_unfolding_all rfl) (by with_unfolding_all rfl) (by with_unfolding_all rfl) hr ?_
                  refine hK.out _ _ ⟨(HP7.out.call hb).below, heap_call HI7.out.heap hb⟩ (fun hS0 => ?_)
                  clear hK K hr
                  have C6 := Lib.hid ho
                  have HB := Lib.hid hb
                  clear ho hb C3 F5
                  obtain ⟨A9, c9, hv6⟩ := rowns_slice C6.out
                  refine wpAnyH_take (i := 7) (v := Value.pointer (some ⟨qx, 3, none⟩)) rfl (by kernel_rfl) (by kernel_rfl) (by kernel_rfl) (fun _ _ _ h => h) (.inl ⟨by rfl, fun _ _ => by go_simp⟩) hS0 ?_
                  clear hS0
                  refine wpAnyH_ready (rs := [8]) (by kernel_rfl) (by simp) ?_
                  refine AllReadyH.cons rfl ?_ AllReadyH.nil
                  intro K hK
                  have HSY := Lib.hid (HB7.out.call HB.out)
                  have HPY := Lib.hid (HP7.out.call HB.out)
                  have cS := HSY.out.cell (j := 3) rfl
                  have fS := HSY.out.frozen 3
                  go_simp
                  refine hK.out _ _ ⟨(HPY.out.setB HSY.out 3 (.slice A9 (zs.length + 1) c9)).below, (rheap_far (p := ⟨qx, 3, none⟩) HGQ.out).trans (heap_call HI7.out.heap HB.out)⟩ (fun hS0 => ?_)
                  clear hK K hS0 cS fS
                  refine wpAnyH_done (by kernel_rfl) ?_ _
                  go_wp2_with fail
                  go_meet
                  exact ⟨.slice A9 (zs.length + 1) c9, HPY.out.setB HSY.out 3 _, HSY.out.kids _, (HZ7.out.pushed HB7.out.lt (hv6 ▸ C6.out)).setAt, (HE7.out.below HB.out).setS HSY.out.heap (HPT.out.below (HPY.out.setB HSY.out 3 _).below)⟩
                · intro K hK
                  have cK := HB.out.cell (p := ⟨qx, 3, none⟩) hqx
                  rw [cKW.out] at cK
                  go_simp
                  refine hK.out _ _ ⟨(HP7.out.call HB.out).below, heap_call HI7.out.heap HB.out⟩ (fun hS0 => ?_)
                  clear hK K cK
                  refine wpAnyH_ready (rs := [0]) (by kernel_rfl) (by simp) ?_
                  refine AllReadyH.cons rfl ?_ AllReadyH.nil
                  intro K hK
                  go_simp
                  refine hK.out _ _ ⟨(HP7.out.call (HB.out.alloc HB.out.size (.cells #[] 25))).below, heap_call HI7.out.heap (HB.out.alloc HB.out.size (.cells #[] 25))⟩ (fun hS0 => ?_)
                  clear hK K
                  have E0 := Lib.hid (And.intro (Go.heap_alloc_new Y0 (.cells #[] 25)) HB.out.size)
                  have HB := Lib.hid (HB.out.alloc HB.out.size (.cells #[] 25))
                  have F5 := Lib.hid ((Below.heap_alloc Y0 (.cells #[] 25) _ (Array.getElem?_eq_some_iff.1 F5.out).1).trans F5.out)
                  generalize Y0.alloc (.cells #[] 25) = Y1 at *
                  refine wpAnyH_ready (rs := [3]) (by kernel_rfl) (by simp) ?_
                  refine AllReadyH.cons rfl ?_ AllReadyH.nil
                  intro K hK
                  rw [if_pos (by kernel_rfl)]
                  obtain ⟨v3, Y2, hr, ho, hb, hke, hob⟩ := copy_run (P := Try.prog) (ty := 23) Try.underlying23 hi0 hz0 hz1 hz2 rfl (by decide) HB.out ZR.out.own ZO.out E0.out.1 E0.out.2 (by unfold maxLen; omega) (by omega)
                  with_reducible refine wp_app _ _ (by with_unfolding_all rfl) (by with_unfolding_all rfl) (by with_unfolding_all rfl) hr ?_
                  refine hK.out _ _ ⟨(HP7.out.call hb).below, heap_call HI7.out.heap hb⟩ (fun hS0 => ?_)
                  clear hK K hr
                  have C3 := Lib.hid ho
                  have HB := Lib.hid hb
                  have F5 := Lib.hid (hke _ _ F5.out (cells_ne F5.out E0.out.1 rfl))
                  clear ho hb hke hob E0
                  refine wpAnyH_ready (rs := [6]) (by kernel_rfl) (by simp) ?_
                  refine AllReadyH.cons rfl ?_ AllReadyH.nil
                  intro K hK
                  rw [if_pos (by kernel_rfl)]
                  obtain ⟨v6, Y3, hr, ho, hb⟩ := push_run (P := Try.prog) (ty := 23) Try.underlying23 hi0 hz0 hz1 hz2 rfl (by decide) HB.out C3.out F5.out rfl HYO.out (by unfold maxLen; omega) (by omega)
                  with_reducible refine wp_app _ _ (by with_unfolding_all rfl) (by with_unfolding_all rfl) (by with_unfolding_all rfl) hr ?_
                  refine hK.out _ _ ⟨(HP7.out.call hb).below, heap_call HI7.out.heap hb⟩ (fun hS0 => ?_)
                  clear hK K hr
                  have C6 := Lib.hid ho
                  have HB := Lib.hid hb
                  clear ho hb C3 F5
                  obtain ⟨A9, c9, hv6⟩ := rowns_slice C6.out
                  refine wpAnyH_take (i := 7) (v := Value.pointer (some ⟨qx, 3, none⟩)) rfl (by kernel_rfl) (by kernel_rfl) (by kernel_rfl) (fun _ _ _ h => h) (.inl ⟨by rfl, fun _ _ => by go_simp⟩) hS0 ?_
                  clear hS0
                  refine wpAnyH_ready (rs := [8]) (by kernel_rfl) (by simp) ?_
                  refine AllReadyH.cons rfl ?_ AllReadyH.nil
                  intro K hK
                  have HSY := Lib.hid (HB7.out.call HB.out)
                  have HPY := Lib.hid (HP7.out.call HB.out)
                  have cS := HSY.out.cell (j := 3) rfl
                  have fS := HSY.out.frozen 3
                  go_simp
                  refine hK.out _ _ ⟨(HPY.out.setB HSY.out 3 (.slice A9 (zs.length + 1) c9)).below, (rheap_far (p := ⟨qx, 3, none⟩) HGQ.out).trans (heap_call HI7.out.heap HB.out)⟩ (fun hS0 => ?_)
                  clear hK K hS0 cS fS
                  refine wpAnyH_done (by kernel_rfl) ?_ _
                  go_wp2_with fail
                  go_meet
                  exact ⟨.slice A9 (zs.length + 1) c9, HPY.out.setB HSY.out 3 _, HSY.out.kids _, (HZ7.out.pushed HB7.out.lt (hv6 ▸ C6.out)).setAt, (HE7.out.below HB.out).setS HSY.out.heap (HPT.out.below (HPY.out.setB HSY.out 3 _).below)⟩
            case rest =>
              obtain ⟨v', hp, hs, hz, he⟩ := hcut
              obtain ⟨A', c', hv'⟩ := hz.slice
              rw [List.length_append, List.length_singleton] at hv'
              rw [hv'] at hs hz
              have HPW := Lib.hid hp
              have HSW := Lib.hid hs
              have HZW := Lib.hid hz
              clear hp hs hz HP7 HI7 HE7 HB7 HZ7
              obtain ⟨V8, hV8⟩ : ∃ W, W = wc := ⟨_, rfl⟩
              rw [← hV8] at HPW HSW HZW he ⊢
              clear hV8
              have c16 := HPW.out.bad
              rcases he with ⟨s2, hit, hl2, hxk, rfl⟩ | ⟨a, m, hit, hbx⟩
              · have HL8 := Lib.hid hl2
                rw [hl2.bad] at c16
                have hp2 := hl2.fin.pos
                have hadv := item_adv hit
                have HLF2 := Lib.hid (HLF.out.snoc (X := X) (A := A1) (c := c1) hxk)
                have hlv2 := hadv.2.1
                have kd := fun (W : World) (h : Lv W L l s2 pn) => show Calls Try.prog 55 #[pAgg L pn, .int .i64 0] W (RetE (.int .i64 (due l s2.pos)) fun w' => Below W.heap.size W w') from rfSignL L l s2 pn 0 W h (by omega)
                by_cases d93 : due l s2.pos = 93
                · have hlt := due_lt d93 (by decide)
                  have hM := set_last HREL.out hit d93
                  have hmp : zs.map Prod.fst ++ [X] = (zs ++ [(X, Value.slice A1 0 c1)]).map Prod.fst := by simp
                  rw [hmp] at hM
                  have HV9 := Lib.hid (fun (W : World) (h : Lv W L l s2 pn) => h.on 1 hlt)
                  rw [d93] at kd
                  have KD := Lib.hid kd
                  obtain ⟨X9, hX9⟩ : ∃ x, x = rxSet nt ((zs ++ [(X, Value.slice A1 0 c1)]).map Prod.fst) := ⟨_, rfl⟩
                  obtain ⟨m, hm⟩ : ∃ m, m = zs.length + 1 := ⟨_, rfl⟩
                  have HKX := Lib.hid (show ∀ W : World, RowC (qx + 1) W (.slice A' m c') (zs ++ [(X, .slice A1 0 c1)]) → KX (fun q => w.heap.size ≤ q) W X9 (.slice A' m c') from fun W h => TrZ.kids (h.mono (Nat.le_trans HSW.out.lo (Nat.le_succ _))) (HLF2.out.tr _ _) (by rw [hX9]; rfl))
                  have hkl : m = X9.kids.length := by rw [hX9, hm]; simp [rxSet, Rx.kids]
                  have HKL := Lib.hid hkl
                  rw [← hX9] at hM
                  rw [← hm] at HSW HZW
                  have HXC := Lib.hid (show rxCells (rxSet nt []) (.slice A' m c') = rxCells X9 (.slice A' m c') by rw [hX9]; rfl)
                  have HM := Lib.hid hM
                  obtain ⟨pB, hpB⟩ : ∃ q : PX, q = { pn with i := wrap64 (pn.i + 1) } := ⟨_, rfl⟩
                  have KON := Lib.hid (fun W => show Calls Try.prog 56 #[pAgg L pn, .int .i64 1] W (RetE (pAgg L pB) fun w' => Below W.heap.size W w') by rw [hpB]; exact rfOn L pn 1 W)
                  have HV9 := Lib.hid (fun (W : World) (h : Lv W L l s2 pn) => show Lv W L l { s2 with pos := s2.pos + 1 } pB by rw [hpB]; exact HV9.out W h)
                  have KTO := Lib.hid (fun W => rfTold L pB X9 A' m c' W)
                  simp only [rxAgg] at KTO
                  clear hpB hM hX9 hm hmp kd d93 hit hl2 hxk hadv hkl
                  go_wp2_with (first
                    | (with_reducible refine load_pG (by with_unfolding_all rfl) _ (by with_reducible rfl) w.heap.size (by first | (simp [Act.eval]; done) | simp [Act.eval, Act.put]) HPW.out ?_)
                    | (go_at_call 55; (with_reducible refine (KD.out _ HL8.out).mono ?_)))
                  rintro e Wx ⟨rfl, hb9⟩
                  have HPX := Lib.hid (HPW.out.call hb9)
                  have HXH := Lib.hid (show Wx.heap[qx]? = some (.cells (rxCells X9 (.slice A' m c')).toArray TRx (0, 0)) by rw [← HXC.out]; exact (HSW.out.call hb9).heap)
                  have HK9 := Lib.hid (HKX.out Wx (HZW.out.below hb9))
                  have HLX := Lib.hid (HV9.out Wx (HL8.out.below hb9))
                  clear hb9 HPW HSW HZW HKX HXC c16 HL8 HV9
                  -- the set X (its parts at A' m c') is told, behind its end: world Wx
                  go_upto_region 15 with fail
                  refine wp_region_held_drew (S := (fun Y => PF w Y w.heap.size (w.heap.size + 1) L pn ∧ Y.heap[qx]? = some (.cells (rxCells X9 (.slice A' m c')).toArray TRx (0, 0)))) (by kernel_rfl) ⟨HPX.out.drew, HXH.out⟩ (fun hS0 => ?_)
                  refine wpAnyH_take (i := 0) (v := pAgg L pn) rfl (by kernel_rfl) (by kernel_rfl) (by kernel_rfl) (fun _ _ _ h => h) (yields_p (fun _ h => h.1) (by rfl) _ rfl rfl) hS0 ?_
                  refine wpAnyH_take (i := 2) (v := rxAgg X9 (.slice A' m c')) rfl (by kernel_rfl) (by kernel_rfl) (by kernel_rfl) (fun _ _ _ h => h) (yields_x (fun _ h => h.2) (by rfl) _ rfl rfl) hS0 ?_
                  simp only [rxAgg]
                  have HS1 := Lib.hid hS0
                  have OX := Lib.hid (OffP.drew Wx)
                  generalize Wx.drew = w4 at *
                  clear hS0
                  refine wpAnyH_ready (rs := [1]) (by kernel_rfl) (by simp) ?_
                  refine AllReadyH.cons rfl ?_ AllReadyH.nil
                  intro K hK
                  go_simp
                  go_at_call 56
                  with_reducible refine (KON.out _).mono ?_
                  rintro e w5 ⟨rfl, hb5⟩
                  try dsimp only
                  refine hK.out _ _ ⟨HS1.out.1.call hb5, heap_call HS1.out.2 hb5⟩ (fun hS0 => ?_)
                  clear hK K
                  have HS5 := Lib.hid hS0
                  have O5 := Lib.hid (OX.out.trans (OffP.call hb5))
                  clear hS0 hb5 HS1 OX
                  refine wpAnyH_ready (rs := [3]) (by kernel_rfl) (by simp) ?_
                  refine AllReadyH.cons rfl ?_ AllReadyH.nil
                  intro K hK
                  go_simp
                  go_at_call 57
                  with_reducible refine (KTO.out _).mono ?_
                  rintro e w6 ⟨rfl, hb6⟩
                  try dsimp only
                  refine hK.out _ _ ⟨HS5.out.1.call hb6, heap_call HS5.out.2 hb6⟩ (fun hS0 => ?_)
                  clear hK K
                  have HS6 := Lib.hid hS0
                  have O6 := Lib.hid (O5.out.trans (OffP.call hb6))
                  clear hS0 hb6 HS5 O5
                  refine wpAnyH_ready (rs := [4]) (by kernel_rfl) (by simp) ?_
                  refine AllReadyH.cons rfl ?_ AllReadyH.nil
                  intro K hK
                  rw [if_pos (by kernel_rfl)]
                  with_reducible refine wp_store_r _ _ (by with_unfolding_all rfl) (by with_unfolding_all rfl) (by with_unfolding_all rfl) HS6.out.1 ?_
                  intro V7 h7 b7 o7 P7
                  try dsimp only
                  refine hK.out _ _ ⟨P7, o7 _ _ _ _ (by decide) HS6.out.2⟩ (fun hS0 => ?_)
                  clear hK K
                  have O7 := Lib.hid (O6.out.trans o7)
                  clear hS0 o7 O6 HS6 P7
                  refine wpAnyH_done (by kernel_rfl) ?_ _
                  go_wp2
                  refine ret_p (k := 2) Try.results98 h7 (by first | (simp; done) | simp [Act.put]) rfl ?_
                  rw [HM.out]
                  have hk7 := HK9.out.off O7.out
                  have hl7 := HLX.out.off O7.out (HPT.out.below b7)
                  have e9 := HKL.out
                  subst e9
                  exact RxP.ok_of hl7 hk7 b7
                · have z93 : (due l s2.pos == 93) = false := by simp [d93]
                  have HREL2 := Lib.hid (set_next HREL.out hit d93)
                  clear d93
                  generalize due l s2.pos = d at *
                  have KD := Lib.hid kd
                  clear kd hit hl2 hxk hadv
                  go_wp2_with (first
                    | (with_reducible refine load_pG (by with_unfolding_all rfl) _ (by with_reducible rfl) w.heap.size (by first | (simp [Act.eval]; done) | simp [Act.eval, Act.put]) HPW.out ?_)
                    | (go_at_call 55; (with_reducible refine (KD.out _ HL8.out).mono ?_)))
                  rintro e w9 ⟨rfl, hb9⟩
                  have HP9 := Lib.hid (HPW.out.call hb9)
                  have HS9 := Lib.hid (HSW.out.call hb9)
                  have HZ9 := Lib.hid (HZW.out.below hb9)
                  have HL9 := Lib.hid (HL8.out.below hb9)
                  clear hb9 HPW HSW HZW HL8
                  go_wp2_with fail
                  go_roundg (f + 1)
                  case measure => omega
                  case rel =>
                    refine ⟨pn, zs ++ [(X, .slice A1 0 c1)], A', c', HP9.out, ?_, ?_, by simp; omega, .inl ⟨s2, f, Nat.le_refl _, HL9.out, by omega, by simp; omega, HLF2.out, ?_⟩⟩
                    · simpa using HS9.out
                    · simpa using HZ9.out
                    · show _ = _
                      rw [HREL2.out]; simp
              · have z16 : (pn.bad == 0) = false := by simp [hbx.ne0]
                have HM := Lib.hid (setI_bad HREL.out hit)
                have HBX := Lib.hid hbx
                clear hit hbx
                go_wp2_with fail
                go_roundg (f + 1)
                case measure => omega
                case rel =>
                  refine ⟨pn, zs ++ [(X, .slice A1 n1 c1)], A', c', HPW.out, ?_, ?_, by simp; omega, .inr ⟨a, m, HBX.out, HM.out⟩⟩
                  · simpa using HSW.out
                  · simpa using HZW.out
      · have z16 : (pr.bad == 0) = false := by simp [hbx.ne0]
        have HM := Lib.hid hrel.out
        have HBX := Lib.hid hbx
        clear hbx hrel
        go_wp2_with (first
          | (with_reducible refine load_p (by with_reducible rfl) _ (by with_reducible rfl) w.heap.size (by first | (simp [Act.eval]; done) | simp [Act.eval, Act.put]) H4.out ?_)
          | (with_reducible refine store_r (by with_reducible rfl) _ _ (by with_reducible rfl) (w.heap.size + 1) (p' := pr) (by first | (simp [Act.eval]; done) | simp [Act.eval, Act.put]) (by first | (simp [Act.eval]; done) | simp [Act.eval, Act.put]) H4.out ?_))
        intro W2 h2 b2 _
        go_wp2
        refine ret_p (k := 2) Try.results98 h2 (by first | (simp; done) | simp [Act.put]) rfl ?_
        rw [HM.out]
        exact ⟨_, rfl, HBX.out, b2⟩

end Go.Proofs.Ytoniccokohjenaa
