/-
  The walk of the reference's seq (chapter 18).
-/
import Derived.Test.YtoniccokohjenaaRfI
namespace Go.Proofs.Ytoniccokohjenaa
open Go.RowKit

theorem RxP.ok_of {L : LX} {l : List Int} {w w' : World} {s : PS} {p : PX} {x : Rx} {A : Option Addr} {c : Nat} (h : Lv w' L l s p) (hk : KX (fun q => w.heap.size ≤ q) w' x (.slice A x.kids.length c)) (hb : Below w.heap.size w w') : RxP L l w (.ok x s) (.returned (pAgg L (toldX p x A x.kids.length c))) w' := by
  refine ⟨_, rfl, h.told x A x.kids.length c, ?_, ?_, hb⟩
  · rw [toldX_ok h.bad]
  · rw [toldX_ok h.bad]; exact ⟨rfl, hk⟩
theorem RxP.bad_of {L : LX} {l : List Int} {w w' : World} {p : PX} {a m : Nat} (h : BadX p a m) (x : Rx) (A : Option Addr) (n c : Nat) (hb : Below w.heap.size w w') : RxP L l w (.bad a m) (.returned (pAgg L (toldX p x A n c))) w' := by
  rw [toldX_bad h.ne0]; exact ⟨p, rfl, h, hb⟩
theorem yields_xr {S : World → Prop} {ops : Array Oper} {op : Oper} {a : Act} {q o : Nat} {x : Rx} {A : Option Addr} {n c : Nat} (hS : ∀ W, S W → W.rangeAt q o (rxCells x (.slice A n c))) (hw : Region.wanted op (yielded ops a.tmps) = true) (y : Operand) (ho : op.op = .load TRx y) (hx : a.eval y = .pointer (some ⟨q, o, none⟩)) : YieldsIf Try.prog ops S op (rxAgg x (.slice A n c)) a := by
  obtain ⟨d, hd, hrow⟩ := underRx
  exact yieldsIf_load_mid hw TRx y ho q o hx (rxCells x (.slice A n c)) d hS hd hrow (by rw [sizeRx, rx_len])
theorem RowC.range {B : Nat} {w : World} {b cap : Nat} {t : Rx} {kv : Value} (h : RowC B w (.slice (some ⟨b, 0, none⟩) 1 cap) [(t, kv)]) : w.rangeAt b 0 (rxCells t kv) := fun j u hj => by
  have := h.own.cells (g := b) rfl j u (by simpa [zCells] using hj)
  have hadd : (⟨b, 0, none⟩ : Addr).add j = ⟨b, 0 + j, none⟩ := by unfold Addr.add; split <;> simp_all
  rw [hadd] at this
  exact this
theorem RowC.at {B : Nat} {w : World} {A : Option Addr} {n cap : Nat} {y : Rx × Value} {zs : List (Rx × Value)} (h : RowC B w (.slice A n cap) (y :: zs)) : ∃ b, A = some ⟨b, 0, none⟩ := by
  rcases h.own.2 with ⟨_, h0⟩ | ⟨g, cap', cur, hv, _⟩
  · cases h0
  · injection hv with hv _ _; exact ⟨g, hv⟩
/-- where the loop of seq ends -/
def SeqE (L : LX) (l : List Int) (B : Nat) (w : World) (R : PR Rx) (p : PX) (zs : List (Rx × Value)) : Prop :=
  (∃ s, Lv w L l s p ∧ R = .ok (seqOf (zs.map Prod.fst)) s ∧ TrZ B w zs) ∨ ∃ a m, BadX p a m ∧ R = .bad a m
theorem SeqE.off {L : LX} {l : List Int} {B : Nat} {w w' : World} {R : PR Rx} {p : PX} {zs : List (Rx × Value)} (h : SeqE L l B w R p zs) (ho : OffP w w') (hp : LRd w' L l) : SeqE L l B w' R p zs := by
  rcases h with ⟨s, h1, h2, h3⟩ | h
  · exact .inl ⟨s, h1.off ho hp, h2, h3.off ho⟩
  · exact .inr h

set_option maxHeartbeats 4000000 in
set_option maxRecDepth 100000 in
theorem rfSeq_any (L : LX) (l : List Int) (s : PS) (p : PX) (w : World) (rec : PS → PR Rx) (hadv : ∀ s v s', rec s = .ok v s' → Adv l s s')
    (KP : ∀ (s' : PS) (p' : PX) (W : World), s'.deep = s.deep → s'.pos < l.length → Lv W L l s' p' → Calls Try.prog 73 #[pAgg L p'] W (RxP L l W (partR L.free l rec s')))
    (h : Lv w L l s p) :
    Calls Try.prog 54 #[pAgg L p] w (RxP L l w (seqR L.free l rec s)) := by
  obtain ⟨i0, hi0, hz0, hz1, hz2⟩ := info_parts infoRx
  have HLv := Lib.hid h
  have HPT := Lib.hid h.pat
  have KPA := Lib.hid KP
  have hl := h.fin.len
  have hp := h.fin.pos
  have hf0 := h.fin.adv (skip_adv (free := L.free) s)
  have hd0 : (skipS' L.free l s).deep = s.deep := rfl
  have HSEQ := Lib.hid (show seqR L.free l rec s = (partsR L.free l rec (l.length + 1) (skipS' L.free l s)).bind fun xs s => .ok (seqOf xs) s from rfl)
  have KSK := Lib.hid (fun W => rfSkipOk L l s p W)
  have HV0 := Lib.hid (show Lv w L l (skipS' L.free l s) { p with i := (skipP L.free l s.pos : Int) } from h.moved _ (skip_adv (free := L.free) s).pos hf0.pos)
  clear h KP
  obtain ⟨p0, hp0⟩ : ∃ q : PX, q = { p with i := (skipP L.free l s.pos : Int) } := ⟨_, rfl⟩
  rw [← hp0] at HV0 KSK
  clear hp0
  generalize skipS' L.free l s = s0 at *
  go_enter Try.func54, Try.ntmps54
  go_wp2_with (with_reducible refine box_p (by with_reducible rfl) _ (by with_reducible rfl) (L := L) (p := p) (by simp [Act.eval]) ?_)
  intro V hV bV sV
  go_wp2_with (with_reducible refine room_p (by with_reducible rfl) (by with_reducible rfl) hV ?_)
  intro W hW bW sW
  clear hV bV sV bW sW
  have H := Lib.hid hW
  clear hW
  go_wp2_with (first
    | (with_reducible refine load_p (by with_reducible rfl) _ (by with_reducible rfl) w.heap.size (by first | (simp [Act.eval]; done) | simp [Act.eval, Act.put]) H.out ?_)
    | (go_at_call 72; (with_reducible refine (KSK.out _ (HLv.out.below H.out.below)).mono ?_)))
  rintro e w1 ⟨rfl, hb1⟩
  have H1 := Lib.hid (H.out.call hb1)
  clear hb1
  go_wp2_with (first
    | (with_reducible refine store_p (by with_reducible rfl) _ _ (by with_reducible rfl) w.heap.size (p' := p0) (by first | (simp [Act.eval]; done) | simp [Act.eval, Act.put]) (by first | (simp [Act.eval]; done) | simp [Act.eval, Act.put]) H1.out ?_))
  intro V1 hV1 o1
  have H2 := Lib.hid hV1
  have HL2 := Lib.hid (HV0.out.below hV1.below)
  clear hV1 o1
  go_wp2
  go_loopg [3] (l.length + 2) (fun kx v wr => ∃ (pr : PX) (zs : List (Rx × Value)), PF w wr w.heap.size (w.heap.size + 1) L pr ∧ RowC w.heap.size wr v zs ∧ zs.length ≤ 1001 ∧
    ((∃ (s' : PS) (f : Nat), f + 1 ≤ kx ∧ Lv wr L l s' pr ∧ s'.deep = s.deep ∧ l.length < f + s'.pos ∧ zs.length ≤ s'.pos ∧ TrZ w.heap.size wr zs ∧ Hid (seqR L.free l rec s = (partsR L.free l rec f s').bind fun xs s => .ok (seqOf (zs.map Prod.fst ++ xs)) s)) ∨
      (∃ a m, BadX pr a m ∧ Hid (seqR L.free l rec s = .bad a m))))
  case atStart =>
    exact ⟨p0, [], H2.out, RowC.nil _ _, by simp, .inl ⟨s0, l.length + 1, Nat.le_refl _, HL2.out, hd0, by omega, Nat.zero_le _, (fun z hz => by cases hz), HSEQ.out⟩⟩
  case round =>
    obtain ⟨pr, zs, hv, hz, hzl, hst⟩ := hrel
    obtain ⟨A, cap, rfl⟩ := hz.slice
    have H3 := Lib.hid hv
    have HZ3 := Lib.hid hz
    have c16 := hv.bad
    clear hv hz
    rcases hst with ⟨s', f, hfk, hlv, hd', hfu, hzp, htr, hrel⟩ | ⟨a, m, hbx, hrel⟩
    · have hb0 := hlv.bad
      rw [hb0] at c16
      have HL4 := Lib.hid hlv
      have HTR := Lib.hid htr
      have HREL := Lib.hid hrel.out
      have HD := Lib.hid hd'
      have hpl := hlv.fin.pos
      have hpts := Lib.hid hlv.fin.pts
      have kd := fun (W : World) (h : Lv W L l s' pr) => show Calls Try.prog 55 #[pAgg L pr, .int .i64 0] W (RetE (.int .i64 (due l s'.pos)) fun w' => Below W.heap.size W w') from rfSignL L l s' pr 0 W h (by omega)
      obtain ⟨f, rfl⟩ : ∃ k, f = k + 1 := ⟨f - 1, by omega⟩
      obtain ⟨cnd, hcnd⟩ : ∃ c, c = decide (s'.pos < l.length ∧ due l s'.pos ≠ 124 ∧ due l s'.pos ≠ 41) := ⟨_, rfl⟩
      have HC := Lib.hid hcnd
      clear hlv htr hrel hd' hcnd hb0
      go_upto_region 3 with fail
      go_cut [23] from 6 to 33 (fun t wx => t = .bool cnd ∧ Below wr.heap.size wr wx)
      case first =>
        by_cases h1 : s'.pos < l.length
        · have hd1 : due l s'.pos ≠ -1 := by
            have := (hpts.out _ (List.getElem_mem h1)).1
            rw [← due_at h1] at this; omega
          have z1 : (due l s'.pos != -1) = true := by simp [hd1]
          by_cases h2 : due l s'.pos = 124
          · have HCC := Lib.hid (show cnd = false by rw [HC.out, h2]; simp)
            rw [h2] at kd
            have KD := Lib.hid kd
            clear h2 kd hd1 z1
            go_wp2_with (first
              | (with_reducible refine load_pG (by with_unfolding_all rfl) _ (by with_reducible rfl) w.heap.size (by first | (simp [Act.eval]; done) | simp [Act.eval, Act.put]) H3.out ?_)
              | (go_at_call 55; (with_reducible refine (KD.out _ HL4.out).mono ?_)))
            rintro e w5 ⟨rfl, hb5⟩
            have H5 := Lib.hid (H3.out.call hb5)
            have HB5 := Lib.hid hb5
            clear hb5
            go_wp2_with (first
              | (with_reducible refine load_pG (by with_unfolding_all rfl) _ (by with_reducible rfl) w.heap.size (by first | (simp [Act.eval]; done) | simp [Act.eval, Act.put]) H5.out ?_)
              | (go_at_call 55; (with_reducible refine (KD.out _ (HL4.out.below HB5.out)).mono ?_)))
            rintro e w6 ⟨rfl, hb6⟩
            have HB6 := Lib.hid (HB5.out.trans (hb6.mono HB5.out.size))
            clear hb6
            go_wp2_with fail
            go_meet
            exact ⟨by rw [HCC.out], HB6.out⟩
          · have z2 : (due l s'.pos != 124) = true := by simp [h2]
            obtain ⟨z3, hz3⟩ : ∃ b, b = (due l s'.pos != 41) := ⟨_, rfl⟩
            have HCC := Lib.hid (show cnd = z3 by rw [HC.out, hz3]; by_cases h3 : due l s'.pos = 41 <;> simp [h1, h2, h3])
            have hz3' := hz3.symm
            clear h2 hd1 hz3
            generalize due l s'.pos = d at *
            have KD := Lib.hid kd
            clear kd
            go_wp2_with (first
              | (with_reducible refine load_pG (by with_unfolding_all rfl) _ (by with_reducible rfl) w.heap.size (by first | (simp [Act.eval]; done) | simp [Act.eval, Act.put]) H3.out ?_)
              | (go_at_call 55; (with_reducible refine (KD.out _ HL4.out).mono ?_)))
            rintro e w5 ⟨rfl, hb5⟩
            have H5 := Lib.hid (H3.out.call hb5)
            have HB5 := Lib.hid hb5
            clear hb5
            go_wp2_with (first
              | (with_reducible refine load_pG (by with_unfolding_all rfl) _ (by with_reducible rfl) w.heap.size (by first | (simp [Act.eval]; done) | simp [Act.eval, Act.put]) H5.out ?_)
              | (go_at_call 55; (with_reducible refine (KD.out _ (HL4.out.below HB5.out)).mono ?_)))
            rintro e w6 ⟨rfl, hb6⟩
            have H6 := Lib.hid (H5.out.call hb6)
            have HB6 := Lib.hid (HB5.out.trans (hb6.mono HB5.out.size))
            clear hb6
            go_wp2_with (first
              | (with_reducible refine load_pG (by with_unfolding_all rfl) _ (by with_reducible rfl) w.heap.size (by first | (simp [Act.eval]; done) | simp [Act.eval, Act.put]) H6.out ?_)
              | (go_at_call 55; (with_reducible refine (KD.out _ (HL4.out.below HB6.out)).mono ?_)))
            rintro e w7 ⟨rfl, hb7⟩
            have HB7 := Lib.hid (HB6.out.trans (hb7.mono HB6.out.size))
            clear hb7
            go_wp2_with fail
            go_meet
            exact ⟨by rw [HCC.out], HB7.out⟩
        · have HCC := Lib.hid (show cnd = false by rw [HC.out]; simp [h1])
          rw [due_past (by omega)] at kd
          have KD := Lib.hid kd
          clear kd
          go_wp2_with (first
            | (with_reducible refine load_pG (by with_unfolding_all rfl) _ (by with_reducible rfl) w.heap.size (by first | (simp [Act.eval]; done) | simp [Act.eval, Act.put]) H3.out ?_)
            | (go_at_call 55; (with_reducible refine (KD.out _ HL4.out).mono ?_)))
          rintro e w5 ⟨rfl, hb5⟩
          have HB5 := Lib.hid hb5
          clear hb5
          go_wp2_with fail
          go_meet
          exact ⟨by rw [HCC.out], HB5.out⟩
      case rest =>
        obtain ⟨rfl, hb4⟩ := hcut
        have HPW := Lib.hid (H3.out.call hb4)
        have HZ := Lib.hid (HZ3.out.below hb4)
        have HL5 := Lib.hid (HL4.out.below hb4)
        have HT5 := Lib.hid (HTR.out.below hb4)
        clear H3 HZ3 HL4 HTR hb4 c16 kd
        obtain ⟨w4, hw4⟩ : ∃ W, W = wc := ⟨_, rfl⟩
        rw [← hw4] at HPW HZ HL5 HT5 ⊢
        clear hw4
        cases cnd with
        | false =>
          have hc := of_decide_eq_false HC.out.symm
          have HE := Lib.hid (show SeqE L l w.heap.size w4 (seqR L.free l rec s) pr zs from .inl ⟨s', HL5.out, by rw [HREL.out, parts_end hc]; simp [PR.bind], HT5.out⟩)
          clear HC HREL HL5 HT5 hc
          -- the tree is told: HE: SeqE at the world w4, HPW: the state pr there, HZ: the row there, v the row
          match zs, HZ, hzl, HE with
          | [], HZ, hzl, HE =>
            have KTO := Lib.hid (fun W => show Calls Try.prog 57 #[pAgg L pr, .agg #[.int .i64 0, .int .i64 0, .int .i64 0, .slice none 0 0, .int .i64 0, .int .i64 0, .bool false, .bool false, .int .i64 0, .string ⟨#[]⟩]] W (RetE (pAgg L (toldX pr rxNone none 0 0)) fun w' => Below W.heap.size W w') from rfTold L pr rxNone none 0 0 W)
            have HEQ := Lib.hid (show SeqE L l w.heap.size w4 (seqR L.free l rec s) pr [] from HE.out)
            clear HE HZ
            go_wp2_with (first
              | (with_reducible refine load_p (by with_reducible rfl) _ (by with_reducible rfl) w.heap.size (by first | (simp [Act.eval]; done) | simp [Act.eval, Act.put]) HPW.out ?_)
              | (go_at_call 57; (with_reducible refine (KTO.out _).mono ?_)))
            rintro e w9 ⟨rfl, hb9⟩
            have H9 := Lib.hid (HPW.out.call hb9)
            have HB9 := Lib.hid (OffP.call hb9)
            clear hb9
            go_wp2_with (first
              | (with_reducible refine store_r (by with_reducible rfl) _ _ (by with_reducible rfl) (w.heap.size + 1) (p' := toldX pr rxNone none 0 0) (by first | (simp [Act.eval]; done) | simp [Act.eval, Act.put]) (by first | (simp [Act.eval]; done) | simp [Act.eval, Act.put]) H9.out ?_))
            intro W2 h2 b2 o2
            go_wp2
            refine ret_p (k := 2) Try.results54 h2 (by first | (simp; done) | simp [Act.put]) rfl ?_
            rcases HEQ.out.off (HB9.out.trans o2) (HPT.out.below b2) with ⟨s1, h4, h5, h6⟩ | ⟨a, m, h4, h5⟩
            · rw [h5]; exact RxP.ok_of (x := rxNone) (A := none) (c := 0) h4 (KX.leaf rfl) b2
            · rw [h5]; exact RxP.bad_of h4 _ _ _ _ b2
          | [(X, kv)], HZ, hzl, HE =>
            obtain ⟨xA, xn, xc, hkv⟩ := HZ.out.form (X, kv) (List.mem_singleton.2 rfl)
            obtain rfl : kv = .slice xA xn xc := hkv
            obtain ⟨b, rfl⟩ := HZ.out.at
            have KTO := Lib.hid (fun W => rfTold L pr X xA xn xc W)
            simp only [rxAgg] at KTO
            have HEQ := Lib.hid (show SeqE L l w.heap.size w4 (seqR L.free l rec s) pr [(X, .slice xA xn xc)] from HE.out)
            have HZ1 := Lib.hid (show RowC w.heap.size w4 (.slice (some ⟨b, 0, none⟩) 1 cap) [(X, .slice xA xn xc)] from HZ.out)
            clear HE HZ
            go_upto_region 9 with fail
            refine wp_region_held_drew (S := (fun Y => PF w Y w.heap.size (w.heap.size + 1) L pr ∧ RowC w.heap.size Y (.slice (some ⟨b, 0, none⟩) 1 cap) [(X, .slice xA xn xc)])) (by kernel_rfl) ⟨HPW.out.drew, HZ1.out.off (OffP.drew _)⟩ (fun hS0 => ?_)
            refine wpAnyH_take (i := 0) (v := pAgg L pr) rfl (by kernel_rfl) (by kernel_rfl) (by kernel_rfl) (fun _ _ _ h => h) (yields_p (fun _ h => h.1) (by rfl) _ rfl rfl) hS0 ?_
            refine wpAnyH_take (i := 1) (v := Value.slice (some ⟨b, 0, none⟩) 1 cap) rfl (by kernel_rfl) (by kernel_rfl) (by kernel_rfl) (fun _ _ _ h => h) (.inl ⟨by rfl, fun _ _ => by go_simp⟩) hS0 ?_
            refine wpAnyH_take (i := 2) (v := Value.pointer (some ⟨b, 0, none⟩)) rfl (by kernel_rfl) (by kernel_rfl) (by kernel_rfl) (fun _ _ _ h => h) (.inl ⟨by rfl, fun _ _ => by go_simp⟩) hS0 ?_
            refine wpAnyH_take (i := 3) (v := rxAgg X (.slice xA xn xc)) rfl (by kernel_rfl) (by kernel_rfl) (by kernel_rfl) (fun _ _ _ h => h) (yields_xr (fun _ h => h.2.range) (by rfl) _ rfl rfl) hS0 ?_
            simp only [rxAgg]
            have HS1 := Lib.hid hS0
            have OX := Lib.hid (OffP.drew w4)
            generalize w4.drew = w5 at *
            clear hS0
            refine wpAnyH_ready (rs := [4]) (by kernel_rfl) (by simp) ?_
            refine AllReadyH.cons rfl (fun K hK => ?_) AllReadyH.nil
            go_simp
            go_at_call 57
            with_reducible refine (KTO.out _).mono ?_
            rintro e w6 ⟨rfl, hb6⟩
            try dsimp only
            refine hK.out _ _ ⟨HS1.out.1.call hb6, HS1.out.2.below hb6⟩ (fun hS0 => ?_)
            clear hK K
            have HS6 := Lib.hid hS0
            have O6 := Lib.hid (OX.out.trans (OffP.call hb6))
            clear hS0 hb6 HS1 OX
            refine wpAnyH_ready (rs := [5]) (by kernel_rfl) (by simp) ?_
            refine AllReadyH.cons rfl (fun K hK => ?_) AllReadyH.nil
            rw [if_pos (by rfl)]
            refine wp_store_r _ _ rfl rfl rfl HS6.out.1 ?_
            intro V7 h7 b7 o7 P7
            try dsimp only
            refine hK.out _ _ ⟨P7, HS6.out.2.off o7⟩ (fun hS0 => ?_)
            clear hK K
            have O7 := Lib.hid (O6.out.trans o7)
            clear hS0 o7 O6 HS6 P7
            refine wpAnyH_done (by kernel_rfl) ?_ _
            go_wp2
            refine ret_p (k := 2) Try.results54 h7 (by first | (simp; done) | simp [Act.put]) rfl ?_
            rcases HEQ.out.off O7.out (HPT.out.below b7) with ⟨s1, h4, h5, h6⟩ | ⟨a, m, h4, h5⟩
            · have hk := h6 (X, .slice xA xn xc) (List.mem_singleton.2 rfl)
              obtain ⟨A9, c9, h9⟩ := hk.slice
              injection h9 with h9 h10 h11
              obtain rfl : xn = X.kids.length := h10
              rw [h5]
              exact RxP.ok_of (x := X) h4 hk b7
            · rw [h5]; exact RxP.bad_of h4 _ _ _ _ b7
          | y1 :: y2 :: ys, HZ, hzl, HE =>
            have HEQ := Lib.hid (show SeqE L l w.heap.size w4 (seqR L.free l rec s) pr (y1 :: y2 :: ys) from HE.out)
            have hsq : seqOf ((y1 :: y2 :: ys).map Prod.fst) = rxSeq ((y1 :: y2 :: ys).map Prod.fst) := rfl
            have hm2 : 2 ≤ (y1 :: y2 :: ys).length := by simp
            clear HE
            generalize y1 :: y2 :: ys = zs at *
            have KTO := Lib.hid (fun W => show Calls Try.prog 57 #[pAgg L pr, .agg #[.int .i64 6, .int .i64 0, .int .i64 0, .slice A zs.length cap, .int .i64 0, .int .i64 0, .bool false, .bool false, .int .i64 0, .string ⟨#[]⟩]] W (RetE (pAgg L (toldX pr (rxSeq (zs.map Prod.fst)) A zs.length cap)) fun w' => Below W.heap.size W w') from rfTold L pr (rxSeq (zs.map Prod.fst)) A zs.length cap W)
            have HSQ := Lib.hid hsq
            have hlk : (rxSeq (zs.map Prod.fst)).kids.length = zs.length := by simp [rxSeq, Rx.kids]
            have HLK := Lib.hid hlk
            clear hsq hlk
            generalize zs.length = m at *
            have y0 : ((m : Int) == 0) = false := beq_false_of_ne (by omega)
            have y1 : ((m : Int) == 1) = false := beq_false_of_ne (by omega)
            go_wp2_with (first
              | (with_reducible refine load_p (by with_reducible rfl) _ (by with_reducible rfl) w.heap.size (by first | (simp [Act.eval]; done) | simp [Act.eval, Act.put]) HPW.out ?_)
              | (go_at_call 57; (with_reducible refine (KTO.out _).mono ?_)))
            rintro e w9 ⟨rfl, hb9⟩
            have H9 := Lib.hid (HPW.out.call hb9)
            have HB9 := Lib.hid (OffP.call hb9)
            clear hb9
            go_wp2_with (first
              | (with_reducible refine store_r (by with_reducible rfl) _ _ (by with_reducible rfl) (w.heap.size + 1) (p' := toldX pr (rxSeq (zs.map Prod.fst)) A m cap) (by first | (simp [Act.eval]; done) | simp [Act.eval, Act.put]) (by first | (simp [Act.eval]; done) | simp [Act.eval, Act.put]) H9.out ?_))
            intro W2 h2 b2 o2
            go_wp2
            refine ret_p (k := 2) Try.results54 h2 (by first | (simp; done) | simp [Act.put]) rfl ?_
            have ho := HB9.out.trans o2
            rcases HEQ.out.off ho (HPT.out.below b2) with ⟨s1, h4, h5, h6⟩ | ⟨a, m', h4, h5⟩
            · rw [h5, HSQ.out]
              have hk := TrZ.kids (HZ.out.off ho) h6 (t := rxSeq (zs.map Prod.fst)) rfl
              have e9 := HLK.out
              have hr := RxP.ok_of (w := w) (x := rxSeq (zs.map Prod.fst)) (A := A) (c := cap) h4 (by rw [e9]; exact hk) b2
              rw [e9] at hr
              exact hr
            · rw [h5]; exact RxP.bad_of h4 _ _ _ _ b2
        | true =>
          have hc : s'.pos < l.length ∧ due l s'.pos ≠ 124 ∧ due l s'.pos ≠ 41 := of_decide_eq_true HC.out.symm
          have kp := fun W h => KPA.out s' pr W HD.out hc.1 h
          have HZL := Lib.hid hzl
          have HZO := Lib.hid (z_one zs HZ.out.form)
          have hzl2 : zs.length ≤ 1000 := by omega
          cases hpt : partR L.free l rec s' with
          | bad a m =>
            rw [hpt] at kp
            have KPT := Lib.hid (fun (W : World) (h : Lv W L l s' pr) => show Calls Try.prog 73 #[pAgg L pr] W (fun e w' => ∃ p, e = .returned (pAgg L p) ∧ BadX p a m ∧ Below W.heap.size W w') from kp W h)
            have HBAD := Lib.hid (show seqR L.free l rec s = .bad a m by rw [HREL.out, parts_bad hc hpt]; rfl)
            clear kp hpt hc HREL HC
            go_wp2_with (first
              | (with_reducible refine load_p (by with_reducible rfl) _ (by with_reducible rfl) w.heap.size (by first | (simp [Act.eval]; done) | simp [Act.eval, Act.put]) HPW.out ?_)
              | (go_at_call 73; (with_reducible refine (KPT.out _ HL5.out).mono ?_)))
            rintro e w5 ⟨pn, rfl, hbn, hb5⟩
            have H5 := Lib.hid (HPW.out.call hb5)
            have HZ5 := Lib.hid (HZ.out.below hb5)
            have HBN := Lib.hid hbn
            have KSB := Lib.hid (fun W => rfSkipBad L pn W hbn.ne0)
            clear hb5 hbn
            go_wp2_with (first
              | (go_at_call 72; (with_reducible refine (KSB.out _).mono ?_)))
            rintro e w6 ⟨rfl, hb6⟩
            have H6 := Lib.hid (H5.out.call hb6)
            have HZ6 := Lib.hid (HZ5.out.below hb6)
            clear hb6
            go_wp2_with (first
              | (with_reducible refine store_p (by with_reducible rfl) _ _ (by with_reducible rfl) w.heap.size (p' := pn) (by first | (simp [Act.eval]; done) | simp [Act.eval, Act.put]) (by first | (simp [Act.eval]; done) | simp [Act.eval, Act.put]) H6.out ?_))
            intro V7 hV7 o7
            have HP5 := Lib.hid hV7
            have ZR := Lib.hid (HZ6.out.off o7)
            clear hV7 o7 H5 H6 HZ5 HZ6 HPW HZ
            -- the tree of pn is laid behind a copy of the row, at V7: HP5: the state, ZR: the row
            go_upto_region 5 with fail
            have HYO := Lib.hid (rx_one pn.x pn.xa pn.xn pn.xc)
            have ZO := HZO
            refine wp_region_held_drew (S := (fun Y => Below V7.heap.size V7 Y)) (by kernel_rfl) (Below.refl _ V7).drew (fun hS0 => ?_)
            have HB := Lib.hid hS0
            refine wpAnyH_take (i := 1) (v := Value.slice A zs.length cap) rfl (by kernel_rfl) (by kernel_rfl) (by kernel_rfl) (fun _ _ _ h => h) (.inl ⟨by rfl, fun _ _ => by go_simp⟩) hS0 ?_
            refine wpAnyH_take (i := 3) (v := Value.pointer (some ⟨w.heap.size, 5, none⟩)) rfl (by kernel_rfl) (by kernel_rfl) (by kernel_rfl) (fun _ _ _ h => h) (.inl ⟨by rfl, fun _ _ => by go_simp⟩) hS0 ?_
            refine wpAnyH_take (i := 4) (v := rxAgg pn.x (.slice pn.xa pn.xn pn.xc)) rfl (by kernel_rfl) (by kernel_rfl) (by kernel_rfl) (fun _ _ _ h => h) (yields_xr (fun _ h => (HP5.out.call h).xrange) (by rfl) _ rfl rfl) hS0 ?_
            simp only [rxAgg]
            generalize V7.drew = Y0 at *
            clear hS0
            refine wpAnyH_ready (rs := [0, 5]) (by kernel_rfl) (by simp) ?_
            refine AllReadyH.cons rfl (fun K hK => ?_) (AllReadyH.cons rfl (fun K hK => ?_) AllReadyH.nil)
            · skip
              go_simp
              refine hK.out _ _ (HB.out.alloc HB.out.size (.cells #[] 25)) (fun hS0 => ?_)
              clear hK K
              have E0 := Lib.hid (And.intro (Go.heap_alloc_new Y0 (.cells #[] 25)) HB.out.size)
              have HB := Lib.hid (HB.out.alloc HB.out.size (.cells #[] 25))
              generalize Y0.alloc (.cells #[] 25) = Y1 at *
              refine wpAnyH_ready (rs := [2, 5]) (by kernel_rfl) (by simp) ?_
              refine AllReadyH.cons rfl (fun K hK => ?_) (AllReadyH.cons rfl (fun K hK => ?_) AllReadyH.nil)
              · skip
                rw [if_pos (by rfl)]
                obtain ⟨v3, Y2, hr, ho, hb, hke, hob⟩ := copy_run (P := Try.prog) (ty := 23) Try.underlying23 hi0 hz0 hz1 hz2 rfl (by decide) HB.out ZR.out.own ZO.out E0.out.1 E0.out.2 (by unfold maxLen; omega) (by omega)
                refine wp_app _ _ rfl rfl rfl hr ?_
                refine hK.out _ _ hb (fun hS0 => ?_)
                clear hK K hr
                have C3 := Lib.hid ho
                have HB := Lib.hid hb
                clear ho hb hke hob E0
                refine wpAnyH_ready (rs := [5]) (by kernel_rfl) (by simp) ?_
                refine AllReadyH.cons rfl (fun K hK => ?_) AllReadyH.nil
                go_simp
                refine hK.out _ _ (HB.out.alloc HB.out.size (.cells #[.int .i64 (pn.x.kind : Int), .int .i64 pn.x.rune, .int .i64 pn.x.to, .slice pn.xa pn.xn pn.xc, .int .i64 pn.x.min, .int .i64 pn.x.max, .bool pn.x.lazy, .bool pn.x.not, .int .i64 (pn.x.group : Int), .string ⟨pn.x.name.toArray⟩] 25)) (fun hS0 => ?_)
                clear hK K
                have F5 := Lib.hid (Go.heap_alloc_new Y2 (.cells #[.int .i64 (pn.x.kind : Int), .int .i64 pn.x.rune, .int .i64 pn.x.to, .slice pn.xa pn.xn pn.xc, .int .i64 pn.x.min, .int .i64 pn.x.max, .bool pn.x.lazy, .bool pn.x.not, .int .i64 (pn.x.group : Int), .string ⟨pn.x.name.toArray⟩] 25))
                have C3 := Lib.hid (rowns_below C3.out ((Below.refl _ Y2).alloc (Nat.le_refl _) (.cells #[.int .i64 (pn.x.kind : Int), .int .i64 pn.x.rune, .int .i64 pn.x.to, .slice pn.xa pn.xn pn.xc, .int .i64 pn.x.min, .int .i64 pn.x.max, .bool pn.x.lazy, .bool pn.x.not, .int .i64 (pn.x.group : Int), .string ⟨pn.x.name.toArray⟩] 25)))
                have HB := Lib.hid (HB.out.alloc HB.out.size (.cells #[.int .i64 (pn.x.kind : Int), .int .i64 pn.x.rune, .int .i64 pn.x.to, .slice pn.xa pn.xn pn.xc, .int .i64 pn.x.min, .int .i64 pn.x.max, .bool pn.x.lazy, .bool pn.x.not, .int .i64 (pn.x.group : Int), .string ⟨pn.x.name.toArray⟩] 25))
                generalize Y2.alloc (.cells #[.int .i64 (pn.x.kind : Int), .int .i64 pn.x.rune, .int .i64 pn.x.to, .slice pn.xa pn.xn pn.xc, .int .i64 pn.x.min, .int .i64 pn.x.max, .bool pn.x.lazy, .bool pn.x.not, .int .i64 (pn.x.group : Int), .string ⟨pn.x.name.toArray⟩] 25) = Y3 at *
                refine wpAnyH_ready (rs := [6]) (by kernel_rfl) (by simp) ?_
                refine AllReadyH.cons rfl (fun K hK => ?_) AllReadyH.nil
                rw [if_pos (by rfl)]
                obtain ⟨v6, Y4, hr, ho, hb⟩ := push_run (P := Try.prog) (ty := 23) Try.underlying23 hi0 hz0 hz1 hz2 rfl (by decide) HB.out C3.out F5.out rfl HYO.out (by unfold maxLen; omega) (by omega)
                refine wp_app _ _ rfl rfl rfl hr ?_
                refine hK.out _ _ hb (fun hS0 => ?_)
                clear hK K hr
                have C6 := Lib.hid ho
                have HB := Lib.hid hb
                clear ho hb C3 F5
                refine wpAnyH_ready (rs := [7]) (by kernel_rfl) (by simp) ?_
                refine AllReadyH.cons rfl (fun K hK => ?_) AllReadyH.nil
                go_simp
                refine hK.out _ _ HB.out (fun hS0 => ?_)
                clear hK K hS0
                refine wpAnyH_done (by kernel_rfl) ?_ _
                have HR := Lib.hid (ZR.out.pushed HP5.out.size C6.out)
                have H9 := Lib.hid (HP5.out.call HB.out)
                go_wp2_with fail
                go_roundg (f + 1)
                case measure => omega
                case rel => exact ⟨pn, zs ++ [(pn.x, .slice pn.xa pn.xn pn.xc)], H9.out, HR.out, by simp; omega, .inr ⟨a, m, HBN.out, HBAD.out⟩⟩
              · skip
                go_simp
                refine hK.out _ _ (HB.out.alloc HB.out.size (.cells #[.int .i64 (pn.x.kind : Int), .int .i64 pn.x.rune, .int .i64 pn.x.to, .slice pn.xa pn.xn pn.xc, .int .i64 pn.x.min, .int .i64 pn.x.max, .bool pn.x.lazy, .bool pn.x.not, .int .i64 (pn.x.group : Int), .string ⟨pn.x.name.toArray⟩] 25)) (fun hS0 => ?_)
                clear hK K
                have F5 := Lib.hid (Go.heap_alloc_new Y1 (.cells #[.int .i64 (pn.x.kind : Int), .int .i64 pn.x.rune, .int .i64 pn.x.to, .slice pn.xa pn.xn pn.xc, .int .i64 pn.x.min, .int .i64 pn.x.max, .bool pn.x.lazy, .bool pn.x.not, .int .i64 (pn.x.group : Int), .string ⟨pn.x.name.toArray⟩] 25))
                have E0 := Lib.hid (And.intro ((Below.heap_alloc Y1 (.cells #[.int .i64 (pn.x.kind : Int), .int .i64 pn.x.rune, .int .i64 pn.x.to, .slice pn.xa pn.xn pn.xc, .int .i64 pn.x.min, .int .i64 pn.x.max, .bool pn.x.lazy, .bool pn.x.not, .int .i64 (pn.x.group : Int), .string ⟨pn.x.name.toArray⟩] 25) _ (Array.getElem?_eq_some_iff.1 E0.out.1).1).trans E0.out.1) E0.out.2)
                have HB := Lib.hid (HB.out.alloc HB.out.size (.cells #[.int .i64 (pn.x.kind : Int), .int .i64 pn.x.rune, .int .i64 pn.x.to, .slice pn.xa pn.xn pn.xc, .int .i64 pn.x.min, .int .i64 pn.x.max, .bool pn.x.lazy, .bool pn.x.not, .int .i64 (pn.x.group : Int), .string ⟨pn.x.name.toArray⟩] 25))
                generalize Y1.alloc (.cells #[.int .i64 (pn.x.kind : Int), .int .i64 pn.x.rune, .int .i64 pn.x.to, .slice pn.xa pn.xn pn.xc, .int .i64 pn.x.min, .int .i64 pn.x.max, .bool pn.x.lazy, .bool pn.x.not, .int .i64 (pn.x.group : Int), .string ⟨pn.x.name.toArray⟩] 25) = Y2 at *
                refine wpAnyH_ready (rs := [2]) (by kernel_rfl) (by simp) ?_
                refine AllReadyH.cons rfl (fun K hK => ?_) AllReadyH.nil
                rw [if_pos (by rfl)]
                obtain ⟨v3, Y3, hr, ho, hb, hke, hob⟩ := copy_run (P := Try.prog) (ty := 23) Try.underlying23 hi0 hz0 hz1 hz2 rfl (by decide) HB.out ZR.out.own ZO.out E0.out.1 E0.out.2 (by unfold maxLen; omega) (by omega)
                refine wp_app _ _ rfl rfl rfl hr ?_
                refine hK.out _ _ hb (fun hS0 => ?_)
                clear hK K hr
                have C3 := Lib.hid ho
                have HB := Lib.hid hb
                have F5 := Lib.hid (hke _ _ F5.out (cells_ne F5.out E0.out.1 rfl))
                clear ho hb hke hob E0
                refine wpAnyH_ready (rs := [6]) (by kernel_rfl) (by simp) ?_
                refine AllReadyH.cons rfl (fun K hK => ?_) AllReadyH.nil
                rw [if_pos (by rfl)]
                obtain ⟨v6, Y4, hr, ho, hb⟩ := push_run (P := Try.prog) (ty := 23) Try.underlying23 hi0 hz0 hz1 hz2 rfl (by decide) HB.out C3.out F5.out rfl HYO.out (by unfold maxLen; omega) (by omega)
                refine wp_app _ _ rfl rfl rfl hr ?_
                refine hK.out _ _ hb (fun hS0 => ?_)
                clear hK K hr
                have C6 := Lib.hid ho
                have HB := Lib.hid hb
                clear ho hb C3 F5
                refine wpAnyH_ready (rs := [7]) (by kernel_rfl) (by simp) ?_
                refine AllReadyH.cons rfl (fun K hK => ?_) AllReadyH.nil
                go_simp
                refine hK.out _ _ HB.out (fun hS0 => ?_)
                clear hK K hS0
                refine wpAnyH_done (by kernel_rfl) ?_ _
                have HR := Lib.hid (ZR.out.pushed HP5.out.size C6.out)
                have H9 := Lib.hid (HP5.out.call HB.out)
                go_wp2_with fail
                go_roundg (f + 1)
                case measure => omega
                case rel => exact ⟨pn, zs ++ [(pn.x, .slice pn.xa pn.xn pn.xc)], H9.out, HR.out, by simp; omega, .inr ⟨a, m, HBN.out, HBAD.out⟩⟩
            · skip
              go_simp
              refine hK.out _ _ (HB.out.alloc HB.out.size (.cells #[.int .i64 (pn.x.kind : Int), .int .i64 pn.x.rune, .int .i64 pn.x.to, .slice pn.xa pn.xn pn.xc, .int .i64 pn.x.min, .int .i64 pn.x.max, .bool pn.x.lazy, .bool pn.x.not, .int .i64 (pn.x.group : Int), .string ⟨pn.x.name.toArray⟩] 25)) (fun hS0 => ?_)
              clear hK K
              have F5 := Lib.hid (Go.heap_alloc_new Y0 (.cells #[.int .i64 (pn.x.kind : Int), .int .i64 pn.x.rune, .int .i64 pn.x.to, .slice pn.xa pn.xn pn.xc, .int .i64 pn.x.min, .int .i64 pn.x.max, .bool pn.x.lazy, .bool pn.x.not, .int .i64 (pn.x.group : Int), .string ⟨pn.x.name.toArray⟩] 25))
              have HB := Lib.hid (HB.out.alloc HB.out.size (.cells #[.int .i64 (pn.x.kind : Int), .int .i64 pn.x.rune, .int .i64 pn.x.to, .slice pn.xa pn.xn pn.xc, .int .i64 pn.x.min, .int .i64 pn.x.max, .bool pn.x.lazy, .bool pn.x.not, .int .i64 (pn.x.group : Int), .string ⟨pn.x.name.toArray⟩] 25))
              generalize Y0.alloc (.cells #[.int .i64 (pn.x.kind : Int), .int .i64 pn.x.rune, .int .i64 pn.x.to, .slice pn.xa pn.xn pn.xc, .int .i64 pn.x.min, .int .i64 pn.x.max, .bool pn.x.lazy, .bool pn.x.not, .int .i64 (pn.x.group : Int), .string ⟨pn.x.name.toArray⟩] 25) = Y1 at *
              refine wpAnyH_ready (rs := [0]) (by kernel_rfl) (by simp) ?_
              refine AllReadyH.cons rfl (fun K hK => ?_) AllReadyH.nil
              go_simp
              refine hK.out _ _ (HB.out.alloc HB.out.size (.cells #[] 25)) (fun hS0 => ?_)
              clear hK K
              have E0 := Lib.hid (And.intro (Go.heap_alloc_new Y1 (.cells #[] 25)) HB.out.size)
              have HB := Lib.hid (HB.out.alloc HB.out.size (.cells #[] 25))
              have F5 := Lib.hid ((Below.heap_alloc Y1 (.cells #[] 25) _ (Array.getElem?_eq_some_iff.1 F5.out).1).trans F5.out)
              generalize Y1.alloc (.cells #[] 25) = Y2 at *
              refine wpAnyH_ready (rs := [2]) (by kernel_rfl) (by simp) ?_
              refine AllReadyH.cons rfl (fun K hK => ?_) AllReadyH.nil
              rw [if_pos (by rfl)]
              obtain ⟨v3, Y3, hr, ho, hb, hke, hob⟩ := copy_run (P := Try.prog) (ty := 23) Try.underlying23 hi0 hz0 hz1 hz2 rfl (by decide) HB.out ZR.out.own ZO.out E0.out.1 E0.out.2 (by unfold maxLen; omega) (by omega)
              refine wp_app _ _ rfl rfl rfl hr ?_
              refine hK.out _ _ hb (fun hS0 => ?_)
              clear hK K hr
              have C3 := Lib.hid ho
              have HB := Lib.hid hb
              have F5 := Lib.hid (hke _ _ F5.out (cells_ne F5.out E0.out.1 rfl))
              clear ho hb hke hob E0
              refine wpAnyH_ready (rs := [6]) (by kernel_rfl) (by simp) ?_
              refine AllReadyH.cons rfl (fun K hK => ?_) AllReadyH.nil
              rw [if_pos (by rfl)]
              obtain ⟨v6, Y4, hr, ho, hb⟩ := push_run (P := Try.prog) (ty := 23) Try.underlying23 hi0 hz0 hz1 hz2 rfl (by decide) HB.out C3.out F5.out rfl HYO.out (by unfold maxLen; omega) (by omega)
              refine wp_app _ _ rfl rfl rfl hr ?_
              refine hK.out _ _ hb (fun hS0 => ?_)
              clear hK K hr
              have C6 := Lib.hid ho
              have HB := Lib.hid hb
              clear ho hb C3 F5
              refine wpAnyH_ready (rs := [7]) (by kernel_rfl) (by simp) ?_
              refine AllReadyH.cons rfl (fun K hK => ?_) AllReadyH.nil
              go_simp
              refine hK.out _ _ HB.out (fun hS0 => ?_)
              clear hK K hS0
              refine wpAnyH_done (by kernel_rfl) ?_ _
              have HR := Lib.hid (ZR.out.pushed HP5.out.size C6.out)
              have H9 := Lib.hid (HP5.out.call HB.out)
              go_wp2_with fail
              go_roundg (f + 1)
              case measure => omega
              case rel => exact ⟨pn, zs ++ [(pn.x, .slice pn.xa pn.xn pn.xc)], H9.out, HR.out, by simp; omega, .inr ⟨a, m, HBN.out, HBAD.out⟩⟩
          | ok x s1 =>
            rw [hpt] at kp
            have KPT := Lib.hid (fun (W : World) (h : Lv W L l s' pr) => show Calls Try.prog 73 #[pAgg L pr] W (fun e w' => ∃ p, e = .returned (pAgg L p) ∧ Lv w' L l s1 p ∧ p.x = x ∧ TX W.heap.size w' p ∧ Below W.heap.size W w') from kp W h)
            have hpa := part_adv hadv hc.1 hpt
            have hf1 := HL5.out.fin.adv hpa.1
            have hf2 := hf1.adv (skip_adv (free := L.free) s1)
            have hp12 := (skip_adv (free := L.free) (l := l) s1).pos
            have hlt1 := hpa.2
            have hd2 : (skipS' L.free l s1).deep = s.deep := by rw [← HD.out, ← hpa.1.deep]; rfl
            have HST := Lib.hid (show seqR L.free l rec s = (partsR L.free l rec f (skipS' L.free l s1)).bind fun xs s => .ok (seqOf ((zs ++ [(x, Value.nilIface)]).map Prod.fst ++ xs)) s by
              rw [HREL.out, parts_more hc hpt]
              cases partsR L.free l rec f (skipS' L.free l s1) with
              | ok v s => simp [PR.bind]
              | bad a n => rfl)
            clear kp hpt hc HREL HC hpa hf1
            go_wp2_with (first
              | (with_reducible refine load_p (by with_reducible rfl) _ (by with_reducible rfl) w.heap.size (by first | (simp [Act.eval]; done) | simp [Act.eval, Act.put]) HPW.out ?_)
              | (go_at_call 73; (with_reducible refine (KPT.out _ HL5.out).mono ?_)))
            rintro e w5 ⟨p1, rfl, hl1, hx1, ht1, hb5⟩
            have H5 := Lib.hid (HPW.out.call hb5)
            have HZ5 := Lib.hid (HZ.out.below hb5)
            have HTZ5 := Lib.hid (HT5.out.below hb5)
            have HL1 := Lib.hid hl1
            have hsw := HPW.out.size
            have HTX := Lib.hid (show p1.xn = x.kids.length ∧ KX (fun q => w.heap.size ≤ q) w5 x (.slice p1.xa p1.xn p1.xc) by
              rw [← hx1]; exact ⟨ht1.1, ht1.2.kept fun _ _ _ hq hh => ⟨hh, by omega⟩⟩)
            have KSK2 := Lib.hid (fun W => rfSkipOk L l s1 p1 W)
            have HV2 := Lib.hid (show Lv w5 L l (skipS' L.free l s1) { p1 with i := (skipP L.free l s1.pos : Int) } from hl1.moved _ hp12 hf2.pos)
            have hxs : ({ p1 with i := (skipP L.free l s1.pos : Int) } : PX).x = x ∧ ({ p1 with i := (skipP L.free l s1.pos : Int) } : PX).xa = p1.xa ∧ ({ p1 with i := (skipP L.free l s1.pos : Int) } : PX).xn = p1.xn ∧ ({ p1 with i := (skipP L.free l s1.pos : Int) } : PX).xc = p1.xc := ⟨hx1, rfl, rfl, rfl⟩
            clear hb5 hl1 ht1 hx1 HL5 HT5
            generalize ({ p1 with i := (skipP L.free l s1.pos : Int) } : PX) = pn at *
            generalize skipS' L.free l s1 = s2 at *
            have HXS := Lib.hid hxs
            clear hxs
            go_wp2_with (first
              | (go_at_call 72; (with_reducible refine (KSK2.out _ HL1.out).mono ?_)))
            rintro e w6 ⟨rfl, hb6⟩
            have H6 := Lib.hid (H5.out.call hb6)
            have HZ6 := Lib.hid (HZ5.out.below hb6)
            have HTZ6 := Lib.hid (HTZ5.out.below hb6)
            have HV6 := Lib.hid (HV2.out.below hb6)
            have HTX6 := Lib.hid (show pn.xn = x.kids.length ∧ KX (fun q => w.heap.size ≤ q) w6 x (.slice pn.xa pn.xn pn.xc) by
              rw [HXS.out.2.1, HXS.out.2.2.1, HXS.out.2.2.2]; exact ⟨HTX.out.1, KX.off HTX.out.2 (OffP.call hb6)⟩)
            clear hb6
            go_wp2_with (first
              | (with_reducible refine store_p (by with_reducible rfl) _ _ (by with_reducible rfl) w.heap.size (p' := pn) (by first | (simp [Act.eval]; done) | simp [Act.eval, Act.put]) (by first | (simp [Act.eval]; done) | simp [Act.eval, Act.put]) H6.out ?_))
            intro V7 hV7 o7
            have HP5 := Lib.hid hV7
            have ZR := Lib.hid (HZ6.out.off o7)
            have HTZ7 := Lib.hid (HTZ6.out.off o7)
            have HV7 := Lib.hid (HV6.out.off o7 (HPT.out.below hV7.below))
            have HTX7 := Lib.hid (And.intro HTX6.out.1 (KX.off HTX6.out.2 o7))
            clear hV7 o7 H5 H6 HZ5 HZ6 HPW HZ HTZ5 HTZ6 HV2 HV6 HTX HTX6 HL1
            -- the tree of pn is laid behind a copy of the row, at V7: HP5: the state, ZR: the row
            go_upto_region 5 with fail
            have HYO := Lib.hid (rx_one pn.x pn.xa pn.xn pn.xc)
            have ZO := HZO
            refine wp_region_held_drew (S := (fun Y => Below V7.heap.size V7 Y)) (by kernel_rfl) (Below.refl _ V7).drew (fun hS0 => ?_)
            have HB := Lib.hid hS0
            refine wpAnyH_take (i := 1) (v := Value.slice A zs.length cap) rfl (by kernel_rfl) (by kernel_rfl) (by kernel_rfl) (fun _ _ _ h => h) (.inl ⟨by rfl, fun _ _ => by go_simp⟩) hS0 ?_
            refine wpAnyH_take (i := 3) (v := Value.pointer (some ⟨w.heap.size, 5, none⟩)) rfl (by kernel_rfl) (by kernel_rfl) (by kernel_rfl) (fun _ _ _ h => h) (.inl ⟨by rfl, fun _ _ => by go_simp⟩) hS0 ?_
            refine wpAnyH_take (i := 4) (v := rxAgg pn.x (.slice pn.xa pn.xn pn.xc)) rfl (by kernel_rfl) (by kernel_rfl) (by kernel_rfl) (fun _ _ _ h => h) (yields_xr (fun _ h => (HP5.out.call h).xrange) (by rfl) _ rfl rfl) hS0 ?_
            simp only [rxAgg]
            generalize V7.drew = Y0 at *
            clear hS0
            refine wpAnyH_ready (rs := [0, 5]) (by kernel_rfl) (by simp) ?_
            refine AllReadyH.cons rfl (fun K hK => ?_) (AllReadyH.cons rfl (fun K hK => ?_) AllReadyH.nil)
            · skip
              go_simp
              refine hK.out _ _ (HB.out.alloc HB.out.size (.cells #[] 25)) (fun hS0 => ?_)
              clear hK K
              have E0 := Lib.hid (And.intro (Go.heap_alloc_new Y0 (.cells #[] 25)) HB.out.size)
              have HB := Lib.hid (HB.out.alloc HB.out.size (.cells #[] 25))
              generalize Y0.alloc (.cells #[] 25) = Y1 at *
              refine wpAnyH_ready (rs := [2, 5]) (by kernel_rfl) (by simp) ?_
              refine AllReadyH.cons rfl (fun K hK => ?_) (AllReadyH.cons rfl (fun K hK => ?_) AllReadyH.nil)
              · skip
                rw [if_pos (by rfl)]
                obtain ⟨v3, Y2, hr, ho, hb, hke, hob⟩ := copy_run (P := Try.prog) (ty := 23) Try.underlying23 hi0 hz0 hz1 hz2 rfl (by decide) HB.out ZR.out.own ZO.out E0.out.1 E0.out.2 (by unfold maxLen; omega) (by omega)
                refine wp_app _ _ rfl rfl rfl hr ?_
                refine hK.out _ _ hb (fun hS0 => ?_)
                clear hK K hr
                have C3 := Lib.hid ho
                have HB := Lib.hid hb
                clear ho hb hke hob E0
                refine wpAnyH_ready (rs := [5]) (by kernel_rfl) (by simp) ?_
                refine AllReadyH.cons rfl (fun K hK => ?_) AllReadyH.nil
                go_simp
                refine hK.out _ _ (HB.out.alloc HB.out.size (.cells #[.int .i64 (pn.x.kind : Int), .int .i64 pn.x.rune, .int .i64 pn.x.to, .slice pn.xa pn.xn pn.xc, .int .i64 pn.x.min, .int .i64 pn.x.max, .bool pn.x.lazy, .bool pn.x.not, .int .i64 (pn.x.group : Int), .string ⟨pn.x.name.toArray⟩] 25)) (fun hS0 => ?_)
                clear hK K
                have F5 := Lib.hid (Go.heap_alloc_new Y2 (.cells #[.int .i64 (pn.x.kind : Int), .int .i64 pn.x.rune, .int .i64 pn.x.to, .slice pn.xa pn.xn pn.xc, .int .i64 pn.x.min, .int .i64 pn.x.max, .bool pn.x.lazy, .bool pn.x.not, .int .i64 (pn.x.group : Int), .string ⟨pn.x.name.toArray⟩] 25))
                have C3 := Lib.hid (rowns_below C3.out ((Below.refl _ Y2).alloc (Nat.le_refl _) (.cells #[.int .i64 (pn.x.kind : Int), .int .i64 pn.x.rune, .int .i64 pn.x.to, .slice pn.xa pn.xn pn.xc, .int .i64 pn.x.min, .int .i64 pn.x.max, .bool pn.x.lazy, .bool pn.x.not, .int .i64 (pn.x.group : Int), .string ⟨pn.x.name.toArray⟩] 25)))
                have HB := Lib.hid (HB.out.alloc HB.out.size (.cells #[.int .i64 (pn.x.kind : Int), .int .i64 pn.x.rune, .int .i64 pn.x.to, .slice pn.xa pn.xn pn.xc, .int .i64 pn.x.min, .int .i64 pn.x.max, .bool pn.x.lazy, .bool pn.x.not, .int .i64 (pn.x.group : Int), .string ⟨pn.x.name.toArray⟩] 25))
                generalize Y2.alloc (.cells #[.int .i64 (pn.x.kind : Int), .int .i64 pn.x.rune, .int .i64 pn.x.to, .slice pn.xa pn.xn pn.xc, .int .i64 pn.x.min, .int .i64 pn.x.max, .bool pn.x.lazy, .bool pn.x.not, .int .i64 (pn.x.group : Int), .string ⟨pn.x.name.toArray⟩] 25) = Y3 at *
                refine wpAnyH_ready (rs := [6]) (by kernel_rfl) (by simp) ?_
                refine AllReadyH.cons rfl (fun K hK => ?_) AllReadyH.nil
                rw [if_pos (by rfl)]
                obtain ⟨v6, Y4, hr, ho, hb⟩ := push_run (P := Try.prog) (ty := 23) Try.underlying23 hi0 hz0 hz1 hz2 rfl (by decide) HB.out C3.out F5.out rfl HYO.out (by unfold maxLen; omega) (by omega)
                refine wp_app _ _ rfl rfl rfl hr ?_
                refine hK.out _ _ hb (fun hS0 => ?_)
                clear hK K hr
                have C6 := Lib.hid ho
                have HB := Lib.hid hb
                clear ho hb C3 F5
                refine wpAnyH_ready (rs := [7]) (by kernel_rfl) (by simp) ?_
                refine AllReadyH.cons rfl (fun K hK => ?_) AllReadyH.nil
                go_simp
                refine hK.out _ _ HB.out (fun hS0 => ?_)
                clear hK K hS0
                refine wpAnyH_done (by kernel_rfl) ?_ _
                have HR := Lib.hid (ZR.out.pushed HP5.out.size C6.out)
                have H9 := Lib.hid (HP5.out.call HB.out)
                have HT9 := Lib.hid (HTZ7.out.below HB.out)
                have HX9 := Lib.hid (KX.off HTX7.out.2 (OffP.call HB.out))
                have HV9 := Lib.hid (HV7.out.below HB.out)
                go_wp2_with fail
                go_roundg (f + 1)
                case measure => omega
                case rel =>
                  refine ⟨pn, zs ++ [(pn.x, .slice pn.xa pn.xn pn.xc)], H9.out, HR.out, by simp; omega, .inl ⟨s2, f, Nat.le_refl _, HV9.out, hd2, by omega, by simp; omega, ?_, by show _ = _; rw [HST.out]; simp [HXS.out.1]⟩⟩
                  exact ZV.snoc HT9.out (by rw [HXS.out.1]; exact HX9.out)
              · skip
                go_simp
                refine hK.out _ _ (HB.out.alloc HB.out.size (.cells #[.int .i64 (pn.x.kind : Int), .int .i64 pn.x.rune, .int .i64 pn.x.to, .slice pn.xa pn.xn pn.xc, .int .i64 pn.x.min, .int .i64 pn.x.max, .bool pn.x.lazy, .bool pn.x.not, .int .i64 (pn.x.group : Int), .string ⟨pn.x.name.toArray⟩] 25)) (fun hS0 => ?_)
                clear hK K
                have F5 := Lib.hid (Go.heap_alloc_new Y1 (.cells #[.int .i64 (pn.x.kind : Int), .int .i64 pn.x.rune, .int .i64 pn.x.to, .slice pn.xa pn.xn pn.xc, .int .i64 pn.x.min, .int .i64 pn.x.max, .bool pn.x.lazy, .bool pn.x.not, .int .i64 (pn.x.group : Int), .string ⟨pn.x.name.toArray⟩] 25))
                have E0 := Lib.hid (And.intro ((Below.heap_alloc Y1 (.cells #[.int .i64 (pn.x.kind : Int), .int .i64 pn.x.rune, .int .i64 pn.x.to, .slice pn.xa pn.xn pn.xc, .int .i64 pn.x.min, .int .i64 pn.x.max, .bool pn.x.lazy, .bool pn.x.not, .int .i64 (pn.x.group : Int), .string ⟨pn.x.name.toArray⟩] 25) _ (Array.getElem?_eq_some_iff.1 E0.out.1).1).trans E0.out.1) E0.out.2)
                have HB := Lib.hid (HB.out.alloc HB.out.size (.cells #[.int .i64 (pn.x.kind : Int), .int .i64 pn.x.rune, .int .i64 pn.x.to, .slice pn.xa pn.xn pn.xc, .int .i64 pn.x.min, .int .i64 pn.x.max, .bool pn.x.lazy, .bool pn.x.not, .int .i64 (pn.x.group : Int), .string ⟨pn.x.name.toArray⟩] 25))
                generalize Y1.alloc (.cells #[.int .i64 (pn.x.kind : Int), .int .i64 pn.x.rune, .int .i64 pn.x.to, .slice pn.xa pn.xn pn.xc, .int .i64 pn.x.min, .int .i64 pn.x.max, .bool pn.x.lazy, .bool pn.x.not, .int .i64 (pn.x.group : Int), .string ⟨pn.x.name.toArray⟩] 25) = Y2 at *
                refine wpAnyH_ready (rs := [2]) (by kernel_rfl) (by simp) ?_
                refine AllReadyH.cons rfl (fun K hK => ?_) AllReadyH.nil
                rw [if_pos (by rfl)]
                obtain ⟨v3, Y3, hr, ho, hb, hke, hob⟩ := copy_run (P := Try.prog) (ty := 23) Try.underlying23 hi0 hz0 hz1 hz2 rfl (by decide) HB.out ZR.out.own ZO.out E0.out.1 E0.out.2 (by unfold maxLen; omega) (by omega)
                refine wp_app _ _ rfl rfl rfl hr ?_
                refine hK.out _ _ hb (fun hS0 => ?_)
                clear hK K hr
                have C3 := Lib.hid ho
                have HB := Lib.hid hb
                have F5 := Lib.hid (hke _ _ F5.out (cells_ne F5.out E0.out.1 rfl))
                clear ho hb hke hob E0
                refine wpAnyH_ready (rs := [6]) (by kernel_rfl) (by simp) ?_
                refine AllReadyH.cons rfl (fun K hK => ?_) AllReadyH.nil
                rw [if_pos (by rfl)]
                obtain ⟨v6, Y4, hr, ho, hb⟩ := push_run (P := Try.prog) (ty := 23) Try.underlying23 hi0 hz0 hz1 hz2 rfl (by decide) HB.out C3.out F5.out rfl HYO.out (by unfold maxLen; omega) (by omega)
                refine wp_app _ _ rfl rfl rfl hr ?_
                refine hK.out _ _ hb (fun hS0 => ?_)
                clear hK K hr
                have C6 := Lib.hid ho
                have HB := Lib.hid hb
                clear ho hb C3 F5
                refine wpAnyH_ready (rs := [7]) (by kernel_rfl) (by simp) ?_
                refine AllReadyH.cons rfl (fun K hK => ?_) AllReadyH.nil
                go_simp
                refine hK.out _ _ HB.out (fun hS0 => ?_)
                clear hK K hS0
                refine wpAnyH_done (by kernel_rfl) ?_ _
                have HR := Lib.hid (ZR.out.pushed HP5.out.size C6.out)
                have H9 := Lib.hid (HP5.out.call HB.out)
                have HT9 := Lib.hid (HTZ7.out.below HB.out)
                have HX9 := Lib.hid (KX.off HTX7.out.2 (OffP.call HB.out))
                have HV9 := Lib.hid (HV7.out.below HB.out)
                go_wp2_with fail
                go_roundg (f + 1)
                case measure => omega
                case rel =>
                  refine ⟨pn, zs ++ [(pn.x, .slice pn.xa pn.xn pn.xc)], H9.out, HR.out, by simp; omega, .inl ⟨s2, f, Nat.le_refl _, HV9.out, hd2, by omega, by simp; omega, ?_, by show _ = _; rw [HST.out]; simp [HXS.out.1]⟩⟩
                  exact ZV.snoc HT9.out (by rw [HXS.out.1]; exact HX9.out)
            · skip
              go_simp
              refine hK.out _ _ (HB.out.alloc HB.out.size (.cells #[.int .i64 (pn.x.kind : Int), .int .i64 pn.x.rune, .int .i64 pn.x.to, .slice pn.xa pn.xn pn.xc, .int .i64 pn.x.min, .int .i64 pn.x.max, .bool pn.x.lazy, .bool pn.x.not, .int .i64 (pn.x.group : Int), .string ⟨pn.x.name.toArray⟩] 25)) (fun hS0 => ?_)
              clear hK K
              have F5 := Lib.hid (Go.heap_alloc_new Y0 (.cells #[.int .i64 (pn.x.kind : Int), .int .i64 pn.x.rune, .int .i64 pn.x.to, .slice pn.xa pn.xn pn.xc, .int .i64 pn.x.min, .int .i64 pn.x.max, .bool pn.x.lazy, .bool pn.x.not, .int .i64 (pn.x.group : Int), .string ⟨pn.x.name.toArray⟩] 25))
              have HB := Lib.hid (HB.out.alloc HB.out.size (.cells #[.int .i64 (pn.x.kind : Int), .int .i64 pn.x.rune, .int .i64 pn.x.to, .slice pn.xa pn.xn pn.xc, .int .i64 pn.x.min, .int .i64 pn.x.max, .bool pn.x.lazy, .bool pn.x.not, .int .i64 (pn.x.group : Int), .string ⟨pn.x.name.toArray⟩] 25))
              generalize Y0.alloc (.cells #[.int .i64 (pn.x.kind : Int), .int .i64 pn.x.rune, .int .i64 pn.x.to, .slice pn.xa pn.xn pn.xc, .int .i64 pn.x.min, .int .i64 pn.x.max, .bool pn.x.lazy, .bool pn.x.not, .int .i64 (pn.x.group : Int), .string ⟨pn.x.name.toArray⟩] 25) = Y1 at *
              refine wpAnyH_ready (rs := [0]) (by kernel_rfl) (by simp) ?_
              refine AllReadyH.cons rfl (fun K hK => ?_) AllReadyH.nil
              go_simp
              refine hK.out _ _ (HB.out.alloc HB.out.size (.cells #[] 25)) (fun hS0 => ?_)
              clear hK K
              have E0 := Lib.hid (And.intro (Go.heap_alloc_new Y1 (.cells #[] 25)) HB.out.size)
              have HB := Lib.hid (HB.out.alloc HB.out.size (.cells #[] 25))
              have F5 := Lib.hid ((Below.heap_alloc Y1 (.cells #[] 25) _ (Array.getElem?_eq_some_iff.1 F5.out).1).trans F5.out)
              generalize Y1.alloc (.cells #[] 25) = Y2 at *
              refine wpAnyH_ready (rs := [2]) (by kernel_rfl) (by simp) ?_
              refine AllReadyH.cons rfl (fun K hK => ?_) AllReadyH.nil
              rw [if_pos (by rfl)]
              obtain ⟨v3, Y3, hr, ho, hb, hke, hob⟩ := copy_run (P := Try.prog) (ty := 23) Try.underlying23 hi0 hz0 hz1 hz2 rfl (by decide) HB.out ZR.out.own ZO.out E0.out.1 E0.out.2 (by unfold maxLen; omega) (by omega)
              refine wp_app _ _ rfl rfl rfl hr ?_
              refine hK.out _ _ hb (fun hS0 => ?_)
              clear hK K hr
              have C3 := Lib.hid ho
              have HB := Lib.hid hb
              have F5 := Lib.hid (hke _ _ F5.out (cells_ne F5.out E0.out.1 rfl))
              clear ho hb hke hob E0
              refine wpAnyH_ready (rs := [6]) (by kernel_rfl) (by simp) ?_
              refine AllReadyH.cons rfl (fun K hK => ?_) AllReadyH.nil
              rw [if_pos (by rfl)]
              obtain ⟨v6, Y4, hr, ho, hb⟩ := push_run (P := Try.prog) (ty := 23) Try.underlying23 hi0 hz0 hz1 hz2 rfl (by decide) HB.out C3.out F5.out rfl HYO.out (by unfold maxLen; omega) (by omega)
              refine wp_app _ _ rfl rfl rfl hr ?_
              refine hK.out _ _ hb (fun hS0 => ?_)
              clear hK K hr
              have C6 := Lib.hid ho
              have HB := Lib.hid hb
              clear ho hb C3 F5
              refine wpAnyH_ready (rs := [7]) (by kernel_rfl) (by simp) ?_
              refine AllReadyH.cons rfl (fun K hK => ?_) AllReadyH.nil
              go_simp
              refine hK.out _ _ HB.out (fun hS0 => ?_)
              clear hK K hS0
              refine wpAnyH_done (by kernel_rfl) ?_ _
              have HR := Lib.hid (ZR.out.pushed HP5.out.size C6.out)
              have H9 := Lib.hid (HP5.out.call HB.out)
              have HT9 := Lib.hid (HTZ7.out.below HB.out)
              have HX9 := Lib.hid (KX.off HTX7.out.2 (OffP.call HB.out))
              have HV9 := Lib.hid (HV7.out.below HB.out)
              go_wp2_with fail
              go_roundg (f + 1)
              case measure => omega
              case rel =>
                refine ⟨pn, zs ++ [(pn.x, .slice pn.xa pn.xn pn.xc)], H9.out, HR.out, by simp; omega, .inl ⟨s2, f, Nat.le_refl _, HV9.out, hd2, by omega, by simp; omega, ?_, by show _ = _; rw [HST.out]; simp [HXS.out.1]⟩⟩
                exact ZV.snoc HT9.out (by rw [HXS.out.1]; exact HX9.out)
    · have z16 : (pr.bad == 0) = false := by simp [hbx.ne0]
      have HE := Lib.hid (show SeqE L l w.heap.size wr (seqR L.free l rec s) pr zs from .inr ⟨a, m, hbx, hrel.out⟩)
      obtain ⟨w4, hw4⟩ : ∃ W, W = wr := ⟨_, rfl⟩
      rw [← hw4] at H3 HZ3 HE c16 ⊢
      have HPW := H3
      have HZ := HZ3
      clear hw4 hbx hrel H3 HZ3
      -- the tree is told: HE: SeqE at the world w4, HPW: the state pr there, HZ: the row there, v the row
      match zs, HZ, hzl, HE with
      | [], HZ, hzl, HE =>
        have KTO := Lib.hid (fun W => show Calls Try.prog 57 #[pAgg L pr, .agg #[.int .i64 0, .int .i64 0, .int .i64 0, .slice none 0 0, .int .i64 0, .int .i64 0, .bool false, .bool false, .int .i64 0, .string ⟨#[]⟩]] W (RetE (pAgg L (toldX pr rxNone none 0 0)) fun w' => Below W.heap.size W w') from rfTold L pr rxNone none 0 0 W)
        have HEQ := Lib.hid (show SeqE L l w.heap.size w4 (seqR L.free l rec s) pr [] from HE.out)
        clear HE HZ
        go_wp2_with (first
          | (with_reducible refine load_p (by with_reducible rfl) _ (by with_reducible rfl) w.heap.size (by first | (simp [Act.eval]; done) | simp [Act.eval, Act.put]) HPW.out ?_)
          | (go_at_call 57; (with_reducible refine (KTO.out _).mono ?_)))
        rintro e w9 ⟨rfl, hb9⟩
        have H9 := Lib.hid (HPW.out.call hb9)
        have HB9 := Lib.hid (OffP.call hb9)
        clear hb9
        go_wp2_with (first
          | (with_reducible refine store_r (by with_reducible rfl) _ _ (by with_reducible rfl) (w.heap.size + 1) (p' := toldX pr rxNone none 0 0) (by first | (simp [Act.eval]; done) | simp [Act.eval, Act.put]) (by first | (simp [Act.eval]; done) | simp [Act.eval, Act.put]) H9.out ?_))
        intro W2 h2 b2 o2
        go_wp2
        refine ret_p (k := 2) Try.results54 h2 (by first | (simp; done) | simp [Act.put]) rfl ?_
        rcases HEQ.out.off (HB9.out.trans o2) (HPT.out.below b2) with ⟨s1, h4, h5, h6⟩ | ⟨a, m, h4, h5⟩
        · rw [h5]; exact RxP.ok_of (x := rxNone) (A := none) (c := 0) h4 (KX.leaf rfl) b2
        · rw [h5]; exact RxP.bad_of h4 _ _ _ _ b2
      | [(X, kv)], HZ, hzl, HE =>
        obtain ⟨xA, xn, xc, hkv⟩ := HZ.out.form (X, kv) (List.mem_singleton.2 rfl)
        obtain rfl : kv = .slice xA xn xc := hkv
        obtain ⟨b, rfl⟩ := HZ.out.at
        have KTO := Lib.hid (fun W => rfTold L pr X xA xn xc W)
        simp only [rxAgg] at KTO
        have HEQ := Lib.hid (show SeqE L l w.heap.size w4 (seqR L.free l rec s) pr [(X, .slice xA xn xc)] from HE.out)
        have HZ1 := Lib.hid (show RowC w.heap.size w4 (.slice (some ⟨b, 0, none⟩) 1 cap) [(X, .slice xA xn xc)] from HZ.out)
        clear HE HZ
        go_upto_region 9 with fail
        refine wp_region_held_drew (S := (fun Y => PF w Y w.heap.size (w.heap.size + 1) L pr ∧ RowC w.heap.size Y (.slice (some ⟨b, 0, none⟩) 1 cap) [(X, .slice xA xn xc)])) (by kernel_rfl) ⟨HPW.out.drew, HZ1.out.off (OffP.drew _)⟩ (fun hS0 => ?_)
        refine wpAnyH_take (i := 0) (v := pAgg L pr) rfl (by kernel_rfl) (by kernel_rfl) (by kernel_rfl) (fun _ _ _ h => h) (yields_p (fun _ h => h.1) (by rfl) _ rfl rfl) hS0 ?_
        refine wpAnyH_take (i := 1) (v := Value.slice (some ⟨b, 0, none⟩) 1 cap) rfl (by kernel_rfl) (by kernel_rfl) (by kernel_rfl) (fun _ _ _ h => h) (.inl ⟨by rfl, fun _ _ => by go_simp⟩) hS0 ?_
        refine wpAnyH_take (i := 2) (v := Value.pointer (some ⟨b, 0, none⟩)) rfl (by kernel_rfl) (by kernel_rfl) (by kernel_rfl) (fun _ _ _ h => h) (.inl ⟨by rfl, fun _ _ => by go_simp⟩) hS0 ?_
        refine wpAnyH_take (i := 3) (v := rxAgg X (.slice xA xn xc)) rfl (by kernel_rfl) (by kernel_rfl) (by kernel_rfl) (fun _ _ _ h => h) (yields_xr (fun _ h => h.2.range) (by rfl) _ rfl rfl) hS0 ?_
        simp only [rxAgg]
        have HS1 := Lib.hid hS0
        have OX := Lib.hid (OffP.drew w4)
        generalize w4.drew = w5 at *
        clear hS0
        refine wpAnyH_ready (rs := [4]) (by kernel_rfl) (by simp) ?_
        refine AllReadyH.cons rfl (fun K hK => ?_) AllReadyH.nil
        go_simp
        go_at_call 57
        with_reducible refine (KTO.out _).mono ?_
        rintro e w6 ⟨rfl, hb6⟩
        try dsimp only
        refine hK.out _ _ ⟨HS1.out.1.call hb6, HS1.out.2.below hb6⟩ (fun hS0 => ?_)
        clear hK K
        have HS6 := Lib.hid hS0
        have O6 := Lib.hid (OX.out.trans (OffP.call hb6))
        clear hS0 hb6 HS1 OX
        refine wpAnyH_ready (rs := [5]) (by kernel_rfl) (by simp) ?_
        refine AllReadyH.cons rfl (fun K hK => ?_) AllReadyH.nil
        rw [if_pos (by rfl)]
        refine wp_store_r _ _ rfl rfl rfl HS6.out.1 ?_
        intro V7 h7 b7 o7 P7
        try dsimp only
        refine hK.out _ _ ⟨P7, HS6.out.2.off o7⟩ (fun hS0 => ?_)
        clear hK K
        have O7 := Lib.hid (O6.out.trans o7)
        clear hS0 o7 O6 HS6 P7
        refine wpAnyH_done (by kernel_rfl) ?_ _
        go_wp2
        refine ret_p (k := 2) Try.results54 h7 (by first | (simp; done) | simp [Act.put]) rfl ?_
        rcases HEQ.out.off O7.out (HPT.out.below b7) with ⟨s1, h4, h5, h6⟩ | ⟨a, m, h4, h5⟩
        · have hk := h6 (X, .slice xA xn xc) (List.mem_singleton.2 rfl)
          obtain ⟨A9, c9, h9⟩ := hk.slice
          injection h9 with h9 h10 h11
          obtain rfl : xn = X.kids.length := h10
          rw [h5]
          exact RxP.ok_of (x := X) h4 hk b7
        · rw [h5]; exact RxP.bad_of h4 _ _ _ _ b7
      | y1 :: y2 :: ys, HZ, hzl, HE =>
        have HEQ := Lib.hid (show SeqE L l w.heap.size w4 (seqR L.free l rec s) pr (y1 :: y2 :: ys) from HE.out)
        have hsq : seqOf ((y1 :: y2 :: ys).map Prod.fst) = rxSeq ((y1 :: y2 :: ys).map Prod.fst) := rfl
        have hm2 : 2 ≤ (y1 :: y2 :: ys).length := by simp
        clear HE
        generalize y1 :: y2 :: ys = zs at *
        have KTO := Lib.hid (fun W => show Calls Try.prog 57 #[pAgg L pr, .agg #[.int .i64 6, .int .i64 0, .int .i64 0, .slice A zs.length cap, .int .i64 0, .int .i64 0, .bool false, .bool false, .int .i64 0, .string ⟨#[]⟩]] W (RetE (pAgg L (toldX pr (rxSeq (zs.map Prod.fst)) A zs.length cap)) fun w' => Below W.heap.size W w') from rfTold L pr (rxSeq (zs.map Prod.fst)) A zs.length cap W)
        have HSQ := Lib.hid hsq
        have hlk : (rxSeq (zs.map Prod.fst)).kids.length = zs.length := by simp [rxSeq, Rx.kids]
        have HLK := Lib.hid hlk
        clear hsq hlk
        generalize zs.length = m at *
        have y0 : ((m : Int) == 0) = false := beq_false_of_ne (by omega)
        have y1 : ((m : Int) == 1) = false := beq_false_of_ne (by omega)
        go_wp2_with (first
          | (with_reducible refine load_p (by with_reducible rfl) _ (by with_reducible rfl) w.heap.size (by first | (simp [Act.eval]; done) | simp [Act.eval, Act.put]) HPW.out ?_)
          | (go_at_call 57; (with_reducible refine (KTO.out _).mono ?_)))
        rintro e w9 ⟨rfl, hb9⟩
        have H9 := Lib.hid (HPW.out.call hb9)
        have HB9 := Lib.hid (OffP.call hb9)
        clear hb9
        go_wp2_with (first
          | (with_reducible refine store_r (by with_reducible rfl) _ _ (by with_reducible rfl) (w.heap.size + 1) (p' := toldX pr (rxSeq (zs.map Prod.fst)) A m cap) (by first | (simp [Act.eval]; done) | simp [Act.eval, Act.put]) (by first | (simp [Act.eval]; done) | simp [Act.eval, Act.put]) H9.out ?_))
        intro W2 h2 b2 o2
        go_wp2
        refine ret_p (k := 2) Try.results54 h2 (by first | (simp; done) | simp [Act.put]) rfl ?_
        have ho := HB9.out.trans o2
        rcases HEQ.out.off ho (HPT.out.below b2) with ⟨s1, h4, h5, h6⟩ | ⟨a, m', h4, h5⟩
        · rw [h5, HSQ.out]
          have hk := TrZ.kids (HZ.out.off ho) h6 (t := rxSeq (zs.map Prod.fst)) rfl
          have e9 := HLK.out
          have hr := RxP.ok_of (w := w) (x := rxSeq (zs.map Prod.fst)) (A := A) (c := cap) h4 (by rw [e9]; exact hk) b2
          rw [e9] at hr
          exact hr
        · rw [h5]; exact RxP.bad_of h4 _ _ _ _ b2

end Go.Proofs.Ytoniccokohjenaa
