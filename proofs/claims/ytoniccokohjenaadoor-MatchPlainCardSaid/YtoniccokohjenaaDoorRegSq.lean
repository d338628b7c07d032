/-
  The walk of the parser's seq (chapter 18).
-/
import Derived.Test.YtoniccokohjenaaDoorRegPt
namespace Go.Proofs.YtoniccokohjenaaDoor
open Go.RowKit

theorem parts_more {free : Bool} {l : List Int} {rec : PS → PR Rx} {f : Nat} {s s1 : PS} {x : Rx} (h : s.pos < l.length ∧ due l s.pos ≠ 124 ∧ due l s.pos ≠ 41) (hx : partR free l rec s = .ok x s1) : partsR free l rec (f + 1) s = (partsR free l rec f (skipS' free l s1)).bind fun xs s => .ok (x :: xs) s := by
  rw [partsR, if_pos h, hx]; rfl
theorem parts_bad {free : Bool} {l : List Int} {rec : PS → PR Rx} {f : Nat} {s : PS} {a n : Nat} (h : s.pos < l.length ∧ due l s.pos ≠ 124 ∧ due l s.pos ≠ 41) (hx : partR free l rec s = .bad a n) : partsR free l rec (f + 1) s = .bad a n := by
  rw [partsR, if_pos h, hx]; rfl
theorem parts_end {free : Bool} {l : List Int} {rec : PS → PR Rx} {f : Nat} {s : PS} (h : ¬ (s.pos < l.length ∧ due l s.pos ≠ 124 ∧ due l s.pos ≠ 41)) : partsR free l rec (f + 1) s = .ok [] s := by
  rw [partsR, if_neg h]

section
variable (w0 : World) (g : Nat) (l : List Int) (free : Bool) (s : PS) (w : World) (rec : PS → PR Rx)
set_option maxHeartbeats 4000000 in
set_option maxRecDepth 100000 in
theorem rxSeq_any (hadv : ∀ s v s', rec s = .ok v s' → Adv l s s') (HR : s.deep < 50 → AltOk w0 g l free (s.deep + 1) rec) (hf : Fin1 l s) (h : PrV w0 g l free s w) :
    Calls Tryd.prog 32 #[.pointer (some ⟨g, 0, none⟩)] w (ResT w0 g l free w (seqR free l rec s)) := by
  have H := Lib.hid h
  have hl := hf.len
  have hp := hf.pos
  have hsz := h.size
  have hf0 := hf.adv (skip_adv (free := free) s)
  have hd0 : (skipS' free l s).deep = s.deep := rfl
  have hseq : seqR free l rec s = (partsR free l rec (l.length + 1) (skipS' free l s)).bind fun xs s => .ok (seqOf xs) s := rfl
  have HSEQ := Lib.hid hseq
  clear hseq
  have KSK := Lib.hid (fun (W : World) (h : PrV w0 g l free s W) => rxSkipV w0 g l free s W hp hl h)
  clear h
  generalize skipS' free l s = s0 at *
  go_enter Tryd.func32, Tryd.ntmps32
  go_wp2_with (go_at_call 40; refine (KSK.out _ (H.out.alloc _)).mono ?_)
  rintro e w1 ⟨rfl, h1, k1⟩
  have hr1 := k1.at (Go.heap_alloc_new w (.cells zRx TRx)) (by omega) (by decide)
  have H1 := Lib.hid h1
  have HK1 := Lib.hid (((PK.refl g w).alloc (.cells zRx TRx)).trans k1)
  have HR1 := Lib.hid hr1
  clear h1 k1 hr1
  go_wp2
  go_loopg [3] (l.length + 1) (fun kx v wr => ∃ (s' : PS) (f : Nat) (zs : List (Rx × Value)), f ≤ kx ∧ Fin1 l s' ∧ s'.deep = s.deep ∧ l.length < f + s'.pos ∧ PrV w0 g l free s' wr ∧ PK g w wr ∧ wr.heap[w.heap.size]? = some (.cells zRx TRx (0, 0)) ∧ RowZ (w.heap.size + 1) wr v zs ∧ zs.length ≤ s'.pos ∧ Hid (seqR free l rec s = (partsR free l rec f s').bind fun xs s => .ok (seqOf (zs.map Prod.fst ++ xs)) s))
  case atStart =>
    exact ⟨s0, l.length + 1, [], Nat.le_refl _, hf0, hd0, by omega, H1.out, HK1.out, HR1.out, RowZ.nil _ _, Nat.zero_le _, HSEQ.out⟩
  case round =>
    obtain ⟨s', f, zs, hfk, hf', hd', hfu, hv, hk, hr, hz, hzl, hrel⟩ := hrel
    have hl' := hf'.pos
    obtain ⟨f, rfl⟩ : ∃ k, f = k + 1 := ⟨f - 1, by omega⟩
    obtain ⟨A, cap, rfl⟩ := hz.slice
    have HREL := Lib.hid hrel.out
    have HV := Lib.hid hv
    have HK := Lib.hid hk
    have HR2 := Lib.hid hr
    have HZ := Lib.hid hz
    have hpo := hv.pos_of
    have hgb := hv.blk
    have hws := hv.size
    have c1 := hv.c1
    obtain ⟨A0, cap0, c0, hRd⟩ := hv.c0
    have hrl : w.heap.size < wr.heap.size := (Array.getElem?_eq_some_iff.1 hr).1
    have KQ := rxDueQ w0 g l free s' wr s'.names (by omega) hl hv
    obtain ⟨cnd, hcnd⟩ : ∃ c, c = decide (s'.pos < l.length ∧ due l s'.pos ≠ 124 ∧ due l s'.pos ≠ 41) := ⟨_, rfl⟩
    have HC := Lib.hid hcnd
    clear hrel hv hk hr hz hcnd hRd
    go_upto_region 3 with fail
    go_cut [25] from 6 to 32 (fun t wx => t = .bool cnd ∧ ∃ m, wx = wr.drewN m)
    case first =>
      by_cases h1 : s'.pos < l.length
      · have z1 : decide ((s'.pos : Int) < (l.length : Int)) = true := decide_eq_true (by omega)
        by_cases h2 : due l s'.pos = 124
        · have hcc : cnd = false := by rw [HC.out, h2]; simp
          have HCC := Lib.hid hcc
          rw [h2] at KQ
          have KQ := Lib.hid KQ
          clear h2 hcc
          go_quiet (with_reducible exact KQ.out _)
          go_wp2_with fail
          go_meet
          exact ⟨by rw [HCC.out], _, rfl⟩
        · by_cases h3 : due l s'.pos = 41
          · have hcc : cnd = false := by rw [HC.out, h3]; simp
            have HCC := Lib.hid hcc
            rw [h3] at KQ
            have KQ := Lib.hid KQ
            clear h2 h3 hcc
            go_quiet (with_reducible exact KQ.out _)
            go_wp2_with fail
            go_meet
            exact ⟨by rw [HCC.out], _, rfl⟩
          · have hcc : cnd = true := by rw [HC.out]; simp [h1, h2, h3]
            have HCC := Lib.hid hcc
            have y1 : (due l s'.pos != 124) = true := by simp [h2]
            have y2 : (due l s'.pos != 41) = true := by simp [h3]
            clear h2 h3 hcc HC
            generalize due l s'.pos = d at *
            have KQ := Lib.hid KQ
            go_quiet (with_reducible exact KQ.out _)
            go_wp2_with fail
            go_meet
            exact ⟨by rw [HCC.out], _, rfl⟩
      · have hcc : cnd = false := by rw [HC.out]; simp [h1]
        have HCC := Lib.hid hcc
        have z1 : decide ((s'.pos : Int) < (l.length : Int)) = false := decide_eq_false (by omega)
        clear hcc KQ
        go_quiet (fail)
        go_wp2_with fail
        go_meet
        exact ⟨by rw [HCC.out], _, rfl⟩
    case rest =>
      obtain ⟨rfl, m, rfl⟩ := hcut
      have hV4 := HV.out.drewN m
      have hK4 := HK.out.drewN m
      have hr4 : (wr.drewN m).heap[w.heap.size]? = some (.cells zRx TRx (0, 0)) := HR2.out
      have hz4 : RowZ (w.heap.size + 1) (wr.drewN m) (.slice A zs.length cap) zs := HZ.out.kept fun _ _ _ _ hh => hh
      have hpo4 : prPos g wr = s'.pos := hpo
      generalize hM : prPos g wr = M at *
      generalize wr.drewN m = W4 at *
      clear HV HK HR2 HZ KQ c1 c0 hpo hM
      cases cnd with
      | true =>
        have hc : s'.pos < l.length ∧ due l s'.pos ≠ 124 ∧ due l s'.pos ≠ 41 := of_decide_eq_true HC.out.symm
        have KP0 := rxPart_any w0 g l free s' W4 rec hadv hc.1 (by rw [hd']; exact HR) hf' hV4
        cases hpt : partR free l rec s' with
        | bad a n =>
          rw [hpt] at KP0
          have HT := Lib.hid (show seqR free l rec s = .bad a n by rw [HREL.out, parts_bad hc hpt]; rfl)
          have KP := Lib.hid (show Calls Tryd.prog 42 #[.pointer (some ⟨g, 0, none⟩)] W4 (BdP w0 a n) from KP0)
          clear KP0 hpt hc HREL HC hV4 hK4 hr4 hz4
          go_wp2_with (go_at_call 42; refine KP.out.mono ?_)
          rintro e w5 ⟨rfl, hb5⟩
          unfold stopE
          go_wp2
          rw [HT.out]
          exact ⟨rfl, rfl, hb5⟩
        | ok x s1 =>
          rw [hpt] at KP0
          have hpa := part_adv hadv hc.1 hpt
          have hf1 := hf'.adv hpa.1
          have hf2 := hf1.adv (skip_adv (free := free) s1)
          have hp12 := (skip_adv (free := free) (l := l) s1).pos
          have hl1 := hf1.pos
          have hlt1 := hpa.2
          have hd2 : (skipS' free l s1).deep = s.deep := by rw [← hd', ← hpa.1.deep]; rfl
          have HST := Lib.hid (show seqR free l rec s = (partsR free l rec f (skipS' free l s1)).bind fun xs s => .ok (seqOf ((zs ++ [(x, Value.nilIface)]).map Prod.fst ++ xs)) s by
            rw [HREL.out, parts_more hc hpt]
            cases partsR free l rec f (skipS' free l s1) with
            | ok v s => simp [PR.bind]
            | bad a n => rfl)
          have KP := Lib.hid (show Calls Tryd.prog 42 #[.pointer (some ⟨g, 0, none⟩)] W4 (OkT w0 g l free s1 W4 x) from KP0)
          have KSK := Lib.hid (fun (W : World) (h : PrV w0 g l free s1 W) => rxSkipV w0 g l free s1 W hl1 hl h)
          have HZ4 := Lib.hid hz4
          have HK4 := Lib.hid hK4
          have HG4 := Lib.hid hV4.blk
          have hw4 := hK4.1
          have hw5 : w.heap.size + 1 ≤ W4.heap.size := (Array.getElem?_eq_some_iff.1 hr4).1
          have HR4 := Lib.hid hr4
          clear KP0 hpt hc HREL HC hV4 hK4 hz4 hpa hr4
          generalize skipS' free l s1 = s2 at *
          go_wp2_with (go_at_call 42; refine KP.out.mono ?_)
          rintro e w5 ⟨kv, rfl, hx5, h5, k5⟩
          obtain ⟨A5, cap5, rfl⟩ := hx5.slice
          have hr5 := k5.at HR4.out (by omega) (by decide)
          have HX5 := Lib.hid (KX.fresh HZ4.out hx5 hw5)
          have HZ5 := Lib.hid (HZ4.out.pk k5 HG4.out)
          have H5 := Lib.hid h5
          have HK5 := Lib.hid (HK4.out.trans k5)
          have hs5 := k5.1
          have hsz5 := h5.size
          clear h5 k5 hx5
          simp only [rxAgg]
          go_wp2_with (at_builtin; refine append_rx rfl _ _ rfl x A5 x.kids.length cap5 rfl rfl HZ5.out HX5.out (by omega) (by omega) ?_)
          intro v6 w6 hz6 hg6
          obtain ⟨A6, cap6, rfl⟩ := hz6.slice
          have hr6 := HZ5.out.others hg6 w.heap.size _ hr5 (.inl (by omega))
          have h6 := HZ5.out.prt H5.out (by omega) hg6
          have k6 := HZ5.out.pkOf HK5.out (by omega) hg6
          have HZ6 := Lib.hid hz6
          have H6 := Lib.hid h6
          have HK6 := Lib.hid k6
          have HG6 := Lib.hid h6.blk
          have HR6 := Lib.hid hr6
          clear hz6 hg6 h6 k6 hr6 hr5
          go_wp2_with (go_at_call 40; refine (KSK.out _ H6.out).mono ?_)
          rintro e w7 ⟨rfl, h7, k7⟩
          have hr7 := k7.at HR6.out (by omega) (by decide)
          have HZ7 := Lib.hid (HZ6.out.pk k7 HG6.out)
          have hpo7 := h7.pos_of
          have H7 := Lib.hid h7
          have HK7 := Lib.hid (HK6.out.trans k7)
          clear h7 k7
          go_wp2_with fail
          go_roundg f
          case measure => omega
          case rel => exact ⟨s2, f, zs ++ [(x, .slice A5 x.kids.length cap5)], Nat.le_refl _, hf2, hd2, by omega, H7.out, HK7.out, hr7, by have h9 := HZ7.out; rw [List.length_append, List.length_singleton] at h9; exact h9, by simp; omega, by show _ = _; rw [HST.out]; simp⟩
      | false =>
        have hc := of_decide_eq_false HC.out.symm
        have HT := Lib.hid (show seqR free l rec s = .ok (seqOf (zs.map Prod.fst)) s' by rw [HREL.out, parts_end hc]; simp [PR.bind])
        have HV4 := Lib.hid hV4
        have HK4 := Lib.hid hK4
        have HZ4 := Lib.hid hz4
        have hr9 : ∃ c, W4.heap[w.heap.size]? = some (.cells c TRx (0, 0)) ∧ c.size = 10 := ⟨_, hr4, rfl⟩
        clear HREL HC hc hV4 hK4 hz4
        match zs, HZ4, hzl, HT with
        | [], HZ4, hzl, HT =>
          go_wp2_with (with_reducible refine store_rx (by with_reducible rfl) _ _ (by with_reducible rfl) w.heap.size (rxCells rxNone (.slice none 0 0)) (by simp [Act.eval]) (by simp [Act.eval, rxCells, rxNone, Rx.kind, Rx.rune, Rx.to, Rx.min, Rx.max, Rx.lazy, Rx.not, Rx.group, Rx.name]) hr9 (rx_len _ _) (rx_one _ _ _ _) ?_; intro w9 hw9)
          obtain rfl := hw9.out
          refine ret_rx Tryd.results32 (setCells_whole (vs := rxCells rxNone (.slice none 0 0)) hr4 rfl) (rx_len _ _) (by simp [Act.put]) rfl ?_
          rw [HT.out]
          exact ⟨.slice none 0 0, rfl, KX.leaf rfl, HV4.out.setRx hr4 (by omega) 0 _, HK4.out.setRx (Nat.le_refl _) 0 _⟩
        | [z], HZ4, hzl, HT =>
          obtain ⟨t, kv⟩ := z
          obtain ⟨b, cap9, hv9, hb0, hrg⟩ := HZ4.out.range
          injection hv9 with hA _ hcap
          subst hA
          have hkx : KX (fun q => w.heap.size + 1 ≤ q) W4 t kv := (HZ4.out.trees (t, kv) (List.mem_singleton.2 rfl)).kept fun _ _ _ hq hh => ⟨hh, hq.1⟩
          obtain ⟨A7, cap7, rfl⟩ := hkx.slice
          have HKX := Lib.hid hkx
          have HT := Lib.hid (show seqR free l rec s = .ok t s' from HT.out)
          clear hkx hcap
          go_wp2_with (first | (with_reducible refine load_rxR (by with_reducible rfl) _ (by with_reducible rfl) b (rxCells t (.slice A7 t.kids.length cap7)) (by simp [Act.eval]) hrg (rx_len _ _) ?_; simp only [rxCells]) | (with_reducible refine store_rx (by with_reducible rfl) _ _ (by with_reducible rfl) w.heap.size (rxCells t (.slice A7 t.kids.length cap7)) (by simp [Act.eval, Act.put]) (by simp [Act.eval, Act.put, rxCells]) hr9 (rx_len _ _) (rx_one _ _ _ _) ?_; intro w9 hw9))
          obtain rfl := hw9.out
          refine ret_rx Tryd.results32 (setCells_whole (vs := rxCells t (.slice A7 t.kids.length cap7)) hr4 rfl) (rx_len _ _) (by simp [Act.put]) rfl ?_
          rw [HT.out]
          exact ⟨.slice A7 t.kids.length cap7, rfl, KX.weak (B := w.heap.size + 1) (KX.setRx HKX.out (by omega) 0 _) (by omega), HV4.out.setRx hr4 (by omega) 0 _, HK4.out.setRx (Nat.le_refl _) 0 _⟩
        | a :: b :: r, HZ4, hzl, HT =>
          have HT := Lib.hid (show seqR free l rec s = .ok (rxSeq ((a :: b :: r).map Prod.fst)) s' from HT.out)
          have hm2 : 2 ≤ (a :: b :: r).length := by simp
          generalize hzz : a :: b :: r = zs at *
          generalize zs.length = m at *
          have y0 : ((m : Int) == 0) = false := beq_false_of_ne (by omega)
          have y1 : ((m : Int) == 1) = false := beq_false_of_ne (by omega)
          clear hzz
          go_wp2_with (with_reducible refine store_rx (by with_reducible rfl) _ _ (by with_reducible rfl) w.heap.size (rxCells (rxSeq (zs.map Prod.fst)) (.slice A m cap)) (by simp [Act.eval]) (by simp [Act.eval, rxCells, rxSeq, Rx.kind, Rx.rune, Rx.to, Rx.min, Rx.max, Rx.lazy, Rx.not, Rx.group, Rx.name]) hr9 (rx_len _ _) (rx_one _ _ _ _) ?_; intro w9 hw9)
          obtain rfl := hw9.out
          refine ret_rx Tryd.results32 (setCells_whole (vs := rxCells (rxSeq (zs.map Prod.fst)) (.slice A m cap)) hr4 rfl) (rx_len _ _) (by simp [Act.put]) rfl ?_
          rw [HT.out]
          exact ⟨.slice A m cap, rfl, (HZ4.out.setRxLow (by omega) 0 _).kids (by omega) (by simp [rxSeq, Rx.kids]), HV4.out.setRx hr4 (by omega) 0 _, HK4.out.setRx (Nat.le_refl _) 0 _⟩
end

end Go.Proofs.YtoniccokohjenaaDoor
