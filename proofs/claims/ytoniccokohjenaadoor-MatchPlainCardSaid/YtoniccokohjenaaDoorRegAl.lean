/-
  The walk of the parser's alt; a pattern within its groups (chapter 18).
-/
import Derived.Test.YtoniccokohjenaaDoorRegSq
namespace Go.Proofs.YtoniccokohjenaaDoor
open Go.RowKit

def altOfL : List Rx → Rx
  | [] => rxNone
  | x :: xs => altOf x xs
theorem alts_more {free : Bool} {l : List Int} {rec : PS → PR Rx} {f : Nat} {s s1 : PS} {x : Rx} (h : due l s.pos = 124) (hx : seqR free l rec { s with pos := s.pos + 1 } = .ok x s1) : altsR free l rec (f + 1) s = (altsR free l rec f s1).bind fun xs s => .ok (x :: xs) s := by
  rw [altsR, if_pos h, hx]; rfl
theorem alts_bad {free : Bool} {l : List Int} {rec : PS → PR Rx} {f : Nat} {s : PS} {a n : Nat} (h : due l s.pos = 124) (hx : seqR free l rec { s with pos := s.pos + 1 } = .bad a n) : altsR free l rec (f + 1) s = .bad a n := by
  rw [altsR, if_pos h, hx]; rfl
theorem alts_end {free : Bool} {l : List Int} {rec : PS → PR Rx} {f : Nat} {s : PS} (h : due l s.pos ≠ 124) : altsR free l rec (f + 1) s = .ok [] s := by
  rw [altsR, if_neg h]
theorem RowZ.lit {B : Nat} {w : World} {t : Rx} {kv : Value} (hB : B ≤ w.heap.size) (h : KX (fun q => B ≤ q) w t kv) : RowZ B (w.alloc (.cells (rxCells t kv).toArray TRx)) (.slice (some ⟨w.heap.size, 0, none⟩) 1 1) [(t, kv)] := by
  refine ⟨?_, fun z hz => ?_⟩
  · have := World.ownsRow_lit (base := B) (e := TRx) (size := 10) w (rxCells t kv).toArray 1 hB (by unfold maxLen; omega) rfl
    simpa [zCells] using this
  · obtain rfl := List.mem_singleton.1 hz
    exact h.kept fun q c z hq hh => by
      have hl := (Array.getElem?_eq_some_iff.1 hh).1
      exact ⟨(Below.heap_alloc w _ q hl).trans hh, hq, fun e => by have e : w.heap.size = q := by simpa [Value.ownBlock] using e
                                                                   omega⟩

section
variable (w0 : World) (g : Nat) (l : List Int) (free : Bool) (s : PS) (w : World) (rec : PS → PR Rx)
set_option maxHeartbeats 4000000 in
set_option maxRecDepth 100000 in
theorem rxAlt_any (hadv : ∀ s v s', rec s = .ok v s' → Adv l s s') (HR : s.deep < 50 → AltOk w0 g l free (s.deep + 1) rec) (hf : Fin1 l s) (h : PrV w0 g l free s w) :
    Calls Tryd.prog 24 #[.pointer (some ⟨g, 0, none⟩)] w (ResT w0 g l free w (altR free l rec s)) := by
  have H := Lib.hid h
  have hl := hf.len
  have hp := hf.pos
  have hsz := h.size
  have KS0 := fun (W : World) (h : PrV w0 g l free s W) => rxSeq_any w0 g l free s W rec hadv HR hf h
  clear h
  cases hsq : seqR free l rec s with
  | bad a n =>
    have HT := Lib.hid (show altR free l rec s = .bad a n by unfold altR; rw [hsq]; rfl)
    rw [hsq] at KS0
    have KS := Lib.hid (fun (W : World) (h : PrV w0 g l free s W) => show Calls Tryd.prog 32 #[.pointer (some ⟨g, 0, none⟩)] W (BdP w0 a n) from KS0 W h)
    clear KS0 hsq
    go_enter Tryd.func24, Tryd.ntmps24
    go_wp2_with (go_at_call 32; refine (KS.out _ (H.out.alloc _)).mono ?_)
    rintro e w1 ⟨rfl, hb1⟩
    unfold stopE
    go_wp2
    rw [HT.out]
    exact ⟨rfl, rfl, hb1⟩
  | ok x s1 =>
    have had := seq_adv hadv hsq
    have hf1 := hf.adv had
    have hd1 : s1.deep = s.deep := had.deep
    have hp1 := hf1.pos
    have HALT := Lib.hid (show altR free l rec s = (altsR free l rec (l.length + 1) s1).bind fun xs s => .ok (altOfL ([x] ++ xs)) s by unfold altR; rw [hsq]; rfl)
    rw [hsq] at KS0
    have KS := Lib.hid (fun (W : World) (h : PrV w0 g l free s W) => show Calls Tryd.prog 32 #[.pointer (some ⟨g, 0, none⟩)] W (OkT w0 g l free s1 W x) from KS0 W h)
    clear KS0 hsq had
    go_enter Tryd.func24, Tryd.ntmps24
    go_wp2_with (go_at_call 32; refine (KS.out _ (H.out.alloc _)).mono ?_)
    rintro e w1 ⟨kv, rfl, hx1, h1, k1⟩
    obtain ⟨A1, cap1, rfl⟩ := hx1.slice
    have hr1 := k1.at (Go.heap_alloc_new w (.cells zRx TRx)) (by omega) (by decide)
    have hs1 := k1.1
    rw [World.size_alloc] at hs1 hx1
    have H1 := Lib.hid (h1.alloc (.cells (rxCells x (.slice A1 x.kids.length cap1)).toArray TRx))
    have HZ1 := Lib.hid (RowZ.lit (by omega) hx1)
    have HK1 := Lib.hid ((((PK.refl g w).alloc (.cells zRx TRx)).trans k1).alloc (.cells (rxCells x (.slice A1 x.kids.length cap1)).toArray TRx))
    have HR1 := Lib.hid ((Below.heap_alloc w1 (.cells (rxCells x (.slice A1 x.kids.length cap1)).toArray TRx) w.heap.size (by omega)).trans hr1)
    clear h1 k1 hr1 hx1
    simp only [rxAgg]
    go_wp2
    go_loopg [3] (l.length + 1) (fun kx v wr => ∃ (s' : PS) (f : Nat) (zs : List (Rx × Value)), f ≤ kx ∧ Fin1 l s' ∧ s'.deep = s.deep ∧ l.length < f + s'.pos ∧ PrV w0 g l free s' wr ∧ PK g w wr ∧ wr.heap[w.heap.size]? = some (.cells zRx TRx (0, 0)) ∧ RowZ (w.heap.size + 1) wr v zs ∧ 1 ≤ zs.length ∧ zs.length ≤ s'.pos + 1 ∧ Hid (altR free l rec s = (altsR free l rec f s').bind fun xs s => .ok (altOfL (zs.map Prod.fst ++ xs)) s))
    case atStart =>
      exact ⟨s1, l.length + 1, [(x, .slice A1 x.kids.length cap1)], Nat.le_refl _, hf1, hd1, by omega, H1.out, HK1.out, HR1.out, HZ1.out, Nat.le_refl _, by simp, HALT⟩
    case round =>
      obtain ⟨s', f, zs, hfk, hf', hd', hfu, hv, hk, hr, hz, hz1, hzl, hrel⟩ := hrel
      have hl' := hf'.pos
      obtain ⟨f, rfl⟩ : ∃ k, f = k + 1 := ⟨f - 1, by omega⟩
      obtain ⟨A, cap, rfl⟩ := hz.slice
      have HREL := Lib.hid hrel.out
      have HV := Lib.hid hv
      have HK := Lib.hid hk
      have HR2 := Lib.hid hr
      have HZ := Lib.hid hz
      have hws := hv.size
      have hrl : w.heap.size < wr.heap.size := (Array.getElem?_eq_some_iff.1 hr).1
      clear hrel hk hr hz
      by_cases h124 : due l s'.pos = 124
      · have hlt := due_lt h124 (by decide)
        have hf2 : Fin1 l { s' with pos := s'.pos + 1 } := hf'.adv (.step h124 (by decide))
        have K124 := Lib.hid (fun (W : World) (h : PrV w0 g l free s' W) => RetE.of (rxTakes_yes w0 g l free s' s'.names W 124 hl h124 (by decide) h))
        have KS0 := fun (W : World) (h : PrV w0 g l free { s' with pos := s'.pos + 1 } W) => rxSeq_any w0 g l free { s' with pos := s'.pos + 1 } W rec hadv (by show s'.deep < 50 → AltOk w0 g l free (s'.deep + 1) rec; rw [hd']; exact HR) hf2 h
        clear hv
        cases hsq : seqR free l rec { s' with pos := s'.pos + 1 } with
        | bad a n =>
          rw [hsq] at KS0
          have HT := Lib.hid (show altR free l rec s = .bad a n by rw [HREL.out, alts_bad h124 hsq]; rfl)
          have KS := Lib.hid (fun (W : World) (h : PrV w0 g l free { s' with pos := s'.pos + 1 } W) => show Calls Tryd.prog 32 #[.pointer (some ⟨g, 0, none⟩)] W (BdP w0 a n) from KS0 W h)
          clear KS0 hsq HREL h124
          go_wp2_with (go_at_call 33; refine (K124.out _ HV.out).mono ?_)
          rintro e w3 ⟨rfl, h3, k3⟩
          have H3 := Lib.hid h3
          clear h3 k3
          go_wp2_with (go_at_call 32; refine (KS.out _ H3.out).mono ?_)
          rintro e w5 ⟨rfl, hb5⟩
          unfold stopE
          go_wp2
          rw [HT.out]
          exact ⟨rfl, rfl, hb5⟩
        | ok x s2 =>
          rw [hsq] at KS0
          have had2 := seq_adv hadv hsq
          have hf3 := hf2.adv had2
          have hp3 := had2.pos
          have hl3 := hf3.pos
          have hd3 : s2.deep = s.deep := by rw [had2.deep]; exact hd'
          have HST := Lib.hid (show altR free l rec s = (altsR free l rec f s2).bind fun xs s => .ok (altOfL ((zs ++ [(x, Value.nilIface)]).map Prod.fst ++ xs)) s by
            rw [HREL.out, alts_more h124 hsq]
            cases altsR free l rec f s2 with
            | ok v s => simp [PR.bind]
            | bad a n => rfl)
          have KS := Lib.hid (fun (W : World) (h : PrV w0 g l free { s' with pos := s'.pos + 1 } W) => show Calls Tryd.prog 32 #[.pointer (some ⟨g, 0, none⟩)] W (OkT w0 g l free s2 W x) from KS0 W h)
          have hp3' : s'.pos + 1 ≤ s2.pos := hp3
          clear KS0 hsq HREL h124 had2 hp3
          go_wp2_with (go_at_call 33; refine (K124.out _ HV.out).mono ?_)
          rintro e w4 ⟨rfl, h4, k4⟩
          have hr4 := k4.at HR2.out (by omega) (by decide)
          have HR4 := Lib.hid hr4
          have HZ4 := Lib.hid (HZ.out.pk k4 HV.out.blk)
          have HK4 := Lib.hid (HK.out.trans k4)
          have HG4 := Lib.hid h4.blk
          have hw4 := k4.1
          have H4 := Lib.hid h4
          have hw5 : w.heap.size + 1 ≤ w4.heap.size := by omega
          clear h4 k4 hr4
          go_wp2_with (go_at_call 32; refine (KS.out _ H4.out).mono ?_)
          rintro e w5 ⟨kv, rfl, hx5, h5, k5⟩
          obtain ⟨A5, cap5, rfl⟩ := hx5.slice
          have hr5 := k5.at HR4.out (by omega) (by decide)
          have HX5 := Lib.hid (KX.fresh HZ4.out hx5 hw5)
          have HZ5 := Lib.hid (HZ4.out.pk k5 HG4.out)
          have H5 := Lib.hid h5
          have HK5 := Lib.hid (HK4.out.trans k5)
          have hs5 := k5.1
          have hsz5 := h5.size
          clear h5 k5 hx5
          simp only [rxAgg]
          go_wp2_with (at_builtin; refine append_rx rfl _ _ rfl x A5 x.kids.length cap5 rfl rfl HZ5.out HX5.out (by omega) (by omega) ?_)
          intro v6 w6 hz6 hg6
          obtain ⟨A6, cap6, rfl⟩ := hz6.slice
          have hr6 := HZ5.out.others hg6 w.heap.size _ hr5 (.inl (by omega))
          have h6 := HZ5.out.prt H5.out (by omega) hg6
          have k6 := HZ5.out.pkOf HK5.out (by omega) hg6
          have HZ6 := Lib.hid hz6
          have H6 := Lib.hid h6
          have HK6 := Lib.hid k6
          have HR6 := Lib.hid hr6
          clear hz6 hg6 h6 k6 hr6 hr5
          go_wp2_with fail
          go_roundg f
          case measure => omega
          case rel => exact ⟨s2, f, zs ++ [(x, .slice A5 x.kids.length cap5)], Nat.le_refl _, hf3, hd3, by omega, H6.out, HK6.out, HR6.out, HZ6.out, by simp, by simp; omega, by show _ = _; rw [HST.out]; simp⟩
      · have HT := Lib.hid (show altR free l rec s = .ok (altOfL (zs.map Prod.fst)) s' by rw [HREL.out, alts_end h124]; simp [PR.bind])
        have K124 := Lib.hid (fun (W : World) (h : PrV w0 g l free s' W) => RetE.of (rxTakes_no w0 g l free s' s'.names W 124 (by omega) hl h124 h))
        clear HREL h124 hv
        go_wp2_with (go_at_call 33; refine (K124.out _ HV.out).mono ?_)
        rintro e w4 ⟨rfl, h4, k4⟩
        have hr4 := k4.at HR2.out (by omega) (by decide)
        have HZ4 := Lib.hid (HZ.out.pk k4 HV.out.blk)
        have HK4 := Lib.hid (HK.out.trans k4)
        have HV4 := Lib.hid h4
        have hr9 : ∃ c, w4.heap[w.heap.size]? = some (.cells c TRx (0, 0)) ∧ c.size = 10 := ⟨_, hr4, rfl⟩
        clear h4 k4
        match zs, HZ4, hzl, hz1, HT with
        | [z], HZ4, hzl, hz1, HT =>
          obtain ⟨t, kv⟩ := z
          obtain ⟨b, cap9, hv9, hb0, hrg⟩ := HZ4.out.range
          injection hv9 with hA _ hcap
          subst hA
          have hkx : KX (fun q => w.heap.size + 1 ≤ q) w4 t kv := (HZ4.out.trees (t, kv) (List.mem_singleton.2 rfl)).kept fun _ _ _ hq hh => ⟨hh, hq.1⟩
          obtain ⟨A7, cap7, rfl⟩ := hkx.slice
          have HKX := Lib.hid hkx
          have HT := Lib.hid (show altR free l rec s = .ok t s' from HT.out)
          clear hkx hcap
          go_wp2_with (first | (with_reducible refine load_rxR (by with_reducible rfl) _ (by with_reducible rfl) b (rxCells t (.slice A7 t.kids.length cap7)) (by simp [Act.eval]) hrg (rx_len _ _) ?_; simp only [rxCells]) | (with_reducible refine store_rx (by with_reducible rfl) _ _ (by with_reducible rfl) w.heap.size (rxCells t (.slice A7 t.kids.length cap7)) (by simp [Act.eval, Act.put]) (by simp [Act.eval, Act.put, rxCells]) hr9 (rx_len _ _) (rx_one _ _ _ _) ?_; intro w9 hw9))
          obtain rfl := hw9.out
          refine ret_rx Tryd.results24 (setCells_whole (vs := rxCells t (.slice A7 t.kids.length cap7)) hr4 rfl) (rx_len _ _) (by simp [Act.put]) rfl ?_
          rw [HT.out]
          exact ⟨.slice A7 t.kids.length cap7, rfl, KX.weak (B := w.heap.size + 1) (KX.setRx HKX.out (by omega) 0 _) (by omega), HV4.out.setRx hr4 (by omega) 0 _, HK4.out.setRx (Nat.le_refl _) 0 _⟩
        | a :: b :: r, HZ4, hzl, hz1, HT =>
          have HT := Lib.hid (show altR free l rec s = .ok (rxAlt ((a :: b :: r).map Prod.fst)) s' from HT.out)
          have hm2 : 2 ≤ (a :: b :: r).length := by simp
          generalize hzz : a :: b :: r = zs at *
          generalize zs.length = m at *
          have y1 : ((m : Int) == 1) = false := beq_false_of_ne (by omega)
          clear hzz
          go_wp2_with (with_reducible refine store_rx (by with_reducible rfl) _ _ (by with_reducible rfl) w.heap.size (rxCells (rxAlt (zs.map Prod.fst)) (.slice A m cap)) (by simp [Act.eval]) (by simp [Act.eval, rxCells, rxAlt, Rx.kind, Rx.rune, Rx.to, Rx.min, Rx.max, Rx.lazy, Rx.not, Rx.group, Rx.name]) hr9 (rx_len _ _) (rx_one _ _ _ _) ?_; intro w9 hw9)
          obtain rfl := hw9.out
          refine ret_rx Tryd.results24 (setCells_whole (vs := rxCells (rxAlt (zs.map Prod.fst)) (.slice A m cap)) hr4 rfl) (rx_len _ _) (by simp [Act.put]) rfl ?_
          rw [HT.out]
          exact ⟨.slice A m cap, rfl, (HZ4.out.setRxLow (by omega) 0 _).kids (by omega) (by simp [rxAlt, Rx.kids]), HV4.out.setRx hr4 (by omega) 0 _, HK4.out.setRx (Nat.le_refl _) 0 _⟩
end

/-- alt within so many groups -/
theorem rxAltF (w0 : World) (g : Nat) (l : List Int) (free : Bool) : ∀ (n d : Nat), d + n = 51 → AltOk w0 g l free d (altF free l n)
  | 0, d, h => fun s W hf hd hv => absurd hf.deep (by omega)
  | n + 1, d, h => fun s W hf hd hv => rxAlt_any w0 g l free s W (altF free l n) (fun s v s' hh => altF_adv n s s' v hh) (fun _ => by rw [hd]; exact rxAltF w0 g l free n (d + 1) (by omega)) hf hv

end Go.Proofs.YtoniccokohjenaaDoor
