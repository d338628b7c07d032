/-
  The walk of the parser's group (chapter 18).
-/
import Derived.Test.YtoniccokohjenaaDoorRegW
namespace Go.Proofs.YtoniccokohjenaaDoor
open Go.RowKit

/-- what alt does, with so many groups around -/
def AltOk (w0 : World) (g : Nat) (l : List Int) (free : Bool) (d : Nat) (rec : PS → PR Rx) : Prop := ∀ (s : PS) (W : World), Fin1 l s → s.deep = d → PrV w0 g l free s W →
  Calls Tryd.prog 24 #[.pointer (some ⟨g, 0, none⟩)] W (ResT w0 g l free W (rec s))

theorem infoStr : (Tryd.prog.info? 9).map (fun i => (i.zero, i.size, i.bytes)) = some (some (.string ⟨#[]⟩), 1, 16) := by kernel_rfl
section
variable {w0 w w' : World} {g : Nat} {l : List Int} {free : Bool} {s : PS} {tk : List (List UInt8)}
theorem PrT.c4 (h : PrT w0 g l free s tk w) : ∃ nv, w.cell? ⟨g, 4, none⟩ = some nv ∧ w.ownsRow w0.heap.size 9 1 nv s.names.length (strCells s.names) ∧ ∃ A cap, nv = .slice A s.names.length cap := by
  obtain ⟨h1, h2, Lv, nv, mb, D, hh, hL, hn, hmb, hm, hD⟩ := h
  exact ⟨nv, by rw [Lib.cell_of_heap hh]; rfl, hn, rowns_slice hn⟩
/-- a name more -/
theorem PrT.grows (h : PrT w0 g l free s tk w) {nv : Value} (hnv : w.cell? ⟨g, 4, none⟩ = some nv) {o : Obj} {w5 : World} (hg : (w.alloc o).grownBy w5 nv.ownBlock) :
    w5.cell? ⟨g, 4, none⟩ = some nv ∧ w5.frozen? ⟨g, 4, none⟩ = false ∧ PK g w w5 ∧ ∀ (v5 : Value) (n : List UInt8) (tk' : List (List UInt8)), tk.length ≤ tk'.length → (∀ x : List UInt8, x ≠ [] → (x ∈ tk' ↔ x ∈ tk)) → w5.ownsRow w0.heap.size 9 1 v5 (s.names.length + 1) (strCells s.names ++ [Value.string ⟨n.toArray⟩]) →
      PrT w0 g l free { s with names := s.names ++ [n] } tk' (w5.setCell ⟨g, 4, none⟩ v5) := by
  obtain ⟨h1, h2, Lv, nv', mb, D, hh, hL, hn, hmb, hm, hD⟩ := h
  have e : nv' = nv := by rw [Lib.cell_of_heap hh] at hnv; exact Option.some.inj hnv
  subst e
  have hlt : g < w.heap.size := (Array.getElem?_eq_some_iff.1 hh).1
  have hk := rrow_kind hn
  have hold : ∀ (k : Nat) (ob : Obj), w.heap[k]? = some ob → (∀ c z, ob ≠ .cells c 9 z) → w5.heap[k]? = some ob := fun k ob hko hne => by
    have hl := (Array.getElem?_eq_some_iff.1 hko).1
    rw [hg.block k (by rw [World.size_alloc]; omega) (fun e => ?_), Below.heap_alloc w o k hl]
    · exact hko
    · obtain ⟨_, _, c, z, hc⟩ := hk k e.symm
      rw [hko] at hc; injection hc with hc; exact hne _ _ hc
  have h5 := hold g _ hh (fun c z e => by injection e with _ e _; exact absurd e (by decide))
  refine ⟨by rw [Lib.cell_of_heap h5]; rfl, Lib.frozen_of_heap h5 4, ⟨by have := hg.size; rw [World.size_alloc] at this; omega, fun k c T z hkc h3 h4 => hold k _ hkc (fun c' z' e => by injection e with _ e _; exact h4 e)⟩, fun v5 n tk' hlen hmem ho5 => ?_⟩
  have hb5 : Below w0.heap.size w0 w5 := (h1.alloc h1.size o).grown hg (by rw [World.size_alloc]; have := h1.size; omega) (fun k hk2 => (hk k hk2).1)
  rw [strCells_snoc] at ho5
  refine ⟨hb5.setCell (p := ⟨g, 4, none⟩) h2 _, h2, Lv, v5, mb, D, rheap_set h5 v5, rowns_far (rowns_block hL fun k c z _ hkc => hold k _ hkc (fun c' z' e => by injection e with _ e _; exact absurd e (by decide))) h5 (by decide) _, ?_, hmb, ?_, hD.1, fun x hx => ?_⟩
  · show World.ownsRow _ _ _ _ _ (s.names ++ [n]).length _
    rw [List.length_append]
    exact rowns_far ho5 h5 (by decide) _
  · obtain ⟨es, cl, hx, hF, hs, hDD⟩ := hm
    refine ⟨es, cl, ?_, hF, Nat.le_trans hs hlen, hDD⟩
    rw [rheap_far (fun e => ?_)]
    · exact hold mb _ hx (fun c z e => by cases e)
    · have e : g = mb := e
      subst e; rw [hh] at hx; cases hx
  · rw [hD.2 x hx]
    simp only [hmem x hx]
end
theorem KX.one {F : Nat → Prop} {w : World} {g cap : Nat} {t : Rx} {kv : Value} {z : Nat × Nat} (hh : w.heap[g]? = some (.cells (rxCells t kv).toArray TRx z)) (h : KX F w t kv) (hg : F g) {x : Rx} (hx : x.kids = [t]) (hcp : 1 ≤ cap ∧ cap ≤ maxLen := by decide) : KX F w x (.slice (some ⟨g, 0, none⟩) 1 cap) := by
  have hz : ZV F w [(t, kv)] := fun y hy => by obtain rfl := List.mem_singleton.1 hy; exact h
  have := ZV.kidsAt (cap := cap) hh (fun j v hj => by simpa [zCells] using hj) hz (fun q h => h) hg hcp
  unfold KX
  rw [hx]
  exact this
theorem KX.pk {F : Nat → Prop} {w w' : World} {g : Nat} {t : Rx} {kv : Value} (h : KX F w t kv) (k : PK g w w') (hg : ∃ c z, w.heap[g]? = some (.cells c PrsT z)) : KX F w' t kv :=
  h.kept fun q c z hq hh => ⟨k.2 q c TRx z hh (fun e => by
    obtain ⟨c', z', hc⟩ := hg
    subst e; rw [hh] at hc; injection hc with hc; injection hc with _ hc _; exact absurd hc (by decide)) (by decide), hq⟩
theorem KX.alloc {F : Nat → Prop} {w : World} {t : Rx} {kv : Value} (h : KX F w t kv) (o : Obj) : KX F (w.alloc o) t kv :=
  h.kept fun q _ _ hq hh => ⟨(Below.heap_alloc w o q (Array.getElem?_eq_some_iff.1 hh).1).trans hh, hq⟩
theorem KX.setRx {B r : Nat} {w : World} {t : Rx} {kv : Value} (h : KX (fun q => B ≤ q) w t kv) (hr : r < B) (o : Nat) (vs : List Value) : KX (fun q => B ≤ q) (w.setCells r o vs) t kv :=
  h.kept fun q _ _ hq hh => ⟨by rw [setCells_far r vs o w q (fun e => by omega)]; exact hh, hq⟩
theorem KX.weak {B B' : Nat} {w : World} {t : Rx} {kv : Value} (h : KX (fun q => B ≤ q) w t kv) (hB : B' ≤ B) : KX (fun q => B' ≤ q) w t kv :=
  h.kept fun _ _ _ hq hh => ⟨hh, Nat.le_trans hB hq⟩
theorem rxAgg_eq (t : Rx) (kv : Value) : rxAgg t kv = .agg (rxCells t kv).toArray := rfl
theorem news1 (W : World) (a : Value) (T : TypeId) : ∀ (j : Nat) (u : Value), [a][j]? = some u → (W.alloc (.cells #[a] T)).cell? ((⟨W.heap.size, 0, none⟩ : Addr).add j) = some u := fun j u h => by
  have hadd : (⟨W.heap.size, 0, none⟩ : Addr).add j = ⟨W.heap.size, 0 + j, none⟩ := by unfold Addr.add; split <;> simp_all
  rw [hadd, Nat.zero_add]
  refine (World.cell?_alloc_at (w := W) _ _ _ _ rfl).trans ?_
  simpa using h

section
variable (w0 : World) (g : Nat) (l : List Int) (free : Bool) (s : PS) (w : World) (rec : PS → PR Rx)
set_option maxHeartbeats 4000000 in
set_option maxRecDepth 100000 in
theorem rxGroup_any (hadv : ∀ s v s', rec s = .ok v s' → Adv l s s') (hlt : s.pos < l.length) (HR : s.deep < 50 → AltOk w0 g l free (s.deep + 1) rec) (hf : Fin1 l s) (h : PrV w0 g l free s w) :
    Calls Tryd.prog 50 #[.pointer (some ⟨g, 0, none⟩)] w (ResT w0 g l free w (groupR l rec s)) := by
  have H := Lib.hid h
  have HF := Lib.hid hf
  have hsz := h.size
  have hl := hf.len
  have ca1 : ∀ o, (w.alloc o).cell? ⟨g, 1, none⟩ = some (.int .i64 (s.pos : Int)) := fun o => (h.alloc o).c1
  have ca3 : ∀ o, (w.alloc o).cell? ⟨g, 3, none⟩ = some (.int .i64 (s.deep : Int)) := fun o => (h.alloc o).c3
  have fa1 : ∀ o, (w.alloc o).frozen? ⟨g, 1, none⟩ = false := fun o => (h.alloc o).frozen 1
  by_cases hd50 : s.deep = 50
  · have HT := Lib.hid (show groupR l rec s = .bad s.pos 6 by unfold groupR; rw [if_pos hd50])
    have z1 : ((s.deep : Int) == 50) = true := by rw [hd50]; rfl
    have hb := Lib.hid (h.alloc (.cells zRx TRx)).1
    clear h HR hd50
    go_enter Tryd.func50, Tryd.ntmps50
    go_wp2
    rw [HT.out]
    exact ⟨rfl, rfl, hb.out⟩
  · have hd49 : s.deep < 50 := by have := hf.deep; omega
    have z1 : ((s.deep : Int) == 50) = false := beq_false_of_ne (by omega)
    have hdd := hf.deep
    have HRA := Lib.hid (HR hd49)
    have cb3 : ∀ o, ((w.setCell ⟨g, 1, none⟩ (.int .i64 ((s.pos : Int) + 1))).alloc o).cell? ⟨g, 3, none⟩ = some (.int .i64 (s.deep : Int)) := fun o => ((h.put_pos (s.pos + 1)).alloc o).c3
    have fb3 : ∀ o, ((w.setCell ⟨g, 1, none⟩ (.int .i64 ((s.pos : Int) + 1))).alloc o).frozen? ⟨g, 3, none⟩ = false := fun o => ((h.put_pos (s.pos + 1)).alloc o).frozen 3
    have hgr : groupR l rec s = (headR l { s with pos := s.pos + 1, deep := s.deep + 1 }).bind fun n s' => restR l rec (n.map fun _ => s.names.length + 1) (n.getD []) s' := by unfold groupR; rw [if_neg hd50]
    have hh0 : PrV w0 g l free { s with pos := s.pos + 1, deep := s.deep + 1 } (((w.setCell ⟨g, 1, none⟩ (.int .i64 ((s.pos : Int) + 1))).setCell ⟨g, 3, none⟩ (.int .i64 ((s.deep : Int) + 1))).alloc (.cells zRx TRx)) := ((h.put_pos (s.pos + 1)).put_deep (s.deep + 1)).alloc _
    have H0 := Lib.hid hh0
    have hr0 := Go.heap_alloc_new ((w.setCell ⟨g, 1, none⟩ (.int .i64 ((s.pos : Int) + 1))).setCell ⟨g, 3, none⟩ (.int .i64 ((s.deep : Int) + 1))) (.cells zRx TRx)
    have es0 : ((w.setCell ⟨g, 1, none⟩ (.int .i64 ((s.pos : Int) + 1))).setCell ⟨g, 3, none⟩ (.int .i64 ((s.deep : Int) + 1))).heap.size = w.heap.size := by simp [World.setCell]
    rw [es0] at hr0
    have HR0 := Lib.hid hr0
    have HK0 := Lib.hid ((((PK.refl g w).setOwn 1 (.int .i64 ((s.pos : Int) + 1))).setOwn 3 (.int .i64 ((s.deep : Int) + 1))).alloc (.cells zRx TRx))
    have hf0 : s.pos + 1 ≤ l.length := hlt
    clear h HR hr0 es0 hh0 hd50
    by_cases h63 : due l (s.pos + 1) = 63
    · have hlt1 := due_lt h63 (by decide)
      have hf1 : Fin1 l { s with pos := s.pos + 2, deep := s.deep + 1 } := ⟨hlt1, by have := HF.out.names; simp only; omega, hl, by simp only; omega, HF.out.pts⟩
      have K63 := Lib.hid (fun (W : World) (h : PrV w0 g l free { s with pos := s.pos + 1, deep := s.deep + 1 } W) => RetE.of (rxTakes_yes w0 g l free { s with pos := s.pos + 1, deep := s.deep + 1 } s.names W 63 hl h63 (by decide) h))
      by_cases h58 : due l (s.pos + 2) = 58
      · have hhead : headR l { s with pos := s.pos + 1, deep := s.deep + 1 } = .ok none { s with pos := s.pos + 3, deep := s.deep + 1 } := by unfold headR; rw [if_pos h63]; exact if_pos h58
        rw [hhead] at hgr
        have HG : groupR l rec s = restR l rec none [] { s with pos := s.pos + 3, deep := s.deep + 1 } := hgr
        have hlt2 := due_lt h58 (by decide)
        have K58 := Lib.hid (fun (W : World) (h : PrV w0 g l free { s with pos := s.pos + 2, deep := s.deep + 1 } W) => RetE.of (rxTakes_yes w0 g l free { s with pos := s.pos + 2, deep := s.deep + 1 } s.names W 58 hl h58 (by decide) h))
        clear hhead hgr h63 h58
        go_enter Tryd.func50, Tryd.ntmps50
        go_wp2_with (go_at_call 33; refine (K63.out _ H0.out).mono ?_)
        rintro e w1 ⟨rfl, h1, k1⟩
        have hr1 := k1.at HR0.out (by omega) (by decide)
        have H1 := Lib.hid h1
        have HK1 := Lib.hid (HK0.out.trans k1)
        clear h1 k1
        go_wp2_with (go_at_call 33; refine (K58.out _ H1.out).mono ?_)
        rintro e w2 ⟨rfl, h2, k2⟩
        have hr2 := k2.at hr1 (by omega) (by decide)
        have H2 := Lib.hid h2
        have HK2 := Lib.hid (HK1.out.trans k2)
        clear h2 k2 hr1
        have hf2 : Fin1 l { s with pos := s.pos + 3, deep := s.deep + 1 } := ⟨hlt2, by have := HF.out.names; simp only; omega, hl, by simp only; omega, HF.out.pts⟩
        have KA := HRA.out { s with pos := s.pos + 3, deep := s.deep + 1 } _ hf2 rfl H2.out
        cases hrec : rec { s with pos := s.pos + 3, deep := s.deep + 1 } with
        | bad a n =>
          have HT := Lib.hid (show groupR l rec s = .bad a n by rw [HG]; unfold restR; rw [hrec]; rfl)
          rw [hrec] at KA
          have KA := Lib.hid (show Calls Tryd.prog 24 #[.pointer (some ⟨g, 0, none⟩)] _ (BdP w0 a n) from KA)
          clear HG hrec
          go_wp2_with (go_at_call 24; refine KA.out.mono ?_)
          rintro e w6 ⟨rfl, hb6⟩
          unfold stopE
          go_wp2
          rw [HT.out]
          exact ⟨rfl, rfl, hb6⟩
        | ok t s3 =>
          have hf3 := hf2.adv (hadv _ _ _ hrec)
          have hd3 : s3.deep = s.deep + 1 := (hadv _ _ _ hrec).deep
          have hl3 := hf3.pos
          rw [hrec] at KA
          have KA := Lib.hid (show Calls Tryd.prog 24 #[.pointer (some ⟨g, 0, none⟩)] _ (OkT w0 g l free s3 _ t) from KA)
          have hsz5 := H2.out.size
          have hlt5 : w.heap.size < (w2).heap.size := (Array.getElem?_eq_some_iff.1 hr2).1
          by_cases h41 : due l s3.pos = 41
          · have HT := Lib.hid (show groupR l rec s = .ok (t) { s3 with pos := s3.pos + 1, deep := s.deep } by rw [HG]; unfold restR; rw [hrec]; show (if due l s3.pos = 41 then _ else _) = _; rw [if_pos h41, show s3.deep - 1 = s.deep by omega])
            have K41 := Lib.hid (fun (W : World) (h : PrV w0 g l free s3 W) => RetE.of (rxTakes_yes w0 g l free s3 s3.names W 41 hl h41 (by decide) h))
            clear HG hrec h41
            go_wp2_with (go_at_call 24; refine KA.out.mono ?_)
            rintro e w6 ⟨kv, rfl, hx6, h6, k6⟩
            obtain ⟨A6, cap6, rfl⟩ := hx6.slice
            have hr6 := k6.at hr2 (by omega) (by decide)
            have H6 := Lib.hid h6
            have HK6 := Lib.hid (HK2.out.trans k6)
            have HX6 := Lib.hid hx6
            have hs6 := k6.1
            clear h6 k6 hx6
            simp only [rxAgg]
            go_wp2_with (go_at_call 33; refine (K41.out _ (H6.out.alloc _)).mono ?_)
            rintro e w7 ⟨rfl, h7, k7⟩
            have c37 := h7.c3
            have f37 := h7.frozen 3
            have hb7 := k7.at (Go.heap_alloc_new w6 (.cells (rxCells t (.slice A6 t.kids.length cap6)).toArray TRx)) (by have := H6.out.size; omega) (by decide)
            have hr7 := k7.at ((Below.heap_alloc w6 (.cells (rxCells t (.slice A6 t.kids.length cap6)).toArray TRx) w.heap.size (by omega)).trans hr6) (by omega) (by decide)
            have HX7 := Lib.hid ((HX6.out.alloc (.cells (rxCells t (.slice A6 t.kids.length cap6)).toArray TRx)).pk k7 (H6.out.alloc _).blk)
            have hs7 := k7.1
            rw [World.size_alloc] at hs7
            rw [hd3] at c37
            have H7 := Lib.hid (h7.put_deep s.deep)
            have HB7 := Lib.hid h7.blk
            have HK7 := Lib.hid (((HK6.out.alloc _).trans k7).setOwn 3 (.int .i64 (s.deep : Int)))
            have hb8 := (rheap_far (p := ⟨g, 3, none⟩) (v := .int .i64 (s.deep : Int)) (show g ≠ w6.heap.size by have := H6.out.size; omega)).trans hb7
            have hr8 := (rheap_far (p := ⟨g, 3, none⟩) (v := .int .i64 (s.deep : Int)) (show g ≠ w.heap.size by omega)).trans hr7
            have HX8 := Lib.hid (HX7.out.pk ((PK.refl g w7).setOwn 3 (.int .i64 (s.deep : Int))) HB7.out)
            have hbx : ∃ z, (w7.setCell ⟨g, 3, none⟩ (.int .i64 (s.deep : Int))).heap[w6.heap.size]? = some (.cells (rxCells t (.slice A6 t.kids.length cap6)).toArray TRx z) := ⟨_, hb8⟩
            have hrx : ∃ c, (w7.setCell ⟨g, 3, none⟩ (.int .i64 (s.deep : Int))).heap[w.heap.size]? = some (.cells c TRx (0, 0)) ∧ c.size = 10 := ⟨_, hr8, rfl⟩
            clear h7 k7
            go_wp2_with (first | (with_reducible refine load_rxL (by with_reducible rfl) _ (by with_reducible rfl) w6.heap.size (rxCells t (.slice A6 t.kids.length cap6)) (by simp [Act.eval]) hbx (rx_len _ _) ?_; simp only [rxCells]) | (with_reducible refine store_rx (by with_reducible rfl) _ _ (by with_reducible rfl) w.heap.size (rxCells t (.slice A6 t.kids.length cap6)) (by simp [Act.eval, Act.put]) (by simp [Act.eval, Act.put, rxCells]) hrx (rx_len _ _) (rx_one _ _ _ _) ?_; intro w9 hw9))
            obtain rfl := hw9.out
            refine ret_rx Tryd.results50 (setCells_whole (vs := rxCells t (.slice A6 t.kids.length cap6)) hr8 rfl) (rx_len _ _) (by simp [Act.put]) rfl ?_
            rw [HT.out]
            refine ⟨.slice A6 t.kids.length cap6, rfl, ?_, H7.out.setRx hr8 hsz.2.2 0 _, HK7.out.setRx (Nat.le_refl _) 0 _⟩
            exact KX.weak (B := w.heap.size + 1) (KX.setRx (HX8.out.weak (by omega)) (by omega) 0 _) (by omega)
          · obtain ⟨a', n', hfa, hfb⟩ := failR_to (α := Rx) (l := l) s3.pos
            have HT := Lib.hid (show groupR l rec s = .bad a' n' by rw [HG]; unfold restR; rw [hrec]; show (if due l s3.pos = 41 then _ else _) = _; rw [if_neg h41, hfb])
            have K41 := Lib.hid (fun (W : World) (h : PrV w0 g l free s3 W) => RetE.of (rxTakes_no w0 g l free s3 s3.names W 41 (by omega) hl h41 h))
            have KF := Lib.hid (fun (W : World) (h : PrV w0 g l free s3 W) => rxFailV w0 g l free s3 s3.names W s3.pos hfa h)
            clear HG hrec h41 hfa hfb
            go_wp2_with (go_at_call 24; refine KA.out.mono ?_)
            rintro e w6 ⟨kv, rfl, hx6, h6, k6⟩
            obtain ⟨A6, cap6, rfl⟩ := hx6.slice
            have H6 := Lib.hid h6
            clear h6 k6 hx6
            simp only [rxAgg]
            go_wp2_with (go_at_call 33; refine (K41.out _ (H6.out.alloc _)).mono ?_)
            rintro e w7 ⟨rfl, h7, k7⟩
            have c17 := h7.c1
            have H7 := Lib.hid h7
            clear h7 k7
            go_wp2_with (go_at_call 25; refine (KF.out _ H7.out).mono ?_)
            rintro e w8 ⟨rfl, hb8⟩
            unfold stopE
            go_wp2
            rw [HT.out]
            exact ⟨rfl, rfl, hb8⟩
      · have K58 := Lib.hid (fun (W : World) (h : PrV w0 g l free { s with pos := s.pos + 2, deep := s.deep + 1 } W) => RetE.of (rxTakes_no w0 g l free { s with pos := s.pos + 2, deep := s.deep + 1 } s.names W 58 (show s.pos + 2 ≤ 1001 by omega) hl h58 h))
        by_cases h60 : due l (s.pos + 2) = 60
        · have hlt2 := due_lt h60 (by decide)
          have hf3' : Fin1 l { s with pos := s.pos + 3, deep := s.deep + 1 } := ⟨hlt2, by have := HF.out.names; simp only; omega, hl, by simp only; omega, HF.out.pts⟩
          have hhead : headR l { s with pos := s.pos + 1, deep := s.deep + 1 } = (nameR l { s with pos := s.pos + 3, deep := s.deep + 1 }).bind fun n s => .ok (some n) { s with names := s.names ++ [n] } := by unfold headR; rw [if_pos h63]; show (if due l (s.pos + 2) = 58 then _ else _) = _; rw [if_neg h58]; exact if_pos h60
          rw [hhead] at hgr
          have K60 := Lib.hid (fun (W : World) (h : PrV w0 g l free { s with pos := s.pos + 2, deep := s.deep + 1 } W) => RetE.of (rxTakes_yes w0 g l free { s with pos := s.pos + 2, deep := s.deep + 1 } s.names W 60 hl h60 (by decide) h))
          have KN0 := fun (W : World) (h : PrV w0 g l free { s with pos := s.pos + 3, deep := s.deep + 1 } W) => rxName_any w0 g l free { s with pos := s.pos + 3, deep := s.deep + 1 } W hf3' h
          clear hhead h63 h58 h60
          cases hnr : nameR l { s with pos := s.pos + 3, deep := s.deep + 1 } with
          | bad a n =>
            rw [hnr] at hgr KN0
            have HT := Lib.hid (show groupR l rec s = .bad a n from hgr)
            have KN := Lib.hid (fun (W : World) (h : PrV w0 g l free { s with pos := s.pos + 3, deep := s.deep + 1 } W) => show Calls Tryd.prog 55 #[.pointer (some ⟨g, 0, none⟩)] W (BdP w0 a n) from KN0 W h)
            clear hgr KN0 hnr
            go_enter Tryd.func50, Tryd.ntmps50
            go_wp2_with (go_at_call 33; refine (K63.out _ H0.out).mono ?_)
            rintro e w1 ⟨rfl, h1, k1⟩
            have hr1 := k1.at HR0.out (by omega) (by decide)
            have H1 := Lib.hid h1
            have HK1 := Lib.hid (HK0.out.trans k1)
            clear h1 k1
            go_wp2_with (go_at_call 33; refine (K58.out _ H1.out).mono ?_)
            rintro e w2 ⟨rfl, h2, k2⟩
            have hr2 := k2.at hr1 (by omega) (by decide)
            have H2 := Lib.hid h2
            have HK2 := Lib.hid (HK1.out.trans k2)
            clear h2 k2 hr1
            go_wp2_with (go_at_call 33; refine (K60.out _ H2.out).mono ?_)
            rintro e w3 ⟨rfl, h3, k3⟩
            have hr3 := k3.at hr2 (by omega) (by decide)
            have H3 := Lib.hid h3
            have HK3 := Lib.hid (HK2.out.trans k3)
            clear h3 k3 hr2
            go_wp2_with (go_at_call 55; refine (KN.out _ H3.out).mono ?_)
            rintro e w4 ⟨rfl, hb4⟩
            unfold stopE
            go_wp2
            rw [HT.out]
            exact ⟨rfl, rfl, hb4⟩
          | ok n s4 =>
            rw [hnr] at hgr KN0
            obtain ⟨ha4, hp4, hn4, hne4, hni4⟩ := name_adv hnr
            have KN := Lib.hid (fun (W : World) (h : PrV w0 g l free { s with pos := s.pos + 3, deep := s.deep + 1 } W) => show Calls Tryd.prog 55 #[.pointer (some ⟨g, 0, none⟩)] W (fun e w' => e = .returned (.string ⟨n.toArray⟩) ∧ PrT w0 g l free s4 (n :: s.names) w' ∧ PK g W w') from KN0 W h)
            have hd4 : s4.deep = s.deep + 1 := ha4.deep
            have hl4 := ha4.le hf3'.pos
            have e4 : s4 = { pos := s4.pos, deep := s.deep + 1, names := s.names } := by
              cases s4
              simp only at hd4 hn4
              rw [hd4, hn4]
            generalize s4.pos = p4 at *
            subst e4
            have HG : groupR l rec s = restR l rec (some (s.names.length + 1)) n { pos := p4, deep := s.deep + 1, names := s.names ++ [n] } := hgr
            clear hgr KN0 hnr ha4 hn4 hd4
            simp only at hp4
            go_enter Tryd.func50, Tryd.ntmps50
            go_wp2_with (go_at_call 33; refine (K63.out _ H0.out).mono ?_)
            rintro e w1 ⟨rfl, h1, k1⟩
            have hr1 := k1.at HR0.out (by omega) (by decide)
            have H1 := Lib.hid h1
            have HK1 := Lib.hid (HK0.out.trans k1)
            clear h1 k1
            go_wp2_with (go_at_call 33; refine (K58.out _ H1.out).mono ?_)
            rintro e w2 ⟨rfl, h2, k2⟩
            have hr2 := k2.at hr1 (by omega) (by decide)
            have H2 := Lib.hid h2
            have HK2 := Lib.hid (HK1.out.trans k2)
            clear h2 k2 hr1
            go_wp2_with (go_at_call 33; refine (K60.out _ H2.out).mono ?_)
            rintro e w3 ⟨rfl, h3, k3⟩
            have hr3 := k3.at hr2 (by omega) (by decide)
            have H3 := Lib.hid h3
            have HK3 := Lib.hid (HK2.out.trans k3)
            clear h3 k3 hr2
            go_wp2_with (go_at_call 55; refine (KN.out _ H3.out).mono ?_)
            rintro e w4 ⟨rfl, h4, k4⟩
            obtain ⟨nv, c4, hn4, A4, cap4, rfl⟩ := h4.c4
            have hr1 := k4.at hr3 (by omega) (by decide)
            have H1 := Lib.hid h4
            have HK1 := Lib.hid (HK3.out.trans k4)
            have HO4 := Lib.hid hn4
            have C4 := Lib.hid c4
            have c4a : ∀ o, (w4.alloc o).cell? ⟨g, 4, none⟩ = some (.slice A4 s.names.length cap4) := fun o => by rw [World.cell?_alloc_past (hn := h4.size.2.1)]; exact c4
            have hns : s.names.length ≤ 1000 := by have := HF.out.names; omega
            obtain ⟨i0, hi, hz0, hz1, hz2⟩ := info_parts infoStr
            clear h4 k4 hn4
            go_wp2_with (at_builtin; refine wpList_append_own _ rfl _ _ 31 rfl w0.heap.size 9 i0 (.string ⟨#[]⟩) 1 16 Tryd.underlying31 hi hz0 hz1 hz2 rfl (by decide) _ _ _ rfl (rowns_below HO4.out ((Below.refl _ w4).alloc (Nat.le_refl _) _)) ⟨w4.heap.size, 0, none⟩ 1 1 [.string ⟨(n : List UInt8).toArray⟩] rfl rfl ?c1 ?c2 ?c3 ?c4 ?c5 ?_)
            case c1 => exact news1 w4 _ _
            case c2 => intro u hu; obtain rfl := List.mem_singleton.1 hu; rfl
            case c3 => unfold maxLen; omega
            case c4 => omega
            case c5 => have := H1.out.size.2.2; simp; omega
            intro v5 w5 hown5 hgrow5 _
            obtain ⟨e6, e7, kg, e8⟩ := H1.out.grows C4.out hgrow5
            have E8 := Lib.hid (e8 v5 n (s.names ++ [n]) (by simp) (fun x hx => by simp [or_comm]) hown5)
            have hr5 := (rheap_far (p := ⟨g, 4, none⟩) (v := v5) (show g ≠ w.heap.size by omega)).trans (kg.at hr1 (by omega) (by decide))
            have HK5 := Lib.hid ((HK1.out.trans kg).setOwn 4 v5)
            obtain ⟨A5, cap5, rfl⟩ := rowns_slice hown5
            clear e8 kg hown5 hgrow5 hr1
            have hf2 : Fin1 l { pos := p4, deep := s.deep + 1, names := s.names ++ [n] } := ⟨hl4, by have := HF.out.names; simp only [List.length_append, List.length_singleton]; omega, hl, by simp only; omega, HF.out.pts⟩
            have KA := HRA.out { pos := p4, deep := s.deep + 1, names := s.names ++ [n] } _ hf2 rfl E8.out
            cases hrec : rec { pos := p4, deep := s.deep + 1, names := s.names ++ [n] } with
            | bad a n =>
              have HT := Lib.hid (show groupR l rec s = .bad a n by rw [HG]; unfold restR; rw [hrec]; rfl)
              rw [hrec] at KA
              have KA := Lib.hid (show Calls Tryd.prog 24 #[.pointer (some ⟨g, 0, none⟩)] _ (BdP w0 a n) from KA)
              clear HG hrec
              go_wp2_with (go_at_call 24; refine KA.out.mono ?_)
              rintro e w6 ⟨rfl, hb6⟩
              unfold stopE
              go_wp2
              rw [HT.out]
              exact ⟨rfl, rfl, hb6⟩
            | ok t s3 =>
              have hf3 := hf2.adv (hadv _ _ _ hrec)
              have hd3 : s3.deep = s.deep + 1 := (hadv _ _ _ hrec).deep
              have hl3 := hf3.pos
              rw [hrec] at KA
              have KA := Lib.hid (show Calls Tryd.prog 24 #[.pointer (some ⟨g, 0, none⟩)] _ (OkT w0 g l free s3 _ t) from KA)
              have hsz5 := E8.out.size
              have hlt5 : w.heap.size < (w5.setCell ⟨g, 4, none⟩ (.slice A5 (s.names.length + 1) cap5)).heap.size := (Array.getElem?_eq_some_iff.1 hr5).1
              by_cases h41 : due l s3.pos = 41
              · have HT := Lib.hid (show groupR l rec s = .ok (rxGroup t (s.names.length + 1) n) { s3 with pos := s3.pos + 1, deep := s.deep } by rw [HG]; unfold restR; rw [hrec]; show (if due l s3.pos = 41 then _ else _) = _; rw [if_pos h41, show s3.deep - 1 = s.deep by omega])
                have K41 := Lib.hid (fun (W : World) (h : PrV w0 g l free s3 W) => RetE.of (rxTakes_yes w0 g l free s3 s3.names W 41 hl h41 (by decide) h))
                clear HG hrec h41
                go_wp2_with (go_at_call 24; refine KA.out.mono ?_)
                rintro e w6 ⟨kv, rfl, hx6, h6, k6⟩
                obtain ⟨A6, cap6, rfl⟩ := hx6.slice
                have hr6 := k6.at hr5 (by omega) (by decide)
                have H6 := Lib.hid h6
                have HK6 := Lib.hid (HK5.out.trans k6)
                have HX6 := Lib.hid hx6
                have hs6 := k6.1
                clear h6 k6 hx6
                simp only [rxAgg]
                go_wp2_with (go_at_call 33; refine (K41.out _ (H6.out.alloc _)).mono ?_)
                rintro e w7 ⟨rfl, h7, k7⟩
                have c37 := h7.c3
                have f37 := h7.frozen 3
                have hb7 := k7.at (Go.heap_alloc_new w6 (.cells (rxCells t (.slice A6 t.kids.length cap6)).toArray TRx)) (by have := H6.out.size; omega) (by decide)
                have hr7 := k7.at ((Below.heap_alloc w6 (.cells (rxCells t (.slice A6 t.kids.length cap6)).toArray TRx) w.heap.size (by omega)).trans hr6) (by omega) (by decide)
                have HX7 := Lib.hid ((HX6.out.alloc (.cells (rxCells t (.slice A6 t.kids.length cap6)).toArray TRx)).pk k7 (H6.out.alloc _).blk)
                have hs7 := k7.1
                rw [World.size_alloc] at hs7
                rw [hd3] at c37
                have H7 := Lib.hid (h7.put_deep s.deep)
                have HB7 := Lib.hid h7.blk
                have HK7 := Lib.hid (((HK6.out.alloc _).trans k7).setOwn 3 (.int .i64 (s.deep : Int)))
                have hb8 := (rheap_far (p := ⟨g, 3, none⟩) (v := .int .i64 (s.deep : Int)) (show g ≠ w6.heap.size by have := H6.out.size; omega)).trans hb7
                have hr8 := (rheap_far (p := ⟨g, 3, none⟩) (v := .int .i64 (s.deep : Int)) (show g ≠ w.heap.size by omega)).trans hr7
                have HX8 := Lib.hid (HX7.out.pk ((PK.refl g w7).setOwn 3 (.int .i64 (s.deep : Int))) HB7.out)
                have hbx : ∃ z, (w7.setCell ⟨g, 3, none⟩ (.int .i64 (s.deep : Int))).heap[w6.heap.size]? = some (.cells (rxCells t (.slice A6 t.kids.length cap6)).toArray TRx z) := ⟨_, hb8⟩
                have es8 : (w7.setCell ⟨g, 3, none⟩ (.int .i64 (s.deep : Int))).heap.size = w7.heap.size := by simp [World.setCell]
                have hrr : ∀ o : Obj, ((w7.setCell ⟨g, 3, none⟩ (.int .i64 (s.deep : Int))).alloc o).heap[w.heap.size]? = some (.cells zRx TRx (0, 0)) := fun o => (Below.heap_alloc _ o w.heap.size (by rw [es8]; omega)).trans hr8
                have hrx : ∀ o : Obj, ∃ c, ((w7.setCell ⟨g, 3, none⟩ (.int .i64 (s.deep : Int))).alloc o).heap[w.heap.size]? = some (.cells c TRx (0, 0)) ∧ c.size = 10 := fun o => ⟨_, hrr o, rfl⟩
                have hnb := Go.heap_alloc_new (w7.setCell ⟨g, 3, none⟩ (.int .i64 (s.deep : Int))) (.cells (rxCells t (.slice A6 t.kids.length cap6)).toArray TRx)
                rw [es8] at hnb
                have HRX := Lib.hid hrx
                clear h7 k7 hrx
                go_wp2_with (first | (with_reducible refine load_rxL (by with_reducible rfl) _ (by with_reducible rfl) w6.heap.size (rxCells t (.slice A6 t.kids.length cap6)) (by simp [Act.eval]) hbx (rx_len _ _) ?_; simp only [rxCells]) | (with_reducible refine store_rx (by with_reducible rfl) _ _ (by with_reducible rfl) w.heap.size (rxCells (rxGroup t (s.names.length + 1) n) (.slice (some ⟨w7.heap.size, 0, none⟩) 1 1)) (by simp [Act.eval]) (by simp [Act.eval, rxCells, rxGroup, Rx.kind, Rx.rune, Rx.to, Rx.min, Rx.max, Rx.lazy, Rx.not, Rx.group, Rx.name]) (HRX.out _) (rx_len _ _) (rx_one _ _ _ _) ?_; intro w9 hw9))
                obtain rfl := hw9.out
                refine ret_rx Tryd.results50 (setCells_whole (vs := rxCells (rxGroup t (s.names.length + 1) n) (.slice (some ⟨w7.heap.size, 0, none⟩) 1 1)) (hrr _) rfl) (rx_len _ _) (by simp [Act.put]) rfl ?_
                rw [HT.out]
                refine ⟨.slice (some ⟨w7.heap.size, 0, none⟩) 1 1, rfl, ?_, (H7.out.alloc _).setRx (hrr _) hsz.2.2 0 _, (HK7.out.alloc _).setRx (Nat.le_refl _) 0 _⟩
                exact KX.weak (B := w.heap.size + 1) (KX.setRx (KX.one hnb ((HX8.out.alloc _).weak (by omega)) (by omega) rfl) (by omega) 0 _) (by omega)
              · obtain ⟨a', n', hfa, hfb⟩ := failR_to (α := Rx) (l := l) s3.pos
                have HT := Lib.hid (show groupR l rec s = .bad a' n' by rw [HG]; unfold restR; rw [hrec]; show (if due l s3.pos = 41 then _ else _) = _; rw [if_neg h41, hfb])
                have K41 := Lib.hid (fun (W : World) (h : PrV w0 g l free s3 W) => RetE.of (rxTakes_no w0 g l free s3 s3.names W 41 (by omega) hl h41 h))
                have KF := Lib.hid (fun (W : World) (h : PrV w0 g l free s3 W) => rxFailV w0 g l free s3 s3.names W s3.pos hfa h)
                clear HG hrec h41 hfa hfb
                go_wp2_with (go_at_call 24; refine KA.out.mono ?_)
                rintro e w6 ⟨kv, rfl, hx6, h6, k6⟩
                obtain ⟨A6, cap6, rfl⟩ := hx6.slice
                have H6 := Lib.hid h6
                clear h6 k6 hx6
                simp only [rxAgg]
                go_wp2_with (go_at_call 33; refine (K41.out _ (H6.out.alloc _)).mono ?_)
                rintro e w7 ⟨rfl, h7, k7⟩
                have c17 := h7.c1
                have H7 := Lib.hid h7
                clear h7 k7
                go_wp2_with (go_at_call 25; refine (KF.out _ H7.out).mono ?_)
                rintro e w8 ⟨rfl, hb8⟩
                unfold stopE
                go_wp2
                rw [HT.out]
                exact ⟨rfl, rfl, hb8⟩
        · obtain ⟨a', n', hfa, hfb⟩ := failR_to (α := Option (List UInt8)) (l := l) (s.pos + 2)
          have hhead : headR l { s with pos := s.pos + 1, deep := s.deep + 1 } = .bad a' n' := by unfold headR; rw [if_pos h63]; show (if due l (s.pos + 2) = 58 then _ else _) = _; rw [if_neg h58]; show (if due l (s.pos + 2) = 60 then _ else _) = _; rw [if_neg h60]; exact hfb
          rw [hhead] at hgr
          have HT := Lib.hid (show groupR l rec s = .bad a' n' from hgr)
          have K60 := Lib.hid (fun (W : World) (h : PrV w0 g l free { s with pos := s.pos + 2, deep := s.deep + 1 } W) => RetE.of (rxTakes_no w0 g l free { s with pos := s.pos + 2, deep := s.deep + 1 } s.names W 60 (show s.pos + 2 ≤ 1001 by omega) hl h60 h))
          have KF := Lib.hid (fun (W : World) (h : PrV w0 g l free { s with pos := s.pos + 2, deep := s.deep + 1 } W) => rxFailV w0 g l free { s with pos := s.pos + 2, deep := s.deep + 1 } s.names W (s.pos + 2) hfa h)
          clear hhead hgr h63 h58 h60 hfa hfb
          go_enter Tryd.func50, Tryd.ntmps50
          go_wp2_with (go_at_call 33; refine (K63.out _ H0.out).mono ?_)
          rintro e w1 ⟨rfl, h1, k1⟩
          have hr1 := k1.at HR0.out (by omega) (by decide)
          have H1 := Lib.hid h1
          have HK1 := Lib.hid (HK0.out.trans k1)
          clear h1 k1
          go_wp2_with (go_at_call 33; refine (K58.out _ H1.out).mono ?_)
          rintro e w2 ⟨rfl, h2, k2⟩
          have hr2 := k2.at hr1 (by omega) (by decide)
          have H2 := Lib.hid h2
          have HK2 := Lib.hid (HK1.out.trans k2)
          clear h2 k2 hr1
          go_wp2_with (go_at_call 33; refine (K60.out _ H2.out).mono ?_)
          rintro e w3 ⟨rfl, h3, k3⟩
          have c13 := h3.c1
          have H3 := Lib.hid h3
          clear h3 k3
          go_wp2_with (go_at_call 25; refine (KF.out _ H3.out).mono ?_)
          rintro e w8 ⟨rfl, hb8⟩
          unfold stopE
          go_wp2
          rw [HT.out]
          exact ⟨rfl, rfl, hb8⟩
    · have hhead : headR l { s with pos := s.pos + 1, deep := s.deep + 1 } = .ok (some []) { pos := s.pos + 1, deep := s.deep + 1, names := s.names ++ [[]] } := by unfold headR; rw [if_neg h63]
      rw [hhead] at hgr
      have HG : groupR l rec s = restR l rec (some (s.names.length + 1)) [] { pos := s.pos + 1, deep := s.deep + 1, names := s.names ++ [[]] } := hgr
      have K63 := Lib.hid (fun (W : World) (h : PrV w0 g l free { s with pos := s.pos + 1, deep := s.deep + 1 } W) => RetE.of (rxTakes_no w0 g l free { s with pos := s.pos + 1, deep := s.deep + 1 } s.names W 63 (show s.pos + 1 ≤ 1001 by omega) hl h63 h))
      clear hhead hgr h63
      go_enter Tryd.func50, Tryd.ntmps50
      go_wp2_with (go_at_call 33; refine (K63.out _ H0.out).mono ?_)
      rintro e w1 ⟨rfl, h1, k1⟩
      obtain ⟨nv, c4, hn4, A4, cap4, rfl⟩ := h1.c4
      have hr1 := k1.at HR0.out (by omega) (by decide)
      have H1 := Lib.hid h1
      have HK1 := Lib.hid (HK0.out.trans k1)
      have HO4 := Lib.hid hn4
      have C4 := Lib.hid c4
      have c4a : ∀ o, (w1.alloc o).cell? ⟨g, 4, none⟩ = some (.slice A4 s.names.length cap4) := fun o => by rw [World.cell?_alloc_past (hn := h1.size.2.1)]; exact c4
      have hns : s.names.length ≤ 1000 := by have := HF.out.names; omega
      obtain ⟨i0, hi, hz0, hz1, hz2⟩ := info_parts infoStr
      clear h1 k1 hn4
      go_wp2_with (at_builtin; refine wpList_append_own _ rfl _ _ 31 rfl w0.heap.size 9 i0 (.string ⟨#[]⟩) 1 16 Tryd.underlying31 hi hz0 hz1 hz2 rfl (by decide) _ _ _ rfl (rowns_below HO4.out ((Below.refl _ w1).alloc (Nat.le_refl _) _)) ⟨w1.heap.size, 0, none⟩ 1 1 [.string ⟨([] : List UInt8).toArray⟩] rfl rfl ?c1 ?c2 ?c3 ?c4 ?c5 ?_)
      case c1 => exact news1 w1 _ _
      case c2 => intro u hu; obtain rfl := List.mem_singleton.1 hu; rfl
      case c3 => unfold maxLen; omega
      case c4 => omega
      case c5 => have := H1.out.size.2.2; simp; omega
      intro v5 w5 hown5 hgrow5 _
      obtain ⟨e6, e7, kg, e8⟩ := H1.out.grows C4.out hgrow5
      have E8 := Lib.hid (e8 v5 [] (s.names ++ [[]]) (by simp) (fun x hx => by simp [hx]) hown5)
      have hr5 := (rheap_far (p := ⟨g, 4, none⟩) (v := v5) (show g ≠ w.heap.size by omega)).trans (kg.at hr1 (by omega) (by decide))
      have HK5 := Lib.hid ((HK1.out.trans kg).setOwn 4 v5)
      obtain ⟨A5, cap5, rfl⟩ := rowns_slice hown5
      clear e8 kg hown5 hgrow5 hr1
      have hf2 : Fin1 l { pos := s.pos + 1, deep := s.deep + 1, names := s.names ++ [[]] } := ⟨hlt, by have := HF.out.names; simp; omega, hl, by simp only; omega, HF.out.pts⟩
      have KA := HRA.out { pos := s.pos + 1, deep := s.deep + 1, names := s.names ++ [[]] } _ hf2 rfl E8.out
      cases hrec : rec { pos := s.pos + 1, deep := s.deep + 1, names := s.names ++ [[]] } with
      | bad a n =>
        have HT := Lib.hid (show groupR l rec s = .bad a n by rw [HG]; unfold restR; rw [hrec]; rfl)
        rw [hrec] at KA
        have KA := Lib.hid (show Calls Tryd.prog 24 #[.pointer (some ⟨g, 0, none⟩)] _ (BdP w0 a n) from KA)
        clear HG hrec
        go_wp2_with (go_at_call 24; refine KA.out.mono ?_)
        rintro e w6 ⟨rfl, hb6⟩
        unfold stopE
        go_wp2
        rw [HT.out]
        exact ⟨rfl, rfl, hb6⟩
      | ok t s3 =>
        have hf3 := hf2.adv (hadv _ _ _ hrec)
        have hd3 : s3.deep = s.deep + 1 := (hadv _ _ _ hrec).deep
        have hl3 := hf3.pos
        rw [hrec] at KA
        have KA := Lib.hid (show Calls Tryd.prog 24 #[.pointer (some ⟨g, 0, none⟩)] _ (OkT w0 g l free s3 _ t) from KA)
        have hsz5 := E8.out.size
        have hlt5 : w.heap.size < (w5.setCell ⟨g, 4, none⟩ (.slice A5 (s.names.length + 1) cap5)).heap.size := (Array.getElem?_eq_some_iff.1 hr5).1
        by_cases h41 : due l s3.pos = 41
        · have HT := Lib.hid (show groupR l rec s = .ok (rxGroup t (s.names.length + 1) ([] : List UInt8)) { s3 with pos := s3.pos + 1, deep := s.deep } by rw [HG]; unfold restR; rw [hrec]; show (if due l s3.pos = 41 then _ else _) = _; rw [if_pos h41, show s3.deep - 1 = s.deep by omega])
          have K41 := Lib.hid (fun (W : World) (h : PrV w0 g l free s3 W) => RetE.of (rxTakes_yes w0 g l free s3 s3.names W 41 hl h41 (by decide) h))
          clear HG hrec h41
          go_wp2_with (go_at_call 24; refine KA.out.mono ?_)
          rintro e w6 ⟨kv, rfl, hx6, h6, k6⟩
          obtain ⟨A6, cap6, rfl⟩ := hx6.slice
          have hr6 := k6.at hr5 (by omega) (by decide)
          have H6 := Lib.hid h6
          have HK6 := Lib.hid (HK5.out.trans k6)
          have HX6 := Lib.hid hx6
          have hs6 := k6.1
          clear h6 k6 hx6
          simp only [rxAgg]
          go_wp2_with (go_at_call 33; refine (K41.out _ (H6.out.alloc _)).mono ?_)
          rintro e w7 ⟨rfl, h7, k7⟩
          have c37 := h7.c3
          have f37 := h7.frozen 3
          have hb7 := k7.at (Go.heap_alloc_new w6 (.cells (rxCells t (.slice A6 t.kids.length cap6)).toArray TRx)) (by have := H6.out.size; omega) (by decide)
          have hr7 := k7.at ((Below.heap_alloc w6 (.cells (rxCells t (.slice A6 t.kids.length cap6)).toArray TRx) w.heap.size (by omega)).trans hr6) (by omega) (by decide)
          have HX7 := Lib.hid ((HX6.out.alloc (.cells (rxCells t (.slice A6 t.kids.length cap6)).toArray TRx)).pk k7 (H6.out.alloc _).blk)
          have hs7 := k7.1
          rw [World.size_alloc] at hs7
          rw [hd3] at c37
          have H7 := Lib.hid (h7.put_deep s.deep)
          have HB7 := Lib.hid h7.blk
          have HK7 := Lib.hid (((HK6.out.alloc _).trans k7).setOwn 3 (.int .i64 (s.deep : Int)))
          have hb8 := (rheap_far (p := ⟨g, 3, none⟩) (v := .int .i64 (s.deep : Int)) (show g ≠ w6.heap.size by have := H6.out.size; omega)).trans hb7
          have hr8 := (rheap_far (p := ⟨g, 3, none⟩) (v := .int .i64 (s.deep : Int)) (show g ≠ w.heap.size by omega)).trans hr7
          have HX8 := Lib.hid (HX7.out.pk ((PK.refl g w7).setOwn 3 (.int .i64 (s.deep : Int))) HB7.out)
          have hbx : ∃ z, (w7.setCell ⟨g, 3, none⟩ (.int .i64 (s.deep : Int))).heap[w6.heap.size]? = some (.cells (rxCells t (.slice A6 t.kids.length cap6)).toArray TRx z) := ⟨_, hb8⟩
          have es8 : (w7.setCell ⟨g, 3, none⟩ (.int .i64 (s.deep : Int))).heap.size = w7.heap.size := by simp [World.setCell]
          have hrr : ∀ o : Obj, ((w7.setCell ⟨g, 3, none⟩ (.int .i64 (s.deep : Int))).alloc o).heap[w.heap.size]? = some (.cells zRx TRx (0, 0)) := fun o => (Below.heap_alloc _ o w.heap.size (by rw [es8]; omega)).trans hr8
          have hrx : ∀ o : Obj, ∃ c, ((w7.setCell ⟨g, 3, none⟩ (.int .i64 (s.deep : Int))).alloc o).heap[w.heap.size]? = some (.cells c TRx (0, 0)) ∧ c.size = 10 := fun o => ⟨_, hrr o, rfl⟩
          have hnb := Go.heap_alloc_new (w7.setCell ⟨g, 3, none⟩ (.int .i64 (s.deep : Int))) (.cells (rxCells t (.slice A6 t.kids.length cap6)).toArray TRx)
          rw [es8] at hnb
          have HRX := Lib.hid hrx
          clear h7 k7 hrx
          go_wp2_with (first | (with_reducible refine load_rxL (by with_reducible rfl) _ (by with_reducible rfl) w6.heap.size (rxCells t (.slice A6 t.kids.length cap6)) (by simp [Act.eval]) hbx (rx_len _ _) ?_; simp only [rxCells]) | (with_reducible refine store_rx (by with_reducible rfl) _ _ (by with_reducible rfl) w.heap.size (rxCells (rxGroup t (s.names.length + 1) ([] : List UInt8)) (.slice (some ⟨w7.heap.size, 0, none⟩) 1 1)) (by simp [Act.eval]) (by simp [Act.eval, rxCells, rxGroup, Rx.kind, Rx.rune, Rx.to, Rx.min, Rx.max, Rx.lazy, Rx.not, Rx.group, Rx.name]) (HRX.out _) (rx_len _ _) (rx_one _ _ _ _) ?_; intro w9 hw9))
          obtain rfl := hw9.out
          refine ret_rx Tryd.results50 (setCells_whole (vs := rxCells (rxGroup t (s.names.length + 1) ([] : List UInt8)) (.slice (some ⟨w7.heap.size, 0, none⟩) 1 1)) (hrr _) rfl) (rx_len _ _) (by simp [Act.put]) rfl ?_
          rw [HT.out]
          refine ⟨.slice (some ⟨w7.heap.size, 0, none⟩) 1 1, rfl, ?_, (H7.out.alloc _).setRx (hrr _) hsz.2.2 0 _, (HK7.out.alloc _).setRx (Nat.le_refl _) 0 _⟩
          exact KX.weak (B := w.heap.size + 1) (KX.setRx (KX.one hnb ((HX8.out.alloc _).weak (by omega)) (by omega) rfl) (by omega) 0 _) (by omega)
        · obtain ⟨a', n', hfa, hfb⟩ := failR_to (α := Rx) (l := l) s3.pos
          have HT := Lib.hid (show groupR l rec s = .bad a' n' by rw [HG]; unfold restR; rw [hrec]; show (if due l s3.pos = 41 then _ else _) = _; rw [if_neg h41, hfb])
          have K41 := Lib.hid (fun (W : World) (h : PrV w0 g l free s3 W) => RetE.of (rxTakes_no w0 g l free s3 s3.names W 41 (by omega) hl h41 h))
          have KF := Lib.hid (fun (W : World) (h : PrV w0 g l free s3 W) => rxFailV w0 g l free s3 s3.names W s3.pos hfa h)
          clear HG hrec h41 hfa hfb
          go_wp2_with (go_at_call 24; refine KA.out.mono ?_)
          rintro e w6 ⟨kv, rfl, hx6, h6, k6⟩
          obtain ⟨A6, cap6, rfl⟩ := hx6.slice
          have H6 := Lib.hid h6
          clear h6 k6 hx6
          simp only [rxAgg]
          go_wp2_with (go_at_call 33; refine (K41.out _ (H6.out.alloc _)).mono ?_)
          rintro e w7 ⟨rfl, h7, k7⟩
          have c17 := h7.c1
          have H7 := Lib.hid h7
          clear h7 k7
          go_wp2_with (go_at_call 25; refine (KF.out _ H7.out).mono ?_)
          rintro e w8 ⟨rfl, hb8⟩
          unfold stopE
          go_wp2
          rw [HT.out]
          exact ⟨rfl, rfl, hb8⟩
end
end Go.Proofs.YtoniccokohjenaaDoor
