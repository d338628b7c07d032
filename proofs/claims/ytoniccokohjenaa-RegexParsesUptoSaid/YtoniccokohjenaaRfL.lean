/-
  The walk of the reference's part (chapter 18).
-/
import Derived.Test.YtoniccokohjenaaRfK
namespace Go.Proofs.Ytoniccokohjenaa
open Go.RowKit

/-- the repeat that is made, in a block of its own: where its parts lie -/
structure RepB (w0 W : World) (b r q : Nat) (x : Rx) (mn mx : Int) (z : Bool) (kv : Value) : Prop where
  heap : W.heap[q]? = some (.cells (rxCells (rxRepeat x mn mx z) kv).toArray TRx (0, 0))
  lo : w0.heap.size ≤ q
  nb : q ≠ b
  nr : q ≠ r
section
variable {w0 W W' : World} {b r q : Nat} {x : Rx} {mn mx : Int} {z : Bool} {kv : Value} {L : LX} {p : PX}
theorem RepB.call (h : RepB w0 W b r q x mn mx z kv) (hb : Below W.heap.size W W') : RepB w0 W' b r q x mn mx z kv := ⟨heap_call h.heap hb, h.lo, h.nb, h.nr⟩
theorem RepB.off (h : RepB w0 W b r q x mn mx z kv) (ho : OffP W W') : RepB w0 W' b r q x mn mx z kv := ⟨ho _ _ _ _ (by decide) h.heap, h.lo, h.nb, h.nr⟩
theorem RepB.cell (h : RepB w0 W b r q x mn mx z kv) {j : Nat} {v : Value} (hj : (rxCells (rxRepeat x mn mx z) kv)[j]? = some v) : W.cell? ⟨q, j, none⟩ = some v := by
  rw [Lib.cell_of_heap h.heap]; simpa using hj
theorem RepB.frozen (h : RepB w0 W b r q x mn mx z kv) (j : Nat) : W.frozen? ⟨q, j, none⟩ = false := Lib.frozen_of_heap h.heap j
theorem RepB.min (h : RepB w0 W b r q x mn mx z kv) (m : Int) : RepB w0 (W.setCell ⟨q, 4, none⟩ (.int .i64 m)) b r q x m mx z kv := ⟨lheap_set h.heap rfl, h.lo, h.nb, h.nr⟩
theorem RepB.max (h : RepB w0 W b r q x mn mx z kv) (m : Int) : RepB w0 (W.setCell ⟨q, 5, none⟩ (.int .i64 m)) b r q x mn m z kv := ⟨lheap_set h.heap rfl, h.lo, h.nb, h.nr⟩
theorem RepB.lazy (h : RepB w0 W b r q x mn mx z kv) (y : Bool) : RepB w0 (W.setCell ⟨q, 6, none⟩ (.bool y)) b r q x mn mx y kv := ⟨lheap_set h.heap rfl, h.lo, h.nb, h.nr⟩
theorem RepB.far (h : RepB w0 W b r q x mn mx z kv) (j : Nat) (v : Value) : RepB w0 (W.setCell ⟨b, j, none⟩ v) b r q x mn mx z kv := ⟨(rheap_far (fun e => h.nb e.symm)).trans h.heap, h.lo, h.nb, h.nr⟩
/-- a store into the repeat, beside the state -/
theorem PF.rep (h : PF w0 W b r L p) (hq : RepB w0 W b r q x mn mx z kv) (j : Nat) (v : Value) : PF w0 (W.setCell ⟨q, j, none⟩ v) b r L p := h.set_far (a := ⟨q, j, none⟩) hq.lo hq.nb hq.nr v
end
/-- the part that is repeated, in the slice of one -/
def RepK (B q : Nat) (w : World) (x : Rx) (kv : Value) : Prop := ∃ g xA c, kv = .slice (some ⟨g, 0, none⟩) 1 1 ∧ B ≤ g ∧ g ≠ q ∧ w.heap[g]? = some (.cells (rxCells x (.slice xA x.kids.length c)).toArray TRx (0, 0)) ∧ KX (fun k => B ≤ k ∧ k ≠ q) w x (.slice xA x.kids.length c)
theorem RepK.kept {B q : Nat} {w w' : World} {x : Rx} {kv : Value} (h : RepK B q w x kv) (hk : ∀ k c z, k ≠ q → w.heap[k]? = some (.cells c TRx z) → w'.heap[k]? = some (.cells c TRx z)) : RepK B q w' x kv := by
  obtain ⟨g, xA, c, e, h1, h2, h3, h4⟩ := h
  exact ⟨g, xA, c, e, h1, h2, hk _ _ _ h2 h3, h4.kept fun k c z hq hh => ⟨hk k c z hq.2 hh, hq⟩⟩
theorem RepK.call {B q : Nat} {w w' : World} {x : Rx} {kv : Value} (h : RepK B q w x kv) (hb : Below w.heap.size w w') : RepK B q w' x kv := h.kept fun _ _ _ _ hh => heap_call hh hb
theorem RepK.off {B q : Nat} {w w' : World} {x : Rx} {kv : Value} (h : RepK B q w x kv) (ho : OffP w w') : RepK B q w' x kv := h.kept fun k c z _ hh => ho k c _ z (by decide) hh
theorem RepK.set {B q : Nat} {w : World} {x : Rx} {kv : Value} (h : RepK B q w x kv) (j : Nat) (v : Value) : RepK B q (w.setCell ⟨q, j, none⟩ v) x kv := h.kept fun _ _ _ hk hh => (rheap_far (fun e => hk e.symm)).trans hh
theorem RepK.setP {B q : Nat} {w w0 : World} {b r : Nat} {L : LX} {p : PX} {x : Rx} {kv : Value} (h : RepK B q w x kv) (hp : PF w0 w b r L p) (j : Nat) (v : Value) : RepK B q (w.setCell ⟨b, j, none⟩ v) x kv := h.off (hp.setOff j v)
theorem RepK.kids {B q : Nat} {w : World} {x : Rx} {kv : Value} (h : RepK B q w x kv) (mn mx : Int) (z : Bool) : ∃ A c, kv = .slice A (rxRepeat x mn mx z).kids.length c ∧ KX (fun k => B ≤ k) w (rxRepeat x mn mx z) kv := by
  obtain ⟨g, xA, c, rfl, h1, _, h3, h4⟩ := h
  refine ⟨_, _, rfl, ?_⟩
  obtain ⟨n, hn⟩ := ZV.kidsAt (zs := [(x, .slice xA x.kids.length c)]) (cap := 1) h3 (fun j v hj => by simpa [zCells] using hj) (F := fun k => B ≤ k) (fun y hy => by
    obtain rfl := List.mem_singleton.1 hy
    exact h4.kept fun _ _ _ hq hh => ⟨hh, hq.1⟩) (G := fun k => B ≤ k) (fun _ h => h) h1
  exact ⟨n, hn⟩
theorem Lv.setQ {w : World} {q j : Nat} {v : Value} {L : LX} {l : List Int} {s : PS} {p : PX} {c : Array Value} {z : Nat × Nat} (h : Lv w L l s p) (hq : w.heap[q]? = some (.cells c TRx z)) (hp : LRd (w.setCell ⟨q, j, none⟩ v) L l) : Lv (w.setCell ⟨q, j, none⟩ v) L l s p :=
  ⟨h.i, h.bad, h.deep, h.nn, hp, rowns_far h.names hq (by decide) v, h.fin⟩

set_option maxHeartbeats 4000000 in
set_option maxRecDepth 100000 in
theorem rfPart_any (L : LX) (l : List Int) (s : PS) (p : PX) (w : World) (rec : PS → PR Rx) (hadv : ∀ s v s', rec s = .ok v s' → Adv l s s') (hlt : s.pos < l.length)
    (KP : ∀ (W : World), Lv W L l s p → Calls Try.prog 83 #[pAgg L p] W (RxP L l W (atomR l rec s)))
    (h : Lv w L l s p) :
    Calls Try.prog 73 #[pAgg L p] w (RxP L l w (partR L.free l rec s)) := by
  have HLv := Lib.hid h
  have HPT := Lib.hid h.pat
  have hl := h.fin.len
  have hp := h.fin.pos
  have hpt : partR L.free l rec s = (atomR l rec s).bind fun x s =>
    let s := skipS' L.free l s
    if due l s.pos = 42 then lazyR L.free l x 0 (-1) { s with pos := s.pos + 1 }
    else if due l s.pos = 43 then lazyR L.free l x 1 (-1) { s with pos := s.pos + 1 }
    else if due l s.pos = 63 then lazyR L.free l x 0 1 { s with pos := s.pos + 1 }
    else if due l s.pos = 123 then (timesR l { s with pos := s.pos + 1 }).bind fun q s => lazyR L.free l x q.1 q.2 s
    else .ok x s := rfl
  cases hat : atomR l rec s with
  | bad a m =>
    have kp := KP
    rw [hat] at kp hpt
    have KPT := Lib.hid (fun (W : World) (h : Lv W L l s p) => show Calls Try.prog 83 #[pAgg L p] W (fun e w' => ∃ p, e = .returned (pAgg L p) ∧ BadX p a m ∧ Below W.heap.size W w') from kp W h)
    have HT := Lib.hid (show partR L.free l rec s = .bad a m from hpt)
    clear kp hpt hat KP h
    go_enter Try.func73, Try.ntmps73
    go_wp2_with (with_reducible refine box_p (by with_reducible rfl) _ (by with_reducible rfl) (L := L) (p := p) (by simp [Act.eval]) ?_)
    intro V hV bV sV
    go_wp2_with (with_reducible refine room_p (by with_reducible rfl) (by with_reducible rfl) hV ?_)
    intro W hW bW sW
    clear hV bV sV bW sW
    have H := Lib.hid hW
    clear hW
    go_wp2_with (first
      | (with_reducible refine load_p (by with_reducible rfl) _ (by with_reducible rfl) w.heap.size (by first | (simp [Act.eval]; done) | simp [Act.eval, Act.put]) H.out ?_)
      | (go_at_call 83; (with_reducible refine (KPT.out _ (HLv.out.below H.out.below)).mono ?_)))
    rintro e w1 ⟨pr, rfl, hbx, hb1⟩
    have H1 := Lib.hid (H.out.call hb1)
    have HBX := Lib.hid hbx
    have KSB := Lib.hid (fun W => rfSkipBad L pr W hbx.ne0)
    have z16 : (pr.bad != 0) = true := by simp [hbx.ne0]
    clear hb1 hbx
    go_wp2_with (first
      | (go_at_call 72; (with_reducible refine (KSB.out _).mono ?_)))
    rintro e w2 ⟨rfl, hb2⟩
    have H2 := Lib.hid (H1.out.call hb2)
    clear hb2
    go_wp2_with (first
      | (with_reducible refine store_p (by with_reducible rfl) _ _ (by with_reducible rfl) w.heap.size (p' := pr) (by first | (simp [Act.eval]; done) | simp [Act.eval, Act.put]) (by first | (simp [Act.eval]; done) | simp [Act.eval, Act.put]) H2.out ?_))
    intro V3 hV3 o3
    have H3 := Lib.hid hV3
    have c16 := hV3.bad
    clear hV3 o3
    go_wp2_with (first
      | (with_reducible refine load_p (by with_reducible rfl) _ (by with_reducible rfl) w.heap.size (by first | (simp [Act.eval]; done) | simp [Act.eval, Act.put]) H3.out ?_)
      | (with_reducible refine store_r (by with_reducible rfl) _ _ (by with_reducible rfl) (w.heap.size + 1) (p' := pr) (by first | (simp [Act.eval]; done) | simp [Act.eval, Act.put]) (by first | (simp [Act.eval]; done) | simp [Act.eval, Act.put]) H3.out ?_))
    intro W2 h2 b2 _
    go_wp2
    refine ret_p (k := 2) Try.results73 h2 (by first | (simp; done) | simp [Act.put]) rfl ?_
    rw [HT.out]
    exact ⟨pr, rfl, HBX.out, b2⟩
  | ok x s1 =>
    have ha := atom_adv hadv hlt hat
    have kp := KP
    rw [hat] at kp hpt
    have KPT := Lib.hid (fun (W : World) (h : Lv W L l s p) => show Calls Try.prog 83 #[pAgg L p] W (fun e w' => ∃ p, e = .returned (pAgg L p) ∧ Lv w' L l s1 p ∧ p.x = x ∧ TX W.heap.size w' p ∧ Below W.heap.size W w') from kp W h)
    have HT := Lib.hid (show partR L.free l rec s = (
      if due l (skipS' L.free l s1).pos = 42 then lazyR L.free l x 0 (-1) { skipS' L.free l s1 with pos := (skipS' L.free l s1).pos + 1 }
      else if due l (skipS' L.free l s1).pos = 43 then lazyR L.free l x 1 (-1) { skipS' L.free l s1 with pos := (skipS' L.free l s1).pos + 1 }
      else if due l (skipS' L.free l s1).pos = 63 then lazyR L.free l x 0 1 { skipS' L.free l s1 with pos := (skipS' L.free l s1).pos + 1 }
      else if due l (skipS' L.free l s1).pos = 123 then (timesR l { skipS' L.free l s1 with pos := (skipS' L.free l s1).pos + 1 }).bind fun q s => lazyR L.free l x q.1 q.2 s
      else .ok x (skipS' L.free l s1)) from hpt)
    have hf2 := (h.fin.adv ha.1).adv (skip_adv (free := L.free) s1)
    have hp12 := (skip_adv (free := L.free) (l := l) s1).pos
    clear kp hpt hat KP h ha
    go_enter Try.func73, Try.ntmps73
    go_wp2_with (with_reducible refine box_p (by with_reducible rfl) _ (by with_reducible rfl) (L := L) (p := p) (by simp [Act.eval]) ?_)
    intro V hV bV sV
    go_wp2_with (with_reducible refine room_p (by with_reducible rfl) (by with_reducible rfl) hV ?_)
    intro W hW bW sW
    clear hV bV sV bW sW
    have H := Lib.hid hW
    clear hW
    go_wp2_with (first
      | (with_reducible refine load_p (by with_reducible rfl) _ (by with_reducible rfl) w.heap.size (by first | (simp [Act.eval]; done) | simp [Act.eval, Act.put]) H.out ?_)
      | (go_at_call 83; (with_reducible refine (KPT.out _ (HLv.out.below H.out.below)).mono ?_)))
    rintro e w1 ⟨p1, rfl, hl1, hx1, ht1, hb1⟩
    have H1 := Lib.hid (H.out.call hb1)
    have HL1 := Lib.hid hl1
    have hsw := H.out.size
    have KSK := Lib.hid (fun W => rfSkipOk L l s1 p1 W)
    have HTX := Lib.hid (show p1.x = x ∧ p1.xn = x.kids.length ∧ KX (fun q => w.heap.size ≤ q) w1 x (.slice p1.xa p1.xn p1.xc) by
      rw [← hx1]; exact ⟨rfl, ht1.1, ht1.2.kept fun _ _ _ hq hh => ⟨hh, by omega⟩⟩)
    have HV2 := Lib.hid (show Lv w1 L l (skipS' L.free l s1) { p1 with i := (skipP L.free l s1.pos : Int) } from hl1.moved _ hp12 hf2.pos)
    have hxs : ({ p1 with i := (skipP L.free l s1.pos : Int) } : PX).x = p1.x ∧ ({ p1 with i := (skipP L.free l s1.pos : Int) } : PX).xa = p1.xa ∧ ({ p1 with i := (skipP L.free l s1.pos : Int) } : PX).xn = p1.xn ∧ ({ p1 with i := (skipP L.free l s1.pos : Int) } : PX).xc = p1.xc := ⟨rfl, rfl, rfl, rfl⟩
    clear hb1 hl1 ht1 hx1
    generalize ({ p1 with i := (skipP L.free l s1.pos : Int) } : PX) = pr at *
    generalize skipS' L.free l s1 = s2 at *
    obtain ⟨e1, e2, e3, e4⟩ := hxs
    rw [← e1, ← e2, ← e3, ← e4] at HTX
    clear e1 e2 e3 e4 hp12
    go_wp2_with (first
      | (go_at_call 72; (with_reducible refine (KSK.out _ HL1.out).mono ?_)))
    rintro e w2 ⟨rfl, hb2⟩
    have H2 := Lib.hid (H1.out.call hb2)
    have HV3 := Lib.hid (HV2.out.below hb2)
    have HTX2 := Lib.hid (And.intro HTX.out.1 (And.intro HTX.out.2.1 (KX.off HTX.out.2.2 (OffP.call hb2))))
    clear hb2 HV2 HTX HL1
    go_wp2_with (first
      | (with_reducible refine store_p (by with_reducible rfl) _ _ (by with_reducible rfl) w.heap.size (p' := pr) (by first | (simp [Act.eval]; done) | simp [Act.eval, Act.put]) (by first | (simp [Act.eval]; done) | simp [Act.eval, Act.put]) H2.out ?_))
    intro V5 hV5 o5
    have H5 := Lib.hid hV5
    have HL5 := Lib.hid (HV3.out.off o5 (HPT.out.below hV5.below))
    have HTX5 := Lib.hid (And.intro HTX2.out.1 (And.intro HTX2.out.2.1 (KX.off HTX2.out.2.2 o5)))
    have c16 := hV5.bad
    rw [HL5.out.bad] at c16
    clear hV5 o5 HV3 HTX2 H2
    obtain ⟨hx5, hn5, hk5⟩ := HTX5.out
    go_upto_region 5 with (first
      | ((with_reducible refine load_px (by with_reducible rfl) _ (by with_reducible rfl) w.heap.size (by first | (simp [Act.eval]; done) | simp [Act.eval, Act.put]) H5.out ?_); simp only [rxAgg]))
    obtain ⟨W6, hW6⟩ : ∃ W, W = (V5.alloc (.cells #[.int .i64 (x.kind : Int), .int .i64 x.rune, .int .i64 x.to, .slice pr.xa x.kids.length pr.xc, .int .i64 x.min, .int .i64 x.max, .bool x.lazy, .bool x.not, .int .i64 (x.group : Int), .string ⟨x.name.toArray⟩] 25)).alloc (.cells #[.int .i64 8, .int .i64 0, .int .i64 0, .slice (some ⟨V5.heap.size, 0, none⟩) 1 1, .int .i64 0, .int .i64 (-1), .bool false, .bool false, .int .i64 0, .string ⟨#[]⟩] 25) := ⟨_, rfl⟩
    have H6 := Lib.hid (show PF w W6 w.heap.size (w.heap.size + 1) L pr by rw [hW6]; exact (H5.out.alloc _).alloc _)
    have b56 := Lib.hid (show Below V5.heap.size V5 W6 by rw [hW6]; exact ((Below.refl _ V5).alloc (Nat.le_refl _) _).alloc (by rw [World.size_alloc]; omega) _)
    have HRB := Lib.hid (show RepB w W6 w.heap.size (w.heap.size + 1) (V5.heap.size + 1) x 0 (-1) false (.slice (some ⟨V5.heap.size, 0, none⟩) 1 1) by
      rw [hW6]
      have hs := H5.out.size
      have h1 := H5.out.lt
      have h2 := H5.out.ltr
      refine ⟨?_, by omega, by omega, by omega⟩
      have := Go.heap_alloc_new (V5.alloc (.cells #[.int .i64 (x.kind : Int), .int .i64 x.rune, .int .i64 x.to, .slice pr.xa x.kids.length pr.xc, .int .i64 x.min, .int .i64 x.max, .bool x.lazy, .bool x.not, .int .i64 (x.group : Int), .string ⟨x.name.toArray⟩] 25)) (.cells #[.int .i64 8, .int .i64 0, .int .i64 0, .slice (some ⟨V5.heap.size, 0, none⟩) 1 1, .int .i64 0, .int .i64 (-1), .bool false, .bool false, .int .i64 0, .string ⟨#[]⟩] 25)
      rw [World.size_alloc] at this
      exact this)
    have HRK := Lib.hid (show RepK w.heap.size (V5.heap.size + 1) W6 x (.slice (some ⟨V5.heap.size, 0, none⟩) 1 1) by
      have hs := H5.out.size
      refine ⟨V5.heap.size, pr.xa, pr.xc, rfl, hs, by omega, ?_, ?_⟩
      · rw [hW6]
        exact (Below.heap_alloc (V5.alloc (.cells #[.int .i64 (x.kind : Int), .int .i64 x.rune, .int .i64 x.to, .slice pr.xa x.kids.length pr.xc, .int .i64 x.min, .int .i64 x.max, .bool x.lazy, .bool x.not, .int .i64 (x.group : Int), .string ⟨x.name.toArray⟩] 25)) (.cells #[.int .i64 8, .int .i64 0, .int .i64 0, .slice (some ⟨V5.heap.size, 0, none⟩) 1 1, .int .i64 0, .int .i64 (-1), .bool false, .bool false, .int .i64 0, .string ⟨#[]⟩] 25) V5.heap.size (by rw [World.size_alloc]; omega)).trans (Go.heap_alloc_new V5 (.cells #[.int .i64 (x.kind : Int), .int .i64 x.rune, .int .i64 x.to, .slice pr.xa x.kids.length pr.xc, .int .i64 x.min, .int .i64 x.max, .bool x.lazy, .bool x.not, .int .i64 (x.group : Int), .string ⟨x.name.toArray⟩] 25))
      · rw [hn5] at hk5
        exact hk5.kept fun k c z hq hh => ⟨heap_call hh b56.out, hq, fun e => by have := (Array.getElem?_eq_some_iff.1 hh).1; omega⟩)
    have HL6 := Lib.hid (HL5.out.below b56.out)
    rw [← hW6]
    have HTD := Lib.hid (show pr.x = x ∧ pr.xn = x.kids.length ∧ KX (fun q => w.heap.size ≤ q) W6 x (.slice pr.xa pr.xn pr.xc) from ⟨hx5, hn5, KX.off hk5 (OffP.call b56.out)⟩)
    clear hW6 b56 H5 HL5 HTX5 hk5 hn5 hx5
    generalize V5.heap.size + 1 = q at *
    generalize V5.heap.size = g at *
    have kd := show Calls Try.prog 55 #[pAgg L pr, .int .i64 0] W6 (RetE (.int .i64 (due l s2.pos)) fun w' => Below W6.heap.size W6 w') from rfSignL L l s2 pr 0 W6 HL6.out (by omega)
    obtain ⟨kv, hkv⟩ : ∃ v, v = Value.slice (some ⟨g, 0, none⟩) 1 1 := ⟨_, rfl⟩
    rw [← hkv] at HRB HRK
    have HKV := Lib.hid hkv
    clear hkv
    by_cases d42 : due l s2.pos = 42
    · have hlt2 := due_lt d42 (by decide)
      have HRES := Lib.hid (show partR L.free l rec s = lazyR L.free l x 0 (-1) { s2 with pos := s2.pos + 1 } by rw [HT.out, if_pos d42])
      rw [d42] at kd
      have KD := Lib.hid kd
      clear kd d42 HT HTD
      go_wp2_with (first
        | (with_reducible refine load_p (by with_reducible rfl) _ (by with_reducible rfl) w.heap.size (by first | (simp [Act.eval]; done) | simp [Act.eval, Act.put]) H6.out ?_)
        | (go_at_call 55; (with_reducible refine (KD.out).mono ?_)))
      rintro e w7 ⟨rfl, hb7⟩
      have H7 := Lib.hid (H6.out.call hb7)
      have HRB7 := Lib.hid (HRB.out.call hb7)
      have HRK7 := Lib.hid (HRK.out.call hb7)
      have HL7 := Lib.hid (HL6.out.below hb7)
      have c1 := H7.out.i
      have f1 := H7.out.frozen 1
      rw [HL7.out.i] at c1
      clear hb7 H6 HRB HRK HL6
      have HPW := Lib.hid (H7.out.set (j := 1) (v := .int .i64 ((s2.pos : Int) + 1)) (p' := { pr with i := (s2.pos : Int) + 1 }) rfl)
      have HRB := Lib.hid (HRB7.out.far 1 (.int .i64 ((s2.pos : Int) + 1)))
      have HRK := Lib.hid (HRK7.out.setP H7.out 1 (.int .i64 ((s2.pos : Int) + 1)))
      have HLK := Lib.hid (show Lv _ L l { s2 with pos := s2.pos + 1 } { pr with i := (s2.pos : Int) + 1 } from (HL7.out.off (H7.out.setOff 1 (.int .i64 ((s2.pos : Int) + 1))) (HPT.out.below HPW.out.below)).moved (s2.pos + 1) (Nat.le_succ _) hlt2)
      clear H7 HRB7 HRK7 HL7
      go_upto_region 21 with fail
      generalize w7.setCell ⟨w.heap.size, 1, none⟩ (.int .i64 ((s2.pos : Int) + 1)) = wL at *
      generalize ({ pr with i := (s2.pos : Int) + 1 } : PX) = pL at *
      generalize ({ s2 with pos := s2.pos + 1 } : PS) = sL at *
      obtain ⟨mn, hmn⟩ : ∃ m : Int, m = 0 := ⟨_, rfl⟩
      obtain ⟨mx, hmx⟩ : ∃ m : Int, m = -1 := ⟨_, rfl⟩
      rw [← hmx, ← hmn] at HRB HRES
      clear hmn hmx
      -- a repeat's end: at the world wL: HPW: the state pL, HLK: what it stands for (sL), HRB: the repeat, HRK: its part; HRES: what is left
      have HSK := Lib.hid (fun W => rfSkipOk L l sL pL W)
      have hfs := HLK.out.fin.adv (skip_adv (free := L.free) sL)
      have hres : partR L.free l rec s = if due l (skipS' L.free l sL).pos = 63 then .ok (rxRepeat x mn mx true) { skipS' L.free l sL with pos := (skipS' L.free l sL).pos + 1 } else .ok (rxRepeat x mn mx false) (skipS' L.free l sL) := HRES.out
      have HVS := Lib.hid (show Lv _ L l (skipS' L.free l sL) { pL with i := (skipP L.free l sL.pos : Int) } from HLK.out.moved _ (skip_adv (free := L.free) (l := l) sL).pos hfs.pos)
      have hpL := hfs.pos
      have hlL := hfs.len
      have HRES0 := Lib.hid hres
      clear HRES hfs hres
      generalize ({ pL with i := (skipP L.free l sL.pos : Int) } : PX) = pM at *
      generalize skipS' L.free l sL = sM at *
      go_wp2_with (first
        | (with_reducible refine load_p (by with_reducible rfl) _ (by with_reducible rfl) w.heap.size (by first | (simp [Act.eval]; done) | simp [Act.eval, Act.put]) HPW.out ?_)
        | (go_at_call 72; (with_reducible refine (HSK.out _ HLK.out).mono ?_)))
      rintro e wM ⟨rfl, hbM⟩
      have HM1 := Lib.hid (HPW.out.call hbM)
      have HVM1 := Lib.hid (HVS.out.below hbM)
      have HRB1 := Lib.hid (HRB.out.call hbM)
      have HRK1 := Lib.hid (HRK.out.call hbM)
      clear hbM HPW HLK HRB HRK HVS
      go_wp2_with (first
        | (with_reducible refine store_p (by with_reducible rfl) _ _ (by with_reducible rfl) w.heap.size (p' := pM) (by first | (simp [Act.eval]; done) | simp [Act.eval, Act.put]) (by first | (simp [Act.eval]; done) | simp [Act.eval, Act.put]) HM1.out ?_))
      intro VM hVM oM
      have HM2 := Lib.hid hVM
      have HVM := Lib.hid (HVM1.out.off oM (HPT.out.below hVM.below))
      have HRB2 := Lib.hid (HRB1.out.off oM)
      have HRK2 := Lib.hid (HRK1.out.off oM)
      have c16 := hVM.bad
      rw [HVM.out.bad] at c16
      have kM := show Calls Try.prog 55 #[pAgg L pM, .int .i64 0] VM (RetE (.int .i64 (due l sM.pos)) fun w' => Below VM.heap.size VM w') from rfSignL L l sM pM 0 VM HVM.out (by omega)
      clear hVM oM HM1 HVM1 HRB1 HRK1
      by_cases h63 : due l sM.pos = 63
      · have hres := HRES0.out
        rw [if_pos h63] at hres
        rw [h63] at kM
        have HRES := Lib.hid hres
        have KM := Lib.hid kM
        have hltM := due_lt h63 (by decide)
        have HIM := Lib.hid HVM.out.i
        clear hres kM h63
        go_wp2_with (first
          | (with_reducible refine load_pG (by with_unfolding_all rfl) _ (by with_reducible rfl) w.heap.size (by first | (simp [Act.eval]; done) | simp [Act.eval, Act.put]) HM2.out ?_)
          | (go_at_call 55; (with_reducible refine (KM.out).mono ?_)))
        rintro e wN ⟨rfl, hbN⟩
        have HN := Lib.hid (HM2.out.call hbN)
        have HVN := Lib.hid (HVM.out.below hbN)
        have HRBN := Lib.hid (HRB2.out.call hbN)
        have HRKN := Lib.hid (HRK2.out.call hbN)
        have c6 := HRBN.out.cell (j := 6) rfl
        have f6 := HRBN.out.frozen 6
        have c1 := HN.out.i
        have f1 := HN.out.frozen 1
        rw [HIM.out] at c1
        have HN2 := Lib.hid ((HN.out.rep HRBN.out 6 (.bool true)).set (j := 1) (v := .int .i64 ((sM.pos : Int) + 1)) (p' := { pM with i := (sM.pos : Int) + 1 }) rfl)
        have HRB3 := Lib.hid ((HRBN.out.lazy true).far 1 (.int .i64 ((sM.pos : Int) + 1)))
        have HRK3 := Lib.hid ((HRKN.out.set 6 (.bool true)).setP (HN.out.rep HRBN.out 6 (.bool true)) 1 (.int .i64 ((sM.pos : Int) + 1)))
        have HVN3 := Lib.hid (show Lv _ L l { sM with pos := sM.pos + 1 } { pM with i := (sM.pos : Int) + 1 } from by
          have h1 := (HVN.out.setQ (j := 6) (v := .bool true) HRBN.out.heap (HPT.out.below (HN.out.rep HRBN.out 6 (.bool true)).below)).off ((HN.out.rep HRBN.out 6 (.bool true)).setOff 1 (.int .i64 ((sM.pos : Int) + 1))) (HPT.out.below HN2.out.below)
          exact h1.moved (sM.pos + 1) (Nat.le_succ _) hltM)
        clear hbN HM2 HVM HRB2 HRK2 c16
        obtain ⟨kA, kc, hkv, hkx⟩ := HRK3.out.kids mn mx true
        have hrbh := HRB3.out.heap
        rw [hkv] at hrbh hkx
        have KTO := Lib.hid (fun W => show Calls Try.prog 57 #[pAgg L { pM with i := (sM.pos : Int) + 1 }, .agg (rxCells (rxRepeat x mn mx true) (.slice kA (rxRepeat x mn mx true).kids.length kc)).toArray] W (RetE (pAgg L (toldX { pM with i := (sM.pos : Int) + 1 } (rxRepeat x mn mx true) kA (rxRepeat x mn mx true).kids.length kc)) fun w' => Below W.heap.size W w') from rfTold L { pM with i := (sM.pos : Int) + 1 } (rxRepeat x mn mx true) kA (rxRepeat x mn mx true).kids.length kc W)
        have HKX := Lib.hid hkx
        have HRH := Lib.hid hrbh
        clear hkx hkv hrbh
        generalize (rxRepeat x mn mx true) = Y at *
        go_wp2_with (first
          | (with_reducible refine load_p (by with_reducible rfl) _ (by with_reducible rfl) w.heap.size (by first | (simp [Act.eval]; done) | simp [Act.eval, Act.put]) HN2.out ?_)
          | (with_reducible refine load_rxL (by with_reducible rfl) _ (by with_reducible rfl) q (rxCells Y (.slice kA Y.kids.length kc)) (by first | (simp [Act.eval]; done) | simp [Act.eval, Act.put]) ⟨_, HRH.out⟩ (rx_len _ _) ?_)
          | (go_at_call 57; (with_reducible refine (KTO.out _).mono ?_)))
        rintro e wT ⟨rfl, hbT⟩
        have HT9 := Lib.hid (HN2.out.call hbT)
        have OT := Lib.hid (OffP.call hbT)
        clear hbT
        go_wp2_with (first
          | (with_reducible refine store_r (by with_reducible rfl) _ _ (by with_reducible rfl) (w.heap.size + 1) (p' := toldX { pM with i := (sM.pos : Int) + 1 } Y kA Y.kids.length kc) (by first | (simp [Act.eval]; done) | simp [Act.eval, Act.put]) (by first | (simp [Act.eval]; done) | simp [Act.eval, Act.put]) HT9.out ?_))
        intro W2 h2 b2 o2
        go_wp2
        refine ret_p (k := 2) Try.results73 h2 (by first | (simp; done) | simp [Act.put]) rfl ?_
        rw [HRES.out]
        exact RxP.ok_of (HVN3.out.off (OT.out.trans o2) (HPT.out.below b2)) (KX.off HKX.out (OT.out.trans o2)) b2
      · have hres := HRES0.out
        rw [if_neg h63] at hres
        have z63 : (due l sM.pos == 63) = false := beq_false_of_ne h63
        have HRES := Lib.hid hres
        clear hres h63
        generalize due l sM.pos = dM at *
        have KM := Lib.hid kM
        clear kM
        go_wp2_with (first
          | (with_reducible refine load_pG (by with_unfolding_all rfl) _ (by with_reducible rfl) w.heap.size (by first | (simp [Act.eval]; done) | simp [Act.eval, Act.put]) HM2.out ?_)
          | (go_at_call 55; (with_reducible refine (KM.out).mono ?_)))
        rintro e wN ⟨rfl, hbN⟩
        have HN2 := Lib.hid (HM2.out.call hbN)
        have HVN3 := Lib.hid (HVM.out.below hbN)
        have HRB3 := Lib.hid (HRB2.out.call hbN)
        have HRK3 := Lib.hid (HRK2.out.call hbN)
        clear hbN HM2 HVM HRB2 HRK2 c16
        obtain ⟨kA, kc, hkv, hkx⟩ := HRK3.out.kids mn mx false
        have hrbh := HRB3.out.heap
        rw [hkv] at hrbh hkx
        have KTO := Lib.hid (fun W => show Calls Try.prog 57 #[pAgg L pM, .agg (rxCells (rxRepeat x mn mx false) (.slice kA (rxRepeat x mn mx false).kids.length kc)).toArray] W (RetE (pAgg L (toldX pM (rxRepeat x mn mx false) kA (rxRepeat x mn mx false).kids.length kc)) fun w' => Below W.heap.size W w') from rfTold L pM (rxRepeat x mn mx false) kA (rxRepeat x mn mx false).kids.length kc W)
        have HKX := Lib.hid hkx
        have HRH := Lib.hid hrbh
        clear hkx hkv hrbh
        generalize (rxRepeat x mn mx false) = Y at *
        go_wp2_with (first
          | (with_reducible refine load_p (by with_reducible rfl) _ (by with_reducible rfl) w.heap.size (by first | (simp [Act.eval]; done) | simp [Act.eval, Act.put]) HN2.out ?_)
          | (with_reducible refine load_rxL (by with_reducible rfl) _ (by with_reducible rfl) q (rxCells Y (.slice kA Y.kids.length kc)) (by first | (simp [Act.eval]; done) | simp [Act.eval, Act.put]) ⟨_, HRH.out⟩ (rx_len _ _) ?_)
          | (go_at_call 57; (with_reducible refine (KTO.out _).mono ?_)))
        rintro e wT ⟨rfl, hbT⟩
        have HT9 := Lib.hid (HN2.out.call hbT)
        have OT := Lib.hid (OffP.call hbT)
        clear hbT
        go_wp2_with (first
          | (with_reducible refine store_r (by with_reducible rfl) _ _ (by with_reducible rfl) (w.heap.size + 1) (p' := toldX pM Y kA Y.kids.length kc) (by first | (simp [Act.eval]; done) | simp [Act.eval, Act.put]) (by first | (simp [Act.eval]; done) | simp [Act.eval, Act.put]) HT9.out ?_))
        intro W2 h2 b2 o2
        go_wp2
        refine ret_p (k := 2) Try.results73 h2 (by first | (simp; done) | simp [Act.put]) rfl ?_
        rw [HRES.out]
        exact RxP.ok_of (HVN3.out.off (OT.out.trans o2) (HPT.out.below b2)) (KX.off HKX.out (OT.out.trans o2)) b2
    by_cases d43 : due l s2.pos = 43
    · have hlt2 := due_lt d43 (by decide)
      have HRES := Lib.hid (show partR L.free l rec s = lazyR L.free l x 1 (-1) { s2 with pos := s2.pos + 1 } by rw [HT.out, if_neg d42, if_pos d43])
      rw [d43] at kd
      have KD := Lib.hid kd
      clear kd d43 HT HTD
      go_wp2_with (first
        | (with_reducible refine load_p (by with_reducible rfl) _ (by with_reducible rfl) w.heap.size (by first | (simp [Act.eval]; done) | simp [Act.eval, Act.put]) H6.out ?_)
        | (go_at_call 55; (with_reducible refine (KD.out).mono ?_)))
      rintro e w7 ⟨rfl, hb7⟩
      have H7 := Lib.hid (H6.out.call hb7)
      have HRB7 := Lib.hid (HRB.out.call hb7)
      have HRK7 := Lib.hid (HRK.out.call hb7)
      have HL7 := Lib.hid (HL6.out.below hb7)
      have c1 := H7.out.i
      have f1 := H7.out.frozen 1
      rw [HL7.out.i] at c1
      clear hb7 H6 HRB HRK HL6
      have c4 := HRB7.out.cell (j := 4) rfl
      have f4 := HRB7.out.frozen 4
      have HPW := Lib.hid ((H7.out.rep HRB7.out 4 (.int .i64 1)).set (j := 1) (v := .int .i64 ((s2.pos : Int) + 1)) (p' := { pr with i := (s2.pos : Int) + 1 }) rfl)
      have HRB := Lib.hid ((HRB7.out.min 1).far 1 (.int .i64 ((s2.pos : Int) + 1)))
      have HRK := Lib.hid ((HRK7.out.set 4 (.int .i64 1)).setP (H7.out.rep HRB7.out 4 (.int .i64 1)) 1 (.int .i64 ((s2.pos : Int) + 1)))
      have HLK := Lib.hid (show Lv _ L l { s2 with pos := s2.pos + 1 } { pr with i := (s2.pos : Int) + 1 } from ((HL7.out.setQ (j := 4) (v := .int .i64 1) HRB7.out.heap (HPT.out.below (H7.out.rep HRB7.out 4 (.int .i64 1)).below)).off ((H7.out.rep HRB7.out 4 (.int .i64 1)).setOff 1 (.int .i64 ((s2.pos : Int) + 1))) (HPT.out.below HPW.out.below)).moved (s2.pos + 1) (Nat.le_succ _) hlt2)
      clear H7 HRB7 HRK7 HL7
      go_upto_region 21 with fail
      generalize (w7.setCell ⟨q, 4, none⟩ (.int .i64 1)).setCell ⟨w.heap.size, 1, none⟩ (.int .i64 ((s2.pos : Int) + 1)) = wL at *
      generalize ({ pr with i := (s2.pos : Int) + 1 } : PX) = pL at *
      generalize ({ s2 with pos := s2.pos + 1 } : PS) = sL at *
      obtain ⟨mn, hmn⟩ : ∃ m : Int, m = 1 := ⟨_, rfl⟩
      obtain ⟨mx, hmx⟩ : ∃ m : Int, m = -1 := ⟨_, rfl⟩
      rw [← hmx, ← hmn] at HRB HRES
      clear hmn hmx
      -- a repeat's end: at the world wL: HPW: the state pL, HLK: what it stands for (sL), HRB: the repeat, HRK: its part; HRES: what is left
      have HSK := Lib.hid (fun W => rfSkipOk L l sL pL W)
      have hfs := HLK.out.fin.adv (skip_adv (free := L.free) sL)
      have hres : partR L.free l rec s = if due l (skipS' L.free l sL).pos = 63 then .ok (rxRepeat x mn mx true) { skipS' L.free l sL with pos := (skipS' L.free l sL).pos + 1 } else .ok (rxRepeat x mn mx false) (skipS' L.free l sL) := HRES.out
      have HVS := Lib.hid (show Lv _ L l (skipS' L.free l sL) { pL with i := (skipP L.free l sL.pos : Int) } from HLK.out.moved _ (skip_adv (free := L.free) (l := l) sL).pos hfs.pos)
      have hpL := hfs.pos
      have hlL := hfs.len
      have HRES0 := Lib.hid hres
      clear HRES hfs hres
      generalize ({ pL with i := (skipP L.free l sL.pos : Int) } : PX) = pM at *
      generalize skipS' L.free l sL = sM at *
      go_wp2_with (first
        | (with_reducible refine load_p (by with_reducible rfl) _ (by with_reducible rfl) w.heap.size (by first | (simp [Act.eval]; done) | simp [Act.eval, Act.put]) HPW.out ?_)
        | (go_at_call 72; (with_reducible refine (HSK.out _ HLK.out).mono ?_)))
      rintro e wM ⟨rfl, hbM⟩
      have HM1 := Lib.hid (HPW.out.call hbM)
      have HVM1 := Lib.hid (HVS.out.below hbM)
      have HRB1 := Lib.hid (HRB.out.call hbM)
      have HRK1 := Lib.hid (HRK.out.call hbM)
      clear hbM HPW HLK HRB HRK HVS
      go_wp2_with (first
        | (with_reducible refine store_p (by with_reducible rfl) _ _ (by with_reducible rfl) w.heap.size (p' := pM) (by first | (simp [Act.eval]; done) | simp [Act.eval, Act.put]) (by first | (simp [Act.eval]; done) | simp [Act.eval, Act.put]) HM1.out ?_))
      intro VM hVM oM
      have HM2 := Lib.hid hVM
      have HVM := Lib.hid (HVM1.out.off oM (HPT.out.below hVM.below))
      have HRB2 := Lib.hid (HRB1.out.off oM)
      have HRK2 := Lib.hid (HRK1.out.off oM)
      have c16 := hVM.bad
      rw [HVM.out.bad] at c16
      have kM := show Calls Try.prog 55 #[pAgg L pM, .int .i64 0] VM (RetE (.int .i64 (due l sM.pos)) fun w' => Below VM.heap.size VM w') from rfSignL L l sM pM 0 VM HVM.out (by omega)
      clear hVM oM HM1 HVM1 HRB1 HRK1
      by_cases h63 : due l sM.pos = 63
      · have hres := HRES0.out
        rw [if_pos h63] at hres
        rw [h63] at kM
        have HRES := Lib.hid hres
        have KM := Lib.hid kM
        have hltM := due_lt h63 (by decide)
        have HIM := Lib.hid HVM.out.i
        clear hres kM h63
        go_wp2_with (first
          | (with_reducible refine load_pG (by with_unfolding_all rfl) _ (by with_reducible rfl) w.heap.size (by first | (simp [Act.eval]; done) | simp [Act.eval, Act.put]) HM2.out ?_)
          | (go_at_call 55; (with_reducible refine (KM.out).mono ?_)))
        rintro e wN ⟨rfl, hbN⟩
        have HN := Lib.hid (HM2.out.call hbN)
        have HVN := Lib.hid (HVM.out.below hbN)
        have HRBN := Lib.hid (HRB2.out.call hbN)
        have HRKN := Lib.hid (HRK2.out.call hbN)
        have c6 := HRBN.out.cell (j := 6) rfl
        have f6 := HRBN.out.frozen 6
        have c1 := HN.out.i
        have f1 := HN.out.frozen 1
        rw [HIM.out] at c1
        have HN2 := Lib.hid ((HN.out.rep HRBN.out 6 (.bool true)).set (j := 1) (v := .int .i64 ((sM.pos : Int) + 1)) (p' := { pM with i := (sM.pos : Int) + 1 }) rfl)
        have HRB3 := Lib.hid ((HRBN.out.lazy true).far 1 (.int .i64 ((sM.pos : Int) + 1)))
        have HRK3 := Lib.hid ((HRKN.out.set 6 (.bool true)).setP (HN.out.rep HRBN.out 6 (.bool true)) 1 (.int .i64 ((sM.pos : Int) + 1)))
        have HVN3 := Lib.hid (show Lv _ L l { sM with pos := sM.pos + 1 } { pM with i := (sM.pos : Int) + 1 } from by
          have h1 := (HVN.out.setQ (j := 6) (v := .bool true) HRBN.out.heap (HPT.out.below (HN.out.rep HRBN.out 6 (.bool true)).below)).off ((HN.out.rep HRBN.out 6 (.bool true)).setOff 1 (.int .i64 ((sM.pos : Int) + 1))) (HPT.out.below HN2.out.below)
          exact h1.moved (sM.pos + 1) (Nat.le_succ _) hltM)
        clear hbN HM2 HVM HRB2 HRK2 c16
        obtain ⟨kA, kc, hkv, hkx⟩ := HRK3.out.kids mn mx true
        have hrbh := HRB3.out.heap
        rw [hkv] at hrbh hkx
        have KTO := Lib.hid (fun W => show Calls Try.prog 57 #[pAgg L { pM with i := (sM.pos : Int) + 1 }, .agg (rxCells (rxRepeat x mn mx true) (.slice kA (rxRepeat x mn mx true).kids.length kc)).toArray] W (RetE (pAgg L (toldX { pM with i := (sM.pos : Int) + 1 } (rxRepeat x mn mx true) kA (rxRepeat x mn mx true).kids.length kc)) fun w' => Below W.heap.size W w') from rfTold L { pM with i := (sM.pos : Int) + 1 } (rxRepeat x mn mx true) kA (rxRepeat x mn mx true).kids.length kc W)
        have HKX := Lib.hid hkx
        have HRH := Lib.hid hrbh
        clear hkx hkv hrbh
        generalize (rxRepeat x mn mx true) = Y at *
        go_wp2_with (first
          | (with_reducible refine load_p (by with_reducible rfl) _ (by with_reducible rfl) w.heap.size (by first | (simp [Act.eval]; done) | simp [Act.eval, Act.put]) HN2.out ?_)
          | (with_reducible refine load_rxL (by with_reducible rfl) _ (by with_reducible rfl) q (rxCells Y (.slice kA Y.kids.length kc)) (by first | (simp [Act.eval]; done) | simp [Act.eval, Act.put]) ⟨_, HRH.out⟩ (rx_len _ _) ?_)
          | (go_at_call 57; (with_reducible refine (KTO.out _).mono ?_)))
        rintro e wT ⟨rfl, hbT⟩
        have HT9 := Lib.hid (HN2.out.call hbT)
        have OT := Lib.hid (OffP.call hbT)
        clear hbT
        go_wp2_with (first
          | (with_reducible refine store_r (by with_reducible rfl) _ _ (by with_reducible rfl) (w.heap.size + 1) (p' := toldX { pM with i := (sM.pos : Int) + 1 } Y kA Y.kids.length kc) (by first | (simp [Act.eval]; done) | simp [Act.eval, Act.put]) (by first | (simp [Act.eval]; done) | simp [Act.eval, Act.put]) HT9.out ?_))
        intro W2 h2 b2 o2
        go_wp2
        refine ret_p (k := 2) Try.results73 h2 (by first | (simp; done) | simp [Act.put]) rfl ?_
        rw [HRES.out]
        exact RxP.ok_of (HVN3.out.off (OT.out.trans o2) (HPT.out.below b2)) (KX.off HKX.out (OT.out.trans o2)) b2
      · have hres := HRES0.out
        rw [if_neg h63] at hres
        have z63 : (due l sM.pos == 63) = false := beq_false_of_ne h63
        have HRES := Lib.hid hres
        clear hres h63
        generalize due l sM.pos = dM at *
        have KM := Lib.hid kM
        clear kM
        go_wp2_with (first
          | (with_reducible refine load_pG (by with_unfolding_all rfl) _ (by with_reducible rfl) w.heap.size (by first | (simp [Act.eval]; done) | simp [Act.eval, Act.put]) HM2.out ?_)
          | (go_at_call 55; (with_reducible refine (KM.out).mono ?_)))
        rintro e wN ⟨rfl, hbN⟩
        have HN2 := Lib.hid (HM2.out.call hbN)
        have HVN3 := Lib.hid (HVM.out.below hbN)
        have HRB3 := Lib.hid (HRB2.out.call hbN)
        have HRK3 := Lib.hid (HRK2.out.call hbN)
        clear hbN HM2 HVM HRB2 HRK2 c16
        obtain ⟨kA, kc, hkv, hkx⟩ := HRK3.out.kids mn mx false
        have hrbh := HRB3.out.heap
        rw [hkv] at hrbh hkx
        have KTO := Lib.hid (fun W => show Calls Try.prog 57 #[pAgg L pM, .agg (rxCells (rxRepeat x mn mx false) (.slice kA (rxRepeat x mn mx false).kids.length kc)).toArray] W (RetE (pAgg L (toldX pM (rxRepeat x mn mx false) kA (rxRepeat x mn mx false).kids.length kc)) fun w' => Below W.heap.size W w') from rfTold L pM (rxRepeat x mn mx false) kA (rxRepeat x mn mx false).kids.length kc W)
        have HKX := Lib.hid hkx
        have HRH := Lib.hid hrbh
        clear hkx hkv hrbh
        generalize (rxRepeat x mn mx false) = Y at *
        go_wp2_with (first
          | (with_reducible refine load_p (by with_reducible rfl) _ (by with_reducible rfl) w.heap.size (by first | (simp [Act.eval]; done) | simp [Act.eval, Act.put]) HN2.out ?_)
          | (with_reducible refine load_rxL (by with_reducible rfl) _ (by with_reducible rfl) q (rxCells Y (.slice kA Y.kids.length kc)) (by first | (simp [Act.eval]; done) | simp [Act.eval, Act.put]) ⟨_, HRH.out⟩ (rx_len _ _) ?_)
          | (go_at_call 57; (with_reducible refine (KTO.out _).mono ?_)))
        rintro e wT ⟨rfl, hbT⟩
        have HT9 := Lib.hid (HN2.out.call hbT)
        have OT := Lib.hid (OffP.call hbT)
        clear hbT
        go_wp2_with (first
          | (with_reducible refine store_r (by with_reducible rfl) _ _ (by with_reducible rfl) (w.heap.size + 1) (p' := toldX pM Y kA Y.kids.length kc) (by first | (simp [Act.eval]; done) | simp [Act.eval, Act.put]) (by first | (simp [Act.eval]; done) | simp [Act.eval, Act.put]) HT9.out ?_))
        intro W2 h2 b2 o2
        go_wp2
        refine ret_p (k := 2) Try.results73 h2 (by first | (simp; done) | simp [Act.put]) rfl ?_
        rw [HRES.out]
        exact RxP.ok_of (HVN3.out.off (OT.out.trans o2) (HPT.out.below b2)) (KX.off HKX.out (OT.out.trans o2)) b2
    by_cases d63 : due l s2.pos = 63
    · have hlt2 := due_lt d63 (by decide)
      have HRES := Lib.hid (show partR L.free l rec s = lazyR L.free l x 0 (1) { s2 with pos := s2.pos + 1 } by rw [HT.out, if_neg d42, if_neg d43, if_pos d63])
      rw [d63] at kd
      have KD := Lib.hid kd
      clear kd d63 HT HTD
      go_wp2_with (first
        | (with_reducible refine load_p (by with_reducible rfl) _ (by with_reducible rfl) w.heap.size (by first | (simp [Act.eval]; done) | simp [Act.eval, Act.put]) H6.out ?_)
        | (go_at_call 55; (with_reducible refine (KD.out).mono ?_)))
      rintro e w7 ⟨rfl, hb7⟩
      have H7 := Lib.hid (H6.out.call hb7)
      have HRB7 := Lib.hid (HRB.out.call hb7)
      have HRK7 := Lib.hid (HRK.out.call hb7)
      have HL7 := Lib.hid (HL6.out.below hb7)
      have c1 := H7.out.i
      have f1 := H7.out.frozen 1
      rw [HL7.out.i] at c1
      clear hb7 H6 HRB HRK HL6
      have c4 := HRB7.out.cell (j := 5) rfl
      have f4 := HRB7.out.frozen 5
      have HPW := Lib.hid ((H7.out.rep HRB7.out 5 (.int .i64 1)).set (j := 1) (v := .int .i64 ((s2.pos : Int) + 1)) (p' := { pr with i := (s2.pos : Int) + 1 }) rfl)
      have HRB := Lib.hid ((HRB7.out.max 1).far 1 (.int .i64 ((s2.pos : Int) + 1)))
      have HRK := Lib.hid ((HRK7.out.set 5 (.int .i64 1)).setP (H7.out.rep HRB7.out 5 (.int .i64 1)) 1 (.int .i64 ((s2.pos : Int) + 1)))
      have HLK := Lib.hid (show Lv _ L l { s2 with pos := s2.pos + 1 } { pr with i := (s2.pos : Int) + 1 } from ((HL7.out.setQ (j := 5) (v := .int .i64 1) HRB7.out.heap (HPT.out.below (H7.out.rep HRB7.out 5 (.int .i64 1)).below)).off ((H7.out.rep HRB7.out 5 (.int .i64 1)).setOff 1 (.int .i64 ((s2.pos : Int) + 1))) (HPT.out.below HPW.out.below)).moved (s2.pos + 1) (Nat.le_succ _) hlt2)
      clear H7 HRB7 HRK7 HL7
      go_upto_region 21 with fail
      generalize (w7.setCell ⟨q, 5, none⟩ (.int .i64 1)).setCell ⟨w.heap.size, 1, none⟩ (.int .i64 ((s2.pos : Int) + 1)) = wL at *
      generalize ({ pr with i := (s2.pos : Int) + 1 } : PX) = pL at *
      generalize ({ s2 with pos := s2.pos + 1 } : PS) = sL at *
      obtain ⟨mn, hmn⟩ : ∃ m : Int, m = 0 := ⟨_, rfl⟩
      obtain ⟨mx, hmx⟩ : ∃ m : Int, m = 1 := ⟨_, rfl⟩
      rw [← hmx, ← hmn] at HRB HRES
      clear hmn hmx
      -- a repeat's end: at the world wL: HPW: the state pL, HLK: what it stands for (sL), HRB: the repeat, HRK: its part; HRES: what is left
      have HSK := Lib.hid (fun W => rfSkipOk L l sL pL W)
      have hfs := HLK.out.fin.adv (skip_adv (free := L.free) sL)
      have hres : partR L.free l rec s = if due l (skipS' L.free l sL).pos = 63 then .ok (rxRepeat x mn mx true) { skipS' L.free l sL with pos := (skipS' L.free l sL).pos + 1 } else .ok (rxRepeat x mn mx false) (skipS' L.free l sL) := HRES.out
      have HVS := Lib.hid (show Lv _ L l (skipS' L.free l sL) { pL with i := (skipP L.free l sL.pos : Int) } from HLK.out.moved _ (skip_adv (free := L.free) (l := l) sL).pos hfs.pos)
      have hpL := hfs.pos
      have hlL := hfs.len
      have HRES0 := Lib.hid hres
      clear HRES hfs hres
      generalize ({ pL with i := (skipP L.free l sL.pos : Int) } : PX) = pM at *
      generalize skipS' L.free l sL = sM at *
      go_wp2_with (first
        | (with_reducible refine load_p (by with_reducible rfl) _ (by with_reducible rfl) w.heap.size (by first | (simp [Act.eval]; done) | simp [Act.eval, Act.put]) HPW.out ?_)
        | (go_at_call 72; (with_reducible refine (HSK.out _ HLK.out).mono ?_)))
      rintro e wM ⟨rfl, hbM⟩
      have HM1 := Lib.hid (HPW.out.call hbM)
      have HVM1 := Lib.hid (HVS.out.below hbM)
      have HRB1 := Lib.hid (HRB.out.call hbM)
      have HRK1 := Lib.hid (HRK.out.call hbM)
      clear hbM HPW HLK HRB HRK HVS
      go_wp2_with (first
        | (with_reducible refine store_p (by with_reducible rfl) _ _ (by with_reducible rfl) w.heap.size (p' := pM) (by first | (simp [Act.eval]; done) | simp [Act.eval, Act.put]) (by first | (simp [Act.eval]; done) | simp [Act.eval, Act.put]) HM1.out ?_))
      intro VM hVM oM
      have HM2 := Lib.hid hVM
      have HVM := Lib.hid (HVM1.out.off oM (HPT.out.below hVM.below))
      have HRB2 := Lib.hid (HRB1.out.off oM)
      have HRK2 := Lib.hid (HRK1.out.off oM)
      have c16 := hVM.bad
      rw [HVM.out.bad] at c16
      have kM := show Calls Try.prog 55 #[pAgg L pM, .int .i64 0] VM (RetE (.int .i64 (due l sM.pos)) fun w' => Below VM.heap.size VM w') from rfSignL L l sM pM 0 VM HVM.out (by omega)
      clear hVM oM HM1 HVM1 HRB1 HRK1
      by_cases h63 : due l sM.pos = 63
      · have hres := HRES0.out
        rw [if_pos h63] at hres
        rw [h63] at kM
        have HRES := Lib.hid hres
        have KM := Lib.hid kM
        have hltM := due_lt h63 (by decide)
        have HIM := Lib.hid HVM.out.i
        clear hres kM h63
        go_wp2_with (first
          | (with_reducible refine load_pG (by with_unfolding_all rfl) _ (by with_reducible rfl) w.heap.size (by first | (simp [Act.eval]; done) | simp [Act.eval, Act.put]) HM2.out ?_)
          | (go_at_call 55; (with_reducible refine (KM.out).mono ?_)))
        rintro e wN ⟨rfl, hbN⟩
        have HN := Lib.hid (HM2.out.call hbN)
        have HVN := Lib.hid (HVM.out.below hbN)
        have HRBN := Lib.hid (HRB2.out.call hbN)
        have HRKN := Lib.hid (HRK2.out.call hbN)
        have c6 := HRBN.out.cell (j := 6) rfl
        have f6 := HRBN.out.frozen 6
        have c1 := HN.out.i
        have f1 := HN.out.frozen 1
        rw [HIM.out] at c1
        have HN2 := Lib.hid ((HN.out.rep HRBN.out 6 (.bool true)).set (j := 1) (v := .int .i64 ((sM.pos : Int) + 1)) (p' := { pM with i := (sM.pos : Int) + 1 }) rfl)
        have HRB3 := Lib.hid ((HRBN.out.lazy true).far 1 (.int .i64 ((sM.pos : Int) + 1)))
        have HRK3 := Lib.hid ((HRKN.out.set 6 (.bool true)).setP (HN.out.rep HRBN.out 6 (.bool true)) 1 (.int .i64 ((sM.pos : Int) + 1)))
        have HVN3 := Lib.hid (show Lv _ L l { sM with pos := sM.pos + 1 } { pM with i := (sM.pos : Int) + 1 } from by
          have h1 := (HVN.out.setQ (j := 6) (v := .bool true) HRBN.out.heap (HPT.out.below (HN.out.rep HRBN.out 6 (.bool true)).below)).off ((HN.out.rep HRBN.out 6 (.bool true)).setOff 1 (.int .i64 ((sM.pos : Int) + 1))) (HPT.out.below HN2.out.below)
          exact h1.moved (sM.pos + 1) (Nat.le_succ _) hltM)
        clear hbN HM2 HVM HRB2 HRK2 c16
        obtain ⟨kA, kc, hkv, hkx⟩ := HRK3.out.kids mn mx true
        have hrbh := HRB3.out.heap
        rw [hkv] at hrbh hkx
        have KTO := Lib.hid (fun W => show Calls Try.prog 57 #[pAgg L { pM with i := (sM.pos : Int) + 1 }, .agg (rxCells (rxRepeat x mn mx true) (.slice kA (rxRepeat x mn mx true).kids.length kc)).toArray] W (RetE (pAgg L (toldX { pM with i := (sM.pos : Int) + 1 } (rxRepeat x mn mx true) kA (rxRepeat x mn mx true).kids.length kc)) fun w' => Below W.heap.size W w') from rfTold L { pM with i := (sM.pos : Int) + 1 } (rxRepeat x mn mx true) kA (rxRepeat x mn mx true).kids.length kc W)
        have HKX := Lib.hid hkx
        have HRH := Lib.hid hrbh
        clear hkx hkv hrbh
        generalize (rxRepeat x mn mx true) = Y at *
        go_wp2_with (first
          | (with_reducible refine load_p (by with_reducible rfl) _ (by with_reducible rfl) w.heap.size (by first | (simp [Act.eval]; done) | simp [Act.eval, Act.put]) HN2.out ?_)
          | (with_reducible refine load_rxL (by with_reducible rfl) _ (by with_reducible rfl) q (rxCells Y (.slice kA Y.kids.length kc)) (by first | (simp [Act.eval]; done) | simp [Act.eval, Act.put]) ⟨_, HRH.out⟩ (rx_len _ _) ?_)
          | (go_at_call 57; (with_reducible refine (KTO.out _).mono ?_)))
        rintro e wT ⟨rfl, hbT⟩
        have HT9 := Lib.hid (HN2.out.call hbT)
        have OT := Lib.hid (OffP.call hbT)
        clear hbT
        go_wp2_with (first
          | (with_reducible refine store_r (by with_reducible rfl) _ _ (by with_reducible rfl) (w.heap.size + 1) (p' := toldX { pM with i := (sM.pos : Int) + 1 } Y kA Y.kids.length kc) (by first | (simp [Act.eval]; done) | simp [Act.eval, Act.put]) (by first | (simp [Act.eval]; done) | simp [Act.eval, Act.put]) HT9.out ?_))
        intro W2 h2 b2 o2
        go_wp2
        refine ret_p (k := 2) Try.results73 h2 (by first | (simp; done) | simp [Act.put]) rfl ?_
        rw [HRES.out]
        exact RxP.ok_of (HVN3.out.off (OT.out.trans o2) (HPT.out.below b2)) (KX.off HKX.out (OT.out.trans o2)) b2
      · have hres := HRES0.out
        rw [if_neg h63] at hres
        have z63 : (due l sM.pos == 63) = false := beq_false_of_ne h63
        have HRES := Lib.hid hres
        clear hres h63
        generalize due l sM.pos = dM at *
        have KM := Lib.hid kM
        clear kM
        go_wp2_with (first
          | (with_reducible refine load_pG (by with_unfolding_all rfl) _ (by with_reducible rfl) w.heap.size (by first | (simp [Act.eval]; done) | simp [Act.eval, Act.put]) HM2.out ?_)
          | (go_at_call 55; (with_reducible refine (KM.out).mono ?_)))
        rintro e wN ⟨rfl, hbN⟩
        have HN2 := Lib.hid (HM2.out.call hbN)
        have HVN3 := Lib.hid (HVM.out.below hbN)
        have HRB3 := Lib.hid (HRB2.out.call hbN)
        have HRK3 := Lib.hid (HRK2.out.call hbN)
        clear hbN HM2 HVM HRB2 HRK2 c16
        obtain ⟨kA, kc, hkv, hkx⟩ := HRK3.out.kids mn mx false
        have hrbh := HRB3.out.heap
        rw [hkv] at hrbh hkx
        have KTO := Lib.hid (fun W => show Calls Try.prog 57 #[pAgg L pM, .agg (rxCells (rxRepeat x mn mx false) (.slice kA (rxRepeat x mn mx false).kids.length kc)).toArray] W (RetE (pAgg L (toldX pM (rxRepeat x mn mx false) kA (rxRepeat x mn mx false).kids.length kc)) fun w' => Below W.heap.size W w') from rfTold L pM (rxRepeat x mn mx false) kA (rxRepeat x mn mx false).kids.length kc W)
        have HKX := Lib.hid hkx
        have HRH := Lib.hid hrbh
        clear hkx hkv hrbh
        generalize (rxRepeat x mn mx false) = Y at *
        go_wp2_with (first
          | (with_reducible refine load_p (by with_reducible rfl) _ (by with_reducible rfl) w.heap.size (by first | (simp [Act.eval]; done) | simp [Act.eval, Act.put]) HN2.out ?_)
          | (with_reducible refine load_rxL (by with_reducible rfl) _ (by with_reducible rfl) q (rxCells Y (.slice kA Y.kids.length kc)) (by first | (simp [Act.eval]; done) | simp [Act.eval, Act.put]) ⟨_, HRH.out⟩ (rx_len _ _) ?_)
          | (go_at_call 57; (with_reducible refine (KTO.out _).mono ?_)))
        rintro e wT ⟨rfl, hbT⟩
        have HT9 := Lib.hid (HN2.out.call hbT)
        have OT := Lib.hid (OffP.call hbT)
        clear hbT
        go_wp2_with (first
          | (with_reducible refine store_r (by with_reducible rfl) _ _ (by with_reducible rfl) (w.heap.size + 1) (p' := toldX pM Y kA Y.kids.length kc) (by first | (simp [Act.eval]; done) | simp [Act.eval, Act.put]) (by first | (simp [Act.eval]; done) | simp [Act.eval, Act.put]) HT9.out ?_))
        intro W2 h2 b2 o2
        go_wp2
        refine ret_p (k := 2) Try.results73 h2 (by first | (simp; done) | simp [Act.put]) rfl ?_
        rw [HRES.out]
        exact RxP.ok_of (HVN3.out.off (OT.out.trans o2) (HPT.out.below b2)) (KX.off HKX.out (OT.out.trans o2)) b2
    by_cases d123 : due l s2.pos = 123
    · have hlt2 := due_lt d123 (by decide)
      have hres : partR L.free l rec s = (timesR l { s2 with pos := s2.pos + 1 }).bind fun q s => lazyR L.free l x q.1 q.2 s := by rw [HT.out, if_neg d42, if_neg d43, if_neg d63, if_pos d123]
      rw [d123] at kd
      have KD := Lib.hid kd
      clear kd d42 d43 d63 d123 HT HTD
      obtain ⟨pB, hpB⟩ : ∃ q : PX, q = { pr with i := wrap64 (pr.i + 1) } := ⟨_, rfl⟩
      have KON := Lib.hid (fun W => show Calls Try.prog 56 #[pAgg L pr, .int .i64 1] W (RetE (pAgg L pB) fun w' => Below W.heap.size W w') by rw [hpB]; exact rfOn L pr 1 W)
      have HLB := Lib.hid (show Lv W6 L l { s2 with pos := s2.pos + 1 } pB by rw [hpB]; exact HL6.out.on 1 hlt2)
      clear hpB
      generalize ({ s2 with pos := s2.pos + 1 } : PS) = s3 at *
      have kt := fun W h => rfTimes_any L l s3 pB W h
      go_wp2_with (first
        | (with_reducible refine load_p (by with_reducible rfl) _ (by with_reducible rfl) w.heap.size (by first | (simp [Act.eval]; done) | simp [Act.eval, Act.put]) H6.out ?_)
        | (go_at_call 55; (with_reducible refine (KD.out).mono ?_)))
      rintro e w7 ⟨rfl, hb7⟩
      have H7 := Lib.hid (H6.out.call hb7)
      have HRB7 := Lib.hid (HRB.out.call hb7)
      have HRK7 := Lib.hid (HRK.out.call hb7)
      have HL7 := Lib.hid (HLB.out.below hb7)
      clear hb7 H6 HRB HRK HL6 HLB
      go_wp2_with (first
        | (with_reducible refine load_p (by with_reducible rfl) _ (by with_reducible rfl) w.heap.size (by first | (simp [Act.eval]; done) | simp [Act.eval, Act.put]) H7.out ?_)
        | (go_at_call 56; (with_reducible refine (KON.out _).mono ?_)))
      rintro e w8 ⟨rfl, hb8⟩
      have H8 := Lib.hid (H7.out.call hb8)
      have HRB8 := Lib.hid (HRB7.out.call hb8)
      have HRK8 := Lib.hid (HRK7.out.call hb8)
      have HL8 := Lib.hid (HL7.out.below hb8)
      clear hb8 H7 HRB7 HRK7 HL7
      cases htm : timesR l s3 with
      | bad a m =>
        rw [htm] at hres kt
        have HRES := Lib.hid (show partR L.free l rec s = .bad a m from hres)
        have KT := Lib.hid (fun (W : World) (h : Lv W L l s3 pB) => show Calls Try.prog 84 #[pAgg L pB] W (fun e w' => ∃ p n k, e = .returned (.tuple #[pAgg L p, .int .i64 n, .int .i64 k]) ∧ BadX p a m ∧ Below W.heap.size W w') from kt W h)
        clear hres kt htm
        go_wp2_with (first
          | (go_at_call 84; (with_reducible refine (KT.out _ HL8.out).mono ?_)))
        rintro e w9 ⟨pT, nT, kT, rfl, hbx, hb9⟩
        have H9 := Lib.hid (H8.out.call hb9)
        have HRB9 := Lib.hid (HRB8.out.call hb9)
        have HBX := Lib.hid hbx
        have KSB := Lib.hid (fun W => rfSkipBad L pT W hbx.ne0)
        have z16 : (pT.bad == 0) = false := by simp [hbx.ne0]
        clear hb9 hbx H8 HRB8 HRK8 HL8
        go_wp2_with (first
          | (with_reducible refine store_p (by with_reducible rfl) _ _ (by with_reducible rfl) w.heap.size (p' := pT) (by first | (simp [Act.eval]; done) | simp [Act.eval, Act.put]) (by first | (simp [Act.eval]; done) | simp [Act.eval, Act.put]) H9.out ?_))
        intro V9 hV9 o9
        have HVB := Lib.hid (HRB9.out.off o9)
        have HV9 := Lib.hid hV9
        have c4 := HVB.out.cell (j := 4) rfl
        have f4 := HVB.out.frozen 4
        have c5 := (HVB.out.min nT).cell (j := 5) rfl
        have f5 := (HVB.out.min nT).frozen 5
        have HPQ := Lib.hid ((HV9.out.rep HVB.out 4 (.int .i64 nT)).rep (HVB.out.min nT) 5 (.int .i64 kT))
        have HRQ := Lib.hid ((HVB.out.min nT).max kT)
        clear hV9 o9 HRB9 H9
        go_upto_region 21 with fail
        generalize (V9.setCell ⟨q, 4, none⟩ (.int .i64 nT)).setCell ⟨q, 5, none⟩ (.int .i64 kT) = wL at *
        have HRK8 := HRQ
        clear HVB HV9 c4 f4 c5 f5
        go_wp2_with (first
          | (with_reducible refine load_p (by with_reducible rfl) _ (by with_reducible rfl) w.heap.size (by first | (simp [Act.eval]; done) | simp [Act.eval, Act.put]) HPQ.out ?_)
          | (go_at_call 72; (with_reducible refine (KSB.out _).mono ?_)))
        rintro e wM ⟨rfl, hbM⟩
        have HM1 := Lib.hid (HPQ.out.call hbM)
        have HRB1 := Lib.hid (HRQ.out.call hbM)
        clear hbM HPQ HRQ HRK8
        go_wp2_with (first
          | (with_reducible refine store_p (by with_reducible rfl) _ _ (by with_reducible rfl) w.heap.size (p' := pT) (by first | (simp [Act.eval]; done) | simp [Act.eval, Act.put]) (by first | (simp [Act.eval]; done) | simp [Act.eval, Act.put]) HM1.out ?_))
        intro VM hVM oM
        have HM2 := Lib.hid hVM
        have HRB2 := Lib.hid (HRB1.out.off oM)
        have c16 := hVM.bad
        clear hVM oM HM1 HRB1
        obtain ⟨kA, kn, kc, hkv⟩ : ∃ A n c, kv = .slice A n c := ⟨_, _, _, HKV.out⟩
        have hrbh := HRB2.out.heap
        rw [hkv] at hrbh
        have HRH := Lib.hid hrbh
        have KTO := Lib.hid (fun W => show Calls Try.prog 57 #[pAgg L pT, .agg (rxCells (rxRepeat x nT kT false) (.slice kA kn kc)).toArray] W (RetE (pAgg L (toldX pT (rxRepeat x nT kT false) kA kn kc)) fun w' => Below W.heap.size W w') from rfTold L pT (rxRepeat x nT kT false) kA kn kc W)
        clear hkv hrbh
        generalize rxRepeat x nT kT false = Y at *
        go_wp2_with (first
          | (with_reducible refine load_p (by with_reducible rfl) _ (by with_reducible rfl) w.heap.size (by first | (simp [Act.eval]; done) | simp [Act.eval, Act.put]) HM2.out ?_)
          | (with_reducible refine load_rxL (by with_reducible rfl) _ (by with_reducible rfl) q (rxCells Y (.slice kA kn kc)) (by first | (simp [Act.eval]; done) | simp [Act.eval, Act.put]) ⟨_, HRH.out⟩ (rx_len _ _) ?_)
          | (go_at_call 57; (with_reducible refine (KTO.out _).mono ?_)))
        rintro e wT ⟨rfl, hbT⟩
        have HT9 := Lib.hid (HM2.out.call hbT)
        clear hbT
        go_wp2_with (first
          | (with_reducible refine store_r (by with_reducible rfl) _ _ (by with_reducible rfl) (w.heap.size + 1) (p' := toldX pT Y kA kn kc) (by first | (simp [Act.eval]; done) | simp [Act.eval, Act.put]) (by first | (simp [Act.eval]; done) | simp [Act.eval, Act.put]) HT9.out ?_))
        intro W2 h2 b2 o2
        go_wp2
        refine ret_p (k := 2) Try.results73 h2 (by first | (simp; done) | simp [Act.put]) rfl ?_
        rw [HRES.out]
        exact RxP.bad_of HBX.out _ _ _ _ b2
      | ok qT sT =>
        rw [htm] at hres kt
        have HRES := Lib.hid (show partR L.free l rec s = lazyR L.free l x qT.1 qT.2 sT from hres)
        have KT := Lib.hid (fun (W : World) (h : Lv W L l s3 pB) => show Calls Try.prog 84 #[pAgg L pB] W (fun e w' => ∃ p, e = .returned (.tuple #[pAgg L p, .int .i64 (qT.1 : Int), .int .i64 qT.2]) ∧ Lv w' L l sT p ∧ Below W.heap.size W w') from kt W h)
        clear hres kt htm
        obtain ⟨mn, hmn⟩ : ∃ m : Int, m = (qT.1 : Int) := ⟨_, rfl⟩
        obtain ⟨mx, hmx⟩ : ∃ m : Int, m = qT.2 := ⟨_, rfl⟩
        rw [← hmn, ← hmx] at KT HRES
        clear hmn hmx
        go_wp2_with (first
          | (go_at_call 84; (with_reducible refine (KT.out _ HL8.out).mono ?_)))
        rintro e w9 ⟨pL, rfl, hlT, hb9⟩
        have H9 := Lib.hid (H8.out.call hb9)
        have HRB9 := Lib.hid (HRB8.out.call hb9)
        have HRK9 := Lib.hid (HRK8.out.call hb9)
        have HLT := Lib.hid hlT
        clear hb9 hlT H8 HRB8 HRK8 HL8
        go_wp2_with (first
          | (with_reducible refine store_p (by with_reducible rfl) _ _ (by with_reducible rfl) w.heap.size (p' := pL) (by first | (simp [Act.eval]; done) | simp [Act.eval, Act.put]) (by first | (simp [Act.eval]; done) | simp [Act.eval, Act.put]) H9.out ?_))
        intro V9 hV9 o9
        have HVB := Lib.hid (HRB9.out.off o9)
        have HVK := Lib.hid (HRK9.out.off o9)
        have HV9 := Lib.hid hV9
        have HLV := Lib.hid (HLT.out.off o9 (HPT.out.below hV9.below))
        have c4 := HVB.out.cell (j := 4) rfl
        have f4 := HVB.out.frozen 4
        have c5 := (HVB.out.min mn).cell (j := 5) rfl
        have f5 := (HVB.out.min mn).frozen 5
        have HPW := Lib.hid ((HV9.out.rep HVB.out 4 (.int .i64 mn)).rep (HVB.out.min mn) 5 (.int .i64 mx))
        have HRB := Lib.hid ((HVB.out.min mn).max mx)
        have HRK := Lib.hid ((HVK.out.set 4 (.int .i64 mn)).set 5 (.int .i64 mx))
        have HLK := Lib.hid ((HLV.out.setQ (j := 4) (v := .int .i64 mn) HVB.out.heap (HPT.out.below (HV9.out.rep HVB.out 4 (.int .i64 mn)).below)).setQ (j := 5) (v := .int .i64 mx) (HVB.out.min mn).heap (HPT.out.below HPW.out.below))
        clear hV9 o9 HRB9 HRK9 H9 HLT
        go_upto_region 21 with fail
        generalize (V9.setCell ⟨q, 4, none⟩ (.int .i64 mn)).setCell ⟨q, 5, none⟩ (.int .i64 mx) = wL at *
        generalize sT = sL at *
        clear HVB HVK HV9 HLV c4 f4 c5 f5
        -- a repeat's end: at the world wL: HPW: the state pL, HLK: what it stands for (sL), HRB: the repeat, HRK: its part; HRES: what is left
        have HSK := Lib.hid (fun W => rfSkipOk L l sL pL W)
        have hfs := HLK.out.fin.adv (skip_adv (free := L.free) sL)
        have hres : partR L.free l rec s = if due l (skipS' L.free l sL).pos = 63 then .ok (rxRepeat x mn mx true) { skipS' L.free l sL with pos := (skipS' L.free l sL).pos + 1 } else .ok (rxRepeat x mn mx false) (skipS' L.free l sL) := HRES.out
        have HVS := Lib.hid (show Lv _ L l (skipS' L.free l sL) { pL with i := (skipP L.free l sL.pos : Int) } from HLK.out.moved _ (skip_adv (free := L.free) (l := l) sL).pos hfs.pos)
        have hpL := hfs.pos
        have hlL := hfs.len
        have HRES0 := Lib.hid hres
        clear HRES hfs hres
        generalize ({ pL with i := (skipP L.free l sL.pos : Int) } : PX) = pM at *
        generalize skipS' L.free l sL = sM at *
        go_wp2_with (first
          | (with_reducible refine load_p (by with_reducible rfl) _ (by with_reducible rfl) w.heap.size (by first | (simp [Act.eval]; done) | simp [Act.eval, Act.put]) HPW.out ?_)
          | (go_at_call 72; (with_reducible refine (HSK.out _ HLK.out).mono ?_)))
        rintro e wM ⟨rfl, hbM⟩
        have HM1 := Lib.hid (HPW.out.call hbM)
        have HVM1 := Lib.hid (HVS.out.below hbM)
        have HRB1 := Lib.hid (HRB.out.call hbM)
        have HRK1 := Lib.hid (HRK.out.call hbM)
        clear hbM HPW HLK HRB HRK HVS
        go_wp2_with (first
          | (with_reducible refine store_p (by with_reducible rfl) _ _ (by with_reducible rfl) w.heap.size (p' := pM) (by first | (simp [Act.eval]; done) | simp [Act.eval, Act.put]) (by first | (simp [Act.eval]; done) | simp [Act.eval, Act.put]) HM1.out ?_))
        intro VM hVM oM
        have HM2 := Lib.hid hVM
        have HVM := Lib.hid (HVM1.out.off oM (HPT.out.below hVM.below))
        have HRB2 := Lib.hid (HRB1.out.off oM)
        have HRK2 := Lib.hid (HRK1.out.off oM)
        have c16 := hVM.bad
        rw [HVM.out.bad] at c16
        have kM := show Calls Try.prog 55 #[pAgg L pM, .int .i64 0] VM (RetE (.int .i64 (due l sM.pos)) fun w' => Below VM.heap.size VM w') from rfSignL L l sM pM 0 VM HVM.out (by omega)
        clear hVM oM HM1 HVM1 HRB1 HRK1
        by_cases h63 : due l sM.pos = 63
        · have hres := HRES0.out
          rw [if_pos h63] at hres
          rw [h63] at kM
          have HRES := Lib.hid hres
          have KM := Lib.hid kM
          have hltM := due_lt h63 (by decide)
          have HIM := Lib.hid HVM.out.i
          clear hres kM h63
          go_wp2_with (first
            | (with_reducible refine load_pG (by with_unfolding_all rfl) _ (by with_reducible rfl) w.heap.size (by first | (simp [Act.eval]; done) | simp [Act.eval, Act.put]) HM2.out ?_)
            | (go_at_call 55; (with_reducible refine (KM.out).mono ?_)))
          rintro e wN ⟨rfl, hbN⟩
          have HN := Lib.hid (HM2.out.call hbN)
          have HVN := Lib.hid (HVM.out.below hbN)
          have HRBN := Lib.hid (HRB2.out.call hbN)
          have HRKN := Lib.hid (HRK2.out.call hbN)
          have c6 := HRBN.out.cell (j := 6) rfl
          have f6 := HRBN.out.frozen 6
          have c1 := HN.out.i
          have f1 := HN.out.frozen 1
          rw [HIM.out] at c1
          have HN2 := Lib.hid ((HN.out.rep HRBN.out 6 (.bool true)).set (j := 1) (v := .int .i64 ((sM.pos : Int) + 1)) (p' := { pM with i := (sM.pos : Int) + 1 }) rfl)
          have HRB3 := Lib.hid ((HRBN.out.lazy true).far 1 (.int .i64 ((sM.pos : Int) + 1)))
          have HRK3 := Lib.hid ((HRKN.out.set 6 (.bool true)).setP (HN.out.rep HRBN.out 6 (.bool true)) 1 (.int .i64 ((sM.pos : Int) + 1)))
          have HVN3 := Lib.hid (show Lv _ L l { sM with pos := sM.pos + 1 } { pM with i := (sM.pos : Int) + 1 } from by
            have h1 := (HVN.out.setQ (j := 6) (v := .bool true) HRBN.out.heap (HPT.out.below (HN.out.rep HRBN.out 6 (.bool true)).below)).off ((HN.out.rep HRBN.out 6 (.bool true)).setOff 1 (.int .i64 ((sM.pos : Int) + 1))) (HPT.out.below HN2.out.below)
            exact h1.moved (sM.pos + 1) (Nat.le_succ _) hltM)
          clear hbN HM2 HVM HRB2 HRK2 c16
          obtain ⟨kA, kc, hkv, hkx⟩ := HRK3.out.kids mn mx true
          have hrbh := HRB3.out.heap
          rw [hkv] at hrbh hkx
          have KTO := Lib.hid (fun W => show Calls Try.prog 57 #[pAgg L { pM with i := (sM.pos : Int) + 1 }, .agg (rxCells (rxRepeat x mn mx true) (.slice kA (rxRepeat x mn mx true).kids.length kc)).toArray] W (RetE (pAgg L (toldX { pM with i := (sM.pos : Int) + 1 } (rxRepeat x mn mx true) kA (rxRepeat x mn mx true).kids.length kc)) fun w' => Below W.heap.size W w') from rfTold L { pM with i := (sM.pos : Int) + 1 } (rxRepeat x mn mx true) kA (rxRepeat x mn mx true).kids.length kc W)
          have HKX := Lib.hid hkx
          have HRH := Lib.hid hrbh
          clear hkx hkv hrbh
          generalize (rxRepeat x mn mx true) = Y at *
          go_wp2_with (first
            | (with_reducible refine load_p (by with_reducible rfl) _ (by with_reducible rfl) w.heap.size (by first | (simp [Act.eval]; done) | simp [Act.eval, Act.put]) HN2.out ?_)
            | (with_reducible refine load_rxL (by with_reducible rfl) _ (by with_reducible rfl) q (rxCells Y (.slice kA Y.kids.length kc)) (by first | (simp [Act.eval]; done) | simp [Act.eval, Act.put]) ⟨_, HRH.out⟩ (rx_len _ _) ?_)
            | (go_at_call 57; (with_reducible refine (KTO.out _).mono ?_)))
          rintro e wT ⟨rfl, hbT⟩
          have HT9 := Lib.hid (HN2.out.call hbT)
          have OT := Lib.hid (OffP.call hbT)
          clear hbT
          go_wp2_with (first
            | (with_reducible refine store_r (by with_reducible rfl) _ _ (by with_reducible rfl) (w.heap.size + 1) (p' := toldX { pM with i := (sM.pos : Int) + 1 } Y kA Y.kids.length kc) (by first | (simp [Act.eval]; done) | simp [Act.eval, Act.put]) (by first | (simp [Act.eval]; done) | simp [Act.eval, Act.put]) HT9.out ?_))
          intro W2 h2 b2 o2
          go_wp2
          refine ret_p (k := 2) Try.results73 h2 (by first | (simp; done) | simp [Act.put]) rfl ?_
          rw [HRES.out]
          exact RxP.ok_of (HVN3.out.off (OT.out.trans o2) (HPT.out.below b2)) (KX.off HKX.out (OT.out.trans o2)) b2
        · have hres := HRES0.out
          rw [if_neg h63] at hres
          have z63 : (due l sM.pos == 63) = false := beq_false_of_ne h63
          have HRES := Lib.hid hres
          clear hres h63
          generalize due l sM.pos = dM at *
          have KM := Lib.hid kM
          clear kM
          go_wp2_with (first
            | (with_reducible refine load_pG (by with_unfolding_all rfl) _ (by with_reducible rfl) w.heap.size (by first | (simp [Act.eval]; done) | simp [Act.eval, Act.put]) HM2.out ?_)
            | (go_at_call 55; (with_reducible refine (KM.out).mono ?_)))
          rintro e wN ⟨rfl, hbN⟩
          have HN2 := Lib.hid (HM2.out.call hbN)
          have HVN3 := Lib.hid (HVM.out.below hbN)
          have HRB3 := Lib.hid (HRB2.out.call hbN)
          have HRK3 := Lib.hid (HRK2.out.call hbN)
          clear hbN HM2 HVM HRB2 HRK2 c16
          obtain ⟨kA, kc, hkv, hkx⟩ := HRK3.out.kids mn mx false
          have hrbh := HRB3.out.heap
          rw [hkv] at hrbh hkx
          have KTO := Lib.hid (fun W => show Calls Try.prog 57 #[pAgg L pM, .agg (rxCells (rxRepeat x mn mx false) (.slice kA (rxRepeat x mn mx false).kids.length kc)).toArray] W (RetE (pAgg L (toldX pM (rxRepeat x mn mx false) kA (rxRepeat x mn mx false).kids.length kc)) fun w' => Below W.heap.size W w') from rfTold L pM (rxRepeat x mn mx false) kA (rxRepeat x mn mx false).kids.length kc W)
          have HKX := Lib.hid hkx
          have HRH := Lib.hid hrbh
          clear hkx hkv hrbh
          generalize (rxRepeat x mn mx false) = Y at *
          go_wp2_with (first
            | (with_reducible refine load_p (by with_reducible rfl) _ (by with_reducible rfl) w.heap.size (by first | (simp [Act.eval]; done) | simp [Act.eval, Act.put]) HN2.out ?_)
            | (with_reducible refine load_rxL (by with_reducible rfl) _ (by with_reducible rfl) q (rxCells Y (.slice kA Y.kids.length kc)) (by first | (simp [Act.eval]; done) | simp [Act.eval, Act.put]) ⟨_, HRH.out⟩ (rx_len _ _) ?_)
            | (go_at_call 57; (with_reducible refine (KTO.out _).mono ?_)))
          rintro e wT ⟨rfl, hbT⟩
          have HT9 := Lib.hid (HN2.out.call hbT)
          have OT := Lib.hid (OffP.call hbT)
          clear hbT
          go_wp2_with (first
            | (with_reducible refine store_r (by with_reducible rfl) _ _ (by with_reducible rfl) (w.heap.size + 1) (p' := toldX pM Y kA Y.kids.length kc) (by first | (simp [Act.eval]; done) | simp [Act.eval, Act.put]) (by first | (simp [Act.eval]; done) | simp [Act.eval, Act.put]) HT9.out ?_))
          intro W2 h2 b2 o2
          go_wp2
          refine ret_p (k := 2) Try.results73 h2 (by first | (simp; done) | simp [Act.put]) rfl ?_
          rw [HRES.out]
          exact RxP.ok_of (HVN3.out.off (OT.out.trans o2) (HPT.out.below b2)) (KX.off HKX.out (OT.out.trans o2)) b2
    · have z1 : (due l s2.pos == 42) = false := beq_false_of_ne d42
      have z2 : (due l s2.pos == 43) = false := beq_false_of_ne d43
      have z3 : (due l s2.pos == 63) = false := beq_false_of_ne d63
      have z4 : (due l s2.pos == 123) = false := beq_false_of_ne d123
      have HRES := Lib.hid (show partR L.free l rec s = .ok x s2 by rw [HT.out, if_neg d42, if_neg d43, if_neg d63, if_neg d123])
      clear d42 d43 d63 d123 HT
      generalize due l s2.pos = d at *
      have KD := Lib.hid kd
      clear kd
      go_wp2_with (first
        | (with_reducible refine load_p (by with_reducible rfl) _ (by with_reducible rfl) w.heap.size (by first | (simp [Act.eval]; done) | simp [Act.eval, Act.put]) H6.out ?_)
        | (go_at_call 55; (with_reducible refine (KD.out).mono ?_)))
      rintro e w7 ⟨rfl, hb7⟩
      have H7 := Lib.hid (H6.out.call hb7)
      have O7 := Lib.hid (OffP.call hb7)
      clear hb7 H6 HRB HRK
      go_wp2_with (first
        | (with_reducible refine load_p (by with_reducible rfl) _ (by with_reducible rfl) w.heap.size (by first | (simp [Act.eval]; done) | simp [Act.eval, Act.put]) H7.out ?_)
        | (with_reducible refine store_r (by with_reducible rfl) _ _ (by with_reducible rfl) (w.heap.size + 1) (p' := pr) (by first | (simp [Act.eval]; done) | simp [Act.eval, Act.put]) (by first | (simp [Act.eval]; done) | simp [Act.eval, Act.put]) H7.out ?_))
      intro W2 h2 b2 o2
      go_wp2
      refine ret_p (k := 2) Try.results73 h2 (by first | (simp; done) | simp [Act.put]) rfl ?_
      rw [HRES.out]
      refine ⟨pr, rfl, HL6.out.off (O7.out.trans o2) (HPT.out.below b2), HTD.out.1, ⟨?_, ?_⟩, b2⟩
      · rw [HTD.out.1]; exact HTD.out.2.1
      · rw [HTD.out.1]; exact KX.off HTD.out.2.2 (O7.out.trans o2)

end Go.Proofs.Ytoniccokohjenaa
