/-
  The walk of the reference's Same over equal matches (chapter 19).
  The walks of shown, great (chapter 19).
-/
import Derived.Test.YtoniccokohjenaaMatRp
namespace Go.Proofs.Ytoniccokohjenaa
open Go.RowKit

theorem rows_at {w : World} {B : Nat} {E : TypeId} {size n cap : Nat} {A : Option Addr} {xs : List Value} (h : w.ownsRow B E size (.slice A n cap) n xs) (hn : n ≠ 0) : ∃ q, A = some ⟨q, 0, none⟩ ∧ ∀ j u, xs[j]? = some u → w.cell? ⟨q, j, none⟩ = some u := by
  rcases h.2 with ⟨_, h0⟩ | ⟨q, cap', cur, hv, _, hh, _, _, _, h4⟩
  · exact absurd h0 hn
  · injection hv with e1 _ _
    refine ⟨q, e1, fun j v hj => ?_⟩
    rw [Lib.cell_of_heap hh]
    rw [← h4, List.getElem?_take] at hj
    split at hj
    · rw [← Array.getElem?_toList]; exact hj
    · cases hj
theorem sps_at : ∀ (l : List (Int × Int)) (i : Nat) (z : Int × Int), l[i]? = some z → ∀ j v, (spCells z)[j]? = some v → (spsCells l)[i * 2 + j]? = some v
  | [], i, z, h, _, _, _ => by simp at h
  | a :: r, 0, z, h, j, v, hv => by
    obtain rfl : a = z := by simpa using h
    have hj := (List.getElem?_eq_some_iff.1 hv).1
    show (spCells a ++ spsCells r)[0 * 2 + j]? = some v
    rw [Nat.zero_mul, Nat.zero_add, List.getElem?_append_left hj]; exact hv
  | a :: r, i + 1, z, h, j, v, hv => by
    have ih := sps_at r i z (by simpa using h) j v hv
    show (spCells a ++ spsCells r)[(i + 1) * 2 + j]? = some v
    have hl : (spCells a).length = 2 := rfl
    rw [List.getElem?_append_right (by omega), ← ih]
    congr 1; omega
/-- matches that are read -/
def RdMs (B : Nat) (W : World) (ns : List (List UInt8)) (A : Option Addr) (ms : List Mh) : Prop := ms ≠ [] → ∃ q, A = some ⟨q, 0, none⟩ ∧ ∀ i h, ms[i]? = some h → ∃ gv cv, W.rangeAt q (i * 4) (mhCells (h, gv, cv)) ∧ MhIn B W ns (h, gv, cv)
theorem MsV.rd {B : Nat} {W : World} {ns : List (List UInt8)} {A : Option Addr} {n cap : Nat} {out : List Zh} (h : MsV B W ns (.slice A n cap) out) : RdMs B W ns A (out.map Prod.fst) := fun hne => by
  obtain ⟨q, hA, hat⟩ := h.at (fun e => hne (by rw [e]; rfl))
  refine ⟨q, hA, fun i m hm => ?_⟩
  rw [List.getElem?_map] at hm
  cases hz : out[i]? with
  | none => rw [hz] at hm; cases hm
  | some z =>
    rw [hz] at hm
    obtain rfl : z.1 = m := by simpa using hm
    exact ⟨z.2.1, z.2.2, hat i z hz, h.rows z (List.mem_of_getElem? hz)⟩
theorem RdMs.take {B : Nat} {W : World} {ns : List (List UInt8)} {A : Option Addr} {ms : List Mh} (h : RdMs B W ns A ms) (k : Nat) : RdMs B W ns A (ms.take k) := fun hne => by
  obtain ⟨q, hA, hat⟩ := h (fun e => hne (by rw [e]; simp))
  refine ⟨q, hA, fun i m hm => hat i m ?_⟩
  rw [List.getElem?_take] at hm
  split at hm
  · exact hm
  · cases hm
theorem RdMs.below {B : Nat} {W W' : World} {ns : List (List UInt8)} {A : Option Addr} {ms : List Mh} (h : RdMs B W ns A ms) (hb : Below W.heap.size W W') : RdMs B W' ns A ms := fun hne => by
  obtain ⟨q, hA, hat⟩ := h hne
  refine ⟨q, hA, fun i m hm => ?_⟩
  obtain ⟨gv, cv, h1, h2⟩ := hat i m hm
  exact ⟨gv, cv, range_below h1 hb, h2.below hb⟩

set_option maxHeartbeats 4000000 in
set_option maxRecDepth 100000 in
theorem mtSame_any (ms : List Mh) (ns : List (List UInt8)) (B : Nat) (A : Option Addr) (c : Nat) (A2 : Option Addr) (c2 : Nat) (w : World) (hn : ms.length ≤ 100000) (hns : ns.length ≤ 100000) (h1 : RdMs B w ns A ms) (h2 : RdMs B w ns A2 ms) :
    Calls Try.prog 24 #[.slice A ms.length c, .slice A2 ms.length c2] w (RetE (.bool true) fun w' => Below w.heap.size w w') := by
  have H1 := Lib.hid h1
  have H2 := Lib.hid h2
  obtain ⟨n, hnn⟩ : ∃ n, n = ms.length := ⟨_, rfl⟩
  obtain ⟨NL, hNL⟩ : ∃ n, n = ns.length := ⟨_, rfl⟩
  rw [← hnn] at hn ⊢
  rw [← hNL] at hns
  have HN := Lib.hid hnn
  have HNL := Lib.hid hNL
  clear h1 h2 hnn hNL
  go_enter Try.func24, Try.ntmps24
  go_wp2
  go_loopg [5] (n + 1) (fun kx v wr => ∃ i : Nat, v = .int .i64 (i : Int) ∧ i ≤ n ∧ n - i < kx ∧ Below w.heap.size w wr)
  case atStart => exact ⟨0, by go_num, Nat.zero_le _, by omega, Below.refl _ _⟩
  case round =>
    obtain ⟨i, rfl, hi, hik, hb⟩ := hrel
    have HB := Lib.hid hb
    by_cases hlt : i < n
    · have z1 : decide (i < n) = true := decide_eq_true hlt
      have hlm : i < ms.length := by rw [← HN.out]; exact hlt
      obtain ⟨h, hh⟩ : ∃ h, ms[i]? = some h := ⟨_, List.getElem?_eq_getElem hlm⟩
      have hne : ms ≠ [] := fun e => by rw [e] at hlm; cases hlm
      obtain ⟨q1, rfl, hat1⟩ := (H1.out.below hb) hne
      obtain ⟨q2, rfl, hat2⟩ := (H2.out.below hb) hne
      obtain ⟨g1, k1, hr1, hin1⟩ := hat1 i h hh
      obtain ⟨g2, k2, hr2, hin2⟩ := hat2 i h hh
      obtain ⟨G1, gc1, hg1⟩ := rowns_slice hin1.1
      obtain ⟨K1, kc1, hk1⟩ := rowns_slice hin1.2
      obtain ⟨G2, gc2, hg2⟩ := rowns_slice hin2.1
      obtain ⟨K2, kc2, hk2⟩ := rowns_slice hin2.2
      simp only at hg1 hk1 hg2 hk2
      subst hg1 hk1 hg2 hk2
      simp only [← HNL.out] at hr1 hr2 hin1 hin2
      obtain ⟨ha, hbm, hM⟩ := h
      have r0 := hr1 0 _ rfl
      have r1 := hr1 1 _ rfl
      have r2 := hr1 2 _ rfl
      have r3 := hr1 3 _ rfl
      rw [Nat.add_zero] at r0
      simp only at r0 r1 r2 r3
      have y0 : (0 : Int) ≤ (i : Int) := by omega
      have y1 : (i : Int) < (n : Int) := by omega
      have hi2 : i < 100000 := by omega
      obtain ⟨W1, hW1⟩ : ∃ W, W = wr.alloc (.cells #[.int .i64 (ha : Int), .int .i64 (hbm : Int), .slice G1 NL gc1, .slice K1 NL kc1] TMh) := ⟨_, rfl⟩
      obtain ⟨p1, hp1⟩ : ∃ k, k = wr.heap.size := ⟨_, rfl⟩
      obtain ⟨p2, hp2⟩ : ∃ k, k = W1.heap.size := ⟨_, rfl⟩
      have hal1 : Below wr.heap.size wr W1 := by rw [hW1]; exact (Below.refl _ wr).alloc (Nat.le_refl _) _
      have hx1 : W1.heap[p1]? = some (.cells #[.int .i64 (ha : Int), .int .i64 (hbm : Int), .slice G1 NL gc1, .slice K1 NL kc1] TMh (0, 0)) := by rw [hW1, hp1]; exact Go.heap_alloc_new wr _
      have hr2' := range_below hr2 hal1
      have s0 := hr2' 0 _ rfl
      have s1 := hr2' 1 _ rfl
      have s2 := hr2' 2 _ rfl
      have s3 := hr2' 3 _ rfl
      rw [Nat.add_zero] at s0
      simp only at s0 s1 s2 s3
      obtain ⟨W2, hW2⟩ : ∃ W, W = W1.alloc (.cells #[.int .i64 (ha : Int), .int .i64 (hbm : Int), .slice G2 NL gc2, .slice K2 NL kc2] TMh) := ⟨_, rfl⟩
      have hal3 : Below W1.heap.size W1 W2 := by rw [hW2]; exact (Below.refl _ W1).alloc (Nat.le_refl _) _
      have hal2 : Below wr.heap.size wr W2 := hal1.trans (hal3.mono hal1.size)
      have hx1' := heap_call hx1 hal3
      have hx2 : W2.heap[p2]? = some (.cells #[.int .i64 (ha : Int), .int .i64 (hbm : Int), .slice G2 NL gc2, .slice K2 NL kc2] TMh (0, 0)) := by rw [hW2, hp2]; exact Go.heap_alloc_new W1 _
      have t0 : W2.cell? ⟨p1, 0, none⟩ = some (.int .i64 (ha : Int)) := by rw [Lib.cell_of_heap hx1']; rfl
      have t1 : W2.cell? ⟨p1, 1, none⟩ = some (.int .i64 (hbm : Int)) := by rw [Lib.cell_of_heap hx1']; rfl
      have t2 : W2.cell? ⟨p1, 2, none⟩ = some (.slice G1 NL gc1) := by rw [Lib.cell_of_heap hx1']; rfl
      have t3 : W2.cell? ⟨p1, 3, none⟩ = some (.slice K1 NL kc1) := by rw [Lib.cell_of_heap hx1']; rfl
      have u0 : W2.cell? ⟨p2, 0, none⟩ = some (.int .i64 (ha : Int)) := by rw [Lib.cell_of_heap hx2]; rfl
      have u1 : W2.cell? ⟨p2, 1, none⟩ = some (.int .i64 (hbm : Int)) := by rw [Lib.cell_of_heap hx2]; rfl
      have u2 : W2.cell? ⟨p2, 2, none⟩ = some (.slice G2 NL gc2) := by rw [Lib.cell_of_heap hx2]; rfl
      have u3 : W2.cell? ⟨p2, 3, none⟩ = some (.slice K2 NL kc2) := by rw [Lib.cell_of_heap hx2]; rfl
      have HS1 := Lib.hid (show W2.ownsRow B TSp 2 (.slice G1 NL gc1) NL (spsCells (grpL hM NL)) from by have := rowns_below hin1.1 hal2; simp only [← HNL.out] at this; exact this)
      have HS2 := Lib.hid (show W2.ownsRow B TSp 2 (.slice G2 NL gc2) NL (spsCells (grpL hM NL)) from by have := rowns_below hin2.1 hal2; simp only [← HNL.out] at this; exact this)
      have HC1 := Lib.hid (show W2.ownsRow B 9 1 (.slice K1 NL kc1) NL (strCells ns) from by have := rowns_below hin1.2 hal2; simp only [← HNL.out] at this; exact this)
      have HC2 := Lib.hid (show W2.ownsRow B 9 1 (.slice K2 NL kc2) NL (strCells ns) from by have := rowns_below hin2.2 hal2; simp only [← HNL.out] at this; exact this)
      have HB2 := Lib.hid (hb.trans (hal2.mono hb.size))
      clear hb hal1 hal2 hal3 hx1 hx1' hx2 hin1 hin2 hr1 hr2 hr2' hat1 hat2 hh hne hlm
      go_upto_region 7 with fail
      rw [← hW1, ← hp1]
      clear hW1 r0 r1 r2 r3 hp1
      go_upto_region 8 with fail
      rw [← hW2, ← hp2]
      clear hW2 s0 s1 s2 s3 hp2
      go_wp2_with fail
      obtain ⟨wo, rfl⟩ : ∃ wo : World, wo = wr := ⟨_, rfl⟩
      obtain ⟨og, rfl⟩ : ∃ og : Nat, og = gk := ⟨_, rfl⟩
      go_loopg [8] (NL + 1) (fun kx v wr => ∃ k j : Nat, v = .int .i64 (k : Int) ∧ k ≤ NL ∧ NL - k < kx ∧ wr = W2.drewN j)
      case atStart => exact ⟨0, 0, by go_num, Nat.zero_le _, by omega, rfl⟩
      case round =>
        obtain ⟨k, j, rfl, hk, hkx, rfl⟩ := hrel
        have t2 : (W2.drewN j).cell? ⟨p1, 2, none⟩ = some (.slice G1 NL gc1) := t2
        have u2 : (W2.drewN j).cell? ⟨p2, 2, none⟩ = some (.slice G2 NL gc2) := u2
        have t3 : (W2.drewN j).cell? ⟨p1, 3, none⟩ = some (.slice K1 NL kc1) := t3
        have u3 : (W2.drewN j).cell? ⟨p2, 3, none⟩ = some (.slice K2 NL kc2) := u3
        by_cases hkl : k < NL
        · have z2 : decide (k < NL) = true := decide_eq_true hkl
          obtain ⟨b1, rfl, hv1⟩ := rows_at HS1.out (by omega)
          obtain ⟨b2, rfl, hv2⟩ := rows_at HS2.out (by omega)
          have hgk : (grpL hM NL)[k]? = some (grpAt hM k) := by unfold grpL; rw [List.getElem?_map, List.getElem?_range hkl]; rfl
          have e0 := hv1 _ _ (sps_at _ k _ hgk 0 _ rfl)
          have e1 := hv1 _ _ (sps_at _ k _ hgk 1 _ rfl)
          have f0 := hv2 _ _ (sps_at _ k _ hgk 0 _ rfl)
          have f1 := hv2 _ _ (sps_at _ k _ hgk 1 _ rfl)
          rw [Nat.add_zero] at e0 f0
          generalize grpAt hM k = pr at e0 e1 f0 f1
          obtain ⟨pa, pb⟩ := pr
          simp only at e0 e1 f0 f1
          have e0 : (W2.drewN j).cell? ⟨b1, k * 2, none⟩ = some (.int .i64 pa) := e0
          have e1 : (W2.drewN j).cell? ⟨b1, k * 2 + 1, none⟩ = some (.int .i64 pb) := e1
          have f0 : (W2.drewN j).cell? ⟨b2, k * 2, none⟩ = some (.int .i64 pa) := f0
          have f1 : (W2.drewN j).cell? ⟨b2, k * 2 + 1, none⟩ = some (.int .i64 pb) := f1
          have x0 : (0 : Int) ≤ (k : Int) := by omega
          have x1 : (k : Int) < (NL : Int) := by omega
          have hk2 : k < 100000 := by omega
          clear hv1 hv2 hgk t3 u3
          obtain ⟨wm, hwm⟩ : ∃ wm, wm = W2.drewN j := ⟨_, rfl⟩
          rw [← hwm] at e0 e1 f0 f1 t2 u2 ⊢
          have HWM := Lib.hid hwm
          clear hwm
          go_upto_region 13 with fail
          go_quiet (fail)
          go_wp2_with fail
          go_roundg (NL - k)
          case measure => omega
          case rel => exact ⟨k + 1, j + nq, by go_num, by omega, by omega, by rw [HWM.out]; exact rdrewN2 W2 j nq⟩
        · have z2 : decide (k < NL) = false := decide_eq_false hkl
          obtain ⟨wm, hwm⟩ : ∃ wm, wm = W2.drewN j := ⟨_, rfl⟩
          have hbm : Below W2.heap.size W2 wm := by rw [hwm]; exact ⟨rfl, rfl, rfl, Nat.le_refl _, fun _ _ => rfl⟩
          have HC1' := Lib.hid (rowns_below HC1.out hbm)
          have HC2' := Lib.hid (rowns_below HC2.out hbm)
          have HB3 := Lib.hid (HB2.out.trans (hbm.mono HB2.out.size))
          have t3' : wm.cell? ⟨p1, 3, none⟩ = some (.slice K1 NL kc1) := by rw [hwm]; exact t3
          have u3' : wm.cell? ⟨p2, 3, none⟩ = some (.slice K2 NL kc2) := by rw [hwm]; exact u3
          rw [← hwm] at t2 u2 ⊢
          clear hbm hwm t0 t1 u0 u1 HC1 HC2 HS1 HS2 HB2 t3 u3 HB
          go_wp2_with fail
          go_loopg [9] (NL + 1) (fun kx v wr => ∃ k j : Nat, v = .int .i64 (k : Int) ∧ k ≤ NL ∧ NL - k < kx ∧ wr = wm.drewN j)
          case atStart => exact ⟨0, 0, by go_num, Nat.zero_le _, by omega, rfl⟩
          case round =>
            clear hkx hk hkl z2 t2 u2
            obtain ⟨k, j, rfl, hk, hkx, rfl⟩ := hrel
            have t3 : (wm.drewN j).cell? ⟨p1, 3, none⟩ = some (.slice K1 NL kc1) := t3'
            have u3 : (wm.drewN j).cell? ⟨p2, 3, none⟩ = some (.slice K2 NL kc2) := u3'
            by_cases hkl : k < NL
            · have z2 : decide (k < NL) = true := decide_eq_true hkl
              obtain ⟨b1, rfl, hv1⟩ := rows_at HC1'.out (by omega)
              obtain ⟨b2, rfl, hv2⟩ := rows_at HC2'.out (by omega)
              have hgk : (strCells ns)[k]? = some (.string ⟨(ns.getD k []).toArray⟩) := by
                unfold strCells
                rw [List.getElem?_map, List.getElem?_eq_getElem (by rw [← HNL.out]; exact hkl), List.getD_eq_getElem?_getD, List.getElem?_eq_getElem (by rw [← HNL.out]; exact hkl)]; rfl
              have e0 : (wm.drewN j).cell? ⟨b1, k, none⟩ = some (.string ⟨(ns.getD k []).toArray⟩) := hv1 _ _ hgk
              have f0 : (wm.drewN j).cell? ⟨b2, k, none⟩ = some (.string ⟨(ns.getD k []).toArray⟩) := hv2 _ _ hgk
              generalize ns.getD k [] = sx at e0 f0
              have x0 : (0 : Int) ≤ (k : Int) := by omega
              have x1 : (k : Int) < (NL : Int) := by omega
              have hk2 : k < 100000 := by omega
              clear hv1 hv2 hgk
              obtain ⟨wn, hwn⟩ : ∃ w, w = wm.drewN j := ⟨_, rfl⟩
              rw [← hwn] at e0 f0 t3 u3 ⊢
              have HWN := Lib.hid hwn
              clear hwn
              go_upto_region 18 with fail
              go_quiet (fail)
              go_wp2_with fail
              go_roundg (NL - k)
              case measure => omega
              case rel => exact ⟨k + 1, j + nq, by go_num, by omega, by omega, by rw [HWN.out]; exact rdrewN2 wm j nq⟩
            · have z2 : decide (k < NL) = false := decide_eq_false hkl
              have HB4 := Lib.hid (show Below w.heap.size w (wm.drewN j) from HB3.out.trans ⟨rfl, rfl, rfl, Nat.le_refl _, fun _ _ => rfl⟩)
              clear t3' u3' HC1' HC2' HB3
              go_wp2_with fail
              go_roundg (n - i)
              case measure => omega
              case rel => exact ⟨i + 1, by go_num, by omega, by omega, HB4.out⟩
    · have z1 : decide (i < n) = false := decide_eq_false hlt
      clear hb
      go_wp2
      go_ret
      exact ⟨rfl, HB.out⟩

end Go.Proofs.Ytoniccokohjenaa

namespace Go.Proofs.Ytoniccokohjenaa
open Go.RowKit

theorem av1 : allV [97, 43] [98, 97, 97, 98] [103] = ([⟨1, 3, []⟩], [], 0) := by kernel_rfl
theorem av2 : allV [40, 97, 41, 124, 98] [97, 98] [103] = ([⟨0, 1, [0, 1]⟩, ⟨1, 2, [-1, -1]⟩], [[]], 0) := by kernel_rfl
theorem av3 : replV [92, 100] [97, 49, 98, 50, 50] [103] [45] = ([97, 45, 98, 45, 45], 0) := by kernel_rfl
theorem av4 : allV [40, 63, 60, 120, 62, 46, 41, 36] [97, 98] [] = ([⟨1, 2, [1, 2]⟩], [[120]], 0) := by kernel_rfl

/-- one match that is read -/
theorem RdMs.one {B : Nat} {W : World} {ns : List (List UInt8)} {A : Option Addr} {ms : List Mh} (h : RdMs B W ns A ms) {i : Nat} {m : Mh} (hi : ms[i]? = some m) : ∃ q GA gc KA kc, A = some ⟨q, 0, none⟩ ∧ W.rangeAt q (i * 4) (mhCells (m, .slice GA ns.length gc, .slice KA ns.length kc)) ∧ W.ownsRow B TSp 2 (.slice GA ns.length gc) ns.length (spsCells (grpL m.M ns.length)) ∧ W.ownsRow B 9 1 (.slice KA ns.length kc) ns.length (strCells ns) := by
  obtain ⟨q, hA, hat⟩ := h (fun e => by rw [e] at hi; simp at hi)
  obtain ⟨gv, cv, hr, h1, h2⟩ := hat i m hi
  obtain ⟨GA, gc, hg⟩ := rowns_slice h1
  obtain ⟨KA, kc, hk⟩ := rowns_slice h2
  simp only at hg hk
  subst hg hk
  exact ⟨q, GA, gc, KA, kc, hA, hr, h1, h2⟩

set_option maxHeartbeats 1000000 in
set_option maxRecDepth 100000 in
theorem mtGreat_any (p t : ByteArray) (w : World) : Calls Try.prog 21 #[.string p, .string t] w (RetE (.bool (decide (60 < p.size) || decide (40 < t.size))) fun w' => w = w') := by
  by_cases h1 : 60 < p.size
  · rw [decide_eq_true h1, Bool.true_or]
    have z1 : decide ((60 : Int) < (p.size : Int)) = true := decide_eq_true (by omega)
    go_enter Try.func21, Try.ntmps21
    go_wp2
    go_ret
    exact ⟨rfl, rfl⟩
  · rw [decide_eq_false h1, Bool.false_or]
    have z1 : decide ((60 : Int) < (p.size : Int)) = false := decide_eq_false (by omega)
    obtain ⟨b, hb⟩ : ∃ b, b = decide (40 < t.size) := ⟨_, rfl⟩
    rw [← hb]
    have z2 : decide ((40 : Int) < (t.size : Int)) = b := by rw [hb]; exact decide_eq_decide.2 (by omega)
    clear hb
    go_enter Try.func21, Try.ntmps21
    go_wp2
    go_ret
    exact ⟨rfl, rfl⟩

theorem allLit {p t f : ByteArray} {ms : List Mh} {ns : List (List UInt8)} (h : allV p.data.toList t.data.toList f.data.toList = (ms, ns, 0)) (hp : p.size ≤ 1000000) (ht : t.size ≤ 1000) (w : World) :
    Calls Try.prog 22 #[.string p, .string t, .string f] w fun e w' => ∃ A c, e = .returned (.tuple #[.slice A ms.length c, .int .i64 0]) ∧ Below w.heap.size w w' ∧ RdMs w.heap.size w' ns A ms := by
  refine (mtAll_any p t f w hp ht).mono fun e w' h2 => ?_
  rw [h] at h2
  obtain ⟨ov, out, rfl, hb, hm, hms⟩ := h2
  obtain ⟨A, c, rfl⟩ := rowns_slice hms.own
  have hm : out.map Prod.fst = ms := hm
  refine ⟨A, c, ?_, hb, by rw [← hm]; exact hms.rd⟩
  rw [← hm, List.length_map]; rfl

set_option maxHeartbeats 4000000 in
set_option maxRecDepth 100000 in
theorem mtShown_any (w : World) : Calls Try.prog 20 #[] w (RetE (.bool true) fun w' => Below w.heap.size w w') := by
  have K1 := Lib.hid (fun W => allLit (p := ⟨#[97, 43]⟩) (t := ⟨#[98, 97, 97, 98]⟩) (f := ⟨#[103]⟩) av1 (by decide) (by decide) W)
  have K2 := Lib.hid (fun W => allLit (p := ⟨#[40, 97, 41, 124, 98]⟩) (t := ⟨#[97, 98]⟩) (f := ⟨#[103]⟩) av2 (by decide) (by decide) W)
  have k3 := fun W => mtReplace_any ⟨#[92, 100]⟩ ⟨#[97, 49, 98, 50, 50]⟩ ⟨#[103]⟩ ⟨#[45]⟩ W (by decide) (by decide) (by decide)
  simp only [av3] at k3
  have K3 := Lib.hid k3
  have K4 := Lib.hid (fun W => allLit (p := ⟨#[40, 63, 60, 120, 62, 46, 41, 36]⟩) (t := ⟨#[97, 98]⟩) (f := ⟨#[]⟩) av4 (by decide) (by decide) W)
  clear k3
  go_enter Try.func20, Try.ntmps20
  go_wp2_with (go_at_call 22; refine (K1.out _).mono ?_)
  rintro e w1 ⟨A1, c1, rfl, hb1, hr1⟩
  have B1 := Lib.hid hb1
  have R1 := Lib.hid hr1
  clear hb1 hr1
  simp only [List.length_cons, List.length_nil]
  go_wp2_with (go_at_call 22; refine (K2.out _).mono ?_)
  rintro e w2 ⟨A2, c2, rfl, hb2, hr2⟩
  have R1' := Lib.hid (R1.out.below hb2)
  have B2 := Lib.hid (B1.out.trans (hb2.mono B1.out.size))
  have R2 := Lib.hid hr2
  clear hb2 hr2 R1 B1
  simp only [List.length_cons, List.length_nil]
  go_wp2_with (go_at_call 25; refine (K3.out _).mono ?_)
  rintro e w3 ⟨rfl, hb3⟩
  have R1 := Lib.hid (R1'.out.below hb3)
  have R2' := Lib.hid (R2.out.below hb3)
  have B3 := Lib.hid (B2.out.trans (hb3.mono B2.out.size))
  clear hb3 R1' R2 B2
  go_wp2_with (go_at_call 22; refine (K4.out _).mono ?_)
  rintro e w4 ⟨A4, c4, rfl, hb4, hr4⟩
  have r1 := R1.out.below hb4
  have r2 := R2'.out.below hb4
  have B4 := Lib.hid (B3.out.trans (hb4.mono B3.out.size))
  clear hb4 R1 R2' B3
  simp only [List.length_cons, List.length_nil]
  obtain ⟨q1, G1, g1, N1, n1, rfl, h1, _, _⟩ := r1.one (i := 0) rfl
  obtain ⟨q2, G2, g2, N2, n2, rfl, h2, o2, _⟩ := r2.one (i := 0) rfl
  obtain ⟨q2', G3, g3, N3, n3, e3, h3, o3, _⟩ := r2.one (i := 1) rfl
  obtain ⟨q4, G4, g4, N4, n4, rfl, h4, _, o4⟩ := hr4.one (i := 0) rfl
  injection e3 with e3
  injection e3 with e3 _ _
  subst e3
  obtain ⟨b2, rfl, v2⟩ := rows_at o2 (by decide)
  obtain ⟨b3, rfl, v3⟩ := rows_at o3 (by decide)
  obtain ⟨b4, rfl, v4⟩ := rows_at o4 (by decide)
  have f10 : w4.cell? ⟨q1, 0, none⟩ = some (.int .i64 1) := h1 0 _ rfl
  have f11 : w4.cell? ⟨q1, 1, none⟩ = some (.int .i64 3) := h1 1 _ rfl
  have f22 : w4.cell? ⟨q2, 2, none⟩ = some (.slice (some ⟨b2, 0, none⟩) 1 g2) := h2 2 _ rfl
  have f26 : w4.cell? ⟨q2, 6, none⟩ = some (.slice (some ⟨b3, 0, none⟩) 1 g3) := h3 2 _ rfl
  have f40 : w4.cell? ⟨q4, 0, none⟩ = some (.int .i64 1) := h4 0 _ rfl
  have f43 : w4.cell? ⟨q4, 3, none⟩ = some (.slice (some ⟨b4, 0, none⟩) 1 n4) := h4 3 _ rfl
  have x20 : w4.cell? ⟨b2, 0, none⟩ = some (.int .i64 0) := v2 0 _ rfl
  have x21 : w4.cell? ⟨b2, 1, none⟩ = some (.int .i64 1) := v2 1 _ rfl
  have x30 : w4.cell? ⟨b3, 0, none⟩ = some (.int .i64 (-1)) := v3 0 _ rfl
  have x31 : w4.cell? ⟨b3, 1, none⟩ = some (.int .i64 (-1)) := v3 1 _ rfl
  have x40 : w4.cell? ⟨b4, 0, none⟩ = some (.string ⟨#[120]⟩) := v4 0 _ rfl
  clear h1 h2 h3 h4 o2 o3 o4 v2 v3 v4 r1 r2 hr4
  go_wp2
  all_goals (go_ret; exact ⟨rfl, B4.out⟩)

end Go.Proofs.Ytoniccokohjenaa
