/-
  The walk of match's repeat, its lay given (chapter 19).
-/
import Derived.Test.YtoniccokohjenaaDoorMatN
import Derived.Test.YtoniccokohjenaaDoorMatZ
namespace Go.Proofs.YtoniccokohjenaaDoor
open Go.RowKit

theorem mtAlt_any (w0 : World) : ∀ (ks : List Rx), ks ≠ [] → (∀ k ∈ ks, LayOk w0 k) → AltOk' w0 ks
  | [], h, _ => absurd rfl h
  | [k], _, hk => mtAlt_one w0 k (hk k (by simp))
  | k :: k2 :: ks, _, hk => mtAlt_step w0 k (k2 :: ks) (by simp) (hk k (by simp)) (mtAlt_any w0 (k2 :: ks) (by simp) (fun y hy => hk y (List.mem_cons_of_mem _ hy)))

/-- where a walk of lay, repeat stands: what was laid, the part's box, other blocks -/
structure LyB (w0 w W : World) (g : Nat) (zs new : List (Stp × Value)) (x : Rx) (A : Option Addr) (c : Nat) : Prop where
  mak : MkB w0 W g (zs ++ new)
  box : W.heap[w.heap.size]? = some (.cells (rxCells x (.slice A x.kids.length c)).toArray TRx (0, 0))
  off : OffM w W
  lo : w0.heap.size ≤ w.heap.size
section
variable {w0 w W W' : World} {g : Nat} {zs new new' : List (Stp × Value)} {x : Rx} {A : Option Addr} {c : Nat}
theorem LyB.start (h : MkB w0 w g zs) : LyB w0 w (w.alloc (.cells (rxCells x (.slice A x.kids.length c)).toArray TRx)) g zs [] x A c :=
  ⟨by rw [List.append_nil]; exact h.call ((Below.refl _ w).alloc (Nat.le_refl _) _), Go.heap_alloc_new w _, OffM.call ((Below.refl _ w).alloc (Nat.le_refl _) _), h.size⟩
theorem LyB.next (h : LyB w0 w W g zs new x A c) (hm : MkB w0 W' g (zs ++ new')) (ho : OffM W W') : LyB w0 w W' g zs new' x A c :=
  ⟨hm, ho _ _ _ _ (by decide) (by decide) h.box, h.off.trans ho, h.lo⟩
theorem LyB.call (h : LyB w0 w W g zs new x A c) (hb : Below W.heap.size W W') : LyB w0 w W' g zs new x A c := h.next (h.mak.call hb) (OffM.call hb)
theorem LyB.drew (h : LyB w0 w W g zs new x A c) : LyB w0 w W.drew g zs new x A c := ⟨h.mak.drew, h.box, h.off, h.lo⟩
theorem LyB.cell (h : LyB w0 w W g zs new x A c) {j : Nat} {v : Value} (hj : (rxCells x (.slice A x.kids.length c))[j]? = some v) : W.cell? ⟨w.heap.size, j, none⟩ = some v := by
  rw [Lib.cell_of_heap h.box]; simpa using hj

/-- what an append of numbers behind a row of the call's own leaves -/
theorem LyB.grown {B : Nat} {v : Value} {fk : List Int} {o : Obj} (h : LyB w0 w W g zs new x A c) (own : OwnInts B W v fk) (hB : B = w.heap.size + 1) (hgr : (W.alloc o).grownBy W' v.ownBlock) : LyB w0 w W' g zs new x A c := by
  subst hB
  have hk := rrow_kind own
  have hsz : w.heap.size < W.heap.size := (Array.getElem?_eq_some_iff.1 h.box).1
  have keep : ∀ (q : Nat) (cs : Array Value) (T : TypeId) (z : Nat × Nat), T ≠ 3 → W.heap[q]? = some (.cells cs T z) → W'.heap[q]? = some (.cells cs T z) := fun q cs T z hT hq => by
    have hl := (Array.getElem?_eq_some_iff.1 hq).1
    rw [hgr.block q (by rw [World.size_alloc]; omega) (fun e => by
      obtain ⟨_, _, c', z', hc⟩ := hk q e.symm
      rw [hq] at hc; injection hc with hc; injection hc with _ hc _; exact hT hc), Below.heap_alloc W o q hl]
    exact hq
  have low : ∀ q, q ≤ w.heap.size → W'.heap[q]? = W.heap[q]? := fun q hq => by
    rw [hgr.block q (by rw [World.size_alloc]; omega) (fun e => by have := (hk q e.symm).1; omega), Below.heap_alloc W o q (by omega)]
  have hws := h.mak.below.size
  have hb : Below w0.heap.size w0 W' := (h.mak.below.alloc hws o).grown hgr (by rw [World.size_alloc]; omega) (fun j hj => by
    have h1 := (hk j hj).1
    have h2 := h.lo
    omega)
  refine ⟨⟨hb, h.mak.lo, ?_, h.mak.form⟩, (low _ (Nat.le_refl _)).trans h.box, fun q cs T z h1 h2 hq => ?_, h.lo⟩
  · obtain ⟨A', cap, hg, hr⟩ := h.mak.row
    exact ⟨A', cap, keep _ _ _ _ (by decide) hg, rowns_block hr fun k c z _ hh => keep k c _ z (by decide) hh⟩
  · have hl := (Array.getElem?_eq_some_iff.1 hq).1
    rw [low q (by omega)]
    exact h.off q cs T z h1 h2 hq
end
theorem own_off {B : Nat} {w w' : World} {v : Value} {fk : List Int} (h : OwnInts B w v fk) (ho : OffM w w') : OwnInts B w' v fk := rowns_block h fun k c z _ hh => ho k c _ z (by decide) (by decide) hh
theorem ways_fork (lz : Bool) (more on : Nat) : (stWays zF0 (if lz = true then on else more) (if lz = true then more else on)).1 = sFork lz more on := by cases lz <;> rfl
theorem set_mid {α : Type} (zs n1 n2 : List α) (F0 F : α) (i : Nat) (hi : i = zs.length + n1.length) : (zs ++ (n1 ++ F0 :: n2)).set i F = zs ++ (n1 ++ F :: n2) := by
  subst hi
  rw [List.set_append_right _ _ (by omega), List.set_append_right _ _ (by omega)]
  have e : zs.length + n1.length - zs.length - n1.length = 0 := by omega
  rw [e, List.set_cons_zero]
theorem get_mid {α : Type} (zs n1 n2 : List α) (F0 : α) (i : Nat) (hi : i = zs.length + n1.length) : (zs ++ (n1 ++ F0 :: n2))[i]? = some F0 := by
  subst hi
  rw [List.getElem?_append_right (by omega), List.getElem?_append_right (by omega)]
  have e : zs.length + n1.length - zs.length - n1.length = 0 := by omega
  rw [e]; rfl
set_option maxHeartbeats 4000000 in
set_option maxRecDepth 100000 in
theorem mtRep_any (w0 : World) (x k : Rx) (hks : x.kids = [k]) (a : Nat) (hmn : x.min = (a : Int)) (hmx : x.max = -1 ∨ ∃ d : Nat, x.max = ((a + d : Nat) : Int) ∧ d ≤ 255) (ha : a ≤ 255) (hk : LayOk w0 k)
    (g : Nat) (zs : List (Stp × Value)) (A : Option Addr) (c : Nat) (w : World) (h : MkB w0 w g zs) (hT : KT w0 x A c) (hlen : zs.length + (repL (layR k) x.min x.max x.lazy 0).length ≤ 30000) :
    Calls Tryd.prog 27 #[.pointer (some ⟨g, 0, none⟩), rxAgg x (.slice A x.kids.length c)] w (RetE (.tuple #[]) (LaidP w0 g zs (repL (layR k) x.min x.max x.lazy) w)) := by
  obtain ⟨q, o, rfl, hkid⟩ := KT.kid hT (by rw [hks]; simp)
  obtain ⟨A1, c1, r1, k1⟩ := hkid 0 k (by rw [hks]; rfl)
  rw [Nat.zero_mul, Nat.add_zero] at r1
  obtain ⟨lk, hlk⟩ : ∃ m, m = (layR k 0).length := ⟨_, rfl⟩
  have hf : ∀ p, (layR k p).length = lk := fun p => by rw [lay_len k p, hlk]
  have HF := Lib.hid hf
  rw [rep_len hf] at hlen
  have HL1 := Lib.hid (show x.kids.length = 1 by rw [hks]; rfl)
  obtain ⟨L0, hL0⟩ : ∃ m, m = zs.length := ⟨_, rfl⟩
  rw [← hL0, hmn, Int.toNat_natCast] at hlen
  have HL0 := Lib.hid hL0
  have HR1 := Lib.hid r1
  have KL := Lib.hid (fun (W : World) (ys : List (Stp × Value)) (h : MkB w0 W g ys) (hl : ys.length + lk ≤ 30000) => hk g ys A1 c1 W h k1 (by rw [← hlk]; exact hl))
  have HB0 := Lib.hid (LyB.start (x := x) (A := some ⟨q, o, none⟩) (c := c) h)
  have HMX := Lib.hid hmx
  have HMN := Lib.hid hmn
  have HLN := Lib.hid hlen
  have hla : L0 + a * lk ≤ 30000 := by omega
  clear h hT hkid r1 k1 hk hf hlk hlen hL0 hmx hks
  obtain ⟨W1, hW1⟩ : ∃ W1, W1 = w.alloc (.cells (rxCells x (.slice (some ⟨q, o, none⟩) x.kids.length c)).toArray TRx) := ⟨_, rfl⟩
  rw [← hW1] at HB0
  simp only [rxCells] at hW1
  simp only [rxAgg] at KL ⊢
  have c4 := HB0.out.cell (j := 4) rfl
  rw [hmn] at c4
  clear hmn
  go_enter Tryd.func27, Tryd.ntmps27
  go_upto_region 1 with fail
  rw [← hW1]
  clear hW1
  go_wp2
  go_loopg [10] (a + 1) (fun kx v wr => ∃ (i : Nat) (new : List (Stp × Value)), v = .int .i64 (i : Int) ∧ i ≤ a ∧ a - i ≤ kx ∧ LyB w0 w wr g zs new x (some ⟨q, o, none⟩) c ∧ new.length = i * lk ∧ Hid (new.map Prod.fst = copiesL (layR k) i L0))
  case atStart => exact ⟨0, [], rfl, Nat.zero_le _, by omega, HB0.out, by simp, rfl⟩
  case round =>
    obtain ⟨i, new, rfl, hi, hik, hb, hnl, heq⟩ := hrel
    have HB := Lib.hid hb
    have HEQ := Lib.hid heq.out
    have HNL := Lib.hid hnl
    clear hb heq c4
    by_cases hlt : i < a
    · have z1 : decide ((i : Int) < (a : Int)) = true := decide_eq_true (by omega)
      have hil : i * lk + lk ≤ a * lk := by rw [← Nat.succ_mul]; exact Nat.mul_le_mul_right _ hlt
      have c3 := HB.out.cell (j := 3) rfl
      rw [HL1.out] at c3
      have KC := Lib.hid (KL.out wr (zs ++ new) HB.out.mak (by rw [List.length_append, HNL.out, ← HL0.out]; omega))
      obtain ⟨e0, e1, e2, e3, e4, e5, e6, e7, e8, e9⟩ := rx_at (range_below HR1.out HB.out.mak.below)
      clear hnl
      go_wp2_with (go_at_call 13; with_reducible refine (KC.out).mono ?_)
      rintro e w1 ⟨rfl, n1, h1, m1, o1⟩
      have HB1 := Lib.hid (HB.out.next (new' := new ++ n1) (by rw [← List.append_assoc]; exact h1) o1)
      have hn1 : n1.length = lk := by
        have := congrArg List.length m1
        rw [List.length_map, HF.out] at this; exact this
      have HEQ1 := Lib.hid (show (new ++ n1).map Prod.fst = copiesL (layR k) (i + 1) L0 by
        rw [List.map_append, HEQ.out, m1, copies_snoc HF.out, List.length_append, HNL.out, ← HL0.out])
      have HNL1 := Lib.hid (show (new ++ n1).length = (i + 1) * lk by rw [List.length_append, HNL.out, hn1, Nat.succ_mul])
      clear h1 m1 o1 hn1 e0 e1 e2 e3 e4 e5 e6 e7 e8 e9 c3
      go_wp2_with fail
      go_roundg (a - (i + 1))
      case measure => omega
      case rel => exact ⟨i + 1, new ++ n1, by go_num, by omega, Nat.le_refl _, HB1.out, HNL1.out, HEQ1.out⟩
    · have z1 : decide ((i : Int) < (a : Int)) = false := decide_eq_false (by omega)
      obtain rfl : i = a := by omega
      have c5 := HB.out.cell (j := 5) rfl
      rcases HMX.out with hneg | ⟨d, hd, hd255⟩
      · rw [hneg] at c5
        have HMX1 := Lib.hid hneg
        obtain ⟨p1, hp1⟩ : ∃ p, p = L0 + i * lk := ⟨_, rfl⟩
        have hl2 : p1 + lk + 2 ≤ 30000 := by have := HLN.out; rw [hneg, if_pos (by omega)] at this; omega
        have hzl1 : (zs ++ new).length = p1 := by rw [List.length_append, HNL.out, ← HL0.out, hp1]
        have KP1 := Lib.hid (fun (W : World) (h : MkB w0 W g (zs ++ new)) => show Calls Tryd.prog 14 #[.pointer (some ⟨g, 0, none⟩), .agg #[.int .i64 1, .int .i64 0, .int .i64 0, .int .i64 0, .slice none 0 0, .int .i64 0, .int .i64 0, .bool false, .bool false, .int .i64 0, .string ⟨#[]⟩, .int .i64 0, .int .i64 0]] W (RetE (.int .i64 (p1 : Int)) fun w' => MkB w0 w' g (zs ++ new ++ [zF0]) ∧ OffM W w') from by
          rw [← hzl1]; exact mtPut_any zF0 W h (TzS.plain w0 1 0 0) (by omega))
        have HP1 := Lib.hid hp1
        have HZL := Lib.hid hzl1
        clear hp1 hzl1 hnl hneg
        go_wp2_with (go_at_call 14; with_reducible refine (KP1.out _ HB.out.mak).mono ?_)
        rintro e w1 ⟨rfl, h1, o1⟩
        have HB1 := Lib.hid (HB.out.next (new' := new ++ [zF0]) (by rw [← List.append_assoc]; exact h1) o1)
        have KC := Lib.hid (KL.out w1 (zs ++ new ++ [zF0]) h1 (by rw [List.length_append, HZL.out]; simp; omega))
        have c3 := HB1.out.cell (j := 3) rfl
        rw [HL1.out] at c3
        obtain ⟨e0, e1, e2, e3, e4, e5, e6, e7, e8, e9⟩ := rx_at (range_below HR1.out h1.below)
        have HB := HB1
        clear h1 o1 HB1 c5
        go_wp2_with (go_at_call 13; with_reducible refine (KC.out).mono ?_)
        rintro e w2 ⟨rfl, n1, h2, m2, o2⟩
        have hzf : (zs ++ new ++ [zF0]).length = p1 + 1 := by rw [List.length_append, HZL.out]; rfl
        rw [hzf] at m2
        have hn1 : n1.length = lk := by
          have := congrArg List.length m2
          rw [List.length_map, HF.out] at this; exact this
        obtain ⟨p2, hp2⟩ : ∃ p, p = p1 + 1 + lk := ⟨_, rfl⟩
        have hzl2 : (zs ++ new ++ [zF0] ++ n1).length = p2 := by rw [List.length_append, hzf, hn1, hp2]
        have KP2 := Lib.hid (show Calls Tryd.prog 14 #[.pointer (some ⟨g, 0, none⟩), .agg #[.int .i64 2, .int .i64 0, .int .i64 0, .int .i64 0, .slice none 0 0, .int .i64 0, .int .i64 0, .bool false, .bool false, .int .i64 0, .string ⟨#[]⟩, .int .i64 (p1 : Int), .int .i64 0]] w2 (RetE (.int .i64 (p2 : Int)) fun w' => MkB w0 w' g (zs ++ new ++ [zF0] ++ n1 ++ [(⟨2, rxNone, p1, 0⟩, .slice none 0 0)]) ∧ OffM w2 w') from by
          rw [← hzl2]; exact mtPut_any (⟨2, rxNone, p1, 0⟩, .slice none 0 0) w2 h2 (TzS.plain w0 2 p1 0) (by omega))
        have HB2 := Lib.hid (HB.out.next (new' := new ++ [zF0] ++ n1) (by simpa using h2) o2)
        have M2 := Lib.hid m2
        have HP2 := Lib.hid hp2
        have HZL2 := Lib.hid hzl2
        have HN1 := Lib.hid hn1
        have HB := HB2
        clear h2 o2 HB2 m2 hp2 hzl2 hzf hn1 c3 e0 e1 e2 e3 e4 e5 e6 e7 e8 e9
        go_wp2_with (go_at_call 14; with_reducible refine (KP2.out).mono ?_)
        rintro e w3 ⟨rfl, h3, o3⟩
        obtain ⟨p3, hp3⟩ : ∃ p, p = p2 + 1 := ⟨_, rfl⟩
        have hlist : zs ++ new ++ [zF0] ++ n1 ++ [((⟨2, rxNone, p1, 0⟩ : Stp), Value.slice none 0 0)] = zs ++ (new ++ zF0 :: (n1 ++ [(⟨2, rxNone, p1, 0⟩, .slice none 0 0)])) := by simp
        have hzl3 : (zs ++ new ++ [zF0] ++ n1 ++ [((⟨2, rxNone, p1, 0⟩ : Stp), Value.slice none 0 0)]).length = p3 := by rw [List.length_append, HZL2.out, hp3]; rfl
        have hf0 : (zs ++ new ++ [zF0] ++ n1 ++ [((⟨2, rxNone, p1, 0⟩ : Stp), Value.slice none 0 0)])[p1]? = some zF0 := by
          rw [hlist]; exact get_mid zs new _ zF0 p1 (by rw [← HZL.out, List.length_append])
        have HB3 := Lib.hid (HB.out.next (new' := new ++ zF0 :: (n1 ++ [(⟨2, rxNone, p1, 0⟩, .slice none 0 0)])) (by rw [← hlist]; exact h3) o3)
        obtain ⟨zF, hzF⟩ : ∃ z, z = stWays zF0 (if x.lazy = true then p3 else p1 + 1) (if x.lazy = true then p1 + 1 else p3) := ⟨_, rfl⟩
        have HZF := Lib.hid (show zF.1 = sFork x.lazy (p1 + 1) p3 by rw [hzF]; exact ways_fork x.lazy (p1 + 1) p3)
        have KF := Lib.hid (fun (W : World) (h : MkB w0 W g (zs ++ (new ++ zF0 :: (n1 ++ [(⟨2, rxNone, p1, 0⟩, .slice none 0 0)])))) => show Calls Tryd.prog 34 #[.pointer (some ⟨g, 0, none⟩), .int .i64 (p1 : Int), .int .i64 ((p1 : Int) + 1), .int .i64 (p3 : Int), .bool x.lazy] W (RetE (.tuple #[]) fun w' => MkB w0 w' g (zs ++ (new ++ zF :: (n1 ++ [(⟨2, rxNone, p1, 0⟩, .slice none 0 0)]))) ∧ OffM W w') from by
          have hk := mtFork_any p1 (p1 + 1) p3 x.lazy W h (by rw [← hlist]; exact hf0)
          rw [set_mid zs new _ zF0 _ p1 (by rw [← HZL.out, List.length_append]), ← hzF] at hk
          rw [show ((p1 : Int) + 1) = ((p1 + 1 : Nat) : Int) by omega]
          exact hk)
        have HP3 := Lib.hid hp3
        have HZL3 := Lib.hid (show (zs ++ (new ++ zF0 :: (n1 ++ [((⟨2, rxNone, p1, 0⟩ : Stp), Value.slice none 0 0)]))).length = p3 by rw [← hlist]; exact hzl3)
        have HB := HB3
        clear h3 o3 HB3 hp3 hlist hzl3 hf0 hzF
        obtain ⟨gA, gc, cG⟩ := HB.out.mak.slice
        rw [HZL3.out] at cG
        have c6 := HB.out.cell (j := 6) rfl
        have HMAK := Lib.hid HB.out.mak.drew
        clear z1
        go_upto_region 9 with fail
        go_still_tail 11, (by kernel_rfl)
        go_wp2_with (go_at_call 34; with_reducible refine (KF.out _ HMAK.out).mono ?_)
        rintro e w4 ⟨rfl, h4, o4⟩
        have H4 := Lib.hid h4
        have O4 := Lib.hid o4
        clear h4 o4
        go_wp2
        refine bodyPost_ret (v := .tuple #[]) (by simp [results, Tryd.results27]) rfl ?_
        refine ⟨rfl, _, H4.out, ?_, HB.out.off.trans O4.out⟩
        rw [List.map_append, List.map_cons, HZF.out, List.map_append, HEQ.out, M2.out]
        unfold repL
        simp only []
        rw [HMN.out, Int.toNat_natCast, HMX1.out, if_pos (by omega), copies_len HF.out, ← HL0.out, ← HP1.out]
        unfold starL
        rw [HF.out]
        have e3 : p1 + 1 + lk + 1 = p3 := by rw [HP3.out, HP2.out]
        rw [e3]
        rfl
      · rw [hd] at c5
        obtain ⟨i0, hi0, hz0, hz1, hz2⟩ := info_parts info_int
        obtain ⟨p1, hp1⟩ : ∃ p, p = L0 + i * lk := ⟨_, rfl⟩
        have hmxn : ¬ x.max < 0 := by omega
        have hdn : (x.max - (i : Int)).toNat = d := by omega
        have hl2 : p1 + d * (lk + 1) ≤ 30000 := by have := HLN.out; rw [if_neg hmxn, hdn] at this; omega
        have hzl1 : (zs ++ new).length = p1 := by rw [List.length_append, HNL.out, ← HL0.out, hp1]
        have HP1 := Lib.hid hp1
        have HZL := Lib.hid hzl1
        have HD := Lib.hid hd
        have zneg : decide (((i + d : Nat) : Int) < 0) = false := decide_eq_false (by omega)
        have c4 := HB.out.cell (j := 4) rfl
        rw [HMN.out] at c4
        have zsub : ((i + d : Nat) : Int) - (i : Int) = (d : Int) := by omega
        obtain ⟨mx, hmx⟩ : ∃ m : Int, m = ((i + d : Nat) : Int) := ⟨_, rfl⟩
        rw [← hmx] at c5 zneg zsub
        have hmx0 : 0 ≤ mx ∧ mx ≤ 1000 := by omega
        clear hp1 hzl1 hnl hd hmxn hdn hmx
        go_wp2
        go_loopg [5, 52] (d + 1) (fun kx v5 v52 wr => ∃ (j : Nat) (fk : List Int) (n2 : List (Stp × Value)), v52 = .int .i64 (j : Int) ∧ j ≤ d ∧ d - j ≤ kx ∧ OwnInts (w.heap.size + 1) wr v5 fk ∧ fk.length = j ∧ Hid (∀ t, t < j → fk[t]? = some ((p1 + t * (lk + 1) : Nat) : Int)) ∧ LyB w0 w wr g zs (new ++ n2) x (some ⟨q, o, none⟩) c ∧ n2.length = j * (lk + 1) ∧ Hid (n2.map Prod.fst = rawL (layR k) j p1))
        case atStart => exact ⟨0, [], [], by go_num, Nat.zero_le _, by omega, World.ownsRow_nil _ _ _ _, rfl, (fun t ht => absurd ht (Nat.not_lt_zero _)), by rw [List.append_nil]; exact HB.out, by simp, rfl⟩
        case round =>
          obtain ⟨j, fk, n2, rfl, hj, hjk, hown, hfl, hfa, hb, hn2, hr2⟩ := hrel
          have HOW := Lib.hid hown
          have HFA := Lib.hid hfa.out
          have HR2 := Lib.hid hr2.out
          have HN2 := Lib.hid hn2
          have HFL := Lib.hid hfl
          have HB0 := HB
          have HB := Lib.hid hb
          obtain ⟨pj, hpj⟩ : ∃ p, p = p1 + j * (lk + 1) := ⟨_, rfl⟩
          have hzlj : (zs ++ (new ++ n2)).length = pj := by rw [← List.append_assoc, List.length_append, HZL.out, hn2, hpj]
          have HPJ := Lib.hid hpj
          have HZJ := Lib.hid hzlj
          clear hown hfa hr2 hb hn2 hfl c4 c5
          by_cases hlt2 : j < d
          · have z2 : decide ((j : Int) < (d : Int)) = true := decide_eq_true (by omega)
            have hjl : j * (lk + 1) + (lk + 1) ≤ d * (lk + 1) := by rw [← Nat.succ_mul]; exact Nat.mul_le_mul_right _ hlt2
            have hpb : pj + lk + 1 ≤ 30000 := by omega
            have KPJ := Lib.hid (show Calls Tryd.prog 14 #[.pointer (some ⟨g, 0, none⟩), .agg #[.int .i64 1, .int .i64 0, .int .i64 0, .int .i64 0, .slice none 0 0, .int .i64 0, .int .i64 0, .bool false, .bool false, .int .i64 0, .string ⟨#[]⟩, .int .i64 0, .int .i64 0]] wr (RetE (.int .i64 (pj : Int)) fun w' => MkB w0 w' g (zs ++ (new ++ n2) ++ [zF0]) ∧ OffM wr w') from by
              rw [← hzlj]; exact mtPut_any zF0 wr HB.out.mak (TzS.plain w0 1 0 0) (by omega))
            clear hpj hzlj
            go_wp2_with (go_at_call 14; with_reducible refine (KPJ.out).mono ?_)
            rintro e w1 ⟨rfl, h1, o1⟩
            have HB1 := Lib.hid (HB.out.next (new' := new ++ (n2 ++ [zF0])) (by simpa using h1) o1)
            have hown1 := own_off HOW.out o1
            have hw1 : w.heap.size < w1.heap.size := (Array.getElem?_eq_some_iff.1 HB1.out.box).1
            clear h1 o1
            go_wp2_with (at_builtin; refine wpList_append_own _ rfl _ _ 24 rfl (w.heap.size + 1) 3 i0 (.int .i64 0) 1 8 Tryd.underlying24 hi0 hz0 hz1 hz2 rfl (by decide) _ _ _ rfl (hown1.alloc _) ⟨w1.heap.size, 0, none⟩ 1 1 [.int .i64 (pj : Int)] rfl rfl ?c1 ?c2 ?c3 ?c4 ?c5 ?_)
            case c1 => exact cell_one_new _ _ _
            case c2 => intro u hu; simp at hu; subst hu; rfl
            case c3 => have := HFL.out; unfold maxLen; omega
            case c4 => have := HFL.out; omega
            case c5 => rw [World.size_alloc]; omega
            intro v' w2 hown' hgrow _
            have HB2 := Lib.hid (HB1.out.grown hown1 rfl hgrow)
            have HO2 := Lib.hid (show OwnInts (w.heap.size + 1) w2 v' (fk ++ [(pj : Int)]) by unfold OwnInts; rw [← ints_append, List.length_append]; exact hown')
            clear hown1 hown' hgrow
            have c3 := HB2.out.cell (j := 3) rfl
            rw [HL1.out] at c3
            have hzk : (zs ++ (new ++ (n2 ++ [zF0]))).length = pj + 1 := by rw [← List.append_assoc new, ← List.append_assoc zs, List.length_append, HZJ.out]; rfl
            have KC := Lib.hid (KL.out w2 (zs ++ (new ++ (n2 ++ [zF0]))) HB2.out.mak (by rw [hzk]; omega))
            have HZK := Lib.hid hzk
            obtain ⟨e0, e1, e2, e3, e4, e5, e6, e7, e8, e9⟩ := rx_at (range_below HR1.out HB2.out.mak.below)
            clear hzk
            go_wp2_with (go_at_call 13; with_reducible refine (KC.out).mono ?_)
            rintro e w3 ⟨rfl, n3, h3, m3, o3⟩
            have HB3 := Lib.hid (HB2.out.next (new' := new ++ (n2 ++ [zF0] ++ n3)) (by simpa using h3) o3)
            have HO3 := Lib.hid (own_off HO2.out o3)
            rw [HZK.out] at m3
            have hn3 : n3.length = lk := by
              have := congrArg List.length m3
              rw [List.length_map, HF.out] at this; exact this
            have HR3 := Lib.hid (show (n2 ++ [zF0] ++ n3).map Prod.fst = rawL (layR k) (j + 1) p1 by
              rw [raw_snoc HF.out, List.map_append, List.map_append, HR2.out, m3, ← HPJ.out, List.append_assoc]; rfl)
            have HN3 := Lib.hid (show (n2 ++ [zF0] ++ n3).length = (j + 1) * (lk + 1) by
              rw [List.length_append, List.length_append, HN2.out, hn3, Nat.succ_mul]; simp; omega)
            have HFA3 := Lib.hid (show ∀ t, t < j + 1 → (fk ++ [(pj : Int)])[t]? = some ((p1 + t * (lk + 1) : Nat) : Int) from fun t ht => by
              by_cases htj : t < j
              · rw [List.getElem?_append_left (by rw [HFL.out]; exact htj)]; exact HFA.out t htj
              · obtain rfl : t = j := by omega
                rw [List.getElem?_append_right (by rw [HFL.out]; omega), HFL.out, Nat.sub_self, ← HPJ.out]; rfl)
            have HFL3 := Lib.hid (show (fk ++ [(pj : Int)]).length = j + 1 by rw [List.length_append, HFL.out]; rfl)
            clear h3 m3 o3 hn3 e0 e1 e2 e3 e4 e5 e6 e7 e8 e9 c3
            go_wp2_with fail
            go_roundg (d - (j + 1))
            case measure => omega
            case rel => exact ⟨j + 1, _, _, by go_num, by omega, Nat.le_refl _, HO3.out, HFL3.out, HFA3.out, HB3.out, HN3.out, HR3.out⟩
          · have z2 : decide ((j : Int) < (d : Int)) = false := decide_eq_false (by omega)
            obtain rfl : j = d := by omega
            obtain ⟨FA, fcap, hv, _, _⟩ := HOW.out.rd
            rw [HFL.out] at hv
            subst hv
            have HST := Lib.hid (show (new ++ n2).map Prod.fst = copiesL (layR k) i L0 ++ optsL (layR k) x.lazy pj 0 p1 ++ rawL (layR k) (j - 0) (p1 + 0 * (lk + 1)) by
              rw [List.map_append, HEQ.out, HR2.out, optsL, Nat.zero_mul, Nat.add_zero, Nat.sub_zero, List.append_nil])
            clear hpj hzlj
            go_wp2
            go_loopg [69] (j + 1) (fun kx v wq => ∃ (t : Nat) (nw : List (Stp × Value)), v = .int .i64 (t : Int) ∧ t ≤ j ∧ j - t ≤ kx ∧ LyB w0 w wq g zs nw x (some ⟨q, o, none⟩) c ∧ OwnInts (w.heap.size + 1) wq (.slice FA j fcap) fk ∧ (zs ++ nw).length = pj ∧ Hid (nw.map Prod.fst = copiesL (layR k) i L0 ++ optsL (layR k) x.lazy pj t p1 ++ rawL (layR k) (j - t) (p1 + t * (lk + 1))))
            case atStart => exact ⟨0, new ++ n2, rfl, Nat.zero_le _, by omega, HB.out, HOW.out, HZJ.out, HST.out⟩
            case round =>
              obtain ⟨t, nw, rfl, ht, htk, hb3, ho3, hl3, hm3⟩ := hrel
              have HB3 := Lib.hid hb3
              have HO3 := Lib.hid ho3
              have HL3 := Lib.hid hl3
              have HM3 := Lib.hid hm3.out
              clear hb3 ho3 hl3 hm3
              by_cases hlt3 : t < j
              · have z3 : decide ((t : Int) < (j : Int)) = true := decide_eq_true (by omega)
                obtain ⟨FA', fc', hv', _, hrd⟩ := HO3.out.rd
                injection hv' with hv' hq1 hq2
                subst hv'
                clear hq1 hq2
                obtain ⟨fb, fo, rfl, _, hat⟩ := hrd.2 (by rw [HFL.out]; omega)
                obtain ⟨pt, hpt⟩ : ∃ p, p = p1 + t * (lk + 1) := ⟨_, rfl⟩
                have cF := hat t (by rw [HFL.out]; exact hlt3)
                rw [List.getD_eq_getElem?_getD, HFA.out t hlt3, ← hpt] at cF
                simp only [Option.getD_some] at cF
                have i0' : (0 : Int) ≤ (t : Int) := by omega
                have hpre : (copiesL (layR k) i L0).length = i * lk := copies_len HF.out i L0
                obtain ⟨N, hN⟩ : ∃ N, j - t = N + 1 := ⟨j - t - 1, by omega⟩
                have hm := HM3.out
                rw [hN] at hm
                have hget : (nw.map Prod.fst)[i * lk + t * (lk + 1)]? = some ⟨1, rxNone, 0, 0⟩ := by
                  rw [hm, ← hpre]; exact raw_at HF.out x.lazy pj t N p1 _
                rw [List.getElem?_map] at hget
                obtain ⟨z, hz, hz1⟩ : ∃ z, nw[i * lk + t * (lk + 1)]? = some z ∧ z.1 = ⟨1, rxNone, 0, 0⟩ := by
                  cases h : nw[i * lk + t * (lk + 1)]? with
                  | none => rw [h] at hget; cases hget
                  | some z => rw [h] at hget; exact ⟨z, rfl, by simpa using hget⟩
                have hidx : pt - zs.length = i * lk + t * (lk + 1) := by have := HP1.out; have := HL0.out; omega
                have hge : zs.length ≤ pt := by have := HP1.out; have := HL0.out; omega
                have hzat : (zs ++ nw)[pt]? = some z := by rw [List.getElem?_append_right hge, hidx]; exact hz
                obtain ⟨zF, hzF⟩ : ∃ y, y = stWays z (if x.lazy = true then pj else pt + 1) (if x.lazy = true then pt + 1 else pj) := ⟨_, rfl⟩
                have hzF1 : zF.1 = sFork x.lazy (pt + 1) pj := by
                  rw [hzF]; unfold stWays; rw [hz1]; cases x.lazy <;> rfl
                obtain ⟨nx, hnx⟩ : ∃ l, l = nw.set (i * lk + t * (lk + 1)) zF := ⟨_, rfl⟩
                have KF := Lib.hid (fun (W : World) (h : MkB w0 W g (zs ++ nw)) => show Calls Tryd.prog 34 #[.pointer (some ⟨g, 0, none⟩), .int .i64 (pt : Int), .int .i64 ((pt : Int) + 1), .int .i64 (pj : Int), .bool x.lazy] W (RetE (.tuple #[]) fun w' => MkB w0 w' g (zs ++ nx) ∧ OffM W w') from by
                  have hk := mtFork_any pt (pt + 1) pj x.lazy W h hzat
                  rw [← hzF, List.set_append_right _ _ hge, hidx, ← hnx] at hk
                  rw [show ((pt : Int) + 1) = ((pt + 1 : Nat) : Int) by omega]
                  exact hk)
                have HM4 := Lib.hid (show nx.map Prod.fst = copiesL (layR k) i L0 ++ optsL (layR k) x.lazy pj (t + 1) p1 ++ rawL (layR k) (j - (t + 1)) (p1 + (t + 1) * (lk + 1)) by
                  rw [hnx, List.map_set, hzF1, hm, ← hpre, hpt, opts_patch HF.out, show j - (t + 1) = N by omega])
                have HL4 := Lib.hid (show (zs ++ nx).length = pj by rw [List.length_append, hnx, List.length_set, ← List.length_append]; exact HL3.out)
                obtain ⟨gA, gc, cG⟩ := HB3.out.mak.slice
                rw [HL3.out] at cG
                have c6 := HB3.out.cell (j := 6) rfl
                have HMAK := Lib.hid HB3.out.mak.drew
                have hptb : pt ≤ 30000 := by have := HPJ.out; have : t * (lk + 1) ≤ j * (lk + 1) := Nat.mul_le_mul_right _ ht; omega
                clear hget hz hz1 hidx hge hzat hzF hzF1 hnx hm hN hpre hat hrd hpt
                go_upto_region 19 with fail
                go_still_tail 11, (by kernel_rfl)
                go_wp2_with (go_at_call 34; with_reducible refine (KF.out _ HMAK.out).mono ?_)
                rintro e w4 ⟨rfl, h4, o4⟩
                have HB4 := Lib.hid (HB3.out.next h4 o4)
                have HO4 := Lib.hid (own_off HO3.out o4)
                clear h4 o4 cF cG c6
                go_wp2_with fail
                go_roundg (j - (t + 1))
                case measure => omega
                case rel => exact ⟨t + 1, nx, by go_num, by omega, Nat.le_refl _, HB4.out, HO4.out, HL4.out, HM4.out⟩
              · have z3 : decide ((t : Int) < (j : Int)) = false := decide_eq_false (by omega)
                obtain rfl : t = j := by omega
                go_wp2
                refine bodyPost_ret (v := .tuple #[]) (by simp [results, Tryd.results27]) rfl ?_
                refine ⟨rfl, _, HB3.out.mak, ?_, HB3.out.off⟩
                have hmxn : ¬ x.max < 0 := by have := HD.out; omega
                have hdn : (x.max - (i : Int)).toNat = t := by have := HD.out; omega
                unfold repL
                simp only []
                rw [HM3.out, Nat.sub_self, rawL, List.append_nil, HMN.out, Int.toNat_natCast, if_neg hmxn, hdn, copies_len HF.out, HF.out, ← HL0.out, ← HP1.out, ← HPJ.out]

end Go.Proofs.YtoniccokohjenaaDoor
