/-
  The walk of the reference's Parse (chapter 18), its alt given.
-/
import Derived.Test.YtoniccokohjenaaRfJ
import Derived.Test.YtoniccokohjenaaRegLd
namespace Go.Proofs.Ytoniccokohjenaa
open Go.RowKit

/-- the state in its variable, no room for the answer -/
theorem PB.drew {w0 W : World} {b : Nat} {L : LX} {p : PX} (h : PB w0 W b L p) : PB w0 W.drew b L p := ⟨h.heap, h.lo, h.below.drew⟩
theorem PB.bad {w0 W : World} {b : Nat} {L : LX} {p : PX} (h : PB w0 W b L p) : W.cell? ⟨b, 16, none⟩ = some (.int .i64 p.bad) := by rw [Lib.cell_of_heap h.heap]; rfl
theorem PB.at {w0 W : World} {b : Nat} {L : LX} {p : PX} (h : PB w0 W b L p) : W.cell? ⟨b, 15, none⟩ = some (.int .i64 p.at') := by rw [Lib.cell_of_heap h.heap]; rfl
theorem PB.names {w0 W : World} {b : Nat} {L : LX} {p : PX} (h : PB w0 W b L p) : W.cell? ⟨b, 4, none⟩ = some (.slice p.na p.nn p.nc) := by rw [Lib.cell_of_heap h.heap]; rfl
theorem PB.xrange {w0 W : World} {b : Nat} {L : LX} {p : PX} (h : PB w0 W b L p) : W.rangeAt b 5 (rxCells p.x (.slice p.xa p.xn p.xc)) := fun j v hj => by
  rw [Lib.cell_of_heap h.heap]
  have hl : j < 10 := (List.getElem?_eq_some_iff.1 hj).1
  have e : (pCells L p).toArray[5 + j]? = (rxCells p.x (.slice p.xa p.xn p.xc))[j]? := by
    have : j = 0 ∨ j = 1 ∨ j = 2 ∨ j = 3 ∨ j = 4 ∨ j = 5 ∨ j = 6 ∨ j = 7 ∨ j = 8 ∨ j = 9 := by omega
    rcases this with rfl | rfl | rfl | rfl | rfl | rfl | rfl | rfl | rfl | rfl <;> rfl
  rw [e]; exact hj
/-- the results' variable -/
structure ResX (w0 W : World) (r : Nat) : Prop where
  heap : W.heap[r]? = some (.cells zRx TRx (0, 0))
  lo : w0.heap.size ≤ r
theorem ResX.call {w0 W W' : World} {r : Nat} (h : ResX w0 W r) (hb : Below W.heap.size W W') : ResX w0 W' r := ⟨heap_call h.heap hb, h.lo⟩
section
variable {ops : Array Oper} {rest : List Oper} {op : Oper} {a : Act} {w : World} {Q : Exit → Act → World → Prop} {L : LX} {p : PX} {b : Nat}
theorem room_pb (hgd : op.guard = none) (ho : op.op = .alloc TP)
    (h : ∀ V, V.heap[w.heap.size]? = some (.cells pZero TP (0, 0)) → Below w.heap.size w V → wpList Try.prog ops Q rest (a.put op.dst (.pointer (some ⟨w.heap.size, 0, none⟩))) V) : wpList Try.prog ops Q (op :: rest) a w :=
  wpList_plain hgd fun _ hK => by
    have h2 := hK _ _ (h (w.alloc (.cells pZero TP)) (Go.heap_alloc_new w _) ((Below.refl _ w).alloc (Nat.le_refl _) _))
    unfold Oper.wp execOp
    obtain ⟨i, hi, hz⟩ := Option.map_eq_some_iff.1 zeroP
    have hr : (zeroValue TP).run Try.prog w = .ok (.agg pZero) w := by simp [zeroValue, typeInfo, hi, hz]
    simp only [ho, Instr.alloc, Sem.run_bind, hr, Result.andThen_ok]
    exact h2
theorem pZero_size : pZero.size = 17 := rfl
theorem PB.room17 {w0 W : World} (h : PB w0 W b L p) : ∃ c, W.heap[b]? = some (.cells c TP (0, 0)) ∧ c.size = 17 := ⟨_, h.heap, rfl⟩
theorem store_pb {w0 W : World} (hgd : op.guard = none) (x y : Operand) (ho : op.op = .store TP x y) (hx : a.eval x = .pointer (some ⟨b, 0, none⟩)) (hy : a.eval y = pAgg L p) (hc : ∃ c, W.heap[b]? = some (.cells c TP (0, 0)) ∧ c.size = 17) (hlo : w0.heap.size ≤ b) (hbw : Below w0.heap.size w0 W)
    (h : ∀ V, PB w0 V b L p → (∀ k, k ≠ b → V.heap[k]? = W.heap[k]?) → wpList Try.prog ops Q rest (a.put op.dst undef) V) : wpList Try.prog ops Q (op :: rest) a W := by
  rw [p_agg] at hy
  obtain ⟨c, hb, hc⟩ := hc
  exact wpList_store_mid hgd TP x y ho b 0 (pCells L p).toArray hx hy (there_of hb (by rw [hc]; rfl)) (by rw [sizeP]; rfl) (all_oneCell_toArray (p_one L p)) (by simpa using h _ ⟨setCells_whole hb (by rw [hc]; rfl), hlo, setCells_below b hlo _ 0 W hbw⟩ (fun k hk => setCells_far b _ 0 W k hk))
theorem load_pb {w0 W : World} (hgd : op.guard = none) (x : Operand) (ho : op.op = .load TP x) (hx : a.eval x = .pointer (some ⟨b, 0, none⟩)) (hb : PB w0 W b L p)
    (h : wpList Try.prog ops Q rest (a.put op.dst (pAgg L p)) W) : wpList Try.prog ops Q (op :: rest) a W := by
  obtain ⟨d, hd, hrow⟩ := underP
  rw [p_agg] at h
  exact wpList_load_mid hgd TP x ho b 0 hx (pCells L p) d (range_of hb.heap) hd hrow (by rw [sizeP, p_len]) h
end

theorem ret_rx4 {fn : Func} (hr : fn.results = #[.cell 4 TRx, .tmp 5, .tmp 6, .tmp 7]) {a : Act} {W : World} {r : Nat} {x : Rx} {kv v5 v6 v7 : Value} (hh : W.heap[r]? = some (.cells (rxCells x kv).toArray TRx (0, 0)))
    (ht : a.tmps.getD 4 undef = .pointer (some ⟨r, 0, none⟩)) (h5 : a.tmps.getD 5 undef = v5) (h6 : a.tmps.getD 6 undef = v6) (h7 : a.tmps.getD 7 undef = v7) (hd : a.defers = []) {R : Ending → World → Prop} (hR : R (.returned (.tuple #[rxAgg x kv, v5, v6, v7])) W) : bodyPost Try.prog fn R .ret a W := by
  have ht' : a.tmps[4]?.getD undef = .pointer (some ⟨r, 0, none⟩) := by simpa using ht
  have h5' : a.tmps[5]?.getD undef = v5 := by simpa using h5
  have h6' : a.tmps[6]?.getD undef = v6 := by simpa using h6
  have h7' : a.tmps[7]?.getD undef = v7 := by simpa using h7
  refine bodyPost_ret (v := .tuple #[rxAgg x kv, v5, v6, v7]) ?_ hd hR
  have l0 := load_rx hh (rx_len x kv)
  simp [results, hr, ht', h5', h6', h7', asAddr, l0, Result.andThen]
  rfl
def px0 : PX := ⟨0, 0, none, 0, 0, rxNone, none, 0, 0, 0, 0⟩
theorem Lv.start {w : World} {A : Option Addr} {l : List Int} {c : Nat} {free : Bool} (h : RdI w A l.length l) (hl : l.length ≤ 1000) (hpts : ∀ c ∈ l, 0 ≤ c ∧ c ≤ 1114111) : Lv w ⟨A, l.length, c, free⟩ l ⟨0, 0, []⟩ px0 :=
  ⟨rfl, rfl, rfl, rfl, h, World.ownsRow_nil _ _ _ _, ⟨Nat.zero_le _, Nat.zero_le _, hl, Nat.zero_le _, hpts⟩⟩

/-- what the reference's Parse answers -/
def PrsF (r : Rx × List (List UInt8) × Nat × Nat) (w : World) (e : Ending) (w' : World) : Prop :=
  ∃ A c NA nc, e = .returned (.tuple #[rxAgg r.1 (.slice A r.1.kids.length c), .slice NA r.2.1.length nc, .int .i64 (r.2.2.1 : Int), .int .i64 (r.2.2.2 : Int)]) ∧
    KX (fun q => w.heap.size ≤ q) w' r.1 (.slice A r.1.kids.length c) ∧ w'.ownsRow 0 9 1 (.slice NA r.2.1.length nc) r.2.1.length (strCells r.2.1) ∧ Below w.heap.size w w'
theorem PrsF.none {w w' : World} (a e : Nat) (hb : Below w.heap.size w w') : PrsF (rxNone, [], a, e) w (.returned (.tuple #[rxAgg rxNone (.slice none 0 0), .slice none 0 0, .int .i64 (a : Int), .int .i64 (e : Int)])) w' :=
  ⟨Option.none, 0, Option.none, 0, rfl, KX.leaf rfl, World.ownsRow_nil _ _ _ _, hb⟩
/-- a tree is stored in the results' variable -/
theorem store_rxr {ops : Array Oper} {rest : List Oper} {op : Oper} {a : Act} {Q : Exit → Act → World → Prop} {w0 W : World} {r : Nat} {X : Rx} {A : Option Addr} {n m : Nat} (hgd : op.guard = none) (x y : Operand) (ho : op.op = .store TRx x y) (hx : a.eval x = .pointer (some ⟨r, 0, none⟩)) (hy : a.eval y = .agg (rxCells X (.slice A n m)).toArray) (hb : ResX w0 W r) (hbw : Below w0.heap.size w0 W)
    (h : ∀ V, V.heap[r]? = some (.cells (rxCells X (.slice A n m)).toArray TRx (0, 0)) → Below w0.heap.size w0 V → (∀ k, k ≠ r → V.heap[k]? = W.heap[k]?) → wpList Try.prog ops Q rest (a.put op.dst undef) V) : wpList Try.prog ops Q (op :: rest) a W :=
  wpList_store_mid hgd TRx x y ho r 0 (rxCells X (.slice A n m)).toArray hx hy (there_of hb.heap rfl) (by rw [sizeRx]; rfl) (all_oneCell_toArray (rx_one X A n m)) (by simpa using h _ (setCells_whole hb.heap rfl) (setCells_below r hb.lo _ 0 W hbw) (fun k hk => setCells_far r _ 0 W k hk))

/-- the like, in a region that draws its order -/
theorem wp_store_rxr {op : Oper} {a : Act} {K : Act → World → Prop} {Q : Exit → Act → World → Prop} {w0 W : World} {r : Nat} {X : Rx} {A : Option Addr} {n m : Nat} (x y : Operand) (ho : op.op = .store TRx x y) (hx : a.eval x = .pointer (some ⟨r, 0, none⟩)) (hy : a.eval y = .agg (rxCells X (.slice A n m)).toArray) (hb : ∃ c, W.heap[r]? = some (.cells c TRx (0, 0)) ∧ c.size = 10) (hlo : w0.heap.size ≤ r) (hbw : Below w0.heap.size w0 W)
    (h : ∀ V, V.heap[r]? = some (.cells (rxCells X (.slice A n m)).toArray TRx (0, 0)) → Below w0.heap.size w0 V → (∀ k, k ≠ r → V.heap[k]? = W.heap[k]?) → K (a.put op.dst undef) V) : op.wp Try.prog a W K Q := by
  obtain ⟨c, hb, hc⟩ := hb
  exact wp_store_mid TRx x y ho r 0 (rxCells X (.slice A n m)).toArray hx hy (there_of hb (by rw [hc]; rfl)) (by rw [sizeRx]; rfl) (all_oneCell_toArray (rx_one X A n m)) (by simpa using h _ (setCells_whole hb (by rw [hc]; rfl)) (setCells_below r hlo _ 0 W hbw) (fun k hk => setCells_far r _ 0 W k hk))
set_option maxHeartbeats 4000000 in
set_option maxRecDepth 100000 in
theorem refParse_of (KA : ∀ (L : LX) (l : List Int) (s : PS) (p : PX) (W : World), s.deep + 51 = 51 → Lv W L l s p → Calls Try.prog 31 #[pAgg L p] W (RxP L l W (altF L.free l 51 s)))
    (s : ByteArray) (free : Bool) (w : World) (hs : s.size ≤ 17592186044416) :
    Calls Try.prog 13 #[.string s, .bool free] w (PrsF (parseV s.data.toList free) w) := by
  have KE := Lib.hid (fun W => refExplode_any s W hs)
  have hpts : ∀ c ∈ explode s.data.toList, 0 ≤ c ∧ c ≤ 1114111 := fun c hc => by have := (isPt_iff c).1 (explode_pt _ c hc); exact ⟨this.1, this.2.1⟩
  have hll : (explode s.data.toList).length ≤ 17592186044416 := by have := explode_len s.data.toList; have := Lib.size_eq s; omega
  rw [show parseV s.data.toList free = parseL free (explode s.data.toList) from rfl]
  generalize explode s.data.toList = l at *
  have HPTS := Lib.hid hpts
  have KAL := Lib.hid KA
  clear hpts KA
  go_enter Try.func13, Try.ntmps13
  go_wp2_with (go_at_call 30; refine (KE.out _).mono ?_)
  rintro e w1 ⟨Lv0, rfl, hL, hb0⟩
  obtain ⟨LA, Lc, rfl, _, hRd⟩ := hL.rd
  obtain ⟨W0, hW0⟩ : ∃ W0, W0 = w.alloc (.cells zRx TRx) := ⟨_, rfl⟩
  have hb1 : Below W0.heap.size W0 w1 := by rw [hW0]; exact hb0
  have s0 : W0.heap.size = w.heap.size + 1 := by rw [hW0, World.size_alloc]
  have B1 := Lib.hid (show Below w.heap.size w w1 from ((by rw [hW0]; exact (Below.refl _ w).alloc (Nat.le_refl _) _) : Below w.heap.size w W0).trans (hb1.mono (by omega)))
  have HR := Lib.hid (show ResX w w1 w.heap.size from ⟨heap_call (by rw [hW0]; exact Go.heap_alloc_new w _) hb1, Nat.le_refl _⟩)
  have HRD := Lib.hid hRd
  clear hL hb0 hb1 hRd hW0 s0
  by_cases hbig : 1000 < l.length
  · have z1 : decide ((1000 : Int) < (l.length : Int)) = true := decide_eq_true (by omega)
    have HT := Lib.hid (show parseL free l = (rxNone, [], 0, 10) by unfold parseL; rw [if_pos hbig])
    go_wp2_with (first
      | (with_reducible refine store_rxr (w0 := w) (r := w.heap.size) (X := rxNone) (A := none) (n := 0) (m := 0) (by with_reducible rfl) _ _ (by with_reducible rfl) (by first | (simp [Act.eval]; done) | simp [Act.eval, Act.put]) (by simp [Act.eval, rxCells, rxNone, Rx.kind, Rx.rune, Rx.to, Rx.min, Rx.max, Rx.lazy, Rx.not, Rx.group, Rx.name]) HR.out B1.out ?_))
    intro V h1 hb _
    go_wp2
    refine ret_rx4 (r := w.heap.size) Try.results13 h1 (by simp) (by simp; rfl) (by simp; rfl) (by simp; rfl) rfl ?_
    rw [HT.out]
    exact PrsF.none 0 10 hb
  have z1 : decide ((1000 : Int) < (l.length : Int)) = false := decide_eq_false (by omega)
  obtain ⟨L, hL⟩ : ∃ L : LX, L = ⟨LA, l.length, Lc, free⟩ := ⟨_, rfl⟩
  have HLn := Lib.hid (show L.n = l.length by rw [hL])
  have HLf := Lib.hid (show L.free = free by rw [hL])
  have HV := Lib.hid (fun (W : World) (h : RdI W LA l.length l) => show Lv W L l ⟨0, 0, []⟩ px0 by rw [hL]; exact Lv.start h (by omega) HPTS.out)
  have KAC := Lib.hid (fun W h => show Calls Try.prog 31 #[.agg #[.slice LA l.length Lc, .int .i64 0, .bool free, .int .i64 0, .slice none 0 0, .int .i64 0, .int .i64 0, .int .i64 0, .slice none 0 0, .int .i64 0, .int .i64 0, .bool false, .bool false, .int .i64 0, .string ⟨#[]⟩, .int .i64 0, .int .i64 0]] W (RxP L l W (altF free l 51 ⟨0, 0, []⟩)) by
    have := KAL.out L l ⟨0, 0, []⟩ px0 W rfl (HV.out W h)
    rw [HLf.out] at this
    rw [hL] at this
    rw [hL]
    exact this)
  have HL := Lib.hid hL
  clear hL KAL KE
  go_wp2_with (first
    | (go_at_call 31; (with_reducible refine (KAC.out _ HRD.out).mono ?_)))
  cases hal : altF free l 51 ⟨0, 0, []⟩ with
  | bad a m =>
    have HT := Lib.hid (show parseL free l = (rxNone, [], a, m) by unfold parseL; rw [if_neg hbig, hal])
    clear hal
    rintro e w2 ⟨p, rfl, hbx, hb2⟩
    have HBX := Lib.hid hbx
    go_wp2_with (first
      | (with_reducible refine room_pb (by with_reducible rfl) (by with_reducible rfl) ?_))
    intro V3 h3 b3
    have HQ2 : w.heap.size ≤ w2.heap.size := by have := B1.out.size; have := hb2.size; omega
    have HNE := Lib.hid (show w.heap.size ≠ w2.heap.size by have := (Array.getElem?_eq_some_iff.1 HR.out.heap).1; have := hb2.size; omega)
    have HS1 := Lib.hid (show w.heap.size + 1 ≤ w1.heap.size from (Array.getElem?_eq_some_iff.1 HR.out.heap).1)
    have B3 := Lib.hid ((B1.out.trans (hb2.mono B1.out.size)).trans (b3.mono HQ2))
    have R3 := Lib.hid ((HR.out.call hb2).call b3)
    have H3 := Lib.hid (show ∃ c, V3.heap[w2.heap.size]? = some (.cells c TP (0, 0)) ∧ c.size = 17 from ⟨_, h3, pZero_size⟩)
    have O3 := Lib.hid (OffP.call b3)
    clear h3 b3 hb2
    go_wp2_with (first
      | (with_reducible refine store_pb (w0 := w) (b := w2.heap.size) (p := p) (L := L) (by with_reducible rfl) _ _ (by with_reducible rfl) (by first | (simp [Act.eval]; done) | simp [Act.eval, Act.put]) (by first | (simp [Act.eval]; done) | simp [Act.eval, Act.put]) H3.out HQ2 B3.out ?_))
    intro V4 P4 e4
    have R4 := Lib.hid (show ResX w V4 w.heap.size from ⟨(e4 _ HNE.out).trans R3.out.heap, R3.out.lo⟩)
    have B4 := Lib.hid P4.below
    have O4 := Lib.hid (show OffP w2 V4 from O3.out.trans (by obtain ⟨c, hc, _⟩ := H3.out; exact OffP.of hc e4))
    clear e4 R3 B3 H3 O3
    have c16 := P4.bad
    have c15 := P4.at
    rw [hbx.at'] at c15
    rw [hbx.bad] at c16
    have z16 : ((m : Int) == 0) = false := by have := hbx.ne; simp; omega
    have z17 : ((m : Int) != 0) = true := by have := hbx.ne; simp; omega
    obtain ⟨pE, hpE⟩ : ∃ q, q = p := ⟨_, rfl⟩
    rw [← hpE] at P4 hbx
    clear hpE
    have PQ := Lib.hid P4
    clear P4
    go_upto_region 8 with fail
    refine wp_region_held_drew (S := (fun Y => PB w Y w2.heap.size L pE ∧ ∃ c, Y.heap[w.heap.size]? = some (.cells c TRx (0, 0)) ∧ c.size = 10)) (by kernel_rfl) ⟨PQ.out.drew, _, R4.out.heap, rfl⟩ (fun hS0 => ?_)
    clear c15 c16
    refine wpAnyH_take (i := 0) (v := Value.agg #[.int .i64 0, .int .i64 0, .int .i64 0, .slice none 0 0, .int .i64 0, .int .i64 0, .bool false, .bool false, .int .i64 0, .string ⟨#[]⟩]) rfl (by kernel_rfl) (by kernel_rfl) (by kernel_rfl) (fun _ _ _ h => h) (.inl ⟨by rfl, fun _ _ => by go_simp⟩) hS0 ?_
    refine wpAnyH_take (i := 1) (v := Value.pointer (some ⟨w2.heap.size, 15, none⟩)) rfl (by kernel_rfl) (by kernel_rfl) (by kernel_rfl) (fun _ _ _ h => h) (.inl ⟨by rfl, fun _ _ => by go_simp⟩) hS0 ?_
    refine wpAnyH_take (i := 2) (v := Value.int .i64 pE.at') rfl (by kernel_rfl) (by kernel_rfl) (by kernel_rfl) (fun _ _ _ h => h) (.inl ⟨by rfl, fun _ h => by have c15 := h.1.at; go_simp⟩) hS0 ?_
    refine wpAnyH_take (i := 3) (v := Value.pointer (some ⟨w2.heap.size, 16, none⟩)) rfl (by kernel_rfl) (by kernel_rfl) (by kernel_rfl) (fun _ _ _ h => h) (.inl ⟨by rfl, fun _ _ => by go_simp⟩) hS0 ?_
    refine wpAnyH_take (i := 4) (v := Value.int .i64 pE.bad) rfl (by kernel_rfl) (by kernel_rfl) (by kernel_rfl) (fun _ _ _ h => h) (.inl ⟨by rfl, fun _ h => by have c16 := h.1.bad; go_simp⟩) hS0 ?_
    generalize V4.drew = V5 at *
    refine wpAnyH_ready (rs := [5]) (by kernel_rfl) (by simp) ?_
    refine AllReadyH.cons rfl ?_ AllReadyH.nil
    intro K hK
    rw [if_pos (by kernel_rfl)]
    with_reducible refine wp_store_rxr (w0 := w) (r := w.heap.size) (X := rxNone) (A := none) (n := 0) (m := 0) _ _ (by with_unfolding_all rfl) (by with_unfolding_all rfl) (by with_unfolding_all rfl) hS0.2 (Nat.le_refl _) hS0.1.below ?_
    intro V h1 hb he
    have hpv := hS0.1.heap
    clear hS0
    try dsimp only
    refine hK.out _ _ ⟨⟨(he _ HNE.out.symm).trans hpv, HQ2, hb⟩, _, h1, rfl⟩ (fun hS0 => ?_)
    clear hK K
    refine wpAnyH_ready (rs := [6]) (by kernel_rfl) (by simp) ?_
    refine AllReadyH.cons rfl ?_ AllReadyH.nil
    intro K hK
    go_simp
    try dsimp only
    refine hK.out _ _ hS0 (fun hS0 => ?_)
    clear hK K
    refine wpAnyH_ready (rs := [7]) (by kernel_rfl) (by simp) ?_
    refine AllReadyH.cons rfl ?_ AllReadyH.nil
    intro K hK
    go_simp
    try dsimp only
    refine hK.out _ _ hS0 (fun hS0 => ?_)
    clear hK K
    refine wpAnyH_ready (rs := [8]) (by kernel_rfl) (by simp) ?_
    refine AllReadyH.cons rfl ?_ AllReadyH.nil
    intro K hK
    go_simp
    try dsimp only
    refine hK.out _ _ hS0 (fun hS0 => ?_)
    clear hK K
    refine wpAnyH_done (by kernel_rfl) ?_ _
    go_wp2
    refine ret_rx4 (r := w.heap.size) Try.results13 h1 (by simp) (by simp; rfl) (by simp; rfl) (by simp; rfl) rfl ?_
    rw [HT.out, hbx.at', hbx.bad]
    exact PrsF.none a m hb
  | ok x s2 =>
    have hpl := hbig
    rintro e w2 ⟨p, rfl, hl2, hx, htx, hb2⟩
    have HL2 := Lib.hid hl2
    have hp2 := hl2.fin.pos
    by_cases hlt : s2.pos < l.length
    · have HT := Lib.hid (show parseL free l = (rxNone, [], s2.pos, 2) by unfold parseL; rw [if_neg hbig, hal]; simp only; rw [if_pos hlt])
      clear hal
      go_wp2_with (first
        | (with_reducible refine room_pb (by with_reducible rfl) (by with_reducible rfl) ?_))
      intro V3 h3 b3
      have HQ2 : w.heap.size ≤ w2.heap.size := by have := B1.out.size; have := hb2.size; omega
      have HNE := Lib.hid (show w.heap.size ≠ w2.heap.size by have := (Array.getElem?_eq_some_iff.1 HR.out.heap).1; have := hb2.size; omega)
      have HS1 := Lib.hid (show w.heap.size + 1 ≤ w1.heap.size from (Array.getElem?_eq_some_iff.1 HR.out.heap).1)
      have B3 := Lib.hid ((B1.out.trans (hb2.mono B1.out.size)).trans (b3.mono HQ2))
      have R3 := Lib.hid ((HR.out.call hb2).call b3)
      have H3 := Lib.hid (show ∃ c, V3.heap[w2.heap.size]? = some (.cells c TP (0, 0)) ∧ c.size = 17 from ⟨_, h3, pZero_size⟩)
      have O3 := Lib.hid (OffP.call b3)
      clear h3 b3 hb2
      go_wp2_with (first
        | (with_reducible refine store_pb (w0 := w) (b := w2.heap.size) (p := p) (L := L) (by with_reducible rfl) _ _ (by with_reducible rfl) (by first | (simp [Act.eval]; done) | simp [Act.eval, Act.put]) (by first | (simp [Act.eval]; done) | simp [Act.eval, Act.put]) H3.out HQ2 B3.out ?_))
      intro V4 P4 e4
      have R4 := Lib.hid (show ResX w V4 w.heap.size from ⟨(e4 _ HNE.out).trans R3.out.heap, R3.out.lo⟩)
      have B4 := Lib.hid P4.below
      have O4 := Lib.hid (show OffP w2 V4 from O3.out.trans (by obtain ⟨c, hc, _⟩ := H3.out; exact OffP.of hc e4))
      clear e4 R3 B3 H3 O3
      have c16 := P4.bad
      have c1 := P4.i
      rw [hl2.bad] at c16
      rw [hl2.i] at c1
      have z1' : decide ((s2.pos : Int) < (l.length : Int)) = true := decide_eq_true (by omega)
      have KST := Lib.hid (fun W => show Calls Try.prog 32 #[pAgg L p, .int .i64 (s2.pos : Int)] W (RetE (pAgg L (stopX L p (s2.pos : Int))) fun w' => Below W.heap.size W w') from rfStop L p (s2.pos : Int) W)
      have hsx : (stopX L p (s2.pos : Int)).at' = (s2.pos : Int) ∧ (stopX L p (s2.pos : Int)).bad = 2 := by
        unfold stopX
        rw [if_neg (by rw [HLn.out]; omega)]
        exact ⟨rfl, rfl⟩
      have P4 := Lib.hid P4
      clear hl2 hx htx
      go_wp2_with (first
        | (with_reducible refine load_pb (w0 := w) (b := w2.heap.size) (by with_reducible rfl) _ (by with_reducible rfl) (by first | (simp [Act.eval]; done) | simp [Act.eval, Act.put]) P4.out ?_)
        | (go_at_call 32; (with_reducible refine (KST.out _).mono ?_)))
      rintro e w5 ⟨rfl, hb5⟩
      have P5 := Lib.hid (PB.call P4.out hb5)
      have R5 := Lib.hid (R4.out.call hb5)
      have H45 := Lib.hid hb5
      clear hb5 P4 R4 c16 c1
      generalize stopX L p (s2.pos : Int) = pS at *
      go_wp2_with (first
        | (with_reducible refine store_pb (w0 := w) (b := w2.heap.size) (p := pS) (L := L) (by with_reducible rfl) _ _ (by with_reducible rfl) (by first | (simp [Act.eval]; done) | simp [Act.eval, Act.put]) (by first | (simp [Act.eval]; done) | simp [Act.eval, Act.put]) P5.out.room17 HQ2 P5.out.below ?_))
      intro V4 P4 e4
      have R4 := Lib.hid (show ResX w V4 w.heap.size from ⟨(e4 _ HNE.out).trans R5.out.heap, R5.out.lo⟩)
      have B4 := Lib.hid P4.below
      have c16 := P4.bad
      have c15 := P4.at
      rw [hsx.1] at c15
      rw [hsx.2] at c16
      have z16 : ((2 : Int) == 0) = false := rfl
      have z17 : ((2 : Int) != 0) = true := rfl
      have HSX := Lib.hid hsx
      obtain ⟨pE, hpE⟩ : ∃ q, q = pS := ⟨_, rfl⟩
      rw [← hpE] at P4 HSX
      clear hpE hsx e4
      have PQ := Lib.hid P4
      clear P4
      go_upto_region 8 with fail
      refine wp_region_held_drew (S := (fun Y => PB w Y w2.heap.size L pE ∧ ∃ c, Y.heap[w.heap.size]? = some (.cells c TRx (0, 0)) ∧ c.size = 10)) (by kernel_rfl) ⟨PQ.out.drew, _, R4.out.heap, rfl⟩ (fun hS0 => ?_)
      clear c15 c16
      refine wpAnyH_take (i := 0) (v := Value.agg #[.int .i64 0, .int .i64 0, .int .i64 0, .slice none 0 0, .int .i64 0, .int .i64 0, .bool false, .bool false, .int .i64 0, .string ⟨#[]⟩]) rfl (by kernel_rfl) (by kernel_rfl) (by kernel_rfl) (fun _ _ _ h => h) (.inl ⟨by rfl, fun _ _ => by go_simp⟩) hS0 ?_
      refine wpAnyH_take (i := 1) (v := Value.pointer (some ⟨w2.heap.size, 15, none⟩)) rfl (by kernel_rfl) (by kernel_rfl) (by kernel_rfl) (fun _ _ _ h => h) (.inl ⟨by rfl, fun _ _ => by go_simp⟩) hS0 ?_
      refine wpAnyH_take (i := 2) (v := Value.int .i64 pE.at') rfl (by kernel_rfl) (by kernel_rfl) (by kernel_rfl) (fun _ _ _ h => h) (.inl ⟨by rfl, fun _ h => by have c15 := h.1.at; go_simp⟩) hS0 ?_
      refine wpAnyH_take (i := 3) (v := Value.pointer (some ⟨w2.heap.size, 16, none⟩)) rfl (by kernel_rfl) (by kernel_rfl) (by kernel_rfl) (fun _ _ _ h => h) (.inl ⟨by rfl, fun _ _ => by go_simp⟩) hS0 ?_
      refine wpAnyH_take (i := 4) (v := Value.int .i64 pE.bad) rfl (by kernel_rfl) (by kernel_rfl) (by kernel_rfl) (fun _ _ _ h => h) (.inl ⟨by rfl, fun _ h => by have c16 := h.1.bad; go_simp⟩) hS0 ?_
      generalize V4.drew = V5 at *
      refine wpAnyH_ready (rs := [5]) (by kernel_rfl) (by simp) ?_
      refine AllReadyH.cons rfl ?_ AllReadyH.nil
      intro K hK
      rw [if_pos (by kernel_rfl)]
      with_reducible refine wp_store_rxr (w0 := w) (r := w.heap.size) (X := rxNone) (A := none) (n := 0) (m := 0) _ _ (by with_unfolding_all rfl) (by with_unfolding_all rfl) (by with_unfolding_all rfl) hS0.2 (Nat.le_refl _) hS0.1.below ?_
      intro V h1 hb he
      have hpv := hS0.1.heap
      clear hS0
      try dsimp only
      refine hK.out _ _ ⟨⟨(he _ HNE.out.symm).trans hpv, HQ2, hb⟩, _, h1, rfl⟩ (fun hS0 => ?_)
      clear hK K
      refine wpAnyH_ready (rs := [6]) (by kernel_rfl) (by simp) ?_
      refine AllReadyH.cons rfl ?_ AllReadyH.nil
      intro K hK
      go_simp
      try dsimp only
      refine hK.out _ _ hS0 (fun hS0 => ?_)
      clear hK K
      refine wpAnyH_ready (rs := [7]) (by kernel_rfl) (by simp) ?_
      refine AllReadyH.cons rfl ?_ AllReadyH.nil
      intro K hK
      go_simp
      try dsimp only
      refine hK.out _ _ hS0 (fun hS0 => ?_)
      clear hK K
      refine wpAnyH_ready (rs := [8]) (by kernel_rfl) (by simp) ?_
      refine AllReadyH.cons rfl ?_ AllReadyH.nil
      intro K hK
      go_simp
      try dsimp only
      refine hK.out _ _ hS0 (fun hS0 => ?_)
      clear hK K
      refine wpAnyH_done (by kernel_rfl) ?_ _
      go_wp2
      refine ret_rx4 (r := w.heap.size) Try.results13 h1 (by simp) (by simp; rfl) (by simp; rfl) (by simp; rfl) rfl ?_
      rw [HT.out, HSX.out.1, HSX.out.2]
      exact PrsF.none s2.pos 2 hb
    · have HT := Lib.hid (show parseL free l = (x, s2.names, 0, 0) by unfold parseL; rw [if_neg hbig, hal]; simp only; rw [if_neg hlt])
      clear hal
      go_wp2_with (first
        | (with_reducible refine room_pb (by with_reducible rfl) (by with_reducible rfl) ?_))
      intro V3 h3 b3
      have HQ2 : w.heap.size ≤ w2.heap.size := by have := B1.out.size; have := hb2.size; omega
      have HNE := Lib.hid (show w.heap.size ≠ w2.heap.size by have := (Array.getElem?_eq_some_iff.1 HR.out.heap).1; have := hb2.size; omega)
      have HS1 := Lib.hid (show w.heap.size + 1 ≤ w1.heap.size from (Array.getElem?_eq_some_iff.1 HR.out.heap).1)
      have B3 := Lib.hid ((B1.out.trans (hb2.mono B1.out.size)).trans (b3.mono HQ2))
      have R3 := Lib.hid ((HR.out.call hb2).call b3)
      have H3 := Lib.hid (show ∃ c, V3.heap[w2.heap.size]? = some (.cells c TP (0, 0)) ∧ c.size = 17 from ⟨_, h3, pZero_size⟩)
      have O3 := Lib.hid (OffP.call b3)
      clear h3 b3 hb2
      go_wp2_with (first
        | (with_reducible refine store_pb (w0 := w) (b := w2.heap.size) (p := p) (L := L) (by with_reducible rfl) _ _ (by with_reducible rfl) (by first | (simp [Act.eval]; done) | simp [Act.eval, Act.put]) (by first | (simp [Act.eval]; done) | simp [Act.eval, Act.put]) H3.out HQ2 B3.out ?_))
      intro V4 P4 e4
      have R4 := Lib.hid (show ResX w V4 w.heap.size from ⟨(e4 _ HNE.out).trans R3.out.heap, R3.out.lo⟩)
      have B4 := Lib.hid P4.below
      have O4 := Lib.hid (show OffP w2 V4 from O3.out.trans (by obtain ⟨c, hc, _⟩ := H3.out; exact OffP.of hc e4))
      clear e4 R3 B3 H3 O3
      have c16 := P4.bad
      have c1 := P4.i
      rw [hl2.bad] at c16
      rw [hl2.i] at c1
      have z1' : decide ((s2.pos : Int) < (l.length : Int)) = false := decide_eq_false (by omega)
      have hnn := hl2.nn
      have P4 := Lib.hid P4
      have HNA := Lib.hid (show V4.ownsRow 0 9 1 (.slice p.na p.nn p.nc) p.nn (strCells s2.names) from rowns_block hl2.names fun k c z _ hh => O4.out k c _ z (by decide) hh)
      have HKX := Lib.hid (show p.xn = x.kids.length ∧ KX (fun q => w.heap.size + 1 ≤ q) V4 x (.slice p.xa p.xn p.xc) by
        rw [← hx]
        exact ⟨htx.1, (KX.off htx.2 O4.out).kept fun q c z hq hh => ⟨hh, Nat.le_trans HS1.out hq⟩⟩)
      clear hl2 htx
      go_upto_region 9 with fail
      have HR4 := Lib.hid (show ∃ c, V4.heap[w.heap.size]? = some (.cells c TRx (0, 0)) ∧ c.size = 10 from ⟨_, R4.out.heap, rfl⟩)
      refine wp_region_held_drew (S := (fun Y => PB w Y w2.heap.size L p ∧ ∃ c, Y.heap[w.heap.size]? = some (.cells c TRx (0, 0)) ∧ c.size = 10)) (by kernel_rfl) ⟨P4.out.drew, HR4.out⟩ (fun hS0 => ?_)
      clear c16 c1
      refine wpAnyH_take (i := 0) (v := Value.pointer (some ⟨w2.heap.size, 5, none⟩)) rfl (by kernel_rfl) (by kernel_rfl) (by kernel_rfl) (fun _ _ _ h => h) (.inl ⟨by rfl, fun _ _ => by go_simp⟩) hS0 ?_
      refine wpAnyH_take (i := 1) (v := rxAgg p.x (.slice p.xa p.xn p.xc)) rfl (by kernel_rfl) (by kernel_rfl) (by kernel_rfl) (fun _ _ _ h => h) (yields_xr (fun _ h => h.1.xrange) (by rfl) _ rfl rfl) hS0 ?_
      refine wpAnyH_take (i := 2) (v := Value.pointer (some ⟨w2.heap.size, 4, none⟩)) rfl (by kernel_rfl) (by kernel_rfl) (by kernel_rfl) (fun _ _ _ h => h) (.inl ⟨by rfl, fun _ _ => by go_simp⟩) hS0 ?_
      refine wpAnyH_take (i := 3) (v := Value.slice p.na p.nn p.nc) rfl (by kernel_rfl) (by kernel_rfl) (by kernel_rfl) (fun _ _ _ h => h) (.inl ⟨by rfl, fun _ h => by have c4 := h.1.names; go_simp⟩) hS0 ?_
      refine wpAnyH_ready (rs := [4]) (by kernel_rfl) (by simp) ?_
      refine AllReadyH.cons rfl ?_ AllReadyH.nil
      intro K hK
      rw [if_pos (by kernel_rfl)]
      with_reducible refine wp_store_rxr (w0 := w) (r := w.heap.size) (X := p.x) (A := p.xa) (n := p.xn) (m := p.xc) _ _ (by with_unfolding_all rfl) (by with_unfolding_all rfl) (by with_unfolding_all rfl) hS0.2 (Nat.le_refl _) hS0.1.below ?_
      intro V h1 hb he
      clear hS0
      try dsimp only
      refine hK.out _ _ ⟨⟨(he _ HNE.out.symm).trans P4.out.heap, HQ2, hb⟩, _, h1, rfl⟩ (fun hS0 => ?_)
      clear hK K
      refine wpAnyH_ready (rs := [5]) (by kernel_rfl) (by simp) ?_
      refine AllReadyH.cons rfl ?_ AllReadyH.nil
      intro K hK
      go_simp
      try dsimp only
      refine hK.out _ _ hS0 (fun hS0 => ?_)
      clear hK K
      refine wpAnyH_ready (rs := [6]) (by kernel_rfl) (by simp) ?_
      refine AllReadyH.cons rfl ?_ AllReadyH.nil
      intro K hK
      go_simp
      try dsimp only
      refine hK.out _ _ hS0 (fun hS0 => ?_)
      clear hK K
      refine wpAnyH_ready (rs := [7]) (by kernel_rfl) (by simp) ?_
      refine AllReadyH.cons rfl ?_ AllReadyH.nil
      intro K hK
      go_simp
      try dsimp only
      refine hK.out _ _ hS0 (fun hS0 => ?_)
      clear hK K
      refine wpAnyH_done (by kernel_rfl) ?_ _
      go_wp2
      refine ret_rx4 (r := w.heap.size) Try.results13 h1 (by simp) (by simp; rfl) (by simp; rfl) (by simp; rfl) rfl ?_
      rw [HT.out]
      obtain ⟨hn, hk⟩ := HKX.out
      have hna := HNA.out
      rw [hnn] at hna
      subst hx
      rw [hn] at hk ⊢
      refine ⟨_, _, _, _, rfl, ?_, ?_, hb⟩
      · exact hk.kept (w := V4) fun q c z hq hh => ⟨(he q (by have hq : w.heap.size + 1 ≤ q := hq; omega)).trans hh, by have hq : w.heap.size + 1 ≤ q := hq; show w.heap.size ≤ q; omega⟩
      · exact rowns_block hna fun k c z _ hh => (he k (fun e => by
          subst e
          obtain ⟨c', hc, _⟩ := HR4.out
          rw [hc] at hh; injection hh with hh; injection hh with _ hh _; exact absurd hh (by decide))).trans hh

end Go.Proofs.Ytoniccokohjenaa
