/-
  Whole parts that are stored and handed back; the walks of the parser's sign, literal, one (chapter 18).
-/
import Derived.Test.YtoniccokohjenaaDoorRegO
namespace Go.Proofs.YtoniccokohjenaaDoor
open Go.RowKit

theorem setCells_far (b : Nat) : ∀ (vs : List Value) (o : Nat) (w : World) (k : Nat), k ≠ b → (w.setCells b o vs).heap[k]? = w.heap[k]?
  | [], _, _, _, _ => rfl
  | v :: r, o, w, k, h => by
    rw [World.setCells, setCells_far b r (o + 1) _ k h]
    exact rheap_far (fun e => h e.symm)
theorem setCells_obj (b : Nat) : ∀ (vs : List Value) (o : Nat) (w : World) (c : Array Value) (T : TypeId) (z : Nat × Nat), w.heap[b]? = some (.cells c T z) → ∃ c', (w.setCells b o vs).heap[b]? = some (.cells c' T z) ∧ c'.size = c.size
  | [], _, _, c, _, _, h => ⟨c, h, rfl⟩
  | v :: r, o, w, c, T, z, h => by
    rw [World.setCells]
    obtain ⟨c', h1, h2⟩ := setCells_obj b r (o + 1) _ _ T z (rheap_set (k := o) h v)
    exact ⟨c', h1, by rw [h2]; simp⟩
theorem setCells_below {B : Nat} {a : World} (b : Nat) (hb : B ≤ b) : ∀ (vs : List Value) (o : Nat) (w : World), Below B a w → Below B a (w.setCells b o vs)
  | [], _, _, h => h
  | v :: r, o, w, h => by
    rw [World.setCells]
    exact setCells_below b hb r (o + 1) _ (h.setCell (p := ⟨b, o, none⟩) hb v)
theorem setCells_size (b : Nat) : ∀ (vs : List Value) (o : Nat) (w : World), (w.setCells b o vs).heap.size = w.heap.size
  | [], _, _ => rfl
  | v :: r, o, w => by rw [World.setCells, setCells_size b r]; simp [World.setCell]
theorem there_of {w : World} {b n : Nat} {c : Array Value} {T : TypeId} (h : w.heap[b]? = some (.cells c T (0, 0))) (hn : n = c.size) : w.there b 0 n := fun j hj => by
  refine ⟨?_, Lib.frozen_of_heap h _⟩
  rw [Lib.cell_of_heap h, Nat.zero_add]
  simp only [Array.getElem?_eq_getElem (show j < c.size by omega), Option.isSome_some]
theorem setCells_whole {w : World} {b : Nat} {c : Array Value} {T : TypeId} {vs : List Value} (h : w.heap[b]? = some (.cells c T (0, 0))) (hn : vs.length = c.size) : (w.setCells b 0 vs).heap[b]? = some (.cells vs.toArray T (0, 0)) := by
  obtain ⟨c', h1, h2⟩ := setCells_obj b vs 0 w c T (0, 0) h
  have hr := World.rangeAt_setCells_same w b 0 vs (there_of h hn)
  rw [h1]
  congr 2
  apply Array.ext
  · simp [h2, hn]
  · intro i hi1 hi2
    have hv : vs[i]? = some vs[i] := List.getElem?_eq_getElem (by simpa using hi2)
    have := hr i _ hv
    rw [Nat.zero_add, Lib.cell_of_heap h1, Array.getElem?_eq_getElem hi1] at this
    simpa using Option.some.inj this
theorem range_of {w : World} {b : Nat} {vs : List Value} {T : TypeId} {z : Nat × Nat} (h : w.heap[b]? = some (.cells vs.toArray T z)) : w.rangeAt b 0 vs := fun j v hj => by
  rw [Nat.zero_add, Lib.cell_of_heap h]; simpa using hj

section
variable {w0 w w' a : World} {g : Nat} {l : List Int} {free : Bool} {s : PS} {tk : List (List UInt8)}
theorem PrT.setRx (h : PrT w0 g l free s tk w) {q : Nat} {c : Array Value} {z : Nat × Nat} (hq : w.heap[q]? = some (.cells c TRx z)) (h0 : w0.heap.size ≤ q) (o : Nat) (vs : List Value) : PrT w0 g l free s tk (w.setCells q o vs) :=
  h.kept (setCells_below q h0 vs o w (Below.refl _ w)) fun i ob hi hP => by
    rw [setCells_far q vs o w i (fun e => ?_)]
    · exact hi
    · subst e
      rw [hq] at hi
      injection hi with hi
      subst hi
      rcases hP with ⟨c', z', e⟩ | ⟨c', z', e⟩ | ⟨c', z', e⟩ | ⟨es, cl, e⟩
      · injection e with _ e _; exact absurd e (by decide)
      · injection e with _ e _; exact absurd e (by decide)
      · injection e with _ e _; exact absurd e (by decide)
      · cases e
theorem PK.setRx (h : PK g a w) {q : Nat} (hq : a.heap.size ≤ q) (o : Nat) (vs : List Value) : PK g a (w.setCells q o vs) :=
  ⟨by rw [setCells_size]; exact h.1, fun i c T z hi h1 h2 => by
    have hl := (Array.getElem?_eq_some_iff.1 hi).1
    rw [setCells_far q vs o w i (fun e => by omega)]; exact h.2 i c T z hi h1 h2⟩
/-- a block of parts, or any but the parser's and those of strings, behind a call -/
theorem PK.at (h : PK g w w') {q : Nat} {c : Array Value} {T : TypeId} {z : Nat × Nat} (hq : w.heap[q]? = some (.cells c T z)) (h1 : q ≠ g) (h2 : T ≠ 9) : w'.heap[q]? = some (.cells c T z) := h.2 q c T z hq h1 h2
end

theorem infoRx : (Tryd.prog.info? 45).map (fun i => (i.zero, i.size, i.bytes)) = some (some (.agg #[.int .i64 0, .int .i64 0, .int .i64 0, .slice none 0 0, .int .i64 0, .int .i64 0, .bool false, .bool false, .int .i64 0, .string ⟨#[]⟩]), 10, 96) := by kernel_rfl
theorem sizeRx : (Tryd.prog.info? TRx).map (·.size) = some 10 := by kernel_rfl
theorem underRx : ∃ d, Tryd.prog.underlying TRx = some d ∧ d.isRow = true := ⟨_, Tryd.underlying45, rfl⟩
/-- the part in ten cells is read -/
theorem load_rx {W : World} {r : Nat} {cs : List Value} {z : Nat × Nat} (hh : W.heap[r]? = some (.cells cs.toArray TRx z)) (h10 : cs.length = 10) : (loadVar TRx ⟨r, 0, none⟩).run Tryd.prog W = .ok (.agg cs.toArray) W := by
  obtain ⟨d, hd, hrow⟩ := underRx
  exact run_loadVar_mid W r 0 TRx cs d (range_of hh) hd hrow (by rw [sizeRx, h10])
theorem ret_rx {fn : Func} (hr : fn.results = #[.cell 2 TRx]) {a : Act} {W : World} {r : Nat} {cs : List Value} {z : Nat × Nat} (hh : W.heap[r]? = some (.cells cs.toArray TRx z)) (h10 : cs.length = 10)
    (ht : a.tmps.getD 2 undef = .pointer (some ⟨r, 0, none⟩)) (hd : a.defers = []) {R : Ending → World → Prop} (hR : R (.returned (.agg cs.toArray)) W) : bodyPost Tryd.prog fn R .ret a W := by
  have ht' : a.tmps[2]?.getD undef = .pointer (some ⟨r, 0, none⟩) := by simpa using ht
  refine bodyPost_ret (v := .agg cs.toArray) ?_ hd hR
  have := load_rx hh h10
  simp [results, hr, ht', asAddr, this]
theorem ret_rx2 {fn : Func} (hr : fn.results = #[.cell 2 TRx, .tmp 3]) {a : Act} {W : World} {r : Nat} {cs : List Value} {z : Nat × Nat} {v : Value} (hh : W.heap[r]? = some (.cells cs.toArray TRx z)) (h10 : cs.length = 10)
    (ht : a.tmps.getD 2 undef = .pointer (some ⟨r, 0, none⟩)) (hv : a.tmps.getD 3 undef = v) (hd : a.defers = []) {R : Ending → World → Prop} (hR : R (.returned (.tuple #[.agg cs.toArray, v])) W) : bodyPost Tryd.prog fn R .ret a W := by
  have ht' : a.tmps[2]?.getD undef = .pointer (some ⟨r, 0, none⟩) := by simpa using ht
  have hv' : a.tmps[3]?.getD undef = v := by simpa using hv
  refine bodyPost_ret (v := .tuple #[.agg cs.toArray, v]) ?_ hd hR
  have := load_rx hh h10
  simp [results, hr, ht', hv', asAddr, this, Result.andThen]

theorem rx_one (t : Rx) (A : Option Addr) (n c : Nat) : ∀ v ∈ rxCells t (.slice A n c), v.oneCell' = true := fun v h => by
  simp only [rxCells, List.mem_cons, List.not_mem_nil, or_false] at h
  rcases h with rfl | rfl | rfl | rfl | rfl | rfl | rfl | rfl | rfl | rfl <;> rfl
theorem rx_len (t : Rx) (kv : Value) : (rxCells t kv).length = 10 := rfl
/-- the part is stored, whole -/
theorem store_rx {ops : Array Oper} {rest : List Oper} {op : Oper} {a : Act} {w : World} {Q : Exit → Act → World → Prop} (hgd : op.guard = none) (x y : Operand) (ho : op.op = .store TRx x y)
    (b : Nat) (vs : List Value) (hx : a.eval x = .pointer (some ⟨b, 0, none⟩)) (hy : a.eval y = .agg vs.toArray) (hb : ∃ c, w.heap[b]? = some (.cells c TRx (0, 0)) ∧ c.size = 10) (hl : vs.length = 10) (h1 : ∀ v ∈ vs, v.oneCell' = true)
    (h : ∀ w', Hid (w' = w.setCells b 0 vs) → wpList Tryd.prog ops Q rest (a.put op.dst undef) w') : wpList Tryd.prog ops Q (op :: rest) a w := by
  obtain ⟨c, hc, hs⟩ := hb
  exact wpList_store_mid hgd TRx x y ho b 0 vs.toArray hx hy (there_of hc (by simp [hl, hs])) (by rw [sizeRx]; simp [hl]) (all_oneCell_toArray h1) (by simpa using h _ rfl)

/-- the part is read, whole -/
theorem load_rxL {ops : Array Oper} {rest : List Oper} {op : Oper} {a : Act} {w : World} {Q : Exit → Act → World → Prop} (hgd : op.guard = none) (x : Operand) (ho : op.op = .load TRx x)
    (b : Nat) (cs : List Value) (hx : a.eval x = .pointer (some ⟨b, 0, none⟩)) (hb : ∃ z, w.heap[b]? = some (.cells cs.toArray TRx z)) (hl : cs.length = 10)
    (h : wpList Tryd.prog ops Q rest (a.put op.dst (.agg cs.toArray)) w) : wpList Tryd.prog ops Q (op :: rest) a w := by
  obtain ⟨z, hb⟩ := hb
  obtain ⟨d, hd, hrow⟩ := underRx
  exact wpList_load_mid hgd TRx x ho b 0 hx cs d (range_of hb) hd hrow (by rw [sizeRx, hl]) h

theorem signI_of (c : Int) (h1 : 33 ≤ c) (h2 : c ≤ 126) (h3 : digI c = false) : signI c = (decide (lowR c < 97) || decide (122 < lowR c)) := by
  unfold signI
  rw [decide_eq_true h1, decide_eq_true h2, h3, lowR_let c (by omega) (by omega)]
  rcases Int.lt_or_le (lowR c) 97 with h | h
  · rw [decide_eq_true h, decide_eq_false (show ¬ 97 ≤ lowR c by omega)]; rfl
  · rw [decide_eq_false (show ¬ lowR c < 97 by omega), decide_eq_true h]
    rcases Int.lt_or_le 122 (lowR c) with h4 | h4
    · rw [decide_eq_true h4, decide_eq_false (show ¬ lowR c ≤ 122 by omega)]; rfl
    · rw [decide_eq_false (show ¬ 122 < lowR c by omega), decide_eq_true h4]; rfl
set_option maxHeartbeats 1000000 in
set_option maxRecDepth 100000 in
theorem rxSign_any (c : Int) (w : World) :
    Calls Tryd.prog 57 #[.int .i64 c] w (RetE (.bool (signI c)) fun w' => w = w') := by
  have KD := Lib.hid (fun W => RetE.of (rxDigit_any c W))
  by_cases h1 : 33 ≤ c
  · by_cases h2 : c ≤ 126
    · have z1 : decide ((33 : Int) ≤ c) = true := decide_eq_true h1
      have z2 : decide (c ≤ (126 : Int)) = true := decide_eq_true h2
      cases hd : digI c with
      | true =>
        have hs : signI c = false := by unfold signI; rw [hd]; simp
        rw [hs]
        rw [hd] at KD
        clear hd hs h1 h2
        go_enter Tryd.func57, Tryd.ntmps57
        go_wp2_with (go_at_call 58; refine (KD.out _).mono ?_)
        rintro e w1 ⟨rfl, rfl⟩
        go_wp2
        go_ret
        exact ⟨rfl, rfl⟩
      | false =>
        rw [signI_of c h1 h2 hd]
        rw [hd] at KD
        clear hd h1 h2
        unfold lowR
        go_enter Tryd.func57, Tryd.ntmps57
        go_wp2_with (go_at_call 58; refine (KD.out _).mono ?_)
        rintro e w1 ⟨rfl, rfl⟩
        generalize bits BinOp.or IntKind.i64 c 32 = z at *
        go_wp2
        all_goals (go_ret; exact ⟨by simp_all, rfl⟩)
    · have z1 : decide ((33 : Int) ≤ c) = true := decide_eq_true h1
      have z2 : decide (c ≤ (126 : Int)) = false := decide_eq_false h2
      have hs : signI c = false := by unfold signI; rw [z2]; simp
      rw [hs]
      clear hs
      go_enter Tryd.func57, Tryd.ntmps57
      go_wp2
      go_ret
      exact ⟨rfl, rfl⟩
  · have z1 : decide ((33 : Int) ≤ c) = false := decide_eq_false h1
    have hs : signI c = false := by unfold signI; rw [z1]; simp
    rw [hs]
    clear hs
    go_enter Tryd.func57, Tryd.ntmps57
    go_wp2
    go_ret
    exact ⟨rfl, rfl⟩

section
variable (w0 : World) (g : Nat) (l : List Int) (free : Bool) (s : PS) (w : World)

set_option maxHeartbeats 1000000 in
set_option maxRecDepth 100000 in
theorem rxLiteral_any (hf : Fin1 l s) (h : PrV w0 g l free s w) :
    Calls Tryd.prog 53 #[.pointer (some ⟨g, 0, none⟩)] w (ResV w0 g l free w (fun c : Int => .int .i64 c) (litR l s)) := by
  have H := Lib.hid h
  have hp := hf.pos
  have hl := hf.len
  have KD := rxDueV w0 g l free s s.names w (by omega) hl h
  have hlit : litR l s = if due l s.pos = 110 then .ok 10 { s with pos := s.pos + 1 } else if due l s.pos = 116 then .ok 9 { s with pos := s.pos + 1 } else if due l s.pos = 114 then .ok 13 { s with pos := s.pos + 1 } else if signI (due l s.pos) then .ok (due l s.pos) { s with pos := s.pos + 1 } else failR l s.pos := rfl
  have KF := Lib.hid (fun (W : World) (a' n' : Nat) (hf : (failR l s.pos : PR Unit) = .bad a' n') (h : PrV w0 g l free s W) => rxFailV w0 g l free s s.names W s.pos hf h)
  clear h
  generalize due l s.pos = d at *
  have K := Lib.hid KD
  clear KD
  by_cases h3 : d = 110 ∨ d = 116 ∨ d = 114
  · rcases h3 with rfl | rfl | rfl
    · have HT := Lib.hid (show litR l s = .ok 10 { s with pos := s.pos + 1 } by rw [hlit]; rfl)
      clear hlit
      go_enter Tryd.func53, Tryd.ntmps53
      go_wp2_with (go_at_call 41; refine K.out.mono ?_)
      rintro e w1 ⟨rfl, h1, k1⟩
      have c1 := h1.c1
      have f1 := h1.frozen 1
      have H1 := Lib.hid h1
      have HK := Lib.hid k1
      clear h1 k1
      go_wp2
      go_ret
      rw [HT.out]
      exact ⟨rfl, H1.out.put_pos (s.pos + 1), HK.out.setOwn 1 _⟩
    · have HT := Lib.hid (show litR l s = .ok 9 { s with pos := s.pos + 1 } by rw [hlit]; rfl)
      clear hlit
      go_enter Tryd.func53, Tryd.ntmps53
      go_wp2_with (go_at_call 41; refine K.out.mono ?_)
      rintro e w1 ⟨rfl, h1, k1⟩
      have c1 := h1.c1
      have f1 := h1.frozen 1
      have H1 := Lib.hid h1
      have HK := Lib.hid k1
      clear h1 k1
      go_wp2
      go_ret
      rw [HT.out]
      exact ⟨rfl, H1.out.put_pos (s.pos + 1), HK.out.setOwn 1 _⟩
    · have HT := Lib.hid (show litR l s = .ok 13 { s with pos := s.pos + 1 } by rw [hlit]; rfl)
      clear hlit
      go_enter Tryd.func53, Tryd.ntmps53
      go_wp2_with (go_at_call 41; refine K.out.mono ?_)
      rintro e w1 ⟨rfl, h1, k1⟩
      have c1 := h1.c1
      have f1 := h1.frozen 1
      have H1 := Lib.hid h1
      have HK := Lib.hid k1
      clear h1 k1
      go_wp2
      go_ret
      rw [HT.out]
      exact ⟨rfl, H1.out.put_pos (s.pos + 1), HK.out.setOwn 1 _⟩
  · rw [if_neg (fun e => h3 (.inl e)), if_neg (fun e => h3 (.inr (.inl e))), if_neg (fun e => h3 (.inr (.inr e)))] at hlit
    have z1 : (d == 110) = false := beq_false_of_ne (fun e => h3 (.inl e))
    have z2 : (d == 116) = false := beq_false_of_ne (fun e => h3 (.inr (.inl e)))
    have z3 : (d == 114) = false := beq_false_of_ne (fun e => h3 (.inr (.inr e)))
    have KS := fun W => rxSign_any d W
    cases hs : signI d with
    | true =>
      rw [if_pos hs] at hlit
      rw [hs] at KS
      have HT := Lib.hid hlit
      have KS := Lib.hid KS
      clear hlit hs h3
      go_enter Tryd.func53, Tryd.ntmps53
      go_wp2_with (go_at_call 41; refine K.out.mono ?_)
      rintro e w1 ⟨rfl, h1, k1⟩
      have c1 := h1.c1
      have f1 := h1.frozen 1
      have H1 := Lib.hid h1
      have HK := Lib.hid k1
      clear h1 k1
      go_wp2_with (go_at_call 57; refine (KS.out _).mono ?_)
      rintro e w2 ⟨rfl, rfl⟩
      go_wp2
      go_ret
      rw [HT.out]
      exact ⟨rfl, H1.out.put_pos (s.pos + 1), HK.out.setOwn 1 _⟩
    | false =>
      rw [if_neg (by rw [hs]; decide)] at hlit
      rw [hs] at KS
      obtain ⟨a', n', hfa, hfb⟩ := failR_to (α := Int) (l := l) s.pos
      rw [hfb] at hlit
      have HT := Lib.hid hlit
      have KS := Lib.hid KS
      have KF := Lib.hid (fun W => KF.out W a' n' hfa)
      clear hlit hs h3 hfa hfb
      go_enter Tryd.func53, Tryd.ntmps53
      go_wp2_with (go_at_call 41; refine K.out.mono ?_)
      rintro e w1 ⟨rfl, h1, k1⟩
      have c1 := h1.c1
      have H1 := Lib.hid h1
      clear h1 k1
      go_wp2_with (go_at_call 57; refine (KS.out _).mono ?_)
      rintro e w2 ⟨rfl, rfl⟩
      go_wp2_with (go_at_call 25; refine (KF.out _ H1.out).mono ?_)
      rintro e w3 ⟨rfl, hb3⟩
      unfold stopE
      go_wp2
      rw [HT.out]
      exact ⟨rfl, rfl, hb3⟩

/-- ten cells that are nothing -/
def zRx : Array Value := #[.int .i64 0, .int .i64 0, .int .i64 0, .slice none 0 0, .int .i64 0, .int .i64 0, .bool false, .bool false, .int .i64 0, .string ⟨#[]⟩]
set_option maxHeartbeats 1000000 in
set_option maxRecDepth 100000 in
theorem rxOne_any (hf : Fin1 l s) (h : PrV w0 g l free s w) :
    Calls Tryd.prog 56 #[.pointer (some ⟨g, 0, none⟩)] w (ResV w0 g l free w (fun x : Rx × Bool => .tuple #[rxAgg x.1 (.slice none 0 0), .bool x.2]) (oneR l s)) := by
  have H := Lib.hid h
  have hp := hf.pos
  have hl := hf.len
  have hsz := h.size
  have KD := fun (W : World) (h : PrV w0 g l free s W) => rxDueV w0 g l free s s.names W (by omega) hl h
  have KF := Lib.hid (fun (W : World) (a' n' : Nat) (hf : (failR l s.pos : PR Unit) = .bad a' n') (h : PrV w0 g l free s W) => rxFailV w0 g l free s s.names W s.pos hf h)
  clear h
  by_cases hbad : due l s.pos = -1 ∨ due l s.pos = 91 ∨ due l s.pos = 93
  · obtain ⟨a', n', hfa, hfb⟩ := failR_to (α := Rx × Bool) (l := l) s.pos
    have HT := Lib.hid (show oneR l s = .bad a' n' by unfold oneR; simp only; rw [if_pos hbad, hfb])
    have KF := Lib.hid (fun W => KF.out W a' n' hfa)
    clear hfa hfb
    generalize due l s.pos = d at *
    rcases hbad with rfl | rfl | rfl <;>
    · have K := Lib.hid KD
      clear KD
      go_enter Tryd.func56, Tryd.ntmps56
      go_wp2_with (go_at_call 41; refine (K.out _ (H.out.alloc _)).mono ?_)
      rintro e w1 ⟨rfl, h1, k1⟩
      have c1 := h1.c1
      have H1 := Lib.hid h1
      clear h1 k1
      go_wp2_with (go_at_call 25; refine (KF.out _ H1.out).mono ?_)
      rintro e w3 ⟨rfl, hb3⟩
      unfold stopE
      go_wp2
      rw [HT.out]
      exact ⟨rfl, rfl, hb3⟩
  · by_cases h92 : due l s.pos = 92
    · have hlt := due_lt h92 (by decide)
      have hf1 : Fin1 l { s with pos := s.pos + 1 } := hf.adv (.step h92 (by decide))
      have hone : oneR l s = match classI (due l (s.pos + 1)) with
        | some (r, n) => .ok (rxClass r n, false) { s with pos := s.pos + 2 }
        | none => (litR l { s with pos := s.pos + 1 }).bind fun c s => .ok (rxRune c, true) s := by unfold oneR; simp only; rw [if_neg hbad, if_pos h92]; rfl
      have KD2 := Lib.hid (fun (W : World) (h : PrV w0 g l free { s with pos := s.pos + 1 } W) => rxDueV w0 g l free { s with pos := s.pos + 1 } s.names W (show s.pos + 1 ≤ 1001 by omega) hl h)
      have KL := Lib.hid (fun (W : World) (h : PrV w0 g l free { s with pos := s.pos + 1 } W) => rxLiteral_any w0 g l free { s with pos := s.pos + 1 } W hf1 h)
      have kd := KD2.out
      simp only [h92] at KD
      simp only at kd
      clear KD2 hbad
      generalize due l (s.pos + 1) = d at *
      have K := Lib.hid KD
      have KD2 := Lib.hid kd
      have KC0 := fun W => RetE.of (rxClass_any d W)
      clear KD kd h92
      cases hcl : classI d with
      | some rn =>
        obtain ⟨r, n⟩ := rn
        rw [hcl] at hone KC0
        have HT := Lib.hid hone
        have KC := Lib.hid (fun W => show Calls Tryd.prog 52 #[.int .i64 d] W (RetE (.tuple #[.agg (rxCells (rxClass r n) (.slice none 0 0)).toArray, .bool true]) (Below W.heap.size W)) from KC0 W)
        clear hone KC0 hcl
        go_enter Tryd.func56, Tryd.ntmps56
        go_wp2_with (go_at_call 41; refine (K.out _ (H.out.alloc _)).mono ?_)
        rintro e w1 ⟨rfl, h1, k1⟩
        have c1 := h1.c1
        have f1 := h1.frozen 1
        have hr := k1.at (Go.heap_alloc_new w (.cells zRx TRx)) (by omega) (by decide)
        have H2 := Lib.hid (h1.put_pos (s.pos + 1))
        have hr1 := (rheap_far (p := ⟨g, 1, none⟩) (v := .int .i64 ((s.pos : Int) + 1)) (show g ≠ w.heap.size by omega)).trans hr
        have HK := Lib.hid ((((PK.refl g w).alloc _).trans k1).setOwn 1 (.int .i64 ((s.pos : Int) + 1)))
        clear h1 k1
        go_wp2_with (go_at_call 41; refine (KD2.out _ H2.out).mono ?_)
        rintro e w2 ⟨rfl, h2, k2⟩
        have hr2 := k2.at hr1 (by omega) (by decide)
        have H3 := Lib.hid h2
        have HK2 := Lib.hid (HK.out.trans k2)
        clear h2 k2
        go_wp2_with (go_at_call 52; refine (KC.out _).mono ?_)
        rintro e w3 ⟨rfl, hb3⟩
        have hr3 := (hb3.block w.heap.size (Array.getElem?_eq_some_iff.1 hr2).1).trans hr2
        have hsz3 := hb3.size
        have H4 := Lib.hid (H3.out.below hb3)
        have HK3 := Lib.hid (HK2.out.below hb3)
        have c4 := H4.out.c1
        have f4 := H4.out.frozen 1
        have ca : ∀ o, (w3.alloc o).cell? ⟨g, 1, none⟩ = some (.int .i64 ((s.pos + 1 : Nat) : Int)) := fun o => (H4.out.alloc o).c1
        have fa : ∀ o, (w3.alloc o).frozen? ⟨g, 1, none⟩ = false := fun o => (H4.out.alloc o).frozen 1
        have hg3 := H4.out.size
        have hse : ∀ v, (w3.setCell ⟨g, 1, none⟩ v).heap.size = w3.heap.size := fun v => by simp [World.setCell]
        have hbx : ∀ (cs : List Value) (v : Value), ∃ z, ((w3.setCell ⟨g, 1, none⟩ v).alloc (.cells cs.toArray TRx)).heap[w3.heap.size]? = some (.cells cs.toArray TRx z) := fun cs v => ⟨_, by rw [← hse v]; exact Go.heap_alloc_new _ _⟩
        have hrr : ∀ (o : Obj) (v : Value), ((w3.setCell ⟨g, 1, none⟩ v).alloc o).heap[w.heap.size]? = some (.cells zRx TRx (0, 0)) := fun o v => (Below.heap_alloc (w3.setCell ⟨g, 1, none⟩ v) o w.heap.size (by rw [hse]; exact (Array.getElem?_eq_some_iff.1 hr3).1)).trans ((rheap_far (p := ⟨g, 1, none⟩) (show g ≠ w.heap.size by omega)).trans hr3)
        have hrx : ∀ (o : Obj) (v : Value), ∃ c, ((w3.setCell ⟨g, 1, none⟩ v).alloc o).heap[w.heap.size]? = some (.cells c TRx (0, 0)) ∧ c.size = 10 := fun o v => ⟨_, hrr o v, rfl⟩
        have HBX := Lib.hid hbx
        have HRX := Lib.hid hrx
        clear hb3 hbx hrx
        simp only [rxCells]
        go_wp2_with (first | (with_reducible refine load_rxL (by with_reducible rfl) _ (by with_reducible rfl) w3.heap.size (rxCells (rxClass r n) (.slice none 0 0)) (by simp [Act.eval]) (HBX.out _ _) (rx_len _ _) ?_; simp only [rxCells]) | (with_reducible refine store_rx (by with_reducible rfl) _ _ (by with_reducible rfl) w.heap.size (rxCells (rxClass r n) (.slice none 0 0)) (by simp [Act.eval, Act.put]) (by simp [Act.eval, Act.put, rxCells]) (HRX.out _ _) (rx_len _ _) (rx_one _ _ _ _) ?_; intro w9 hw9))
        obtain rfl := hw9.out
        refine ret_rx2 (v := .bool false) Tryd.results56 (setCells_whole (vs := rxCells (rxClass r n) (.slice none 0 0)) (hrr _ _) rfl) (rx_len _ _) (by simp) (by simp) rfl ?_
        rw [HT.out]
        exact ⟨rfl, ((H4.out.put_pos (s.pos + 2)).alloc _).setRx (hrr _ _) hsz.2.2 0 _, ((HK3.out.setOwn 1 _).alloc _).setRx (Nat.le_refl _) 0 _⟩
      | none =>
        rw [hcl] at hone KC0
        have KC := Lib.hid (fun W => show Calls Tryd.prog 52 #[.int .i64 d] W (RetE (.tuple #[.agg (rxCells rxNone (.slice none 0 0)).toArray, .bool false]) (Below W.heap.size W)) from KC0 W)
        clear KC0 hcl
        cases hlr : litR l { s with pos := s.pos + 1 } with
        | bad a n =>
          rw [hlr] at hone
          have HT := Lib.hid (show oneR l s = .bad a n from hone)
          have kl := KL.out
          rw [hlr] at kl
          have KL := Lib.hid (fun (W : World) (h : PrV w0 g l free { s with pos := s.pos + 1 } W) => show Calls Tryd.prog 53 #[.pointer (some ⟨g, 0, none⟩)] W (BdP w0 a n) from kl W h)
          clear hone hlr kl
          go_enter Tryd.func56, Tryd.ntmps56
          go_wp2_with (go_at_call 41; refine (K.out _ (H.out.alloc _)).mono ?_)
          rintro e w1 ⟨rfl, h1, k1⟩
          have c1 := h1.c1
          have f1 := h1.frozen 1
          have H2 := Lib.hid (h1.put_pos (s.pos + 1))
          clear h1 k1
          go_wp2_with (go_at_call 41; refine (KD2.out _ H2.out).mono ?_)
          rintro e w2 ⟨rfl, h2, k2⟩
          have H3 := Lib.hid h2
          clear h2 k2
          go_wp2_with (go_at_call 52; refine (KC.out _).mono ?_)
          rintro e w3 ⟨rfl, hb3⟩
          have H4 := Lib.hid (H3.out.below hb3)
          clear hb3
          simp only [rxCells]
          go_wp2_with (go_at_call 53; refine (KL.out _ (H4.out.alloc _)).mono ?_)
          rintro e w4 ⟨rfl, hb4⟩
          unfold stopE
          go_wp2
          rw [HT.out]
          exact ⟨rfl, rfl, hb4⟩
        | ok c s2 =>
          rw [hlr] at hone
          have HT := Lib.hid (show oneR l s = .ok (rxRune c, true) s2 from hone)
          have kl := KL.out
          rw [hlr] at kl
          have KL := Lib.hid (fun (W : World) (h : PrV w0 g l free { s with pos := s.pos + 1 } W) => show Calls Tryd.prog 53 #[.pointer (some ⟨g, 0, none⟩)] W (OkV w0 g l free s2 W (.int .i64 c)) from kl W h)
          clear hone hlr kl
          go_enter Tryd.func56, Tryd.ntmps56
          go_wp2_with (go_at_call 41; refine (K.out _ (H.out.alloc _)).mono ?_)
          rintro e w1 ⟨rfl, h1, k1⟩
          have c1 := h1.c1
          have f1 := h1.frozen 1
          have hr := k1.at (Go.heap_alloc_new w (.cells zRx TRx)) (by omega) (by decide)
          have H2 := Lib.hid (h1.put_pos (s.pos + 1))
          have hr1 := (rheap_far (p := ⟨g, 1, none⟩) (v := .int .i64 ((s.pos : Int) + 1)) (show g ≠ w.heap.size by omega)).trans hr
          have HK := Lib.hid ((((PK.refl g w).alloc _).trans k1).setOwn 1 (.int .i64 ((s.pos : Int) + 1)))
          clear h1 k1
          go_wp2_with (go_at_call 41; refine (KD2.out _ H2.out).mono ?_)
          rintro e w2 ⟨rfl, h2, k2⟩
          have hr2 := k2.at hr1 (by omega) (by decide)
          have H3 := Lib.hid h2
          have HK2 := Lib.hid (HK.out.trans k2)
          clear h2 k2
          go_wp2_with (go_at_call 52; refine (KC.out _).mono ?_)
          rintro e w3 ⟨rfl, hb3⟩
          have hr3 := (hb3.block w.heap.size (Array.getElem?_eq_some_iff.1 hr2).1).trans hr2
          have H4 := Lib.hid (H3.out.below hb3)
          have HK3 := Lib.hid (HK2.out.below hb3)
          clear hb3
          simp only [rxCells]
          go_wp2_with (go_at_call 53; refine (KL.out _ (H4.out.alloc _)).mono ?_)
          rintro e w4 ⟨rfl, h4, k4⟩
          have hr4 := k4.at ((Below.heap_alloc w3 _ w.heap.size (Array.getElem?_eq_some_iff.1 hr3).1).trans hr3) (by omega) (by decide)
          have H5 := Lib.hid h4
          have HK4 := Lib.hid ((HK3.out.alloc _).trans k4)
          have hb9 : ∃ c, w4.heap[w.heap.size]? = some (.cells c TRx (0, 0)) ∧ c.size = 10 := ⟨_, hr4, rfl⟩
          clear h4 k4
          go_wp2_with (with_reducible refine store_rx (by with_reducible rfl) _ _ (by with_reducible rfl) w.heap.size (rxCells (rxRune c) (.slice none 0 0)) (by simp [Act.eval]) (by simp [Act.eval, rxCells, rxRune, Rx.kind, Rx.rune, Rx.to, Rx.min, Rx.max, Rx.lazy, Rx.not, Rx.group, Rx.name]) hb9 (rx_len _ _) (rx_one _ _ _ _) ?_; intro w9 hw9)
          obtain rfl := hw9.out
          refine ret_rx2 (v := .bool true) Tryd.results56 (setCells_whole (vs := rxCells (rxRune c) (.slice none 0 0)) hr4 rfl) (rx_len _ _) (by simp) (by simp) rfl ?_
          rw [HT.out]
          exact ⟨rfl, H5.out.setRx hr4 hsz.2.2 0 _, HK4.out.setRx (Nat.le_refl _) 0 _⟩
    · have HT := Lib.hid (show oneR l s = .ok (rxRune (due l s.pos), true) { s with pos := s.pos + 1 } by unfold oneR; simp only; rw [if_neg hbad, if_neg h92])
      generalize due l s.pos = d at *
      have z1 : (d == -1) = false := beq_false_of_ne (fun e => hbad (.inl e))
      have z2 : (d == 91) = false := beq_false_of_ne (fun e => hbad (.inr (.inl e)))
      have z3 : (d == 93) = false := beq_false_of_ne (fun e => hbad (.inr (.inr e)))
      have z4 : (d == 92) = false := beq_false_of_ne h92
      have K := Lib.hid KD
      clear KD hbad h92
      go_enter Tryd.func56, Tryd.ntmps56
      go_wp2_with (go_at_call 41; refine (K.out _ (H.out.alloc _)).mono ?_)
      rintro e w1 ⟨rfl, h1, k1⟩
      have c1 := h1.c1
      have f1 := h1.frozen 1
      have hr := k1.at (Go.heap_alloc_new w (.cells zRx TRx)) (by omega) (by decide)
      have H1 := Lib.hid h1
      have HK := Lib.hid (((PK.refl g w).alloc _).trans k1)
      clear h1 k1
      have hr1 := (rheap_far (p := ⟨g, 1, none⟩) (v := .int .i64 ((s.pos : Int) + 1)) (show g ≠ w.heap.size by omega)).trans hr
      have hb9 : ∃ c, (w1.setCell ⟨g, 1, none⟩ (.int .i64 ((s.pos : Int) + 1))).heap[w.heap.size]? = some (.cells c TRx (0, 0)) ∧ c.size = 10 := ⟨_, hr1, rfl⟩
      go_wp2_with (with_reducible refine store_rx (by with_reducible rfl) _ _ (by with_reducible rfl) w.heap.size (rxCells (rxRune d) (.slice none 0 0)) (by simp [Act.eval]) (by simp [Act.eval, rxCells, rxRune, Rx.kind, Rx.rune, Rx.to, Rx.min, Rx.max, Rx.lazy, Rx.not, Rx.group, Rx.name]) hb9 (rx_len _ _) (rx_one _ _ _ _) ?_; intro w9 hw9)
      obtain rfl := hw9.out
      have hh9 := setCells_whole (vs := rxCells (rxRune d) (.slice none 0 0)) hr1 rfl
      refine ret_rx2 (v := .bool true) Tryd.results56 hh9 (rx_len _ _) (by simp) (by simp) rfl ?_
      rw [HT.out]
      exact ⟨rfl, (H1.out.put_pos (s.pos + 1)).setRx hr1 hsz.2.2 0 _, (HK.out.setOwn 1 _).setRx (Nat.le_refl _) 0 _⟩
end

end Go.Proofs.YtoniccokohjenaaDoor
