/-
  The walk of the parser's name (chapter 18).
-/
import Derived.Test.YtoniccokohjenaaDoorRegQ
import Derived.Test.YtoniccokohjenaaDoorBld
import Derived.Maps.OwnSet
import Derived.StringKeys
namespace Go.Proofs.YtoniccokohjenaaDoor
open Go.RowKit

set_option maxHeartbeats 4000000 in
set_option maxRecDepth 100000 in
/-- WriteByte. -/
theorem bld_writeByte (B b : Nat) (bs : List Value) (c : Int) (w : World) (h : Lib.IsBuilderF 66 5 B b bs w) (hlen : bs.length + 1 ≤ 140737488355328) (hBw : B ≤ w.heap.size) :
    Calls Tryd.prog 61 #[.pointer (some ⟨b, 0, none⟩), .int .u8 c] w fun e w' => e = .returned .nilIface ∧
      (Lib.BuilderAtF 66 5 B b (.pointer (some ⟨b, 0, none⟩)) (bs ++ [.int .u8 c]) w' ∧ Below B w w' ∧ Lib.OthersKept 5 (some b) w w') := by
  obtain ⟨i0, hi, hz0, hz1, hz2⟩ := info_parts infoByte
  go_enter Tryd.func61, Tryd.ntmps61
  go_wp2_with (go_at_call 29; refine (bld_check B b bs _ h).mono ?_)
  rintro e w1 ⟨rfl, h1, hb1, hk1⟩
  obtain ⟨hB, v, hbk, hown, hne⟩ := h1
  have c0 : w1.cell? ⟨b, 0, none⟩ = some (.pointer (some ⟨b, 0, none⟩)) := by rw [Lib.cell_of_heap hbk]; rfl
  have c1 : w1.cell? ⟨b, 1, none⟩ = some v := by rw [Lib.cell_of_heap hbk]; rfl
  go_wp2_with (at_builtin; refine wpList_append_ownF _ rfl _ _ 64 rfl B 5 i0 (.int .u8 0) 1 1 Tryd.underlying64 hi hz0 hz1 hz2 rfl (by decide) _ _ _ rfl (hown.alloc _) ⟨w1.heap.size, 0, none⟩ 1 1 [.int .u8 c] rfl rfl ?c1 ?c2 ?c3 ?c4 ?c5 ?_)
  case c1 =>
    intro j u hj
    match j, hj with
    | 0, hj => simp at hj; subst hj; simp [Addr.add]
  case c2 => intro u hu; simp at hu; subst hu; rfl
  case c3 => unfold maxLen; omega
  case c4 => omega
  case c5 => have := hb1.size; simp; omega
  intro v' w2 hown' hgrow _
  have hlt : b < w1.heap.size := by
    rcases Nat.lt_or_ge b w1.heap.size with h' | h'
    · exact h'
    · simp [Array.getElem?_eq_none h'] at hbk
  have hb2 : w2.heap[b]? = some (.cells #[.pointer (some ⟨b, 0, none⟩), v] 66 (0, 0)) := by
    rw [hgrow.block b (by simp; omega) (fun e => hne e.symm), Lib.alloc_old w1 _ b hlt]
    exact hbk
  have d0 : w2.cell? ⟨b, 0, none⟩ = some (.pointer (some ⟨b, 0, none⟩)) := by rw [Lib.cell_of_heap hb2]; rfl
  have d1 : w2.cell? ⟨b, 1, none⟩ = some v := by rw [Lib.cell_of_heap hb2]; rfl
  have f1 : w2.frozen? ⟨b, 1, none⟩ = false := Lib.frozen_of_heap hb2 1
  obtain ⟨g, cap, rfl⟩ : ∃ g cap, v' = .slice (some ⟨g, 0, none⟩) (bs.length + 1) cap := by
    rcases hown'.2 with ⟨_, h0⟩ | ⟨g, cap, cur, fz, hv, _⟩
    · omega
    · exact ⟨g, cap, hv⟩
  go_wp2
  go_ret
  refine ⟨rfl, ?_, ?_, ((hk1.alloc _).grown hgrow (Lib.ownsRowF_kind (hown.alloc _))).setCell ⟨b, 1, none⟩ rfl _⟩
  · exact Lib.BuilderAtF.put (T := 66) (e := 5) hB hb2 (bs' := bs ++ [.int .u8 c]) (by simpa using hown') (by decide)
  · exact ((hb1.alloc (by have := hb1.size; omega) _).grown hgrow (by have := hb1.size; simp; omega) (fun k hk => (hown.lt k hk).1)).setCell (p := ⟨b, 1, none⟩) hB _

set_option maxRecDepth 100000 in
theorem bld_len (B b : Nat) (bs : List Value) (w : World) (h : Lib.IsBuilderF 66 5 B b bs w) :
    Calls Tryd.prog 60 #[.pointer (some ⟨b, 0, none⟩)] w (RetE (.int .i64 (bs.length : Int)) fun w' => w = w') := by
  have hc : ∃ A cap, w.cell? ⟨b, 1, none⟩ = some (.slice A bs.length cap) := by
    rcases h with ⟨_, v, hb, hown, _⟩ | ⟨_, v, hb, hown, _⟩
    · have c1 : w.cell? ⟨b, 1, none⟩ = some v := by rw [Lib.cell_of_heap hb]; rfl
      rcases hown.2 with ⟨hv, h0⟩ | ⟨g, cap, cur, fz, hv, _⟩
      · exact ⟨none, 0, by rw [c1, hv, h0]⟩
      · exact ⟨_, cap, by rw [c1, hv]⟩
    · have c1 : w.cell? ⟨b, 1, none⟩ = some v := by rw [Lib.cell_of_heap hb]; rfl
      rcases hown.2 with ⟨hv, h0⟩ | ⟨g, cap, cur, fz, hv, _⟩
      · exact ⟨none, 0, by rw [c1, hv, h0]⟩
      · exact ⟨_, cap, by rw [c1, hv]⟩
  obtain ⟨A, cap, c1⟩ := hc
  clear h
  go_enter Tryd.func60, Tryd.ntmps60
  go_wp2
  go_ret
  exact ⟨rfl, rfl⟩

def letR (c : Int) : Bool := ltrI c || c == 95
set_option maxHeartbeats 1000000 in
set_option maxRecDepth 100000 in
theorem rxLetter_any (c : Int) (h0 : -1 ≤ c) (w : World) :
    Calls Tryd.prog 59 #[.int .i64 c] w (RetE (.bool (letR c)) fun w' => w = w') := by
  by_cases h1 : c = -1
  · subst h1
    go_enter Tryd.func59, Tryd.ntmps59
    go_wp2
    go_ret
    exact ⟨rfl, rfl⟩
  · by_cases h2 : c < 128
    · have z1 : decide (c < (128 : Int)) = true := decide_eq_true h2
      have hl : letR c = ((decide (97 ≤ lowR c) && decide (lowR c ≤ 122)) || c == 95) := by unfold letR; rw [lowR_let c (by omega) h2]
      have HC := Lib.hid hl
      have h0 : 0 ≤ c := by omega
      clear hl
      go_enter Tryd.func59, Tryd.ntmps59
      go_wp2
      all_goals (go_ret; refine ⟨?_, rfl⟩; rw [HC.out]; unfold lowR; generalize bits BinOp.or IntKind.i64 c 32 = z at *; congr 2; simp_all <;> (intros; omega))
    · have z1 : decide (c < (128 : Int)) = false := decide_eq_false h2
      have z2 : (c == 95) = false := beq_false_of_ne (by omega)
      have hl : letR c = false := by unfold letR ltrI; simp; omega
      rw [hl]
      clear hl
      go_enter Tryd.func59, Tryd.ntmps59
      go_wp2
      all_goals (go_ret; exact ⟨by simp_all, rfl⟩)

/-! ### the names that are taken -/
theorem isKey_str (x : List UInt8) : WideAt.IsKeyLit (.string x) := by simp [WideAt.IsKeyLit]
theorem TakD.put {D : DataW Unit} {ns : List (List UInt8)} (h : TakD D ns) (x : List UInt8) : TakD (D.put (.string x) (.lit (.bool true))) (x :: ns) := by
  refine ⟨h.1.put _ _, fun y hy => ?_⟩
  by_cases e : y = x
  · subst e
    rw [Go.Maps.atKey_put_same h.1 (isKey_str y)]
    simp
  · rw [Go.Maps.atKey_put_other (fun h => e (by injection h)), h.2 y hy]
    simp [e]
section
variable {w0 w w' : World} {g : Nat} {l : List Int} {free : Bool} {s : PS} {tk : List (List UInt8)}
set_option maxRecDepth 100000 in
theorem PrT.look (h : PrT w0 g l free s tk w) (x : List UInt8) (hx : x ≠ []) (hl : x.length ≤ maxLen) : ∃ mb, w.cell? ⟨g, 5, none⟩ = some (.map (some mb)) ∧ (Instr.lookup 76 (.map (some mb)) (.string ⟨x.toArray⟩) false).run Tryd.prog w = .ok (.bool (decide (x ∈ tk))) w := by
  obtain ⟨h1, h2, Lv, nv, mb, D, hh, hL, hn, hmb, hm, hD⟩ := h
  refine ⟨mb, by rw [Lib.cell_of_heap hh]; rfl, ?_⟩
  obtain ⟨v, ps, hrun, hv⟩ := hm.lookup (Go.Maps.string_keyed Tryd.underlying9) Tryd.underlying76 (z := .bool false) (zd := .lit (.bool false)) (zp := []) (by kernel_rfl) (plainElem_bool Tryd.underlying4 false) (key := .string ⟨x.toArray⟩) (kl := .string x) (Go.WideMaps.keyOf_string_mk Tryd.underlying9 hl)
  rw [hD.2 x hx] at hv
  rw [hrun]
  unfold plainElem at hv
  rw [Tryd.underlying4] at hv
  cases v <;> simp at hv
  obtain ⟨e, _⟩ := hv
  rw [e]
theorem PrT.took (h : PrT w0 g l free s tk w) : ∃ mb D, w.cell? ⟨g, 5, none⟩ = some (.map (some mb)) ∧ w.ownsMap Tryd.prog 9 (plainElem (H := Unit) Tryd.prog 4) mb tk.length D ∧ ∀ (x : List UInt8) (w' : World), w'.ownsMap Tryd.prog 9 (plainElem (H := Unit) Tryd.prog 4) mb (tk.length + 1) (D.put (.string x) (.lit (.bool true))) → w.grownBy w' (some mb) → PrT w0 g l free s (x :: tk) w' ∧ PK g w w' := by
  obtain ⟨h1, h2, Lv, nv, mb, D, hh, hL, hn, hmb, hm, hD⟩ := h
  refine ⟨mb, D, by rw [Lib.cell_of_heap hh]; rfl, hm, fun x w' ho hg => ?_⟩
  obtain ⟨es, cl, hx, _⟩ := hm
  have hk : ∀ (k : Nat) (c : Array Value) (T : TypeId) (z : Nat × Nat), w.heap[k]? = some (.cells c T z) → w'.heap[k]? = some (.cells c T z) := fun k c T z hk => by
    rw [hg.block k (Array.getElem?_eq_some_iff.1 hk).1 (fun e => ?_)]
    · exact hk
    · injection e with e; subst e; rw [hx] at hk; cases hk
  exact ⟨⟨h1.grown hg h1.size (fun k e => by injection e with e; omega), h2, Lv, nv, mb, _, hk _ _ _ _ hh, rowns_block hL (fun k c z _ => hk k c _ z), rowns_block hn (fun k c z _ => hk k c _ z), hmb, ho, hD.put x⟩, hg.size, fun k c T z h _ _ => hk k c T z h⟩
theorem PrT.frozen5 (h : PrT w0 g l free s tk w) : w.frozen? ⟨g, 5, none⟩ = false := h.frozen 5
/-- behind a call of a builder's -/
theorem PrT.written (h : PrT w0 g l free s tk w) {bb : Nat} {c0 : Array Value} {z0 : Nat × Nat} (hbb : w.heap[bb]? = some (.cells c0 66 z0)) (hb : Below w0.heap.size w w') (hk : Lib.OthersKept 5 (some bb) w w') : PrT w0 g l free s tk w' :=
  h.kept hb fun k o hko hP => by
    have hkb : some k ≠ some bb := fun e => by
      injection e with e; subst e
      rw [hbb] at hko; injection hko with hko; subst hko
      rcases hP with ⟨c', z', e⟩ | ⟨c', z', e⟩ | ⟨c', z', e⟩ | ⟨es, cl, e⟩
      · injection e with _ e _; exact absurd e (by decide)
      · injection e with _ e _; exact absurd e (by decide)
      · injection e with _ e _; exact absurd e (by decide)
      · cases e
    refine hk k o hko hkb (fun c fz e => ?_)
    subst e
    rcases hP with ⟨c', z', e⟩ | ⟨c', z', e⟩ | ⟨c', z', e⟩ | ⟨es, cl, e⟩
    · injection e with _ e _; exact absurd e (by decide)
    · injection e with _ e _; exact absurd e (by decide)
    · injection e with _ e _; exact absurd e (by decide)
    · cases e
end
theorem rbld_fresh {T e : TypeId} {b : Nat} {w : World} (h : w.heap[b]? = some (.cells #[.pointer none, .slice none 0 0] T (0, 0))) : Lib.IsBuilderF T e b b [] w :=
  .inl ⟨Nat.le_refl _, _, h, ⟨rfl, .inl ⟨rfl, rfl⟩⟩, by simp [Value.ownBlock]⟩
theorem rbld_block {T e : TypeId} {B b : Nat} {bs : List Value} {w : World} (h : Lib.IsBuilderF T e B b bs w) : ∃ c z, w.heap[b]? = some (.cells c T z) := by
  rcases h with ⟨_, v, h, _⟩ | ⟨_, v, h, _⟩
  · exact ⟨_, _, h⟩
  · exact ⟨_, _, h⟩
theorem rbld_kept {T e : TypeId} {B b : Nat} {bs : List Value} {w w' : World} (h : Lib.IsBuilderF T e B b bs w) (hk : ∀ (k : Nat) (c : Array Value) (S : TypeId) (z : Nat × Nat), (S = T ∨ S = e) → w.heap[k]? = some (Obj.cells c S z) → w'.heap[k]? = some (Obj.cells c S z)) : Lib.IsBuilderF T e B b bs w' := by
  rcases h with h | h
  · left
    obtain ⟨hB, v, hbk, hown, hne⟩ := h
    refine ⟨hB, v, hk _ _ _ _ (.inl rfl) hbk, ⟨hown.1, ?_⟩, hne⟩
    rcases hown.2 with h2 | ⟨g, cap, cur, fz, hv, hg, hh, r⟩
    · exact .inl h2
    · exact .inr ⟨g, cap, cur, fz, hv, hg, hk _ _ _ _ (.inr rfl) hh, r⟩
  · right
    obtain ⟨hB, v, hbk, hown, hne⟩ := h
    refine ⟨hB, v, hk _ _ _ _ (.inl rfl) hbk, ⟨hown.1, ?_⟩, hne⟩
    rcases hown.2 with h2 | ⟨g, cap, cur, fz, hv, hg, hh, r⟩
    · exact .inl h2
    · exact .inr ⟨g, cap, cur, fz, hv, hg, hk _ _ _ _ (.inr rfl) hh, r⟩
theorem PK.belowB {g : Nat} {a w w' : World} (h : PK g a w) (hb : Below a.heap.size w w') : PK g a w' :=
  ⟨Nat.le_trans h.1 hb.size, fun i c T z hi h1 h2 => by
    rw [hb.block i (Array.getElem?_eq_some_iff.1 hi).1]; exact h.2 i c T z hi h1 h2⟩
/-- a builder behind a method of the parser's -/
theorem PK.bld {g : Nat} {w w' : World} {B b : Nat} {bs : List Value} (h : PK g w w') (hI : Lib.IsBuilderF 66 5 B b bs w) (hg : ∃ c z, w.heap[g]? = some (.cells c PrsT z)) : Lib.IsBuilderF 66 5 B b bs w' :=
  rbld_kept hI fun k c S z hS hk => h.2 k c S z hk (fun e => by
    obtain ⟨c', z', hc⟩ := hg
    subst e; rw [hk] at hc; injection hc with hc; injection hc with _ hc _
    rcases hS with rfl | rfl <;> exact absurd hc (by decide)) (by rcases hS with rfl | rfl <;> decide)
theorem PrT.blk {w0 w : World} {g : Nat} {l : List Int} {free : Bool} {s : PS} {tk : List (List UInt8)} (h : PrT w0 g l free s tk w) : ∃ c z, w.heap[g]? = some (.cells c PrsT z) := by
  obtain ⟨h1, h2, Lv, nv, mb, D, hh, _⟩ := h
  exact ⟨_, _, hh⟩
/-- what stands behind a name's beginning -/
theorem nmL_go {l : List Int} {p : Nat} {k : Bool} (h : (letR (due l p) || (k && digI (due l p))) = true) : nmL k (l.drop p) = UInt8.ofNat (due l p).toNat :: nmL true (l.drop (p + 1)) := by
  have hp : p < l.length := due_lt rfl (fun e => by rw [e] at h; cases k <;> exact absurd h (by decide))
  rw [List.drop_eq_getElem_cons hp, nmL]
  rw [← due_at hp]
  unfold letR at h
  rw [if_pos (by simpa [Bool.or_assoc] using h)]
theorem nmL_end {l : List Int} {p : Nat} {k : Bool} (h : (letR (due l p) || (k && digI (due l p))) = false) : nmL k (l.drop p) = [] := by
  rcases Nat.lt_or_ge p l.length with hp | hp
  · rw [List.drop_eq_getElem_cons hp, nmL, ← due_at hp]
    unfold letR at h
    rw [if_neg (by rw [h]; decide)]
  · rw [List.drop_eq_nil_of_le hp]; cases k <;> rfl
theorem let_range {c : Int} {k : Bool} (h : (letR c || (k && digI c)) = true) : 48 ≤ c ∧ c ≤ 122 := by
  unfold letR ltrI digI at h
  simp at h
  omega

theorem nm_step {nm acc : List UInt8} {x : UInt8} {l : List Int} {p : Nat} (h : nm = acc ++ nmL (!acc.isEmpty) (l.drop p)) (hx : nmL (!acc.isEmpty) (l.drop p) = x :: nmL true (l.drop (p + 1))) : nm = (acc ++ [x]) ++ nmL (!(acc ++ [x]).isEmpty) (l.drop (p + 1)) := by
  have e : (acc ++ [x]).isEmpty = false := by cases acc <;> rfl
  rw [e, h, hx, List.append_assoc]; rfl
theorem byteCells_add {acc : List UInt8} {x : UInt8} {c : Int} (h : (x.toNat : Int) = c) : Lib.byteCells acc ++ [.int .u8 c] = Lib.byteCells (acc ++ [x]) := by rw [Lib.byteCells_append, ← h]; rfl
section
variable (w0 : World) (g : Nat) (l : List Int) (free : Bool) (s : PS) (w : World)
/-- what name answers -/
def ResN (w0 : World) (g : Nat) (l : List Int) (free : Bool) (w : World) (ns : List (List UInt8)) (r : PR (List UInt8)) (e : Ending) (w' : World) : Prop := match r with
  | .ok n s' => e = .returned (.string ⟨n.toArray⟩) ∧ PrT w0 g l free s' (n :: ns) w' ∧ PK g w w'
  | .bad a n => BdP w0 a n e w'

set_option maxHeartbeats 4000000 in
set_option maxRecDepth 100000 in
theorem rxName_any (hf : Fin1 l s) (h : PrV w0 g l free s w) :
    Calls Tryd.prog 55 #[.pointer (some ⟨g, 0, none⟩)] w (ResN w0 g l free w s.names (nameR l s)) := by
  have H := Lib.hid h
  have HF := Lib.hid hf
  have hp := hf.pos
  have hl := hf.len
  have hsz := h.size
  generalize hnm : nmL false (l.drop s.pos) = nm
  have hnl := nmL_le false (l.drop s.pos)
  rw [hnm, List.length_drop] at hnl
  have HNM := Lib.hid hnm
  have hname : nameR l s = if nm = [] ∨ due l (s.pos + nm.length) ≠ 62 then failR l (s.pos + nm.length) else if nm ∈ s.names then failR l (s.pos + nm.length - 1) else .ok nm { s with pos := s.pos + nm.length + 1 } := by unfold nameR; rw [hnm]
  have HNA := Lib.hid hname
  have KDU := Lib.hid (fun (p : Nat) (hp : p ≤ 1001) (W : World) (h : PrV w0 g l free { s with pos := p } W) => rxDueV w0 g l free { s with pos := p } s.names W hp hl h)
  have KFA := Lib.hid (fun (p a : Nat) (W : World) (a' n' : Nat) (hf : (failR l a : PR Unit) = .bad a' n') (h : PrV w0 g l free { s with pos := p } W) => rxFailV w0 g l free { s with pos := p } s.names W a hf h)
  have hr0 := hf.due
  have HR0 := Lib.hid hr0
  clear hname hnm h hf hr0
  have K0 := Lib.hid (KDU.out s.pos (by omega) (w.alloc (.cells #[.pointer none, .slice none 0 0] 66)) (H.out.alloc _))
  go_enter Tryd.func55, Tryd.ntmps55
  go_wp2_with (go_at_call 41; refine K0.out.mono ?_)
  rintro e w1 ⟨rfl, h1, k1⟩
  have hr1 := k1.at (Go.heap_alloc_new w (.cells #[.pointer none, .slice none 0 0] 66)) (by omega) (by decide)
  have HI1 := Lib.hid (rbld_fresh (e := 5) hr1)
  have H1 := Lib.hid h1
  have HK1 := Lib.hid (((PK.refl g w).alloc _).trans k1)
  clear h1 k1 hr1
  go_wp2
  go_loopw [5] (fun cv wr => ∃ acc : List UInt8, cv = .int .i64 (due l (s.pos + acc.length)) ∧ s.pos + acc.length ≤ l.length ∧ PrV w0 g l free { s with pos := s.pos + acc.length } wr ∧ PK g w wr ∧ Lib.IsBuilderF 66 5 w.heap.size w.heap.size (Lib.byteCells acc) wr ∧ Hid (nm = acc ++ nmL (!acc.isEmpty) (l.drop (s.pos + acc.length)))) (fun _ wr => l.length - prPos g wr)
  case atStart => exact ⟨[], rfl, hp, H1.out, HK1.out, HI1.out, by rw [← HNM.out]; rfl⟩
  case round =>
    obtain ⟨acc, rfl, hpa, hv, hk, hI, hrest⟩ := hrel
    have hrg := HR0.out (s.pos + acc.length)
    have KL := fun W => rxLetter_any (due l (s.pos + acc.length)) hrg.1 W
    have KI := fun W => RetE.of (rxDigit_any (due l (s.pos + acc.length)) W)
    have KLen := Lib.hid (fun W h => (Lib.byteCells_length acc) ▸ bld_len w.heap.size w.heap.size (Lib.byteCells acc) W h : ∀ W, Lib.IsBuilderF 66 5 w.heap.size w.heap.size (Lib.byteCells acc) W → Calls Tryd.prog 60 #[.pointer (some ⟨w.heap.size, 0, none⟩)] W (RetE (.int .i64 (acc.length : Int)) fun w' => W = w'))
    have hlenb : (Lib.byteCells acc).length = acc.length := Lib.byteCells_length acc
    have HV := Lib.hid hv
    have HK := Lib.hid hk
    have HI := Lib.hid hI
    have hpo := hv.pos_of
    have hws := hv.size
    have hksz := hk.1
    simp only at hpo
    by_cases hgo : (letR (due l (s.pos + acc.length)) || (!acc.isEmpty && digI (due l (s.pos + acc.length)))) = true
    · have hlt : s.pos + acc.length < l.length := due_lt rfl (fun e => by rw [e] at hgo; simp [letR, ltrI, digI] at hgo)
      have hr := let_range hgo
      have hne := nmL_go hgo
      obtain ⟨x, hx⟩ : ∃ x, UInt8.ofNat (due l (s.pos + acc.length)).toNat = x := ⟨_, rfl⟩
      have hch : (x.toNat : Int) = due l (s.pos + acc.length) := by
        rw [← hx, UInt8.toNat_ofNat']
        omega
      rw [hx] at hne
      have HR2 := Lib.hid (nm_step hrest.out hne)
      have hlen2 : s.pos + (acc ++ [x]).length = s.pos + acc.length + 1 := by rw [List.length_append]; rfl
      have KW := fun W h hsz => RetE.of (bld_writeByte w.heap.size w.heap.size (Lib.byteCells acc) (due l (s.pos + acc.length)) W h (by rw [hlenb]; omega) hsz)
      rw [byteCells_add hch] at KW
      have KD2 := Lib.hid (fun (W : World) (h : PrV w0 g l free { s with pos := s.pos + acc.length + 1 } W) => KDU.out (s.pos + acc.length + 1) (by omega) W h)
      clear hv hk hI hrest hne hch hx
      generalize hP : s.pos + acc.length = P at *
      generalize hacc2 : acc ++ [x] = acc2 at *
      clear hP hacc2
      have hpa2 : P ≤ l.length := hpa
      have wr1 : IntKind.u8.wrap (due l P) = due l P := by simp [IntKind.wrap, IntKind.bits, IntKind.signed]; omega
      generalize hd : due l P = d at *
      clear hd
      have KW := Lib.hid KW
      cases hL : letR d with
      | true =>
        rw [hL] at KL
        have KL := Lib.hid KL
        clear hL hgo KI
        go_wp2_with (go_at_call 59; refine (KL.out _).mono ?_)
        rintro e w4 ⟨rfl, rfl⟩
        go_wp2_with (go_at_call 61; refine (KW.out _ HI.out hksz).mono ?_)
        rintro e w2 ⟨rfl, hB2, hb2, ho2⟩
        obtain ⟨c0, z0, hbb⟩ := rbld_block HI.out
        have h2 := HV.out.written hbb (hb2.mono hsz.2.2) ho2
        have c12 := h2.c1
        have f12 := h2.frozen 1
        have H2 := Lib.hid (h2.put_pos (P + 1))
        have hB3 := rbld_kept (w' := w2.setCell ⟨g, 1, none⟩ (.int .i64 ((P : Int) + 1))) (.inr hB2) (fun k c S z hS hk => by
          obtain ⟨c', z', hc⟩ := h2.blk
          rw [rheap_far (fun e => ?_)]
          · exact hk
          · have e : g = k := e
            subst e; rw [hk] at hc; injection hc with hc; injection hc with _ hc _
            rcases hS with rfl | rfl <;> exact absurd hc (by decide))
        have HB3 := Lib.hid hB3
        have HK2 := Lib.hid ((HK.out.belowB hb2).setOwn 1 (.int .i64 ((P : Int) + 1)))
        have hblk2 := h2.put_pos (P + 1) |>.blk
        have HBL := Lib.hid hblk2
        clear hB2 hb2 ho2 h2 hB3 hblk2 hbb
        go_wp2_with (go_at_call 41; refine (KD2.out _ H2.out).mono ?_)
        rintro e w3 ⟨rfl, h3, k3⟩
        have hpo3 := h3.pos_of
        have H3 := Lib.hid h3
        have HB4 := Lib.hid (k3.bld HB3.out HBL.out)
        have HK3 := Lib.hid (HK2.out.trans k3)
        clear h3 k3
        go_wp2
        go_roundw
        case rel =>
          refine ⟨acc2, ?_⟩
          rw [hlen2]
          exact ⟨rfl, hlt, H3.out, HK3.out, HB4.out, HR2.out⟩
        case measure => rw [hpo3, hpo]; omega
      | false =>
        rw [hL] at hgo KL
        have hac : acc.isEmpty = false := by cases h : acc.isEmpty <;> rw [h] at hgo <;> simp at hgo <;> rfl
        have hdi : digI d = true := by rw [hac] at hgo; simpa using hgo
        rw [hdi] at KI
        have KL := Lib.hid KL
        have KI := Lib.hid KI
        have hpos : 0 < acc.length := by cases acc with
          | nil => cases hac
          | cons a r => rw [List.length_cons]; omega
        clear hL hgo hac hdi
        go_wp2_with (go_at_call 59; refine (KL.out _).mono ?_)
        rintro e w4 ⟨rfl, rfl⟩
        go_wp2_with (go_at_call 60; refine (KLen.out _ HI.out).mono ?_)
        rintro e w5 ⟨rfl, rfl⟩
        go_wp2_with (go_at_call 58; refine (KI.out _).mono ?_)
        rintro e w6 ⟨rfl, rfl⟩
        go_wp2_with (go_at_call 61; refine (KW.out _ HI.out hksz).mono ?_)
        rintro e w2 ⟨rfl, hB2, hb2, ho2⟩
        obtain ⟨c0, z0, hbb⟩ := rbld_block HI.out
        have h2 := HV.out.written hbb (hb2.mono hsz.2.2) ho2
        have c12 := h2.c1
        have f12 := h2.frozen 1
        have H2 := Lib.hid (h2.put_pos (P + 1))
        have hB3 := rbld_kept (w' := w2.setCell ⟨g, 1, none⟩ (.int .i64 ((P : Int) + 1))) (.inr hB2) (fun k c S z hS hk => by
          obtain ⟨c', z', hc⟩ := h2.blk
          rw [rheap_far (fun e => ?_)]
          · exact hk
          · have e : g = k := e
            subst e; rw [hk] at hc; injection hc with hc; injection hc with _ hc _
            rcases hS with rfl | rfl <;> exact absurd hc (by decide))
        have HB3 := Lib.hid hB3
        have HK2 := Lib.hid ((HK.out.belowB hb2).setOwn 1 (.int .i64 ((P : Int) + 1)))
        have hblk2 := h2.put_pos (P + 1) |>.blk
        have HBL := Lib.hid hblk2
        clear hB2 hb2 ho2 h2 hB3 hblk2 hbb
        go_wp2_with (go_at_call 41; refine (KD2.out _ H2.out).mono ?_)
        rintro e w3 ⟨rfl, h3, k3⟩
        have hpo3 := h3.pos_of
        have H3 := Lib.hid h3
        have HB4 := Lib.hid (k3.bld HB3.out HBL.out)
        have HK3 := Lib.hid (HK2.out.trans k3)
        clear h3 k3
        go_wp2
        go_roundw
        case rel =>
          refine ⟨acc2, ?_⟩
          rw [hlen2]
          exact ⟨rfl, hlt, H3.out, HK3.out, HB4.out, HR2.out⟩
        case measure => rw [hpo3, hpo]; omega
    · have hgo' : (letR (due l (s.pos + acc.length)) || (!acc.isEmpty && digI (due l (s.pos + acc.length)))) = false := by simpa using hgo
      have hne := nmL_end hgo'
      have hnma : nm = acc := by rw [hrest.out, hne, List.append_nil]
      have hL : letR (due l (s.pos + acc.length)) = false := by rw [Bool.or_eq_false_iff] at hgo'; exact hgo'.1
      rw [hL] at KL
      have KL := Lib.hid KL
      have KS := Lib.hid (fun W h hsz => RetE.of (Tryd.Builder_String_any_k w.heap.size w.heap.size acc W h hsz))
      have HNB := HNA.out
      rw [hnma] at HNB
      clear hne hrest hL hgo hv hk hI HNM hnl HNA
      subst hnma
      by_cases hac : nm = []
      · have z1 : decide ((0 : Int) < ((Lib.byteCells nm).length : Int)) = false := decide_eq_false (by rw [hlenb, hac]; decide)
        obtain ⟨a', n', hfa, hfb⟩ := failR_to (α := List UInt8) (l := l) (s.pos + nm.length)
        have HT := Lib.hid (show nameR l s = .bad a' n' by rw [HNB, if_pos (.inl hac), hfb])
        have KF := Lib.hid (fun W => KFA.out (s.pos + nm.length) (s.pos + nm.length) W a' n' hfa)
        have z2 : ((⟨nm.toArray⟩ : ByteArray).data.toList) = [] := hac
        clear HNB hfa hfb KI hgo'
        generalize hP : s.pos + nm.length = P at *
        clear hP
        go_wp2_with (go_at_call 59; refine (KL.out _).mono ?_)
        rintro e w4 ⟨rfl, rfl⟩
        go_wp2_with (go_at_call 60; refine (KLen.out _ HI.out).mono ?_)
        rintro e w5 ⟨rfl, rfl⟩
        go_wp2_with (go_at_call 20; refine (KS.out _ HI.out hksz).mono ?_)
        rintro e w7 ⟨rfl, hI7, hb7, ho7⟩
        obtain ⟨c0, z0, hbb⟩ := rbld_block HI.out
        have h7 := HV.out.written hbb (hb7.mono hsz.2.2) ho7
        have HK7 := Lib.hid (HK.out.belowB hb7)
        have c17 := h7.c1
        have H7 := Lib.hid h7
        clear hI7 hb7 ho7 h7 hbb
        subst hac
        go_wp2_with (go_at_call 25; refine (KF.out _ H7.out).mono ?_)
        rintro e w8 ⟨rfl, hb8⟩
        unfold stopE
        go_wp2
        rw [HT.out]
        exact ⟨rfl, rfl, hb8⟩
      · have hdi : digI (due l (s.pos + nm.length)) = false := by
          have : nm.isEmpty = false := by cases nm with
            | nil => exact absurd rfl hac
            | cons a r => rfl
          rw [this] at hgo'; simpa using (Bool.or_eq_false_iff.1 hgo').2
        have hpos : 0 < nm.length := by cases nm with
          | nil => exact absurd rfl hac
          | cons a r => rw [List.length_cons]; omega
        rw [hdi] at KI
        have KI := Lib.hid KI
        have z2 : (nm.isEmpty) = false := by cases nm with
          | nil => exact absurd rfl hac
          | cons a r => rfl
        have KD := KDU.out (s.pos + nm.length) (by omega)
        have HAC := Lib.hid hac
        have HFA := Lib.hid (fun (a : Nat) => failR_to (α := List UInt8) (l := l) a)
        clear hgo' hdi
        by_cases h62 : due l (s.pos + nm.length) = 62
        · rw [h62] at KD KL KI
          have hlook := fun (W : World) (h : PrV w0 g l free { s with pos := s.pos + nm.length } W) => h.look nm hac (by unfold maxLen; omega)
          have HLK := Lib.hid hlook
          by_cases hmem : nm ∈ s.names
          · obtain ⟨a', n', hfa, hfb⟩ := HFA.out (s.pos + nm.length - 1)
            have HT := Lib.hid (show nameR l s = .bad a' n' by rw [HNB, if_neg (fun h => h.elim hac (fun h => h h62)), if_pos hmem, hfb])
            have KF := Lib.hid (fun W => KFA.out (s.pos + nm.length) (s.pos + nm.length - 1) W a' n' hfa)
            have hmd : decide (nm ∈ s.names) = true := decide_eq_true hmem
            clear HNB hfa hfb hmem hlook
            rw [h62] at hrg
            clear h62
            generalize hP : s.pos + nm.length = P at *
            have ek : (P : Int) - 1 = ((P - 1 : Nat) : Int) := by omega
            clear hP
            have KD := Lib.hid KD
            have KL := Lib.hid KL
            have KI := Lib.hid KI
            go_wp2_with (go_at_call 59; refine (KL.out _).mono ?_)
            rintro e w4 ⟨rfl, rfl⟩
            go_wp2_with (go_at_call 60; refine (KLen.out _ HI.out).mono ?_)
            rintro e w5 ⟨rfl, rfl⟩
            go_wp2_with (go_at_call 58; refine (KI.out _).mono ?_)
            rintro e w6 ⟨rfl, rfl⟩
            go_wp2_with (go_at_call 20; refine (KS.out _ HI.out hksz).mono ?_)
            rintro e w7 ⟨rfl, hI7, hb7, ho7⟩
            obtain ⟨c0, z0, hbb⟩ := rbld_block HI.out
            have h7 := HV.out.written hbb (hb7.mono hsz.2.2) ho7
            have HK7 := Lib.hid (HK.out.belowB hb7)
            have c17 := h7.c1
            have H7 := Lib.hid h7
            clear hI7 hb7 ho7 h7 hbb
            go_wp2_with (go_at_call 41; refine (KD.out _ H7.out).mono ?_)
            rintro e w9 ⟨rfl, h9, k9⟩
            obtain ⟨mb, c59, hlk⟩ := HLK.out w9 h9
            rw [hmd] at hlk
            have c19 := h9.c1
            simp only at c19
            have H9 := Lib.hid h9
            clear h9 k9
            go_wp2_with (go_at_call 25; refine (KF.out _ H9.out).mono ?_)
            rintro e w8 ⟨rfl, hb8⟩
            unfold stopE
            go_wp2
            rw [HT.out]
            exact ⟨rfl, rfl, hb8⟩
          · have HT := Lib.hid (show nameR l s = .ok nm { s with pos := s.pos + nm.length + 1 } by rw [HNB, if_neg (fun h => h.elim hac (fun h => h h62)), if_neg hmem])
            have hmd : decide (nm ∈ s.names) = false := decide_eq_false hmem
            have hkey : keyOf Tryd.prog 9 (.string ⟨nm.toArray⟩) = some (.string nm) := Go.WideMaps.keyOf_string_mk Tryd.underlying9 (s := ⟨nm.toArray⟩) (show nm.length ≤ maxLen by unfold maxLen; omega)
            have HTK := Lib.hid (fun (W : World) (h : PrV w0 g l free { s with pos := s.pos + nm.length } W) => h.took)
            have hns : s.names.length ≤ 1000 := by have := HF.out.names; omega
            clear HNB hmem hlook
            rw [h62] at hrg
            clear h62
            generalize hP : s.pos + nm.length = P at *
            clear hP
            have KD := Lib.hid KD
            have KL := Lib.hid KL
            have KI := Lib.hid KI
            go_wp2_with (go_at_call 59; refine (KL.out _).mono ?_)
            rintro e w4 ⟨rfl, rfl⟩
            go_wp2_with (go_at_call 60; refine (KLen.out _ HI.out).mono ?_)
            rintro e w5 ⟨rfl, rfl⟩
            go_wp2_with (go_at_call 58; refine (KI.out _).mono ?_)
            rintro e w6 ⟨rfl, rfl⟩
            go_wp2_with (go_at_call 20; refine (KS.out _ HI.out hksz).mono ?_)
            rintro e w7 ⟨rfl, hI7, hb7, ho7⟩
            obtain ⟨c0, z0, hbb⟩ := rbld_block HI.out
            have h7 := HV.out.written hbb (hb7.mono hsz.2.2) ho7
            have HK7 := Lib.hid (HK.out.belowB hb7)
            have c17 := h7.c1
            have H7 := Lib.hid h7
            clear hI7 hb7 ho7 h7 hbb
            go_wp2_with (go_at_call 41; refine (KD.out _ H7.out).mono ?_)
            rintro e w9 ⟨rfl, h9, k9⟩
            obtain ⟨mb, c59, hlk⟩ := HLK.out w9 h9
            rw [hmd] at hlk
            obtain ⟨mb', D, c59', hown, htk⟩ := HTK.out w9 h9
            have emb : mb' = mb := by rw [c59] at c59'; injection c59' with h; injection h with h; injection h with h; exact h.symm
            subst emb
            have HTK2 := Lib.hid htk
            have HOWN := Lib.hid hown
            have HK9 := Lib.hid (HK7.out.trans k9)
            clear h9 k9 htk hown c59'
            go_wp2_with (first | (at_mapUpdate; refine wpList_mapUpdate_own _ rfl _ _ _ 76 rfl 9 4 (Go.Maps.string_keyed Tryd.underlying9) Tryd.underlying76 _ mb' s.names.length D rfl HOWN.out (by unfold maxLen; omega) _ _ (.string nm) rfl rfl hkey (.lit (.bool true)) [] (plainElem_bool Tryd.underlying4 true) ?_; intro w10 hown10 hgr10; obtain ⟨h10, k10⟩ := HTK2.out nm w10 hown10 hgr10; have c10 := h10.c1; have f10 := h10.frozen 1; have H10 := Lib.hid h10; have HK10 := Lib.hid (HK9.out.trans k10); clear h10 k10 hown10 hgr10))
            go_ret
            rw [HT.out]
            exact ⟨rfl, H10.out.put_pos (P + 1), HK10.out.setOwn 1 _⟩
        · obtain ⟨a', n', hfa, hfb⟩ := HFA.out (s.pos + nm.length)
          have HT := Lib.hid (show nameR l s = .bad a' n' by rw [HNB, if_pos (.inr h62), hfb])
          have KF := Lib.hid (fun W => KFA.out (s.pos + nm.length) (s.pos + nm.length) W a' n' hfa)
          have z3 : (due l (s.pos + nm.length) != 62) = true := by rw [bne_iff_ne]; exact h62
          clear HNB hfa hfb h62
          generalize hP : s.pos + nm.length = P at *
          clear hP
          generalize due l P = d at *
          have KD := Lib.hid KD
          have KL := Lib.hid KL
          have KI := Lib.hid KI
          go_wp2_with (go_at_call 59; refine (KL.out _).mono ?_)
          rintro e w4 ⟨rfl, rfl⟩
          go_wp2_with (go_at_call 60; refine (KLen.out _ HI.out).mono ?_)
          rintro e w5 ⟨rfl, rfl⟩
          go_wp2_with (go_at_call 58; refine (KI.out _).mono ?_)
          rintro e w6 ⟨rfl, rfl⟩
          go_wp2_with (go_at_call 20; refine (KS.out _ HI.out hksz).mono ?_)
          rintro e w7 ⟨rfl, hI7, hb7, ho7⟩
          obtain ⟨c0, z0, hbb⟩ := rbld_block HI.out
          have h7 := HV.out.written hbb (hb7.mono hsz.2.2) ho7
          have HK7 := Lib.hid (HK.out.belowB hb7)
          have c17 := h7.c1
          have H7 := Lib.hid h7
          clear hI7 hb7 ho7 h7 hbb
          go_wp2_with (go_at_call 41; refine (KD.out _ H7.out).mono ?_)
          rintro e w9 ⟨rfl, h9, k9⟩
          have c19 := h9.c1
          simp only at c19
          have H9 := Lib.hid h9
          clear h9 k9
          go_wp2_with (go_at_call 25; refine (KF.out _ H9.out).mono ?_)
          rintro e w8 ⟨rfl, hb8⟩
          unfold stopE
          go_wp2
          rw [HT.out]
          exact ⟨rfl, rfl, hb8⟩
end
end Go.Proofs.YtoniccokohjenaaDoor
