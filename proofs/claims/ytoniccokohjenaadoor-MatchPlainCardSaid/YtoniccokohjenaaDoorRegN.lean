/-
  The parser where it lies; the walks of its small functions: digit, sign, class, due, fail, takes (chapter 18).
-/
import Derived.Test.YtoniccokohjenaaDoorRegM
import Derived.Deep.MidRow
import Derived.Maps.AppendAt
import Derived.LoopTactic
import Derived.Deep.DeepCutAuto
namespace Go.Proofs.YtoniccokohjenaaDoor
open Go.RowKit

/-! ### the parser -/
abbrev PrsT : TypeId := 78
def strCells (ns : List (List UInt8)) : List Value := ns.map fun n => Value.string ⟨n.toArray⟩
theorem strCells_snoc (ns : List (List UInt8)) (n : List UInt8) : strCells ns ++ [Value.string ⟨n.toArray⟩] = strCells (ns ++ [n]) := by simp [strCells]
/-- a set of names -/
def TakD (D : DataW Unit) (ns : List (List UInt8)) : Prop := Go.Maps.IsMap D ∧ ∀ x : List UInt8, x ≠ [] → D.atKey (.string x) (.lit (.bool false)) = .lit (.bool (decide (x ∈ ns)))
/-- the parser in block g, of the state s; tk: the names that are taken -/
def PrT (w0 : World) (g : Nat) (l : List Int) (free : Bool) (s : PS) (tk : List (List UInt8)) (w : World) : Prop :=
  Below w0.heap.size w0 w ∧ w0.heap.size ≤ g ∧ ∃ Lv nv mb D, w.heap[g]? = some (.cells #[Lv, .int .i64 (s.pos : Int), .bool free, .int .i64 (s.deep : Int), nv, .map (some mb)] PrsT (0, 0)) ∧
    OwnInts w0.heap.size w Lv l ∧ w.ownsRow w0.heap.size 9 1 nv s.names.length (strCells s.names) ∧ w0.heap.size ≤ mb ∧ w.ownsMap Tryd.prog 9 (plainElem Tryd.prog 4) mb tk.length D ∧ TakD D tk
def PrV (w0 : World) (g : Nat) (l : List Int) (free : Bool) (s : PS) (w : World) : Prop := PrT w0 g l free s s.names w
/-- what holds of a pattern and a parser's state -/
structure Fin1 (l : List Int) (s : PS) : Prop where
  pos : s.pos ≤ l.length
  names : s.names.length ≤ s.pos
  len : l.length ≤ 1000
  deep : s.deep ≤ 50
  pts : ∀ c ∈ l, 0 ≤ c ∧ c ≤ 1114111
theorem Fin1.adv {l : List Int} {s s' : PS} (h : Fin1 l s) (a : Adv l s s') : Fin1 l s' := by
  obtain ⟨t, ht, htl⟩ := a.names
  have h1 := h.names
  have h2 := a.pos
  exact ⟨a.le h.pos, by rw [ht, List.length_append]; omega, h.len, by rw [a.deep]; exact h.deep, h.pts⟩
theorem Fin1.due {l : List Int} {s : PS} (h : Fin1 l s) (p : Nat) : -1 ≤ due l p ∧ due l p ≤ 1114111 := by
  rcases Nat.lt_or_ge p l.length with h1 | h1
  · rw [due_at h1]
    have := h.pts _ (List.getElem_mem h1)
    omega
  · rw [due_past h1]; omega

section
variable {w0 w w' : World} {g : Nat} {l : List Int} {free : Bool} {s : PS} {tk : List (List UInt8)}
/-- what a parser's blocks are -/
def PrBl (o : Obj) : Prop := (∃ c z, o = .cells c PrsT z) ∨ (∃ c z, o = .cells c 3 z) ∨ (∃ c z, o = .cells c 9 z) ∨ ∃ es cl, o = .map es cl
theorem PrT.kept (h : PrT w0 g l free s tk w) (hb : Below w0.heap.size w w') (hk : ∀ (k : Nat) (o : Obj), w.heap[k]? = some o → PrBl o → w'.heap[k]? = some o) : PrT w0 g l free s tk w' := by
  obtain ⟨h1, h2, Lv, nv, mb, D, hh, hL, hn, hmb, hm, hD⟩ := h
  refine ⟨h1.trans hb, h2, Lv, nv, mb, D, hk _ _ hh (.inl ⟨_, _, rfl⟩), rowns_block hL (fun k c z _ hh => hk _ _ hh (.inr (.inl ⟨_, _, rfl⟩))), rowns_block hn (fun k c z _ hh => hk _ _ hh (.inr (.inr (.inl ⟨_, _, rfl⟩)))), hmb, ?_, hD⟩
  obtain ⟨es, cl, hx, r⟩ := hm
  exact ⟨es, cl, hk _ _ hx (.inr (.inr (.inr ⟨_, _, rfl⟩))), r⟩
theorem PrT.drewN (h : PrT w0 g l free s tk w) (k : Nat) : PrT w0 g l free s tk (w.drewN k) := h.kept ⟨rfl, rfl, rfl, Nat.le_refl _, fun _ _ => rfl⟩ fun _ _ h _ => h
theorem PrT.drew (h : PrT w0 g l free s tk w) : PrT w0 g l free s tk w.drew := h.kept ⟨rfl, rfl, rfl, Nat.le_refl _, fun _ _ => rfl⟩ fun _ _ h _ => h
theorem PrT.size (h : PrT w0 g l free s tk w) : w0.heap.size ≤ g ∧ g < w.heap.size ∧ w0.heap.size ≤ w.heap.size := by
  obtain ⟨h1, h2, Lv, nv, mb, D, hh, _⟩ := h
  exact ⟨h2, (Array.getElem?_eq_some_iff.1 hh).1, h1.size⟩
theorem PrT.below (h : PrT w0 g l free s tk w) (hb : Below w.heap.size w w') : PrT w0 g l free s tk w' :=
  h.kept (hb.mono h.size.2.2) fun k o hk _ => by rw [hb.block k (Array.getElem?_eq_some_iff.1 hk).1]; exact hk
theorem PrT.alloc (h : PrT w0 g l free s tk w) (o : Obj) : PrT w0 g l free s tk (w.alloc o) := h.below ((Below.refl _ w).alloc (Nat.le_refl _) o)
/-- a cell of another kind of block is set -/
theorem PrT.setOther (h : PrT w0 g l free s tk w) {q : Nat} {c : Array Value} {T : TypeId} {z : Nat × Nat} (hq : w.heap[q]? = some (.cells c T z)) (h0 : w0.heap.size ≤ q) (h1 : T ≠ PrsT) (h2 : T ≠ 3) (h3 : T ≠ 9) (k : Nat) (v : Value) : PrT w0 g l free s tk (w.setCell ⟨q, k, none⟩ v) :=
  h.kept ((Below.refl _ w).setCell (p := ⟨q, k, none⟩) h0 v) fun i o hi hP => by
    rw [rheap_far (fun e => ?_)]
    · exact hi
    · have e : q = i := e
      subst e
      rw [hq] at hi
      injection hi with hi
      subst hi
      rcases hP with ⟨c', z', e⟩ | ⟨c', z', e⟩ | ⟨c', z', e⟩ | ⟨es, cl, e⟩
      · injection e with _ e _; exact h1 e
      · injection e with _ e _; exact h2 e
      · injection e with _ e _; exact h3 e
      · cases e
theorem PrT.put_pos (h : PrT w0 g l free s tk w) (p : Nat) : PrT w0 g l free { s with pos := p } tk (w.setCell ⟨g, 1, none⟩ (.int .i64 (p : Int))) := by
  obtain ⟨h1, h2, Lv, nv, mb, D, hh, hL, hn, hmb, hm, hD⟩ := h
  refine ⟨h1.setCell (p := ⟨g, 1, none⟩) h2 _, h2, Lv, nv, mb, D, rheap_set hh _, rowns_far hL hh (by decide) _, rowns_far hn hh (by decide) _, hmb, ?_, hD⟩
  obtain ⟨es, cl, hx, r⟩ := hm
  refine ⟨es, cl, ?_, r⟩
  rw [rheap_far (fun e => ?_)]
  · exact hx
  · have e : g = mb := e
    subst e; rw [hh] at hx; cases hx
theorem PrT.put_deep (h : PrT w0 g l free s tk w) (p : Nat) : PrT w0 g l free { s with deep := p } tk (w.setCell ⟨g, 3, none⟩ (.int .i64 (p : Int))) := by
  obtain ⟨h1, h2, Lv, nv, mb, D, hh, hL, hn, hmb, hm, hD⟩ := h
  refine ⟨h1.setCell (p := ⟨g, 3, none⟩) h2 _, h2, Lv, nv, mb, D, rheap_set hh _, rowns_far hL hh (by decide) _, rowns_far hn hh (by decide) _, hmb, ?_, hD⟩
  obtain ⟨es, cl, hx, r⟩ := hm
  refine ⟨es, cl, ?_, r⟩
  rw [rheap_far (fun e => ?_)]
  · exact hx
  · have e : g = mb := e
    subst e; rw [hh] at hx; cases hx
theorem PrT.frozen (h : PrT w0 g l free s tk w) (k : Nat) : w.frozen? ⟨g, k, none⟩ = false := by
  obtain ⟨h1, h2, Lv, nv, mb, D, hh, _⟩ := h
  exact Lib.frozen_of_heap hh k
theorem PrT.c0 (h : PrT w0 g l free s tk w) : ∃ A cap, w.cell? ⟨g, 0, none⟩ = some (.slice A l.length cap) ∧ RdI w A l.length l := by
  obtain ⟨h1, h2, Lv, nv, mb, D, hh, hL, _⟩ := h
  obtain ⟨A, cap, rfl, _, hR⟩ := hL.rd
  exact ⟨A, cap, by rw [Lib.cell_of_heap hh]; rfl, hR⟩
theorem PrT.c1 (h : PrT w0 g l free s tk w) : w.cell? ⟨g, 1, none⟩ = some (.int .i64 (s.pos : Int)) := by
  obtain ⟨h1, h2, Lv, nv, mb, D, hh, _⟩ := h
  rw [Lib.cell_of_heap hh]; rfl
theorem PrT.c2 (h : PrT w0 g l free s tk w) : w.cell? ⟨g, 2, none⟩ = some (.bool free) := by
  obtain ⟨h1, h2, Lv, nv, mb, D, hh, _⟩ := h
  rw [Lib.cell_of_heap hh]; rfl
theorem PrT.c3 (h : PrT w0 g l free s tk w) : w.cell? ⟨g, 3, none⟩ = some (.int .i64 (s.deep : Int)) := by
  obtain ⟨h1, h2, Lv, nv, mb, D, hh, _⟩ := h
  rw [Lib.cell_of_heap hh]; rfl
end

/-- how a pattern is refused -/
def stopE (a e : Nat) : Ending := .panicked [{ v := .iface 80 (.agg #[.int .i64 (a : Int), .int .i64 (e : Int)]), recovered := false }]
/-- refused: where, why -/
def BdP (w0 : World) (a n : Nat) (e : Ending) (w' : World) : Prop := e = stopE a n ∧ Below w0.heap.size w0 w'
/-- the parser goes on -/
def OkV (w0 : World) (g : Nat) (l : List Int) (free : Bool) (s' : PS) (w : World) (v : Value) (e : Ending) (w' : World) : Prop := e = .returned v ∧ PrV w0 g l free s' w' ∧ PK g w w'
/-- the parser goes on with a tree -/
def OkT (w0 : World) (g : Nat) (l : List Int) (free : Bool) (s' : PS) (w : World) (t : Rx) (e : Ending) (w' : World) : Prop := ∃ kv, e = .returned (rxAgg t kv) ∧ KX (fun q => w.heap.size ≤ q) w' t kv ∧ PrV w0 g l free s' w' ∧ PK g w w'
/-- what a method answers: a value of the caller's making -/
def ResV (w0 : World) (g : Nat) (l : List Int) (free : Bool) (w : World) {α : Type} (V : α → Value) (r : PR α) (e : Ending) (w' : World) : Prop := match r with
  | .ok v s' => OkV w0 g l free s' w (V v) e w'
  | .bad a n => BdP w0 a n e w'
/-- what a method answers: a tree -/
def ResT (w0 : World) (g : Nat) (l : List Int) (free : Bool) (w : World) (r : PR Rx) (e : Ending) (w' : World) : Prop := match r with
  | .ok t s' => OkT w0 g l free s' w t e w'
  | .bad a n => BdP w0 a n e w'

set_option maxHeartbeats 1000000 in
set_option maxRecDepth 100000 in
theorem rxDigit_any (c : Int) (w : World) :
    Calls Tryd.prog 58 #[.int .i64 c] w fun e w' => e = .returned (.bool (digI c)) ∧ w = w' := by
  go_enter Tryd.func58, Tryd.ntmps58
  go_wp2
  all_goals (go_ret; refine ⟨?_, rfl⟩; unfold digI; simp_all <;> (intros; omega))

/-- c|0x20, as the model has it -/
def lowR (c : Int) : Int := bits BinOp.or IntKind.i64 c 32
def lowRok (c : Nat) : Bool := (ltrI (c : Int) == (decide (97 ≤ lowR c) && decide (lowR c ≤ 122)))
theorem lowR_all : ∀ c : Fin 128, lowRok c.val = true := by decide +kernel
theorem lowR_let (c : Int) (h0 : 0 ≤ c) (hc : c < 128) : ltrI c = (decide (97 ≤ lowR c) && decide (lowR c ≤ 122)) := by
  have := lowR_all ⟨c.toNat, by omega⟩
  unfold lowRok at this
  have e : ((c.toNat : Nat) : Int) = c := Int.toNat_of_nonneg h0
  simp only [e] at this
  exact eq_of_beq this

/-- what class answers -/
def clsV : Option (Int × Bool) → Value
  | some (r, n) => .tuple #[rxAgg (rxClass r n) (.slice none 0 0), .bool true]
  | none => .tuple #[rxAgg rxNone (.slice none 0 0), .bool false]

set_option maxHeartbeats 1000000 in
set_option maxRecDepth 100000 in
theorem rxClass_any (c : Int) (w : World) :
    Calls Tryd.prog 52 #[.int .i64 c] w fun e w' => e = .returned (clsV (classI c)) ∧ Below w.heap.size w w' := by
  have hb : ∀ o, Below w.heap.size w (w.alloc o) := fun o => (Below.refl _ w).alloc (Nat.le_refl _) o
  by_cases h : c = 100 ∨ c = 119 ∨ c = 115 ∨ c = 68 ∨ c = 87 ∨ c = 83
  · rcases h with rfl | rfl | rfl | rfl | rfl | rfl <;>
    · go_enter Tryd.func52, Tryd.ntmps52
      go_wp2
      exact bodyPost_ret (by simp [results, Tryd.results52, go_sem]; rfl) rfl ⟨rfl, hb _⟩
  · have hn : classI c = none := by unfold classI; rw [if_neg (by omega), if_neg (by omega)]
    have z1 : (c == 100) = false := beq_false_of_ne (by omega)
    have z2 : (c == 119) = false := beq_false_of_ne (by omega)
    have z3 : (c == 115) = false := beq_false_of_ne (by omega)
    have z4 : (c == 68) = false := beq_false_of_ne (by omega)
    have z5 : (c == 87) = false := beq_false_of_ne (by omega)
    have z6 : (c == 83) = false := beq_false_of_ne (by omega)
    rw [hn]
    clear hn h
    go_enter Tryd.func52, Tryd.ntmps52
    go_wp2
    exact bodyPost_ret (by simp [results, Tryd.results52, go_sem]; rfl) rfl ⟨rfl, hb _⟩

theorem rdrewN2 (w : World) (n m : Nat) : (w.drewN n).drewN m = w.drewN (n + m) := by unfold World.drewN; simp [Nat.add_assoc]
def prPos (g : Nat) (w : World) : Nat := match w.cell? ⟨g, 1, none⟩ with
  | some (.int _ p) => p.toNat
  | _ => 0
theorem PrT.pos_of {w0 w : World} {g : Nat} {l : List Int} {free : Bool} {s : PS} {tk : List (List UInt8)} (h : PrT w0 g l free s tk w) : prPos g w = s.pos := by unfold prPos; rw [h.c1]; simp

section
variable (w0 : World) (g : Nat) (l : List Int) (free : Bool) (s : PS) (tk : List (List UInt8)) (w : World)

set_option maxHeartbeats 1000000 in
set_option maxRecDepth 100000 in
theorem rxDue_any (hp : s.pos ≤ 1001) (hl : l.length ≤ 1000) (h : PrT w0 g l free s tk w) :
    Calls Tryd.prog 41 #[.pointer (some ⟨g, 0, none⟩)] w fun e w' => e = .returned (.int .i64 (due l s.pos)) ∧ ∃ m, w' = w.drewN m := by
  obtain ⟨A, cap, c0, hR⟩ := h.c0
  have c1 := h.c1
  by_cases hlt : s.pos < l.length
  · obtain ⟨b, off, hA, _, hat⟩ := hR.2 (by omega)
    subst hA
    have c2 := hat s.pos hlt
    have hd : l.getD s.pos 0 = due l s.pos := by rw [due_at hlt, List.getD_eq_getElem?_getD, List.getElem?_eq_getElem hlt]; rfl
    rw [hd] at c2
    have z1 : decide ((s.pos : Int) < (l.length : Int)) = true := decide_eq_true (by omega)
    have i0 : (0 : Int) ≤ (s.pos : Int) := by omega
    have i1 : (s.pos : Int) < (l.length : Int) := by omega
    clear hd hat hR h
    generalize due l s.pos = d at *
    go_enter Tryd.func41, Tryd.ntmps41
    go_wp2
    go_quiet (fail)
    go_wp2
    go_quiet (fail)
    go_wp2
    go_ret
    exact ⟨rfl, _, rdrewN2 _ _ _⟩
  · have hd : due l s.pos = -1 := due_past (by omega)
    rw [hd]
    have z1 : decide ((s.pos : Int) < (l.length : Int)) = false := decide_eq_false (by omega)
    clear hd hR h
    go_enter Tryd.func41, Tryd.ntmps41
    go_wp2
    go_quiet (fail)
    go_wp2
    go_ret
    exact ⟨rfl, _, rfl⟩

set_option maxHeartbeats 1000000 in
set_option maxRecDepth 100000 in
theorem rxFail_any (a : Nat) (h : PrT w0 g l free s tk w) :
    Calls Tryd.prog 25 #[.pointer (some ⟨g, 0, none⟩), .int .i64 (a : Int)] w fun e w' => e = stopE (if l.length ≤ a then l.length else a) (if l.length ≤ a then 5 else 2) ∧ w = w' := by
  obtain ⟨A, cap, c0, hR⟩ := h.c0
  by_cases hle : l.length ≤ a
  · rw [if_pos hle, if_pos hle]
    have z1 : decide ((l.length : Int) ≤ (a : Int)) = true := decide_eq_true (by omega)
    clear hR h
    go_enter Tryd.func25, Tryd.ntmps25
    go_wp2
    exact ⟨rfl, rfl, rfl⟩
  · rw [if_neg hle, if_neg hle]
    have z1 : decide ((l.length : Int) ≤ (a : Int)) = false := decide_eq_false (by omega)
    clear hR h
    go_enter Tryd.func25, Tryd.ntmps25
    go_wp2
    exact ⟨rfl, rfl, rfl⟩

set_option maxHeartbeats 1000000 in
set_option maxRecDepth 100000 in
theorem rxTakes_yes (c : Int) (hl : l.length ≤ 1000) (hc : due l s.pos = c) (hc1 : c ≠ -1) (h : PrT w0 g l free s tk w) :
    Calls Tryd.prog 33 #[.pointer (some ⟨g, 0, none⟩), .int .i64 c] w fun e w' => e = .returned (.bool true) ∧ PrT w0 g l free { s with pos := s.pos + 1 } tk w' ∧ PK g w w' := by
  have hlt := due_lt hc hc1
  have K0 := rxDue_any w0 g l free s tk w (by omega) hl h
  rw [hc] at K0
  have K := Lib.hid K0
  have H := Lib.hid h
  clear hc h K0
  go_enter Tryd.func33, Tryd.ntmps33
  go_wp2_with (go_at_call 41; refine K.out.mono ?_)
  rintro e w1 ⟨rfl, m, rfl⟩
  have h1 := H.out.drewN m
  have c1 := h1.c1
  have f1 := h1.frozen 1
  have H1 := Lib.hid h1
  clear h1
  go_wp2
  go_ret
  exact ⟨rfl, H1.out.put_pos (s.pos + 1), ((PK.refl g w).drewN m).setOwn 1 _⟩

set_option maxHeartbeats 1000000 in
set_option maxRecDepth 100000 in
theorem rxTakes_no (c : Int) (hp : s.pos ≤ 1001) (hl : l.length ≤ 1000) (hc : due l s.pos ≠ c) (h : PrT w0 g l free s tk w) :
    Calls Tryd.prog 33 #[.pointer (some ⟨g, 0, none⟩), .int .i64 c] w fun e w' => e = .returned (.bool false) ∧ PrT w0 g l free s tk w' ∧ PK g w w' := by
  have K := Lib.hid (rxDue_any w0 g l free s tk w hp hl h)
  have H := Lib.hid h
  have z1 : (due l s.pos == c) = false := beq_false_of_ne hc
  clear hc h
  generalize due l s.pos = d at *
  go_enter Tryd.func33, Tryd.ntmps33
  go_wp2_with (go_at_call 41; refine K.out.mono ?_)
  rintro e w1 ⟨rfl, m, rfl⟩
  go_wp2
  go_ret
  exact ⟨rfl, H.out.drewN m, (PK.refl g w).drewN m⟩
end

end Go.Proofs.YtoniccokohjenaaDoor
