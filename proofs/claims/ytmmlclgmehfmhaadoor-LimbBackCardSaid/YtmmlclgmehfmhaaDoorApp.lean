/-
  append of one row of the call's own to another one.
-/
import Derived.Test.YtmmlclgmehfmhaaDoorMem
import Derived.Maps.AppendAt
import Derived.Deep.RegionLaw
namespace Go.Proofs.YtmmlclgmehfmhaaDoor
open Go.RowKit

theorem OwnN.rd' {k : IntKind} {E : TypeId} {base : Nat} {w : World} {v : Value} {l : List Nat} (h : OwnN k E base w v l) : (v = .slice none 0 0 ∧ l = []) ∨ ∃ g cap, v = .slice (some ⟨g, 0, none⟩) l.length cap ∧ RdN k w (some ⟨g, 0, none⟩) l.length l := by
  obtain ⟨A, cap, e, _, hrd, _⟩ := h.rd
  unfold OwnN at h
  rcases h.2 with ⟨hv, h0⟩ | ⟨g, cap', cur, hv, hg, hh, hnc, _⟩
  · exact .inl ⟨hv, List.eq_nil_of_length_eq_zero h0⟩
  · rw [hv] at e
    injection e with e1 e2 e3
    subst e1
    exact .inr ⟨g, cap', hv, hrd⟩

section
variable {P : Program} (w : World)
theorem run_append_rd (t ty : TypeId) (base base2 : Nat) (k : IntKind) (e : TypeId) (i : TypeInfo) (z : Value) (bytes : Nat) (ht : P.underlying t = some (.slice e)) (hi : P.info? e = some i) (hz : i.zero = some z)
    (hsize : i.size = 1) (hby : i.bytes = bytes) (hzs : z.cells.size = 1) (v v2 : Value) (xs l : List Nat) (hown : OwnN k e base w v xs) (hown2 : OwnN k e base2 w v2 l)
    (h63 : xs.length + l.length ≤ maxLen) (hbytes : (xs.length + l.length) * bytes ≤ 140737488355328) (hbase : base ≤ w.heap.size) :
    ∃ v' w', (Builtin.append_ #[t, t] ty #[v, v2]).run P w = .ok v' w' ∧ OwnN k e base w' v' (xs ++ l) ∧ w.grownBy w' v.ownBlock := by
  rcases hown2.rd' with ⟨rfl, rfl⟩ | ⟨g, cap, rfl, hrd⟩
  · refine ⟨v, w, run_append_owned_none w base t ty e i 1 ht hi v xs.length (nums k xs) hown, ?_, World.grownBy.refl w _⟩
    rw [List.append_nil]; exact hown
  · obtain ⟨v', w', hr, h2, h3, _, _⟩ := run_append_own_at (P := P) w base t ty e i z 1 bytes ht hi hz hsize hby hzs (by omega) v xs.length (nums k xs) hown ⟨g, 0, none⟩ l.length cap (nums k l) (by rw [nums_len]; omega)
      (fun j u hu => by
        have hj : j < l.length := by have := (List.getElem?_eq_some_iff.1 hu).1; rwa [nums_len] at this
        obtain ⟨b, off, e1, _, hc⟩ := hrd.2 (by omega)
        have h4 := hc j hj
        injection e1 with e1
        injection e1 with e1 e2
        subst e1 e2
        have hadd : (⟨g, 0, none⟩ : Addr).add j = ⟨g, 0 + j, none⟩ := by unfold Addr.add; split <;> simp_all
        rw [hadd, h4]
        simp only [nums, List.getElem?_map, List.getElem?_eq_getElem hj, Option.map_some] at hu
        rw [List.getD, List.getElem?_eq_getElem hj]
        exact hu)
      (fun u hu => by
        unfold nums at hu
        rw [List.mem_map] at hu
        obtain ⟨x, _, rfl⟩ := hu
        rfl) h63 hbytes hbase
    refine ⟨v', w', hr, ?_, h3⟩
    unfold OwnN
    rw [List.length_append, ← nums_append]
    exact h2

theorem wp_append_rd {o : Oper} {a : Act} {K : Act → World → Prop} {Q : Exit → Act → World → Prop} (s x : Operand) (t : TypeId)
    (ho : o.op = .call { callee := .builtin .append, args := #[s, x], argTypes := #[t, t] })
    (base base2 : Nat) (k : IntKind) (e : TypeId) (i : TypeInfo) (z : Value) (bytes : Nat) (ht : P.underlying t = some (.slice e)) (hi : P.info? e = some i) (hz : i.zero = some z)
    (hsize : i.size = 1) (hby : i.bytes = bytes) (hzs : z.cells.size = 1) (v v2 : Value) (xs l : List Nat) (hs : a.eval s = v) (hx : a.eval x = v2) (hown : OwnN k e base w v xs) (hown2 : OwnN k e base2 w v2 l)
    (h63 : xs.length + l.length ≤ maxLen) (hbytes : (xs.length + l.length) * bytes ≤ 140737488355328) (hbase : base ≤ w.heap.size)
    (h : ∀ v' w', OwnN k e base w' v' (xs ++ l) → w.grownBy w' v.ownBlock → K (a.put o.dst v') w') : o.wp P a w K Q := by
  obtain ⟨v', w', hr, h2, h3⟩ := run_append_rd (P := P) w t o.type base base2 k e i z bytes ht hi hz hsize hby hzs v v2 xs l hown hown2 h63 hbytes hbase
  unfold Oper.wp execOp
  simp only [ho, resolve, invoke, builtin, Sem.run_bind, Sem.run_pure, Result.andThen_ok, List.map_toArray, List.map_cons, List.map_nil, hs, hx, hr]
  exact h v' w' h2 h3

theorem wpList_append_rd {ops : Array Oper} {rest : List Oper} {o : Oper} {a : Act} {Q : Exit → Act → World → Prop} (hgd : o.guard = none) (s x : Operand) (t : TypeId)
    (ho : o.op = .call { callee := .builtin .append, args := #[s, x], argTypes := #[t, t] })
    (base base2 : Nat) (k : IntKind) (e : TypeId) (i : TypeInfo) (z : Value) (bytes : Nat) (ht : P.underlying t = some (.slice e)) (hi : P.info? e = some i) (hz : i.zero = some z)
    (hsize : i.size = 1) (hby : i.bytes = bytes) (hzs : z.cells.size = 1) (v v2 : Value) (xs l : List Nat) (hs : a.eval s = v) (hx : a.eval x = v2) (hown : OwnN k e base w v xs) (hown2 : OwnN k e base2 w v2 l)
    (h63 : xs.length + l.length ≤ maxLen) (hbytes : (xs.length + l.length) * bytes ≤ 140737488355328) (hbase : base ≤ w.heap.size)
    (h : ∀ v' w', OwnN k e base w' v' (xs ++ l) → w.grownBy w' v.ownBlock → wpList P ops Q rest (a.put o.dst v') w') : wpList P ops Q (o :: rest) a w :=
  wpList_plain hgd fun _ hK => wp_append_rd w s x t ho base base2 k e i z bytes ht hi hz hsize hby hzs v v2 xs l hs hx hown hown2 h63 hbytes hbase fun v' w' h2 h3 => hK _ _ (h v' w' h2 h3)

theorem step_append_rd {ops : Array Oper} {o : Oper} {a : Act} {K : Act → World → Prop} {Q : Exit → Act → World → Prop} {E : Prop} (hgd : o.guard = none) (s x : Operand) (t : TypeId)
    (ho : o.op = .call { callee := .builtin .append, args := #[s, x], argTypes := #[t, t] })
    (base base2 : Nat) (k : IntKind) (e : TypeId) (i : TypeInfo) (z : Value) (bytes : Nat) (ht : P.underlying t = some (.slice e)) (hi : P.info? e = some i) (hz : i.zero = some z)
    (hsize : i.size = 1) (hby : i.bytes = bytes) (hzs : z.cells.size = 1) (v v2 : Value) (xs l : List Nat) (hs : a.eval s = v) (hx : a.eval x = v2) (hown : OwnN k e base w v xs) (hown2 : OwnN k e base2 w v2 l)
    (h63 : xs.length + l.length ≤ maxLen) (hbytes : (xs.length + l.length) * bytes ≤ 140737488355328) (hbase : base ≤ w.heap.size)
    (h : ∀ v' w', OwnN k e base w' v' (xs ++ l) → w.grownBy w' v.ownBlock → K (a.put o.dst v') w') :
    if Region.wanted o (yielded ops a.tmps) = true then Oper.wp P o a w K Q else E := by
  have hw : Region.wanted o (yielded ops a.tmps) = true := by simp [Region.wanted, hgd]
  rw [if_pos hw]
  exact wp_append_rd w s x t ho base base2 k e i z bytes ht hi hz hsize hby hzs v v2 xs l hs hx hown hown2 h63 hbytes hbase h
end

/-- a literal of one number -/
theorem OwnN.lit (k : IntKind) (E : TypeId) (base : Nat) (w : World) (x : Nat) (hb : base ≤ w.heap.size) : OwnN k E base (w.alloc (.cells #[.int k (x : Int)] E)) (.slice (some ⟨w.heap.size, 0, none⟩) 1 1) [x] :=
  World.ownsRow_lit w #[.int k (x : Int)] 1 hb (by unfold maxLen; omega) rfl

/-- a store into another block -/
theorem OwnN.other {k : IntKind} {E : TypeId} {base : Nat} {w : World} {v : Value} {l : List Nat} (h : OwnN k E base w v l) {p : Addr} {x : Value} (hp : ∀ b, v.ownBlock = some b → b ≠ p.block) : OwnN k E base (w.setCell p x) v l := by
  unfold OwnN at h ⊢
  refine ⟨h.1, ?_⟩
  rcases h.2 with h2 | ⟨g, cap, cur, hv, hg, hh, r⟩
  · exact .inl h2
  · refine .inr ⟨g, cap, cur, hv, hg, ?_, r⟩
    have h3 := hp g (by rw [hv]; rfl)
    simp only [World.setCell, Array.getElem?_modify]
    rw [if_neg (Ne.symm h3)]
    exact hh
theorem OwnN.block_ge {k : IntKind} {E : TypeId} {base : Nat} {w : World} {v : Value} {l : List Nat} (h : OwnN k E base w v l) (b : Nat) (hb : v.ownBlock = some b) : base ≤ b ∧ b < w.heap.size := by
  unfold OwnN at h
  rcases h.2 with ⟨hv, _⟩ | ⟨g, cap, cur, hv, hg, hh, r⟩
  · rw [hv] at hb; cases hb
  · rw [hv] at hb
    have : g = b := by simpa [Value.ownBlock] using hb
    subst this
    exact ⟨hg, (Array.getElem?_eq_some_iff.1 hh).1⟩
theorem OwnN.grown {k : IntKind} {E : TypeId} {base : Nat} {w w' : World} {v : Value} {l : List Nat} (h : OwnN k E base w v l) {row : Option Nat} (hg : w.grownBy w' row) (hp : ∀ b, v.ownBlock = some b → some b ≠ row) : OwnN k E base w' v l := by
  unfold OwnN at h ⊢
  refine ⟨h.1, ?_⟩
  rcases h.2 with h2 | ⟨g, cap, cur, hv, hg2, hh, r⟩
  · exact .inl h2
  · refine .inr ⟨g, cap, cur, hv, hg2, ?_, r⟩
    rw [hg.block g (Array.getElem?_eq_some_iff.1 hh).1 (hp g (by rw [hv]; rfl))]
    exact hh
/-- behind a literal that was appended to -/
theorem below_litapp {wr w5 : World} {o : Obj} {n c : Nat} (hg : (wr.alloc o).drew.grownBy w5 (Value.slice (some ⟨wr.heap.size, 0, none⟩) n c).ownBlock) : Below wr.heap.size wr w5 :=
  ((Below.refl _ wr).alloc (Nat.le_refl _) o).drew.grown hg (by simp) (fun k hk => by
    have : wr.heap.size = k := by simpa [Value.ownBlock] using hk
    omega)
theorem OwnN.asList {k : IntKind} {E : TypeId} {base : Nat} {w : World} {v : Value} {l m : List Nat} (h : OwnN k E base w v l) (e : l = m) : OwnN k E base w v m := e ▸ h
theorem OwnN.putBelow {k : IntKind} {E : TypeId} {base H i : Nat} {w : World} {v x : Value} {l : List Nat} (h : OwnN k E base w v l) (hH : H < base) : OwnN k E base (w.setCell ⟨H, i, none⟩ x) v l :=
  h.other fun b hb => by have := (h.block_ge b hb).1; show b ≠ H; omega
theorem OwnN.putOff {k : IntKind} {E : TypeId} {base H i g n c : Nat} {w : World} {x : Value} {l : List Nat} (h : OwnN k E base w (.slice (some ⟨g, 0, none⟩) n c) l) (hH : g ≠ H) : OwnN k E base (w.setCell ⟨H, i, none⟩ x) (.slice (some ⟨g, 0, none⟩) n c) l :=
  h.other fun b hb => by
    have : g = b := by simpa [Value.ownBlock] using hb
    show b ≠ H; omega
theorem frozen_below {B : Nat} {w w' : World} (h : Below B w w') {p : Addr} (hp : p.block < B) {r : Bool} (hf : w.frozen? p = r) : w'.frozen? p = r :=
  (World.frozen?_of_block (h.block p.block hp)).trans hf
/-- one cell is written, the others stay -/
theorem cell_far {w : World} {p a : Addr} {v u : Value} (h : p.block ≠ a.block) (hc : w.cell? a = some u) : (w.setCell p v).cell? a = some u :=
  by rw [World.cell?_setCell_other w p a v (fun e => h (by rw [e]))]; exact hc
end Go.Proofs.YtmmlclgmehfmhaaDoor
