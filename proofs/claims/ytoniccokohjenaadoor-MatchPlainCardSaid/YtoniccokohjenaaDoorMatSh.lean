/-
  The walk of the reference's Same over equal matches (chapter 19).
  The walks of shown, great (chapter 19).
-/
import Derived.Test.YtoniccokohjenaaDoorMatRp
namespace Go.Proofs.YtoniccokohjenaaDoor
open Go.RowKit

theorem rows_at {w : World} {B : Nat} {E : TypeId} {size n cap : Nat} {A : Option Addr} {xs : List Value} (h : w.ownsRow B E size (.slice A n cap) n xs) (hn : n ≠ 0) : ∃ q, A = some ⟨q, 0, none⟩ ∧ ∀ j u, xs[j]? = some u → w.cell? ⟨q, j, none⟩ = some u := by
  rcases h.2 with ⟨_, h0⟩ | ⟨q, cap', cur, hv, _, hh, _, _, _, h4⟩
  · exact absurd h0 hn
  · injection hv with e1 _ _
    refine ⟨q, e1, fun j v hj => ?_⟩
    rw [Lib.cell_of_heap hh]
    rw [← h4, List.getElem?_take] at hj
    split at hj
    · rw [← Array.getElem?_toList]; exact hj
    · cases hj
theorem sps_at : ∀ (l : List (Int × Int)) (i : Nat) (z : Int × Int), l[i]? = some z → ∀ j v, (spCells z)[j]? = some v → (spsCells l)[i * 2 + j]? = some v
  | [], i, z, h, _, _, _ => by simp at h
  | a :: r, 0, z, h, j, v, hv => by
    obtain rfl : a = z := by simpa using h
    have hj := (List.getElem?_eq_some_iff.1 hv).1
    show (spCells a ++ spsCells r)[0 * 2 + j]? = some v
    rw [Nat.zero_mul, Nat.zero_add, List.getElem?_append_left hj]; exact hv
  | a :: r, i + 1, z, h, j, v, hv => by
    have ih := sps_at r i z (by simpa using h) j v hv
    show (spCells a ++ spsCells r)[(i + 1) * 2 + j]? = some v
    have hl : (spCells a).length = 2 := rfl
    rw [List.getElem?_append_right (by omega), ← ih]
    congr 1; omega
/-- matches that are read -/
def RdMs (B : Nat) (W : World) (ns : List (List UInt8)) (A : Option Addr) (ms : List Mh) : Prop := ms ≠ [] → ∃ q, A = some ⟨q, 0, none⟩ ∧ ∀ i h, ms[i]? = some h → ∃ gv cv, W.rangeAt q (i * 4) (mhCells (h, gv, cv)) ∧ MhIn B W ns (h, gv, cv)
theorem MsV.rd {B : Nat} {W : World} {ns : List (List UInt8)} {A : Option Addr} {n cap : Nat} {out : List Zh} (h : MsV B W ns (.slice A n cap) out) : RdMs B W ns A (out.map Prod.fst) := fun hne => by
  obtain ⟨q, hA, hat⟩ := h.at (fun e => hne (by rw [e]; rfl))
  refine ⟨q, hA, fun i m hm => ?_⟩
  rw [List.getElem?_map] at hm
  cases hz : out[i]? with
  | none => rw [hz] at hm; cases hm
  | some z =>
    rw [hz] at hm
    obtain rfl : z.1 = m := by simpa using hm
    exact ⟨z.2.1, z.2.2, hat i z hz, h.rows z (List.mem_of_getElem? hz)⟩
theorem RdMs.take {B : Nat} {W : World} {ns : List (List UInt8)} {A : Option Addr} {ms : List Mh} (h : RdMs B W ns A ms) (k : Nat) : RdMs B W ns A (ms.take k) := fun hne => by
  obtain ⟨q, hA, hat⟩ := h (fun e => hne (by rw [e]; simp))
  refine ⟨q, hA, fun i m hm => hat i m ?_⟩
  rw [List.getElem?_take] at hm
  split at hm
  · exact hm
  · cases hm
theorem RdMs.below {B : Nat} {W W' : World} {ns : List (List UInt8)} {A : Option Addr} {ms : List Mh} (h : RdMs B W ns A ms) (hb : Below W.heap.size W W') : RdMs B W' ns A ms := fun hne => by
  obtain ⟨q, hA, hat⟩ := h hne
  refine ⟨q, hA, fun i m hm => ?_⟩
  obtain ⟨gv, cv, h1, h2⟩ := hat i m hm
  exact ⟨gv, cv, range_below h1 hb, h2.below hb⟩

end Go.Proofs.YtoniccokohjenaaDoor

namespace Go.Proofs.YtoniccokohjenaaDoor
open Go.RowKit

theorem av1 : allV [97, 43] [98, 97, 97, 98] [103] = ([⟨1, 3, []⟩], [], 0) := by kernel_rfl
theorem av2 : allV [40, 97, 41, 124, 98] [97, 98] [103] = ([⟨0, 1, [0, 1]⟩, ⟨1, 2, [-1, -1]⟩], [[]], 0) := by kernel_rfl
theorem av3 : replV [92, 100] [97, 49, 98, 50, 50] [103] [45] = ([97, 45, 98, 45, 45], 0) := by kernel_rfl
theorem av4 : allV [40, 63, 60, 120, 62, 46, 41, 36] [97, 98] [] = ([⟨1, 2, [1, 2]⟩], [[120]], 0) := by kernel_rfl

/-- one match that is read -/
theorem RdMs.one {B : Nat} {W : World} {ns : List (List UInt8)} {A : Option Addr} {ms : List Mh} (h : RdMs B W ns A ms) {i : Nat} {m : Mh} (hi : ms[i]? = some m) : ∃ q GA gc KA kc, A = some ⟨q, 0, none⟩ ∧ W.rangeAt q (i * 4) (mhCells (m, .slice GA ns.length gc, .slice KA ns.length kc)) ∧ W.ownsRow B TSp 2 (.slice GA ns.length gc) ns.length (spsCells (grpL m.M ns.length)) ∧ W.ownsRow B 9 1 (.slice KA ns.length kc) ns.length (strCells ns) := by
  obtain ⟨q, hA, hat⟩ := h (fun e => by rw [e] at hi; simp at hi)
  obtain ⟨gv, cv, hr, h1, h2⟩ := hat i m hi
  obtain ⟨GA, gc, hg⟩ := rowns_slice h1
  obtain ⟨KA, kc, hk⟩ := rowns_slice h2
  simp only at hg hk
  subst hg hk
  exact ⟨q, GA, gc, KA, kc, hA, hr, h1, h2⟩

set_option maxHeartbeats 1000000 in
set_option maxRecDepth 100000 in
theorem mtGreat_any (p t : ByteArray) (w : World) : Calls Tryd.prog 5 #[.string p, .string t] w (RetE (.bool (decide (60 < p.size) || decide (40 < t.size))) fun w' => w = w') := by
  by_cases h1 : 60 < p.size
  · rw [decide_eq_true h1, Bool.true_or]
    have z1 : decide ((60 : Int) < (p.size : Int)) = true := decide_eq_true (by omega)
    go_enter Tryd.func5, Tryd.ntmps5
    go_wp2
    go_ret
    exact ⟨rfl, rfl⟩
  · rw [decide_eq_false h1, Bool.false_or]
    have z1 : decide ((60 : Int) < (p.size : Int)) = false := decide_eq_false (by omega)
    obtain ⟨b, hb⟩ : ∃ b, b = decide (40 < t.size) := ⟨_, rfl⟩
    rw [← hb]
    have z2 : decide ((40 : Int) < (t.size : Int)) = b := by rw [hb]; exact decide_eq_decide.2 (by omega)
    clear hb
    go_enter Tryd.func5, Tryd.ntmps5
    go_wp2
    go_ret
    exact ⟨rfl, rfl⟩

theorem allLit {p t f : ByteArray} {ms : List Mh} {ns : List (List UInt8)} (h : allV p.data.toList t.data.toList f.data.toList = (ms, ns, 0)) (hp : p.size ≤ 1000000) (ht : t.size ≤ 1000) (w : World) :
    Calls Tryd.prog 7 #[.string p, .string t, .string f] w fun e w' => ∃ A c, e = .returned (.tuple #[.slice A ms.length c, .int .i64 0]) ∧ Below w.heap.size w w' ∧ RdMs w.heap.size w' ns A ms := by
  refine (mtAll_any p t f w hp ht).mono fun e w' h2 => ?_
  rw [h] at h2
  obtain ⟨ov, out, rfl, hb, hm, hms⟩ := h2
  obtain ⟨A, c, rfl⟩ := rowns_slice hms.own
  have hm : out.map Prod.fst = ms := hm
  refine ⟨A, c, ?_, hb, by rw [← hm]; exact hms.rd⟩
  rw [← hm, List.length_map]; rfl

set_option maxHeartbeats 4000000 in
set_option maxRecDepth 100000 in
theorem mtShown_any (w : World) : Calls Tryd.prog 4 #[] w (RetE (.bool true) fun w' => Below w.heap.size w w') := by
  have K1 := Lib.hid (fun W => allLit (p := ⟨#[97, 43]⟩) (t := ⟨#[98, 97, 97, 98]⟩) (f := ⟨#[103]⟩) av1 (by decide) (by decide) W)
  have K2 := Lib.hid (fun W => allLit (p := ⟨#[40, 97, 41, 124, 98]⟩) (t := ⟨#[97, 98]⟩) (f := ⟨#[103]⟩) av2 (by decide) (by decide) W)
  have k3 := fun W => mtReplace_any ⟨#[92, 100]⟩ ⟨#[97, 49, 98, 50, 50]⟩ ⟨#[103]⟩ ⟨#[45]⟩ W (by decide) (by decide) (by decide)
  simp only [av3] at k3
  have K3 := Lib.hid k3
  have K4 := Lib.hid (fun W => allLit (p := ⟨#[40, 63, 60, 120, 62, 46, 41, 36]⟩) (t := ⟨#[97, 98]⟩) (f := ⟨#[]⟩) av4 (by decide) (by decide) W)
  clear k3
  go_enter Tryd.func4, Tryd.ntmps4
  go_wp2_with (go_at_call 7; refine (K1.out _).mono ?_)
  rintro e w1 ⟨A1, c1, rfl, hb1, hr1⟩
  have B1 := Lib.hid hb1
  have R1 := Lib.hid hr1
  clear hb1 hr1
  simp only [List.length_cons, List.length_nil]
  go_wp2_with (go_at_call 7; refine (K2.out _).mono ?_)
  rintro e w2 ⟨A2, c2, rfl, hb2, hr2⟩
  have R1' := Lib.hid (R1.out.below hb2)
  have B2 := Lib.hid (B1.out.trans (hb2.mono B1.out.size))
  have R2 := Lib.hid hr2
  clear hb2 hr2 R1 B1
  simp only [List.length_cons, List.length_nil]
  go_wp2_with (go_at_call 8; refine (K3.out _).mono ?_)
  rintro e w3 ⟨rfl, hb3⟩
  have R1 := Lib.hid (R1'.out.below hb3)
  have R2' := Lib.hid (R2.out.below hb3)
  have B3 := Lib.hid (B2.out.trans (hb3.mono B2.out.size))
  clear hb3 R1' R2 B2
  go_wp2_with (go_at_call 7; refine (K4.out _).mono ?_)
  rintro e w4 ⟨A4, c4, rfl, hb4, hr4⟩
  have r1 := R1.out.below hb4
  have r2 := R2'.out.below hb4
  have B4 := Lib.hid (B3.out.trans (hb4.mono B3.out.size))
  clear hb4 R1 R2' B3
  simp only [List.length_cons, List.length_nil]
  obtain ⟨q1, G1, g1, N1, n1, rfl, h1, _, _⟩ := r1.one (i := 0) rfl
  obtain ⟨q2, G2, g2, N2, n2, rfl, h2, o2, _⟩ := r2.one (i := 0) rfl
  obtain ⟨q2', G3, g3, N3, n3, e3, h3, o3, _⟩ := r2.one (i := 1) rfl
  obtain ⟨q4, G4, g4, N4, n4, rfl, h4, _, o4⟩ := hr4.one (i := 0) rfl
  injection e3 with e3
  injection e3 with e3 _ _
  subst e3
  obtain ⟨b2, rfl, v2⟩ := rows_at o2 (by decide)
  obtain ⟨b3, rfl, v3⟩ := rows_at o3 (by decide)
  obtain ⟨b4, rfl, v4⟩ := rows_at o4 (by decide)
  have f10 : w4.cell? ⟨q1, 0, none⟩ = some (.int .i64 1) := h1 0 _ rfl
  have f11 : w4.cell? ⟨q1, 1, none⟩ = some (.int .i64 3) := h1 1 _ rfl
  have f22 : w4.cell? ⟨q2, 2, none⟩ = some (.slice (some ⟨b2, 0, none⟩) 1 g2) := h2 2 _ rfl
  have f26 : w4.cell? ⟨q2, 6, none⟩ = some (.slice (some ⟨b3, 0, none⟩) 1 g3) := h3 2 _ rfl
  have f40 : w4.cell? ⟨q4, 0, none⟩ = some (.int .i64 1) := h4 0 _ rfl
  have f43 : w4.cell? ⟨q4, 3, none⟩ = some (.slice (some ⟨b4, 0, none⟩) 1 n4) := h4 3 _ rfl
  have x20 : w4.cell? ⟨b2, 0, none⟩ = some (.int .i64 0) := v2 0 _ rfl
  have x21 : w4.cell? ⟨b2, 1, none⟩ = some (.int .i64 1) := v2 1 _ rfl
  have x30 : w4.cell? ⟨b3, 0, none⟩ = some (.int .i64 (-1)) := v3 0 _ rfl
  have x31 : w4.cell? ⟨b3, 1, none⟩ = some (.int .i64 (-1)) := v3 1 _ rfl
  have x40 : w4.cell? ⟨b4, 0, none⟩ = some (.string ⟨#[120]⟩) := v4 0 _ rfl
  clear h1 h2 h3 h4 o2 o3 o4 v2 v3 v4 r1 r2 hr4
  go_wp2
  all_goals (go_ret; exact ⟨rfl, B4.out⟩)

end Go.Proofs.YtoniccokohjenaaDoor
