/-
  The walk of the matcher's groups (chapter 19).
  The walk of slices.Clone over names (chapter 19).
  What match's All answers, in plain Lean, and the matches in memory (chapter 19).
-/
import Derived.Test.YtoniccokohjenaaDoorMatV
import Derived.Test.YtoniccokohjenaaDoorRegPa
import Derived.Test.YtoniccokohjenaaDoorMatZ
import Derived.Test.YtoniccokohjenaaDoorMatW
import Derived.Test.YtoniccokohjenaaDoorMatE
import Derived.Test.YtoniccokohjenaaDoorMatF
import Derived.Test.YtoniccokohjenaaDoorMatQ
import Derived.Lib.SliceRun
namespace Go.Proofs.YtoniccokohjenaaDoor
open Go.RowKit

abbrev TSp : TypeId := 38
/-- what a group caught -/
def grpAt (M : List Int) (k : Nat) : Int × Int := (if M.getD (2 * k + 1) 0 < 0 then -1 else M.getD (2 * k) 0, M.getD (2 * k + 1) 0)
def grpL (M : List Int) (n : Nat) : List (Int × Int) := (List.range n).map (grpAt M)
theorem grp_snoc (M : List Int) (n : Nat) : grpL M (n + 1) = grpL M n ++ [grpAt M n] := by unfold grpL; rw [List.range_succ, List.map_append]; rfl
theorem grp_len (M : List Int) (n : Nat) : (grpL M n).length = n := by simp [grpL]
def spCells (p : Int × Int) : List Value := [.int .i64 p.1, .int .i64 p.2]
def spsCells (l : List (Int × Int)) : List Value := l.flatMap spCells
theorem sps_snoc (l : List (Int × Int)) (p : Int × Int) : spsCells (l ++ [p]) = spsCells l ++ spCells p := by unfold spsCells; simp [List.flatMap_append]
theorem infoSp : (Tryd.prog.info? TSp).map (fun i => (i.zero, i.size, i.bytes)) = some (some (.agg #[.int .i64 0, .int .i64 0]), 2, 16) := by kernel_rfl
theorem sp_one (p : Int × Int) : ∀ u ∈ spCells p, u.oneCell' = true := fun u hu => by
  simp only [spCells, List.mem_cons, List.not_mem_nil, or_false] at hu
  rcases hu with rfl | rfl <;> rfl
theorem append_sp {ops : Array Oper} {rest : List Oper} {o : Oper} {a : Act} {Q : Exit → Act → World → Prop} {W : World} (hgd : o.guard = none) (s x : Operand)
    (ho : o.op = .call { callee := .builtin .append, args := #[s, x], argTypes := #[30, 30] })
    {B n : Nat} {v : Value} {l : List (Int × Int)} (p : Int × Int) (hs : a.eval s = v) (hx : a.eval x = .slice (some ⟨W.heap.size, 0, none⟩) 1 1) (h : W.ownsRow B TSp 2 v n (spsCells l)) (hB : B ≤ W.heap.size) (hn : n ≤ 1000000)
    (hQ : ∀ v' w', w'.ownsRow B TSp 2 v' (n + 1) (spsCells (l ++ [p])) → (W.alloc (.cells (spCells p).toArray TSp)).grownBy w' v.ownBlock → wpList Tryd.prog ops Q rest (a.put o.dst v') w') :
    wpList Tryd.prog ops Q (o :: rest) a (W.alloc (.cells (spCells p).toArray TSp)) := by
  obtain ⟨i0, hi, hz0, hz1, hz2⟩ := info_parts infoSp
  refine wpList_append_own_at _ hgd s x _ ho B TSp i0 _ 2 16 Tryd.underlying30 hi hz0 hz1 hz2 rfl (by decide) v n (spsCells l) hs (rowns_below h ((Below.refl _ W).alloc (Nat.le_refl _) _)) ⟨W.heap.size, 0, none⟩ 1 1 (spCells p) hx rfl (news10 W _ _) (sp_one p) (by unfold maxLen; omega) (by omega) (by simp; omega) ?_
  intro v' w' hown hg _ _
  rw [← sps_snoc] at hown
  exact hQ v' w' hown hg

/-- the groups, as a row of the call's own -/
def IsGrp (l : List (Int × Int)) (w : World) (e : Ending) (w' : World) : Prop := ∃ v, e = .returned v ∧ Below w.heap.size w w' ∧ w'.ownsRow w.heap.size TSp 2 v l.length (spsCells l)

set_option maxHeartbeats 4000000 in
set_option maxRecDepth 100000 in
theorem mtGroups_any (w0 : World) (L : MtL) (m : Md) (l : List Int) (zs : List (Stp × Value)) (G : Nat) (ws : List Nat) (M : List Int) (w : World) (h : MtW w0 w L m l zs ws M) (hlm : M.length = 2 * G) (hG : G ≤ 1000) :
    Calls Tryd.prog 16 #[.pointer (some ⟨L.g, 0, none⟩)] w (IsGrp (grpL M G) w) := by
  have H := Lib.hid h
  obtain ⟨G2, hG2⟩ : ∃ g, g = M.length := ⟨_, rfl⟩
  have hg2 : G2 = 2 * G := by omega
  have HG2 := Lib.hid hG2
  have HG := Lib.hid hg2
  clear h hlm hG2 hg2
  go_enter Tryd.func16, Tryd.ntmps16
  go_wp2
  go_loopg [3, 4] (G + 1) (fun kx v3 v4 wr => ∃ (k k2 : Nat), v4 = .int .i64 (k2 : Int) ∧ Hid (k2 = 2 * k) ∧ k ≤ G ∧ G - k ≤ kx ∧ Below w.heap.size w wr ∧ wr.ownsRow w.heap.size TSp 2 v3 k (spsCells (grpL M k)))
  case atStart => exact ⟨0, 0, by go_num, rfl, Nat.zero_le _, by omega, Below.refl _ _, rfl, .inl ⟨rfl, rfl⟩⟩
  case round =>
    obtain ⟨k, k2, rfl, hk2, hk, hkx, hb, ho⟩ := hrel
    have hmt := H.out.call hb
    have cm := hmt.cm
    rw [← HG2.out] at cm
    obtain ⟨A3, cap3, rfl⟩ := rowns_slice ho
    have HO := Lib.hid ho
    have HB := Lib.hid hb
    clear ho hb
    by_cases hlt : k < G
    · have z1 : decide (k2 < G2) = true := decide_eq_true (by have := hk2.out; have := HG.out; omega)
      have i0 : (0 : Int) ≤ (k2 : Int) := by omega
      have i1 : (k2 : Int) < (G2 : Int) := by have := hk2.out; have := HG.out; omega
      obtain ⟨k3, hk3⟩ : ∃ k, k = k2 + 1 := ⟨_, rfl⟩
      have e3 : (k2 : Int) + 1 = (k3 : Int) := by omega
      have w3 : IntKind.i64.wrap (k3 : Int) = (k3 : Int) := IntWalk.i64_in _ (by have := hk2.out; omega)
      have j0 : (0 : Int) ≤ (k3 : Int) := by omega
      have j1 : (k3 : Int) < (G2 : Int) := by have := hk2.out; have := HG.out; omega
      have ca := hmt.mark (k := k2) (by have := hk2.out; have := HG.out; have := HG2.out; omega)
      have cb := hmt.mark (k := k3) (by have := hk2.out; have := HG.out; have := HG2.out; omega)
      have hal : Below wr.heap.size wr (wr.alloc (.cells #[.int .i64 0, .int .i64 0] 38)) := (Below.refl _ wr).alloc (Nat.le_refl _) _
      have hmt2 := hmt.call hal
      have cm2 := hmt2.cm
      rw [← HG2.out] at cm2
      have ca2 := hmt2.mark (k := k2) (by have := hk2.out; have := HG.out; have := HG2.out; omega)
      have cb2 := hmt2.mark (k := k3) (by have := hk2.out; have := HG.out; have := HG2.out; omega)
      have hga : grpAt M k = (if M.getD k3 0 < 0 then -1 else M.getD k2 0, M.getD k3 0) := by unfold grpAt; rw [hk3, hk2.out]
      obtain ⟨a, ha⟩ : ∃ v, v = M.getD k2 0 := ⟨_, rfl⟩
      obtain ⟨b, hb'⟩ : ∃ v, v = M.getD k3 0 := ⟨_, rfl⟩
      rw [← ha, ← hb'] at hga
      rw [← ha] at ca ca2
      rw [← hb'] at cb cb2
      have HGA := Lib.hid hga
      have HK3 := Lib.hid hk3
      clear ha hb' hga hmt hk3 hal hmt2
      obtain ⟨k4, hk4⟩ : ∃ k, k = k2 + 2 := ⟨_, rfl⟩
      have e4 : (k2 : Int) + 2 = (k4 : Int) := by omega
      have w4 : IntKind.i64.wrap (k4 : Int) = (k4 : Int) := IntWalk.i64_in _ (by have := hk2.out; omega)
      have HK4 := Lib.hid hk4
      clear hk4
      go_upto_region 5 with fail
      go_region
      go_upto_region 6 with fail
      have hh2 : (wr.alloc (.cells #[.int .i64 a, .int .i64 b] 38)).drew.heap[wr.heap.size]? = some (.cells #[.int .i64 a, .int .i64 b] TSp (0, 0)) := Go.heap_alloc_new wr _
      have hb2 : Below wr.heap.size wr (wr.alloc (.cells #[.int .i64 a, .int .i64 b] 38)).drew := ((Below.refl _ wr).alloc (Nat.le_refl _) _).drew
      generalize (wr.alloc (.cells #[.int .i64 a, .int .i64 b] 38)).drew = W2 at *
      have ho2 := rowns_below HO.out hb2
      have hB2 := HB.out.trans (hb2.mono HB.out.size)
      have hq : w.heap.size ≤ wr.heap.size := HB.out.size
      have hne : ∀ g, (Value.slice A3 k cap3).ownBlock = some g → g ≠ wr.heap.size := fun g hg => by have := (rrow_kind HO.out g hg).2.1; omega
      have hs2 : wr.heap.size < W2.heap.size := (Array.getElem?_eq_some_iff.1 hh2).1
      have f0 : W2.cell? ⟨wr.heap.size, 0, none⟩ = some (.int .i64 a) := by rw [Lib.cell_of_heap hh2]; rfl
      have f1 : W2.cell? ⟨wr.heap.size, 1, none⟩ = some (.int .i64 b) := by rw [Lib.cell_of_heap hh2]; rfl
      have fz := Lib.frozen_of_heap hh2 0
      clear cm2 ca2 cb2 cm ca cb
      have hrk : ∀ g, (Value.slice A3 k cap3).ownBlock = some g → w.heap.size ≤ g := fun g hg => (rrow_kind HO.out g hg).1
      by_cases hbn : b < 0
      · have z2 : decide (b < 0) = true := decide_eq_true hbn
        have hgb : grpAt M k = (-1, b) := by rw [HGA.out, if_pos hbn]
        have ho3 : (W2.setCell ⟨wr.heap.size, 0, none⟩ (.int .i64 (-1))).ownsRow w.heap.size TSp 2 (.slice A3 k cap3) k (spsCells (grpL M k)) := rowns_block ho2 fun g c z hg hc => by
          rw [rheap_far (fun e => hne g hg e.symm)]; exact hc
        have hB3 : Below w.heap.size w (W2.setCell ⟨wr.heap.size, 0, none⟩ (.int .i64 (-1))) := hB2.setCell (p := ⟨wr.heap.size, 0, none⟩) hq _
        have hs3 : w.heap.size ≤ (W2.setCell ⟨wr.heap.size, 0, none⟩ (.int .i64 (-1))).heap.size := hB3.size
        have HO3 := Lib.hid ho3
        have HB3 := Lib.hid hB3
        have HRK := Lib.hid hrk
        have HGB := Lib.hid hgb
        have hk6 : k ≤ 1000000 := by omega
        have hh3 := rheap_set (k := 0) hh2 (.int .i64 (-1))
        clear ho3 hB3 ho2 hB2 hb2 hne hrk hgb hbn
        go_upto_region 8 with fail
        generalize W2.setCell ⟨wr.heap.size, 0, none⟩ (.int .i64 (-1)) = W3 at *
        have f0 : W3.cell? ⟨wr.heap.size, 0, none⟩ = some (.int .i64 (-1)) := by rw [Lib.cell_of_heap hh3]; rfl
        have f1 : W3.cell? ⟨wr.heap.size, 1, none⟩ = some (.int .i64 b) := by rw [Lib.cell_of_heap hh3]; rfl
        clear hh3 hh2
        go_wp2_with (at_builtin; refine append_sp rfl _ _ rfl (-1, b) rfl rfl HO3.out hs3 hk6 ?_)
        intro v6 w6 ho6 hg6
        have hB6 : Below w.heap.size w w6 := (HB3.out.alloc HB3.out.size _).grown hg6 (HB3.out.alloc HB3.out.size _).size HRK.out
        rw [← HGB.out, ← grp_snoc] at ho6
        have HO6 := Lib.hid ho6
        have HB6 := Lib.hid hB6
        clear ho6 hB6 hg6 f0 f1 fz
        go_wp2_with fail
        go_roundg (G - (k + 1))
        case measure => omega
        case rel => exact ⟨k + 1, k4, rfl, by show k4 = 2 * (k + 1); have := hk2.out; have := HK4.out; omega, by omega, Nat.le_refl _, HB6.out, HO6.out⟩
      · have z2 : decide (b < 0) = false := decide_eq_false hbn
        have hgb : grpAt M k = (a, b) := by rw [HGA.out, if_neg hbn]
        have hs3 : w.heap.size ≤ W2.heap.size := hB2.size
        have HO3 := Lib.hid ho2
        have HB3 := Lib.hid hB2
        have HRK := Lib.hid hrk
        have HGB := Lib.hid hgb
        have hk6 : k ≤ 1000000 := by omega
        clear ho2 hB2 hh2 hb2 hne hrk hgb hbn
        go_wp2_with (at_builtin; refine append_sp rfl _ _ rfl (a, b) rfl rfl HO3.out hs3 hk6 ?_)
        intro v6 w6 ho6 hg6
        have hB6 : Below w.heap.size w w6 := (HB3.out.alloc HB3.out.size _).grown hg6 (HB3.out.alloc HB3.out.size _).size HRK.out
        rw [← HGB.out, ← grp_snoc] at ho6
        have HO6 := Lib.hid ho6
        have HB6 := Lib.hid hB6
        clear ho6 hB6 hg6 f0 f1 fz
        go_wp2_with fail
        go_roundg (G - (k + 1))
        case measure => omega
        case rel => exact ⟨k + 1, k4, rfl, by show k4 = 2 * (k + 1); have := hk2.out; have := HK4.out; omega, by omega, Nat.le_refl _, HB6.out, HO6.out⟩
    · have z1 : decide (k2 < G2) = false := decide_eq_false (by have := hk2.out; have := HG.out; omega)
      obtain rfl : k = G := by omega
      go_wp2
      go_ret
      exact ⟨_, rfl, HB.out, by rw [grp_len]; exact HO.out⟩

end Go.Proofs.YtoniccokohjenaaDoor

namespace Go.Proofs.YtoniccokohjenaaDoor
open Go.RowKit

theorem str_one (ns : List (List UInt8)) : ∀ u ∈ strCells ns, u.oneCell' = true := fun u hu => by
  unfold strCells at hu
  obtain ⟨x, _, rfl⟩ := List.mem_map.1 hu
  rfl
set_option maxHeartbeats 1000000 in
set_option maxRecDepth 100000 in
theorem mtClone_any (v : Value) (B : Nat) (ns : List (List UInt8)) (w : World) (hown : w.ownsRow B 9 1 v ns.length (strCells ns)) (hn : ns.length ≤ 100000) :
    Calls Tryd.prog 17 #[v] w fun e w' => ∃ v', e = .returned v' ∧ Below w.heap.size w w' ∧ w'.ownsRow w.heap.size 9 1 v' ns.length (strCells ns) := by
  obtain ⟨i0, hi0, hz0, hz1, hz2⟩ := info_parts infoStr
  have hal : Below w.heap.size w (w.alloc (.cells #[] 9)) := (Below.refl _ w).alloc (Nat.le_refl _) _
  have hlen := hown.1
  rcases hown.2 with ⟨rfl, h0⟩ | ⟨g, cap, cur, rfl, hB, hh, h1, h2, h3, h4⟩
  · have he : ∀ u : World, (binOp .eql 31 (.slice none 0 0) (.slice none 0 0)).run Tryd.prog u = .ok (.bool true) u := fun _ => rfl
    go_enter Tryd.func17, Tryd.ntmps17
    go_wp2
    go_ret
    exact ⟨_, rfl, Below.refl _ _, hlen, .inl ⟨rfl, h0⟩⟩
  · obtain ⟨n, hnn⟩ : ∃ n, n = ns.length := ⟨_, rfl⟩
    rw [← hnn] at h1 h4 hlen hn ⊢
    have hg := (Array.getElem?_eq_some_iff.1 hh).1
    have he : ∀ u : World, (binOp .eql 31 (.slice (some ⟨g, 0, none⟩) n cap) (.slice none 0 0)).run Tryd.prog u = .ok (.bool false) u := fun _ => rfl
    have hat : ∀ (j : Nat) (u : Value), (strCells ns)[j]? = some u → (w.alloc (.cells #[] 9)).cell? ((⟨g, 0, none⟩ : Addr).add j) = some u := fun j u hj => by
      have hadd : (⟨g, 0, none⟩ : Addr).add j = ⟨g, j, none⟩ := by unfold Addr.add; split <;> simp_all
      rw [hadd, hal.cell (p := ⟨g, j, none⟩) hg, Lib.cell_of_heap hh]
      rw [← h4, List.getElem?_take] at hj
      split at hj
      · rw [← Array.getElem?_toList]; exact hj
      · cases hj
    have hl0 : (w.alloc (.cells #[] 9)).ownsRow w.heap.size 9 1 (.slice (some ⟨w.heap.size, 0, none⟩) 0 0) 0 [] := World.ownsRow_lit w #[] 0 (Nat.le_refl _) (by unfold maxLen; omega) rfl
    have HAT := Lib.hid hat
    have HLN := Lib.hid hlen
    clear hat hlen h4 hh hown hnn
    go_enter Tryd.func17, Tryd.ntmps17
    go_wp2_with (at_builtin; refine wpList_append_own_at _ rfl _ _ 31 rfl w.heap.size 9 i0 _ 1 16 Tryd.underlying31 hi0 hz0 hz1 hz2 rfl (by decide) _ 0 [] rfl hl0 ⟨g, 0, none⟩ n cap (strCells ns) rfl HLN.out HAT.out (str_one ns) ?c1 ?c2 ?c3 ?_)
    case c1 => unfold maxLen; omega
    case c2 => omega
    case c3 => simp
    intro v' w' hown' hgrow _ _
    have hb : Below w.heap.size w w' := hal.grown hgrow hal.size (fun k hk => by have : w.heap.size = k := by simpa [Value.ownBlock] using hk
                                                                                 omega)
    have HO := Lib.hid hown'
    have HB := Lib.hid hb
    clear hown' hb hgrow
    go_wp2
    go_ret
    exact ⟨_, rfl, HB.out, HO.out⟩

end Go.Proofs.YtoniccokohjenaaDoor

namespace Go.Proofs.YtoniccokohjenaaDoor
open Go.RowKit

/-- All's answer: the matches, the groups' names, the fault -/
def allV (p t f : List UInt8) : List Mh × List (List UInt8) × Nat :=
  match readF md0 f with
  | none => ([], [], 1)
  | some m =>
    let r := parseV p m.free
    if r.2.2.2 ≠ 0 then ([], [], r.2.2.2)
    else if 20000 < sizeR r.1 ∨ 100000 < sizeR r.1 * ((explode t).length + 1) then ([], [], 10)
    else (allF m (explode t) (stepsOf r.1) r.2.1.length ((explode t).length + 1) 0 (fun _ => false), r.2.1, 0)

abbrev TMh : TypeId := 33
abbrev Zh := Mh × Value × Value
def mhCells (z : Zh) : List Value := [.int .i64 (z.1.a : Int), .int .i64 (z.1.b : Int), z.2.1, z.2.2]
def mhsCells (l : List Zh) : List Value := l.flatMap mhCells
theorem mhs_snoc (l : List Zh) (z : Zh) : mhsCells (l ++ [z]) = mhsCells l ++ mhCells z := by unfold mhsCells; simp [List.flatMap_append]
theorem infoMh : (Tryd.prog.info? TMh).map (fun i => (i.zero, i.size, i.bytes)) = some (some (.agg #[.int .i64 0, .int .i64 0, .slice none 0 0, .slice none 0 0]), 4, 64) := by kernel_rfl
/-- a match's rows -/
def MhIn (B : Nat) (W : World) (ns : List (List UInt8)) (z : Zh) : Prop := W.ownsRow B TSp 2 z.2.1 ns.length (spsCells (grpL z.1.M ns.length)) ∧ W.ownsRow B 9 1 z.2.2 ns.length (strCells ns)
theorem rowns_lower {w : World} {B B' : Nat} {E : TypeId} {size : Nat} {v : Value} {m : Nat} {xs : List Value} (h : w.ownsRow B E size v m xs) (hB : B' ≤ B) : w.ownsRow B' E size v m xs := by
  refine ⟨h.1, ?_⟩
  rcases h.2 with h2 | ⟨g, cap, cur, hv, hg, r⟩
  · exact .inl h2
  · exact .inr ⟨g, cap, cur, hv, Nat.le_trans hB hg, r⟩
/-- matches in memory -/
structure MsV (B : Nat) (W : World) (ns : List (List UInt8)) (ov : Value) (out : List Zh) : Prop where
  own : W.ownsRow B TMh 4 ov out.length (mhsCells out)
  rows : ∀ z ∈ out, MhIn B W ns z
theorem MhIn.below {B : Nat} {W W' : World} {ns : List (List UInt8)} {z : Zh} (h : MhIn B W ns z) (hb : Below W.heap.size W W') : MhIn B W' ns z := ⟨rowns_below h.1 hb, rowns_below h.2 hb⟩
theorem MsV.below {B : Nat} {W W' : World} {ns : List (List UInt8)} {ov : Value} {out : List Zh} (h : MsV B W ns ov out) (hb : Below W.heap.size W W') : MsV B W' ns ov out := ⟨rowns_below h.own hb, fun z hz => (h.rows z hz).below hb⟩
theorem MsV.nil (B : Nat) (W : World) (ns : List (List UInt8)) : MsV B W ns (.slice none 0 0) [] := ⟨⟨rfl, .inl ⟨rfl, rfl⟩⟩, fun z hz => by cases hz⟩
theorem MsV.lower {B B' : Nat} {W : World} {ns : List (List UInt8)} {ov : Value} {out : List Zh} (h : MsV B W ns ov out) (hB : B' ≤ B) : MsV B' W ns ov out := ⟨rowns_lower h.own hB, fun z hz => ⟨rowns_lower (h.rows z hz).1 hB, rowns_lower (h.rows z hz).2 hB⟩⟩
/-- All's answer in memory -/
def IsAll (r : List Mh × List (List UInt8) × Nat) (w : World) (e : Ending) (w' : World) : Prop :=
  ∃ ov out, e = .returned (.tuple #[ov, .int .i64 (r.2.2 : Int)]) ∧ Below w.heap.size w w' ∧ out.map Prod.fst = r.1 ∧ MsV w.heap.size w' r.2.1 ov out
theorem IsAll.bad {w w' : World} {ns : List (List UInt8)} {n : Nat} (hb : Below w.heap.size w w') : IsAll ([], ns, n) w (.returned (.tuple #[.slice none 0 0, .int .i64 (n : Int)])) w' := ⟨_, [], rfl, hb, rfl, .nil _ _ _⟩
/-- a row of another kind is as it was where the marks and words are written -/
theorem rowns_keep {w0 W W' : World} {L : MtL} {m : Md} {l : List Int} {zs : List (Stp × Value)} {ws : List Nat} {M : List Int} (hm : MtW w0 W L m l zs ws M) (hk : KeepR L.tb L.mb W W') {B : Nat} {E : TypeId} {size : Nat} {v : Value} {n : Nat} {xs : List Value} (h : W.ownsRow B E size v n xs) (h1 : E ≠ TU) (h2 : E ≠ 3) : W'.ownsRow B E size v n xs :=
  rowns_block h fun k c z _ hc => by
    rw [hk.2 k (Array.getElem?_eq_some_iff.1 hc).1 (fun e => ?_) (fun e => ?_)]
    · exact hc
    · subst e; rw [hm.tried] at hc; injection hc with hc; injection hc with _ hc _; exact h1 hc.symm
    · subst e; rw [hm.marks] at hc; injection hc with hc; injection hc with _ hc _; exact h2 hc.symm
theorem heap_keep {w0 W W' : World} {L : MtL} {m : Md} {l : List Int} {zs : List (Stp × Value)} {ws : List Nat} {M : List Int} (hm : MtW w0 W L m l zs ws M) (hk : KeepR L.tb L.mb W W') {k : Nat} {c : Array Value} {T : TypeId} {z : Nat × Nat} (hc : W.heap[k]? = some (.cells c T z)) (h1 : T ≠ TU) (h2 : T ≠ 3) : W'.heap[k]? = some (.cells c T z) := by
  rw [hk.2 k (Array.getElem?_eq_some_iff.1 hc).1 (fun e => ?_) (fun e => ?_)]
  · exact hc
  · subst e; rw [hm.tried] at hc; injection hc with hc; injection hc with _ hc _; exact h1 hc.symm
  · subst e; rw [hm.marks] at hc; injection hc with hc; injection hc with _ hc _; exact h2 hc.symm
/-- what stands while all matches are looked for -/
structure AlV (w0 w W : World) (L : MtL) (m : Md) (l : List Int) (zs : List (Stp × Value)) (ns : List (List UInt8)) (b8 : Nat) (nv : Value) (ws : List Nat) (M : List Int) (ov : Value) (out : List Zh) : Prop where
  start : Below w.heap.size w w0
  mt : MtW w0 W L m l zs ws M
  below : Below w.heap.size w W
  md : W.heap[b8]? = some (.cells (mdCells m).toArray TMd (0, 0))
  nms : W.ownsRow w.heap.size 9 1 nv ns.length (strCells ns)
  ms : MsV w0.heap.size W ns ov out
section
variable {w0 w W W' : World} {L : MtL} {m : Md} {l : List Int} {zs : List (Stp × Value)} {ns : List (List UInt8)} {b8 : Nat} {nv : Value} {ws : List Nat} {M : List Int} {ov : Value} {out : List Zh}
theorem AlV.call (h : AlV w0 w W L m l zs ns b8 nv ws M ov out) (hb : Below W.heap.size W W') : AlV w0 w W' L m l zs ns b8 nv ws M ov out :=
  ⟨h.start, h.mt.call hb, h.below.trans (hb.mono h.below.size), heap_call h.md hb, rowns_below h.nms hb, h.ms.below hb⟩
theorem AlV.drewN (h : AlV w0 w W L m l zs ns b8 nv ws M ov out) (n : Nat) : AlV w0 w (W.drewN n) L m l zs ns b8 nv ws M ov out := h.call ⟨rfl, rfl, rfl, Nat.le_refl _, fun _ _ => rfl⟩
/-- where marks and words alone are written -/
theorem AlV.keepR (h : AlV w0 w W L m l zs ns b8 nv ws M ov out) (hk : KeepR L.tb L.mb W W') {ws' : List Nat} {M' : List Int} (hm : MtW w0 W' L m l zs ws' M') : AlV w0 w W' L m l zs ns b8 nv ws' M' ov out :=
  ⟨h.start, hm, h.start.trans (hm.below.mono h.start.size), heap_keep h.mt hk h.md (by decide) (by decide), rowns_keep h.mt hk h.nms (by decide) (by decide),
    rowns_keep h.mt hk h.ms.own (by decide) (by decide), fun z hz => ⟨rowns_keep h.mt hk (h.ms.rows z hz).1 (by decide) (by decide), rowns_keep h.mt hk (h.ms.rows z hz).2 (by decide) (by decide)⟩⟩
theorem AlV.put_mark (h : AlV w0 w W L m l zs ns b8 nv ws M ov out) (k : Nat) (v : Int) : AlV w0 w (W.setCell ⟨L.mb, k, none⟩ (.int .i64 v)) L m l zs ns b8 nv ws (M.set k v) ov out :=
  h.keepR ⟨by simp [World.setCell], fun j _ _ h1 => rheap_far (fun e => h1 e.symm)⟩ (h.mt.put_mark k v)
end
/-- where a match is laid behind, other kinds of blocks stay -/
theorem MsV.others {B : Nat} {W W' : World} {ns : List (List UInt8)} {v : Value} {out : List Zh} (h : MsV B W ns v out) {z : Zh} (hg : (W.alloc (.cells (mhCells z).toArray TMh)).grownBy W' v.ownBlock) {k : Nat} {c : Array Value} {T : TypeId} {zz : Nat × Nat} (hk : W.heap[k]? = some (.cells c T zz)) (hT : T ≠ TMh) : W'.heap[k]? = some (.cells c T zz) := by
  have ha : Below W.heap.size W (W.alloc (.cells (mhCells z).toArray TMh)) := (Below.refl _ W).alloc (Nat.le_refl _) _
  have hl := (Array.getElem?_eq_some_iff.1 hk).1
  rw [hg.block k (Nat.lt_of_lt_of_le hl ha.size) (fun e => ?_)]
  · exact heap_call hk ha
  · obtain ⟨_, _, c', z', hc⟩ := rrow_kind h.own k e.symm
    rw [hk] at hc; injection hc with hc; injection hc with _ hc _; exact hT hc
theorem rowns_one {w : World} {B : Nat} {E : TypeId} {size : Nat} {v : Value} {m : Nat} {xs : List Value} (h : w.ownsRow B E size v m xs) : v.oneCell' = true := by
  obtain ⟨A, cap, rfl⟩ := rowns_slice h; rfl
theorem append_mh {ops : Array Oper} {rest : List Oper} {o : Oper} {a : Act} {Q : Exit → Act → World → Prop} {W : World} (hgd : o.guard = none) (s x : Operand)
    (ho : o.op = .call { callee := .builtin .append, args := #[s, x], argTypes := #[26, 26] })
    {B : Nat} {v : Value} {ns : List (List UInt8)} {out : List Zh} (z : Zh) (hs : a.eval s = v) (hx : a.eval x = .slice (some ⟨W.heap.size, 0, none⟩) 1 1) (h : MsV B W ns v out) (hz : MhIn B W ns z) (hB : B ≤ W.heap.size) (hn : out.length ≤ 1000000)
    (hQ : ∀ v' w', MsV B w' ns v' (out ++ [z]) → (W.alloc (.cells (mhCells z).toArray TMh)).grownBy w' v.ownBlock → wpList Tryd.prog ops Q rest (a.put o.dst v') w') :
    wpList Tryd.prog ops Q (o :: rest) a (W.alloc (.cells (mhCells z).toArray TMh)) := by
  obtain ⟨i0, hi, hz0, hz1, hz2⟩ := info_parts infoMh
  have hone : ∀ u ∈ mhCells z, u.oneCell' = true := fun u hu => by
    simp only [mhCells, List.mem_cons, List.not_mem_nil, or_false] at hu
    rcases hu with rfl | rfl | rfl | rfl
    · rfl
    · rfl
    · exact rowns_one hz.1
    · exact rowns_one hz.2
  refine wpList_append_own_at _ hgd s x _ ho B TMh i0 _ 4 64 Tryd.underlying26 hi hz0 hz1 hz2 rfl (by decide) v out.length (mhsCells out) hs (rowns_below h.own ((Below.refl _ W).alloc (Nat.le_refl _) _)) ⟨W.heap.size, 0, none⟩ 1 1 (mhCells z) hx rfl (news10 W _ _) hone (by unfold maxLen; omega) (by omega) (by simp; omega) ?_
  intro v' w' hown hg _ _
  refine hQ v' w' ⟨by rw [List.length_append, List.length_singleton, mhs_snoc]; exact hown, fun y hy => ?_⟩ hg
  have hy' : MhIn B W ns y := by
    rcases List.mem_append.1 hy with hy | hy
    · exact h.rows y hy
    · obtain rfl := List.mem_singleton.1 hy; exact hz
  exact ⟨rowns_block hy'.1 fun k c zz _ hc => h.others hg hc (by decide), rowns_block hy'.2 fun k c zz _ hc => h.others hg hc (by decide)⟩
theorem AlV.push {w0 w W W' : World} {L : MtL} {m : Md} {l : List Int} {zs : List (Stp × Value)} {ns : List (List UInt8)} {b8 : Nat} {nv : Value} {ws : List Nat} {M : List Int} {ov v' : Value} {out : List Zh} {z : Zh} (h : AlV w0 w W L m l zs ns b8 nv ws M ov out) (hms : MsV w0.heap.size W' ns v' (out ++ [z])) (hg : (W.alloc (.cells (mhCells z).toArray TMh)).grownBy W' ov.ownBlock) : AlV w0 w W' L m l zs ns b8 nv ws M v' (out ++ [z]) := by
  have ha : Below W.heap.size W (W.alloc (.cells (mhCells z).toArray TMh)) := (Below.refl _ W).alloc (Nat.le_refl _) _
  have hk := rrow_kind h.ms.own
  have hb : Below w.heap.size w W' := (h.below.alloc h.below.size _).grown hg (h.below.alloc h.below.size _).size (fun j hj => Nat.le_trans h.start.size (hk j hj).1)
  obtain ⟨cs, h1, h2⟩ := h.mt.stp
  have hb0 : Below w0.heap.size w0 W' := (h.mt.below.alloc h.mt.below.size _).grown hg (h.mt.below.alloc h.mt.below.size _).size (fun j hj => (hk j hj).1)
  exact ⟨h.start, ⟨hb0, h.mt.log, h.mt.los, h.mt.lot, h.mt.lom, h.ms.others hg h.mt.heap (by decide), ⟨cs, h.ms.others hg h1 (by decide), h2⟩, h.ms.others hg h.mt.tried (by decide), h.ms.others hg h.mt.marks (by decide), h.mt.sgn, h.mt.pts, h.mt.len, h.mt.form, h.mt.wds⟩, hb, h.ms.others hg h.md (by decide), rowns_block h.nms fun k c zz _ hc => h.ms.others hg hc (by decide), hms⟩

/-- what was tried is forgotten -/
theorem MtW.clears {w0 : World} {L : MtL} {m : Md} {l : List Int} {zs : List (Stp × Value)} {M : List Int} : ∀ (n o : Nat) (W : World) (ws : List Nat), MtW w0 W L m l zs ws M → o + n = ws.length →
    MtW w0 (W.setCells L.tb o (List.replicate n (.int .u64 0))) L m l zs (ws.take o ++ List.replicate n 0) M ∧ KeepR L.tb L.mb W (W.setCells L.tb o (List.replicate n (.int .u64 0)))
  | 0, o, W, ws, h, ho => by
    have e : ws.take o ++ List.replicate 0 0 = ws := by rw [List.replicate_zero, List.append_nil, List.take_of_length_le (by omega)]
    rw [e]; exact ⟨h, .refl _ _ _⟩
  | n + 1, o, W, ws, h, ho => by
    have h1 : MtW w0 (W.setCell ⟨L.tb, o, none⟩ (.int .u64 0)) L m l zs (ws.set o 0) M := by
      obtain ⟨cs, h1, h2⟩ := h.stp
      obtain ⟨d1, d2, d3, d4, d5⟩ := h.dist
      refine ⟨h.below.setCell (p := ⟨L.tb, o, none⟩) h.lot _, h.log, h.los, h.lot, h.lom, ?_, ⟨cs, ?_, h2⟩, ?_, ?_, h.sgn, h.pts, h.len, h.form, fun v hv => ?_⟩
      · rw [rheap_far (fun e => d1 e.symm), List.length_set]; exact h.heap
      · rw [rheap_far (fun e => d3 e.symm)]; exact h1
      · have := rheap_set (k := o) h.tried (.int .u64 0)
        rw [List.setIfInBounds_toArray] at this
        unfold wdCells
        rw [List.map_set]
        exact this
      · rw [rheap_far (fun e => d5 e)]; exact h.marks
      · rcases List.mem_or_eq_of_mem_set hv with hv | rfl
        · exact h.wds v hv
        · decide
    have h2 := MtW.clears n (o + 1) _ _ h1 (by rw [List.length_set]; omega)
    have e : (ws.set o 0).take (o + 1) ++ List.replicate n 0 = ws.take o ++ List.replicate (n + 1) 0 := by
      rw [List.take_succ_eq_append_getElem (by rw [List.length_set]; omega), List.take_set_of_le (by omega)]
      simp [List.replicate_succ]
    rw [e] at h2
    refine ⟨h2.1, KeepR.trans (b := W.setCell ⟨L.tb, o, none⟩ (.int .u64 0)) ⟨by simp [World.setCell], fun j _ h1 _ => rheap_far (fun e => h1 e.symm)⟩ h2.2⟩
theorem infoI : (Tryd.prog.info? 3).map (fun i => (i.zero, i.size, i.bytes)) = some (some (.int .i64 0), 1, 8) := by kernel_rfl
theorem infoU : (Tryd.prog.info? TU).map (fun i => (i.zero, i.size, i.bytes)) = some (some (.int .u64 0), 1, 8) := by kernel_rfl
theorem make_int (n : Nat) (hc : n ≤ 1000000) (u : World) : (Instr.makeSlice 24 (.int .i64 (n : Int)) (.int .i64 (n : Int))).run Tryd.prog u = .ok (.slice (some ⟨u.heap.size, 0, none⟩) n n) (u.alloc (.cells (madeCells #[.int .i64 0] n) 3)) := by
  obtain ⟨i0, hi, hz0, hz1, hz2⟩ := info_parts infoI
  have h := run_make (P := Tryd.prog) u 24 3 i0 (.int .i64 0) Tryd.underlying24 hi hz0 .i64 .i64 (n : Int) (n : Int) (by omega) (by omega) (by rw [hz2]; omega) (by omega)
  simpa [hz1, Value.cells] using h
theorem make_u64 (n : Nat) (hc : n ≤ 1000000) (u : World) : (Instr.makeSlice 57 (.int .i64 (n : Int)) (.int .i64 (n : Int))).run Tryd.prog u = .ok (.slice (some ⟨u.heap.size, 0, none⟩) n n) (u.alloc (.cells (madeCells #[.int .u64 0] n) TU)) := by
  obtain ⟨i0, hi, hz0, hz1, hz2⟩ := info_parts infoU
  have h := run_make (P := Tryd.prog) u 57 TU i0 (.int .u64 0) Tryd.underlying57 hi hz0 .i64 .i64 (n : Int) (n : Int) (by omega) (by omega) (by rw [hz2]; omega) (by omega)
  simpa [hz1, Value.cells] using h
theorem zeroU (u : World) : (zeroValue TU).run Tryd.prog u = .ok (.int .u64 0) u := by kernel_rfl
theorem made_rep (v : Value) (n : Nat) : madeCells #[v] n = (List.replicate n v).toArray := by
  apply Array.ext'
  apply List.ext_getElem
  · simp [madeCells]
  · intro i h1 h2
    simp [madeCells, Nat.mod_one]

/-- a run from a place, as the machine has it -/
theorem run_at {m : Md} {l : List Int} {P : List Stp} {G i : Nat} {T : Nat → Bool} (hw : WfP P) (hp : 0 < P.length) (hi : i ≤ l.length) :
    runF m l P (mu P l none [.way 0 i] T) none [.way 0 i] (List.replicate (2 * G) (-1)) T =
      match runAt m l P G i T with | (some (e, M), T') => (some e, M, T') | (none, T') => (none, List.replicate (2 * G) (-1), T') := by
  have hm : mu P l none [.way 0 i] T = mu P l (some (0, i)) [] T + 1 := by unfold mu; simp
  rw [hm, runF, run_dfs hw (P.length * (l.length + 1) + 1) 0 i [] _ T (by have := untr_le (P.length * (l.length + 1)) T; omega) hp hi (fun f hf => by cases hf)]
  unfold After runAt
  generalize dfs m l P (P.length * (l.length + 1) + 1) 0 i (List.replicate (2 * G) (-1)) T = r
  obtain ⟨r, T'⟩ := r
  cases r with
  | some r => rfl
  | none =>
    simp only
    have : mu P l none [] T' = 3 * untr (P.length * (l.length + 1)) T' + 0 + 1 := rfl
    rw [this, runF]

end Go.Proofs.YtoniccokohjenaaDoor
