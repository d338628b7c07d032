/-
  Plain Lean and walks: WriteByte, and quote's small writers (chapter 5): short, unit.
-/
import Derived.Test.YtojapomkmfbciaaDoorQuoM
import Derived.Test.YtojapomkmfbciaaDoorUtfP
import Derived.Handy
namespace Go.Proofs.YtojapomkmfbciaaDoor
open Go.RowKit

/-- the letter behind a backslash, 0: there is none -/
def shortP (p : Nat) : Nat := if p = 34 ∨ p = 92 then p else if p = 8 then 98 else if p = 9 then 116 else if p = 10 then 110 else if p = 12 then 102 else if p = 13 then 114 else 0
/-- a hexadecimal digit -/
def hexD (d : Nat) : UInt8 := UInt8.ofNat (if d < 10 then 48 + d else 87 + d)
def unitL (h : Nat) : List UInt8 := [92, 117, hexD (h / 4096 % 16), hexD (h / 256 % 16), hexD (h / 16 % 16), hexD (h % 16)]
/-- how a code point is written -/
def writeP (all : Bool) (p : Nat) : List UInt8 :=
  if shortP p ≠ 0 then [92, UInt8.ofNat (shortP p)]
  else if p < 32 ∨ p = 127 ∨ (all = true ∧ 127 < p ∧ p < 65536) then unitL p
  else if all = true ∧ 65536 ≤ p then unitL (55296 + (p - 65536) / 1024) ++ unitL (56320 + (p - 65536) % 1024)
  else enc (p : Int)
/-- how a text is written -/
def bodyP (all : Bool) (l : List Int) : List UInt8 := l.flatMap fun p => writeP all p.toNat
def writtenP (all : Bool) (l : List UInt8) : List UInt8 := 34 :: (bodyP all (explode l) ++ [34])

set_option maxHeartbeats 4000000 in
set_option maxRecDepth 100000 in
/-- WriteByte. -/
theorem bld_writeByte (B b : Nat) (bs : List Value) (c : Int) (w : World) (h : Lib.IsBuilderF 57 5 B b bs w) (hlen : bs.length + 1 ≤ 140737488355328) (hBw : B ≤ w.heap.size) :
    Calls Tryd.prog 37 #[.pointer (some ⟨b, 0, none⟩), .int .u8 c] w fun e w' => e = .returned .nilIface ∧
      (Lib.BuilderAtF 57 5 B b (.pointer (some ⟨b, 0, none⟩)) (bs ++ [.int .u8 c]) w' ∧ Below B w w' ∧ Lib.OthersKept 5 (some b) w w') := by
  obtain ⟨i0, hi, hz0, hz1, hz2⟩ := info_parts infoByte
  go_enter Tryd.func37, Tryd.ntmps37
  go_wp2_with (go_at_call 43; refine (bld_check B b bs _ h).mono ?_)
  rintro e w1 ⟨rfl, h1, hb1, hk1⟩
  obtain ⟨hB, v, hbk, hown, hne⟩ := h1
  have c0 : w1.cell? ⟨b, 0, none⟩ = some (.pointer (some ⟨b, 0, none⟩)) := by rw [Lib.cell_of_heap hbk]; rfl
  have c1 : w1.cell? ⟨b, 1, none⟩ = some v := by rw [Lib.cell_of_heap hbk]; rfl
  go_wp2_with (at_builtin; refine wpList_append_ownF _ rfl _ _ 26 rfl B 5 i0 (.int .u8 0) 1 1 Tryd.underlying26 hi hz0 hz1 hz2 rfl (by decide) _ _ _ rfl (hown.alloc _) ⟨w1.heap.size, 0, none⟩ 1 1 [.int .u8 c] rfl rfl ?c1 ?c2 ?c3 ?c4 ?c5 ?_)
  case c1 =>
    intro j u hj
    match j, hj with
    | 0, hj => simp at hj; subst hj; simp [Addr.add]
  case c2 => intro u hu; simp at hu; subst hu; rfl
  case c3 => unfold maxLen; omega
  case c4 => omega
  case c5 => have := hb1.size; simp; omega
  intro v' w2 hown' hgrow _
  have hlt : b < w1.heap.size := by
    rcases Nat.lt_or_ge b w1.heap.size with h' | h'
    · exact h'
    · simp [Array.getElem?_eq_none h'] at hbk
  have hb2 : w2.heap[b]? = some (.cells #[.pointer (some ⟨b, 0, none⟩), v] 57 (0, 0)) := by
    rw [hgrow.block b (by simp; omega) (fun e => hne e.symm), Lib.alloc_old w1 _ b hlt]
    exact hbk
  have d0 : w2.cell? ⟨b, 0, none⟩ = some (.pointer (some ⟨b, 0, none⟩)) := by rw [Lib.cell_of_heap hb2]; rfl
  have d1 : w2.cell? ⟨b, 1, none⟩ = some v := by rw [Lib.cell_of_heap hb2]; rfl
  have f1 : w2.frozen? ⟨b, 1, none⟩ = false := Lib.frozen_of_heap hb2 1
  obtain ⟨g, cap, rfl⟩ : ∃ g cap, v' = .slice (some ⟨g, 0, none⟩) (bs.length + 1) cap := by
    rcases hown'.2 with ⟨_, h0⟩ | ⟨g, cap, cur, fz, hv, _⟩
    · omega
    · exact ⟨g, cap, hv⟩
  go_wp2
  go_ret
  refine ⟨rfl, ?_, ?_, ((hk1.alloc _).grown hgrow (Lib.ownsRowF_kind (hown.alloc _))).setCell ⟨b, 1, none⟩ rfl _⟩
  · exact Lib.BuilderAtF.put (T := 57) (e := 5) hB hb2 (bs' := bs ++ [.int .u8 c]) (by simpa using hown') (by decide)
  · exact ((hb1.alloc (by have := hb1.size; omega) _).grown hgrow (by have := hb1.size; simp; omega) (fun k hk => (hown.lt k hk).1)).setCell (p := ⟨b, 1, none⟩) hB _

set_option maxHeartbeats 1000000 in
theorem quoShort_any (p : Nat) (hp : p ≤ 1114111) (w : World) :
    Calls Tryd.prog 38 #[.int .i64 p] w fun e w' => e = .returned (.int .u8 (shortP p : Nat)) ∧ w = w' := by
  by_cases q0 : p = 34
  · subst q0
    go_enter Tryd.func38, Tryd.ntmps38
    go_wp2
    go_ret
    exact ⟨rfl, rfl⟩
  by_cases q1 : p = 92
  · subst q1
    go_enter Tryd.func38, Tryd.ntmps38
    go_wp2
    go_ret
    exact ⟨rfl, rfl⟩
  by_cases q2 : p = 8
  · subst q2
    go_enter Tryd.func38, Tryd.ntmps38
    go_wp2
    go_ret
    exact ⟨rfl, rfl⟩
  by_cases q3 : p = 9
  · subst q3
    go_enter Tryd.func38, Tryd.ntmps38
    go_wp2
    go_ret
    exact ⟨rfl, rfl⟩
  by_cases q4 : p = 10
  · subst q4
    go_enter Tryd.func38, Tryd.ntmps38
    go_wp2
    go_ret
    exact ⟨rfl, rfl⟩
  by_cases q5 : p = 12
  · subst q5
    go_enter Tryd.func38, Tryd.ntmps38
    go_wp2
    go_ret
    exact ⟨rfl, rfl⟩
  by_cases q6 : p = 13
  · subst q6
    go_enter Tryd.func38, Tryd.ntmps38
    go_wp2
    go_ret
    exact ⟨rfl, rfl⟩
  have hv : shortP p = 0 := by unfold shortP; rw [if_neg (by omega), if_neg q2, if_neg q3, if_neg q4, if_neg q5, if_neg q6]
  rw [hv]
  have d0 : ((p : Int) == 34) = false := by simp; omega
  have d1 : ((p : Int) == 92) = false := by simp; omega
  have d2 : ((p : Int) == 8) = false := by simp; omega
  have d3 : ((p : Int) == 9) = false := by simp; omega
  have d4 : ((p : Int) == 10) = false := by simp; omega
  have d5 : ((p : Int) == 12) = false := by simp; omega
  have d6 : ((p : Int) == 13) = false := by simp; omega
  clear hv q0 q1 q2 q3 q4 q5 q6
  go_enter Tryd.func38, Tryd.ntmps38
  go_wp2
  go_ret
  exact ⟨rfl, rfl⟩

theorem and15 (a : Nat) (ha : a < 9223372036854775808) : bits BinOp.and IntKind.i64 (a : Int) 15 = ((a % 16 : Nat) : Int) := by
  show IntKind.i64.wrap ((BitVec.ofInt 64 (a : Int) &&& BitVec.ofInt 64 ((15 : Nat) : Int)).toNat : Int) = _
  rw [BitVec.toNat_and, BitVec.ofInt_natCast, BitVec.ofInt_natCast, BitVec.toNat_ofNat, BitVec.toNat_ofNat, Nat.mod_eq_of_lt (by omega), Nat.mod_eq_of_lt (a := 15) (by decide), show (15 : Nat) = 2 ^ 4 - 1 from rfl, Nat.and_two_pow_sub_one_eq_mod]
  exact IntWalk.i64_in _ (by omega)
theorem hexD_at : ∀ d : Fin 16, ((⟨#[48, 49, 50, 51, 52, 53, 54, 55, 56, 57, 97, 98, 99, 100, 101, 102]⟩ : ByteArray).get! d.val) = hexD d.val := by decide +kernel
theorem hex_cell (d : Nat) (hd : d < 16) : ∀ (h : d < (⟨#[48, 49, 50, 51, 52, 53, 54, 55, 56, 57, 97, 98, 99, 100, 101, 102]⟩ : ByteArray).size), (⟨#[48, 49, 50, 51, 52, 53, 54, 55, 56, 57, 97, 98, 99, 100, 101, 102]⟩ : ByteArray)[d] = hexD d := fun h => by
  have := hexD_at ⟨d, hd⟩
  rw [← this]
  show _ = (#[48, 49, 50, 51, 52, 53, 54, 55, 56, 57, 97, 98, 99, 100, 101, 102] : Array UInt8)[d]!
  rw [getElem!_pos _ d (by simpa using hd)]
  rfl

set_option maxHeartbeats 4000000 in
set_option maxRecDepth 100000 in
theorem quoUnit_any (B b : Nat) (acc : List UInt8) (h : Nat) (hh : h ≤ 65535) (w : World) (hI : Lib.IsBuilderF 57 5 B b (Lib.byteCells acc) w) (hlen : acc.length ≤ 140737488300000) (hBw : B ≤ w.heap.size) :
    Calls Tryd.prog 39 #[.pointer (some ⟨b, 0, none⟩), .int .i64 h] w fun e w' => e = .returned (.tuple #[]) ∧
      (Lib.IsBuilderF 57 5 B b (Lib.byteCells (acc ++ unitL h)) w' ∧ Below B w w' ∧ Lib.OthersKept 5 (some b) w w') := by
  have HI := Lib.hid hI
  clear hI
  go_enter Tryd.func39, Tryd.ntmps39
  go_wp2_with (go_at_call 51; refine (bld_writeString B b _ _ _ HI.out (by rw [Lib.byteCells_length]; simp [ByteArray.size]; omega) hBw).mono ?_)
  rintro e w1 ⟨rfl, h1, b1, k1⟩
  go_wp2
  go_loopw [4] (fun a wr => ∃ j : Nat, j ≤ 4 ∧ a = .int .i64 (12 - 4 * (j : Int)) ∧ Lib.IsBuilderF 57 5 B b (Lib.byteCells (acc ++ (unitL h).take (2 + j))) wr ∧ Below B w wr ∧ Lib.OthersKept 5 (some b) w wr) (fun a _ => (4 + intOf a).toNat)
  case atStart => exact ⟨0, by omega, rfl, by rw [Lib.byteCells_append]; exact .inr h1, b1, k1⟩
  case round =>
    obtain ⟨j, hj, rfl, hI1, hb1, hk1⟩ := hrel
    have HI1 := Lib.hid hI1
    clear hI1
    obtain rfl | rfl | rfl | rfl | rfl : j = 0 ∨ j = 1 ∨ j = 2 ∨ j = 3 ∨ j = 4 := by omega
    · have e0 : bits BinOp.and IntKind.i64 ((h : Int) / 4096) 15 = ((h / 4096 % 16 : Nat) : Int) := and15 (h / 4096) (by omega)
      have hd : h / 4096 % 16 < 16 := Nat.mod_lt _ (by decide)
      have hu : (unitL h).take (2 + 1) = (unitL h).take (2 + 0) ++ [hexD (h / 4096 % 16)] := rfl
      have HU := Lib.hid hu
      clear hu
      generalize h / 4096 % 16 = d at e0 hd HU
      have hdI : (d : Int) < 16 := by omega
      have hc := hex_cell d hd
      have HC := Lib.hid hc
      clear hc
      simp only [show (12 - 4 * (((0 : Nat)) : Int)) = 12 from rfl]
      go_wp2_with (go_at_call 37; refine (bld_writeByte B b _ _ _ HI1.out (by rw [Lib.byteCells_length, List.length_append, List.length_take]; omega) (Nat.le_trans hBw (Nat.le_trans (Nat.le_refl _) (by have := hb1.size; omega)))).mono ?_)
      rintro e w2 ⟨rfl, h2, b2, k2⟩
      rw [HC.out] at h2
      go_wp2
      go_roundw
      case rel => exact ⟨1, by omega, rfl, by rw [HU.out, ← List.append_assoc, Lib.byteCells_append]; exact .inr h2, hb1.trans b2, hk1.trans k2⟩
      case measure => simp [intOf]
    · have e0 : bits BinOp.and IntKind.i64 ((h : Int) / 256) 15 = ((h / 256 % 16 : Nat) : Int) := and15 (h / 256) (by omega)
      have hd : h / 256 % 16 < 16 := Nat.mod_lt _ (by decide)
      have hu : (unitL h).take (2 + 2) = (unitL h).take (2 + 1) ++ [hexD (h / 256 % 16)] := rfl
      have HU := Lib.hid hu
      clear hu
      generalize h / 256 % 16 = d at e0 hd HU
      have hdI : (d : Int) < 16 := by omega
      have hc := hex_cell d hd
      have HC := Lib.hid hc
      clear hc
      simp only [show (12 - 4 * (((1 : Nat)) : Int)) = 8 from rfl]
      go_wp2_with (go_at_call 37; refine (bld_writeByte B b _ _ _ HI1.out (by rw [Lib.byteCells_length, List.length_append, List.length_take]; omega) (Nat.le_trans hBw (Nat.le_trans (Nat.le_refl _) (by have := hb1.size; omega)))).mono ?_)
      rintro e w2 ⟨rfl, h2, b2, k2⟩
      rw [HC.out] at h2
      go_wp2
      go_roundw
      case rel => exact ⟨2, by omega, rfl, by rw [HU.out, ← List.append_assoc, Lib.byteCells_append]; exact .inr h2, hb1.trans b2, hk1.trans k2⟩
      case measure => simp [intOf]
    · have e0 : bits BinOp.and IntKind.i64 ((h : Int) / 16) 15 = ((h / 16 % 16 : Nat) : Int) := and15 (h / 16) (by omega)
      have hd : h / 16 % 16 < 16 := Nat.mod_lt _ (by decide)
      have hu : (unitL h).take (2 + 3) = (unitL h).take (2 + 2) ++ [hexD (h / 16 % 16)] := rfl
      have HU := Lib.hid hu
      clear hu
      generalize h / 16 % 16 = d at e0 hd HU
      have hdI : (d : Int) < 16 := by omega
      have hc := hex_cell d hd
      have HC := Lib.hid hc
      clear hc
      simp only [show (12 - 4 * (((2 : Nat)) : Int)) = 4 from rfl]
      go_wp2_with (go_at_call 37; refine (bld_writeByte B b _ _ _ HI1.out (by rw [Lib.byteCells_length, List.length_append, List.length_take]; omega) (Nat.le_trans hBw (Nat.le_trans (Nat.le_refl _) (by have := hb1.size; omega)))).mono ?_)
      rintro e w2 ⟨rfl, h2, b2, k2⟩
      rw [HC.out] at h2
      go_wp2
      go_roundw
      case rel => exact ⟨3, by omega, rfl, by rw [HU.out, ← List.append_assoc, Lib.byteCells_append]; exact .inr h2, hb1.trans b2, hk1.trans k2⟩
      case measure => simp [intOf]
    · have e0 : bits BinOp.and IntKind.i64 ((h : Int)) 15 = ((h % 16 : Nat) : Int) := and15 (h) (by omega)
      have hd : h % 16 < 16 := Nat.mod_lt _ (by decide)
      have hu : (unitL h).take (2 + 4) = (unitL h).take (2 + 3) ++ [hexD (h % 16)] := rfl
      have HU := Lib.hid hu
      clear hu
      generalize h % 16 = d at e0 hd HU
      have hdI : (d : Int) < 16 := by omega
      have hc := hex_cell d hd
      have HC := Lib.hid hc
      clear hc
      simp only [show (12 - 4 * (((3 : Nat)) : Int)) = 0 from rfl]
      go_wp2_with (go_at_call 37; refine (bld_writeByte B b _ _ _ HI1.out (by rw [Lib.byteCells_length, List.length_append, List.length_take]; omega) (Nat.le_trans hBw (Nat.le_trans (Nat.le_refl _) (by have := hb1.size; omega)))).mono ?_)
      rintro e w2 ⟨rfl, h2, b2, k2⟩
      rw [HC.out] at h2
      go_wp2
      go_roundw
      case rel => exact ⟨4, by omega, rfl, by rw [HU.out, ← List.append_assoc, Lib.byteCells_append]; exact .inr h2, hb1.trans b2, hk1.trans k2⟩
      case measure => simp [intOf]
    · simp only [show (12 - 4 * (((4 : Nat)) : Int)) = -4 from rfl]
      go_wp2
      go_end0
      exact ⟨rfl, HI1.out, hb1, hk1⟩

end Go.Proofs.YtojapomkmfbciaaDoor
