/-
  The walk of utf's Encode.
-/
import Derived.Test.YtoniccokohjenaaDoorUtfF
namespace Go.Proofs.YtoniccokohjenaaDoor
open Go.RowKit

theorem ptBytes_cells (p : Int) (h : isPt p = true) : Lib.byteCells (enc p) = (ptBytes p).map (Value.int .u8) := by
  unfold Lib.byteCells enc
  rw [List.map_map]
  refine List.map_congr_left fun x hx => ?_
  have := ptBytes_byte p h x hx
  simp only [Function.comp, UInt8.toNat_ofNat']
  rw [Nat.mod_eq_of_lt (by omega)]
  congr 1
  omega

theorem and63 (x : Int) (h0 : 0 ≤ x) (h1 : x ≤ 1114111) : bits BinOp.and IntKind.i64 x 63 = x % 64 := by
  obtain ⟨n, rfl⟩ := Int.eq_ofNat_of_zero_le h0
  show IntKind.i64.wrap ((BitVec.ofInt 64 (n : Int) &&& BitVec.ofInt 64 (63 : Int)).toNat : Int) = _
  have e1 : (BitVec.ofInt 64 (n : Int)).toNat = n := by rw [BitVec.ofInt_natCast, BitVec.toNat_ofNat]; exact Nat.mod_eq_of_lt (by omega)
  have e2 : (BitVec.ofInt 64 (63 : Int)).toNat = 2 ^ 6 - 1 := by decide
  rw [BitVec.toNat_and, e1, e2, Nat.and_two_pow_sub_one_eq_mod, IntWalk.i64_in _ (by omega)]
  omega
theorem or128 (y : Int) (h0 : 0 ≤ y) (h1 : y < 64) : bits BinOp.or IntKind.u8 128 y = 128 + y := by
  obtain ⟨n, rfl⟩ := Int.eq_ofNat_of_zero_le h0
  have h : ∀ m : Fin 64, bits BinOp.or IntKind.u8 128 ((m.val : Nat) : Int) = 128 + ((m.val : Nat) : Int) := by decide
  exact h ⟨n, by omega⟩
theorem more_bits (x : Int) (h0 : 0 ≤ x) (h1 : x ≤ 1114111) : bits BinOp.or IntKind.u8 128 (bits BinOp.and IntKind.i64 x 63 % 256) = 128 + x % 64 := by
  rw [and63 x h0 h1, show x % 64 % 256 = x % 64 by omega, or128 _ (by omega) (by omega)]

theorem or0 (y : Int) (h0 : 0 ≤ y) (h1 : y < 128) : bits BinOp.or IntKind.u8 0 y = y := by
  obtain ⟨n, rfl⟩ := Int.eq_ofNat_of_zero_le h0
  have h : ∀ m : Fin 128, bits BinOp.or IntKind.u8 0 ((m.val : Nat) : Int) = ((m.val : Nat) : Int) := by decide
  exact h ⟨n, by omega⟩
theorem own_lit (w : World) (base g : Nat) (e : TypeId) (x : Value) (hg : g = w.heap.size) (hB : base ≤ g) : (w.alloc (.cells #[x] e)).ownsRow base e 1 (.slice (some ⟨g, 0, none⟩) 1 1) 1 [x] := by
  subst hg
  exact ⟨rfl, .inr ⟨w.heap.size, 1, #[x], rfl, hB, heap_alloc_new w _, Nat.le_refl _, by unfold maxLen; omega, rfl, rfl⟩⟩
theorem own_drew {w : World} {base : Nat} {e : TypeId} {size : Nat} {v : Value} {n : Nat} {xs : List Value} (h : w.ownsRow base e size v n xs) : w.drew.ownsRow base e size v n xs := h


end Go.Proofs.YtoniccokohjenaaDoor
