/-
  The walks of the reference's All, Clean, Implode, within, Slice.
-/
import Derived.Test.YtoniccokohjenaaDoorUtfE
import Derived.Laws.IdiomStrings
namespace Go.Proofs.YtoniccokohjenaaDoor
open Go.RowKit

/-- the slice of n numbers at A reads as l in w -/
def RdI (w : World) (A : Option Addr) (n : Nat) (l : List Int) : Prop :=
  l.length = n ∧ (0 < n → ∃ b off, A = some ⟨b, off, none⟩ ∧ b < w.heap.size ∧ ∀ i, i < n → w.cell? ⟨b, off + i, none⟩ = some (.int .i64 (l.getD i 0)))

theorem RdI.below {w w' : World} {A : Option Addr} {n : Nat} {l : List Int} (h : RdI w A n l) (hb : Below w.heap.size w w') : RdI w' A n l := by
  refine ⟨h.1, fun hn => ?_⟩
  obtain ⟨b, off, e, hlt, hc⟩ := h.2 hn
  exact ⟨b, off, e, Nat.lt_of_lt_of_le hlt hb.size, fun i hi => (hb.cell (p := ⟨b, off + i, none⟩) hlt).trans (hc i hi)⟩

theorem OwnInts.rd {base : Nat} {w : World} {v : Value} {l : List Int} (h : OwnInts base w v l) : ∃ A cap, v = .slice A l.length cap ∧ l.length ≤ cap ∧ RdI w A l.length l := by
  unfold OwnInts at h
  rcases h.2 with ⟨hv, h0⟩ | ⟨g, cap, cur, hv, hg, hh, hnc, _⟩
  · exact ⟨none, 0, by rw [hv, h0], by omega, rfl, fun hn => by omega⟩
  · refine ⟨_, cap, hv, hnc, rfl, fun _ => ⟨g, 0, rfl, (Array.getElem?_eq_some_iff.1 hh).1, fun i hi => ?_⟩⟩
    have := h.cells (g := g) (by rw [hv]; rfl) i (.int .i64 (l.getD i 0)) (by simp [ints, List.getElem?_eq_getElem hi])
    have hadd : (⟨g, 0, none⟩ : Addr).add i = ⟨g, 0 + i, none⟩ := by unfold Addr.add; split <;> simp_all
    rw [hadd] at this
    exact this

/-- a row of bytes of the call's own, made a string -/
theorem conv_own {P : Program} {w : World} {base : Nat} {e src dst : TypeId} {v : Value} {l : List UInt8} (h : w.ownsRow base e 1 v l.length (Lib.byteCells l)) (hs : P.underlying src = some (.slice e)) (he : P.underlying e = some (.int .u8)) (hd : P.underlying dst = some .string) :
    (convert src dst v).run P w = .ok (.string ⟨l.toArray⟩) w := by
  rcases h.2 with ⟨hv, h0⟩ | ⟨g, cap, cur, hv, hg, hh, hnc, _⟩
  · have : l = [] := List.eq_nil_of_length_eq_zero h0
    subst this
    rw [hv, run_convert_bytes_nil w src e hs he 0 0 dst hd]
    rfl
  · subst hv
    exact run_convert_bytes_back w src dst e ⟨g, 0, none⟩ cap l hs he hd (fun j hj => h.cells (g := g) rfl j _ (by simp [Lib.byteCells, List.getElem?_eq_getElem hj]))

theorem allB_snoc (l : List Int) (k : Nat) (h : k < l.length) : allB (l.take (k + 1)) = allB (l.take k) ++ enc (l.getD k 0) := by
  unfold allB
  rw [List.take_add_one, List.flatMap_append, List.getElem?_eq_getElem h]
  simp [List.getD, List.getElem?_eq_getElem h]
theorem allB_len (l : List Int) : (allB l).length ≤ 4 * l.length := by
  unfold allB
  induction l with
  | nil => simp
  | cons a l ih => rw [List.flatMap_cons, List.length_append, enc_len, List.length_cons]; (repeat' split) <;> omega

/-- are all code points? -/
def allPt (l : List Int) : Bool := l.all isPt

theorem allPt_snoc (l : List Int) (k : Nat) (h : k < l.length) : allPt (l.take (k + 1)) = (allPt (l.take k) && isPt (l.getD k 0)) := by
  unfold allPt
  rw [List.take_succ_eq_append_getElem h, List.all_append]
  simp [List.getD, List.getElem?_eq_getElem h]
theorem allPt_bad (l : List Int) (k : Nat) (h : k < l.length) (hb : isPt (l.getD k 0) = false) : allPt l = false := by
  unfold allPt
  rw [List.all_eq_false]
  exact ⟨l.getD k 0, by rw [List.getD, List.getElem?_eq_getElem h]; exact List.getElem_mem _, by rw [hb]; simp⟩

/-- what Implode answers -/
def impVal (l : List Int) : Value := .tuple #[.string (if allPt l then ⟨(allB l).toArray⟩ else ⟨#[]⟩), .int .i64 (if allPt l then 0 else 1)]
theorem impVal_yes (l : List Int) (h : allPt l = true) : Value.tuple #[.string ⟨(allB l).toArray⟩, .int .i64 0] = impVal l := by unfold impVal; rw [h]; rfl
theorem impVal_no (l : List Int) (h : allPt l = false) : Value.tuple #[.string ⟨#[]⟩, .int .i64 1] = impVal l := by unfold impVal; rw [h]; rfl

/-- a place, from 0 to n -/
def within (p : Int) (n : Nat) : Nat := if p < 0 then 0 else if (n : Int) < p then n else p.toNat
theorem within_le (p : Int) (n : Nat) : within p n ≤ n := by unfold within; (repeat' split) <;> omega
theorem within_eq (p : Int) (n : Nat) : (if p < 0 then (0 : Int) else if (n : Int) < p then (n : Int) else p) = (within p n : Int) := by unfold within; (repeat' split) <;> omega

/-- a part of a text -/
def part (l : List UInt8) (i k : Int) : List UInt8 :=
  allB (((explode l).drop (within i (explode l).length)).take (within k (explode l).length - within i (explode l).length))

theorem part_none (l : List UInt8) (i k : Int) (h : within k (explode l).length ≤ within i (explode l).length) : part l i k = [] := by
  unfold part; rw [show within k (explode l).length - within i (explode l).length = 0 by omega]; rfl

theorem RdI.cut {w : World} {A : Option Addr} {n : Nat} {l : List Int} (h : RdI w A n l) {i k : Nat} (hik : i < k) (hk : k ≤ n) :
    ∃ b off, A = some ⟨b, off, none⟩ ∧ RdI w (some ⟨b, off + i, none⟩) (k - i) ((l.drop i).take (k - i)) := by
  obtain ⟨b, off, e, hlt, hc⟩ := h.2 (by omega)
  refine ⟨b, off, e, by rw [List.length_take, List.length_drop, h.1]; omega, fun _ => ⟨b, off + i, rfl, hlt, fun j hj => ?_⟩⟩
  have := hc (i + j) (by omega)
  rw [← Nat.add_assoc] at this
  rw [this]
  simp only [List.getD, List.getElem?_take, List.getElem?_drop, if_pos hj]

end Go.Proofs.YtoniccokohjenaaDoor
