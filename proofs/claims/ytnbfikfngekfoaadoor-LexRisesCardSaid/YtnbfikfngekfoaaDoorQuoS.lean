/-
  Plain Lean: texts in quotes, their pieces (chapter 5). No program in sight.
-/
import Derived.Test.YtnbfikfngekfoaaDoorUtfS
namespace Go.Proofs.YtnbfikfngekfoaaDoor

/-- a hexadecimal digit's worth -/
def hexV (c : Nat) : Option Nat := if 48 ≤ c ∧ c ≤ 57 then some (c - 48) else if 97 ≤ c ∧ c ≤ 102 then some (c - 87) else if 65 ≤ c ∧ c ≤ 70 then some (c - 55) else none
/-- digits of a number of four, from a place on: the number, how many there are -/
def fourF : Nat → List UInt8 → Nat → Nat → Nat × Nat
  | 0, _, i, h => (h, i)
  | f + 1, l, i, h => if l.length ≤ i then (h, i) else match hexV (bt l i) with
    | none => (h, i)
    | some d => fourF f l (i + 1) (16 * h + d)
def fourL (l : List UInt8) : Nat × Nat := fourF 4 l 0 0

/-- a piece: its code point, its size, its error -/
structure Pc where
  point : Nat
  size : Nat
  err : Nat
deriving DecidableEq

def faultP (l : List UInt8) (n : Nat) : Pc := ⟨0, n, if l.length ≤ n then 5 else if 127 < bt l n then 7 else 2⟩
def numberedP (l : List UInt8) : Pc :=
  if (fourL (l.drop 2)).2 < 4 then faultP l (2 + (fourL (l.drop 2)).2)
  else if (fourL (l.drop 2)).1 < 55296 ∨ 57343 < (fourL (l.drop 2)).1 then ⟨(fourL (l.drop 2)).1, 6, 0⟩
  else if (fourL (l.drop 2)).1 < 56320 ∧ 12 ≤ l.length ∧ bt l 6 = 92 ∧ bt l 7 = 117 ∧ (fourL (l.drop 8)).2 = 4 ∧ 56320 ≤ (fourL (l.drop 8)).1 ∧ (fourL (l.drop 8)).1 ≤ 57343 then ⟨65536 + ((fourL (l.drop 2)).1 - 55296) * 1024 + (fourL (l.drop 8)).1 - 56320, 12, 0⟩
  else ⟨65533, 6, 0⟩
def escapedP (l : List UInt8) : Pc :=
  if l.length < 2 then faultP l 1
  else if bt l 1 = 34 ∨ bt l 1 = 92 ∨ bt l 1 = 47 then ⟨bt l 1, 2, 0⟩
  else if bt l 1 = 98 then ⟨8, 2, 0⟩
  else if bt l 1 = 102 then ⟨12, 2, 0⟩
  else if bt l 1 = 110 then ⟨10, 2, 0⟩
  else if bt l 1 = 114 then ⟨13, 2, 0⟩
  else if bt l 1 = 116 then ⟨9, 2, 0⟩
  else if bt l 1 = 117 then numberedP l
  else faultP l 1
/-- could these bytes begin a code point's? -/
def beginsP (l : List UInt8) : Bool :=
  decide (l.length ≤ 3) && [[128], [128, 128], [128, 128, 128], [191], [191, 191], [191, 191, 191]].any fun m => decOk (l ++ m) && ((dec (l ++ m)).2 == (l ++ m).length) && decide (127 < (dec (l ++ m)).1)
def nextP (l : List UInt8) : Pc :=
  if l.length = 0 then faultP l 0
  else if bt l 0 = 34 then ⟨0, 0, 0⟩
  else if bt l 0 = 92 then escapedP l
  else if bt l 0 < 32 then faultP l 0
  else if decOk (l.take 4) then ⟨(dec (l.take 4)).1, (dec (l.take 4)).2, 0⟩
  else if beginsP l then faultP l l.length
  else faultP l 0

/-- all pieces from a place on, the last one the end or the fault -/
def piecesF : Nat → List UInt8 → List Pc
  | 0, _ => []
  | f + 1, l => if (nextP l).err ≠ 0 ∨ (nextP l).size = 0 then [nextP l] else nextP l :: piecesF f (l.drop (nextP l).size)
def piecesP (l : List UInt8) : List Pc := piecesF (l.length + 1) l

end Go.Proofs.YtnbfikfngekfoaaDoor
