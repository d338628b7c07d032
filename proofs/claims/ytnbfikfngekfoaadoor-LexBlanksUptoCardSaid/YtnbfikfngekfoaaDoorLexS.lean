/-
  Plain Lean: tokens of a filter's text, as the reader of chapter 14 has them. No program in sight.
-/
import Derived.Test.YtnbfikfngekfoaaDoorQuoVh
import Derived.Test.YtnbfikfngekfoaaDoorQuoJ
namespace Go.Proofs.YtnbfikfngekfoaaDoor

def letB (c : Nat) : Bool := (decide (97 ≤ c) && decide (c ≤ 122)) || (decide (65 ≤ c) && decide (c ≤ 90)) || c == 95
def digB (c : Nat) : Bool := decide (48 ≤ c) && decide (c ≤ 57)

/-- how many bytes of a name; k: does it go on? -/
def nameF : Bool → List UInt8 → Nat
  | _, [] => 0
  | k, c :: r => if letB c.toNat || (k && digB c.toNat) then 1 + nameF true r else 0
def nameN (l : List UInt8) : Nat := nameF false l
/-- how many digits -/
def digN : List UInt8 → Nat
  | [] => 0
  | c :: r => if digB c.toNat then 1 + digN r else 0

/-- behind the fraction -/
def fracN (l : List UInt8) (n : Nat) : Nat := if bt l n = 46 ∧ 0 < digN (l.drop (n + 1)) then n + 1 + digN (l.drop (n + 1)) else n
/-- where an exponent's digits begin -/
def expoAt (l : List UInt8) (n : Nat) : Nat := if bt l (n + 1) = 43 ∨ bt l (n + 1) = 45 then n + 2 else n + 1
/-- behind the exponent -/
def expoN (l : List UInt8) (n : Nat) : Nat := if (bt l n = 101 ∨ bt l n = 69) ∧ 0 < digN (l.drop (expoAt l n)) then expoAt l n + digN (l.drop (expoAt l n)) else n
def numN (l : List UInt8) : Nat := expoN l (fracN l (digN l))

/-- the signs of more than one byte -/
def signs2 : List (List UInt8) := [[47, 47, 61], [124, 61], [43, 61], [45, 61], [42, 61], [47, 61], [37, 61], [47, 47], [61, 61], [33, 61], [60, 61], [62, 61], [46, 46]]
/-- those of one -/
def signs1 : List UInt8 := [46, 91, 93, 123, 125, 40, 41, 124, 44, 61, 60, 62, 43, 45, 42, 47, 37, 63, 58, 59]
/-- the sign that a text begins with -/
def signL (l : List UInt8) : List UInt8 := ((signs2.find? fun t => t.isPrefixOf l).getD (match l with | [] => [] | c :: _ => if c ∈ signs1 then [c] else []))

/-- how many bytes of blanks and notes; k: within a note? -/
def skipF : Bool → List UInt8 → Nat
  | _, [] => 0
  | false, c :: r => if c = 32 ∨ c = 9 ∨ c = 10 ∨ c = 13 then 1 + skipF false r else if c = 35 then 1 + skipF true r else 0
  | true, c :: r => if c = 10 then 1 + skipF false r else 1 + skipF true r
def skipN (l : List UInt8) : Nat := skipF false l

/-- what a backslash and what stands behind it are; 0: no piece -/
def pieceP (l : List UInt8) : List UInt8 × Nat := if (escapedP l).err = 0 then (enc ((escapedP l).point : Int), (escapedP l).size) else ([], 0)
/-- does what begins here end too early? -/
def tooShort (l : List UInt8) : Bool := (readP (34 :: l.take 6)).2.1 == 1 + l.length

/-- a text read on, up to its end (0), the next \( (1), or a fault (2: too short, 3: of no form): which, how many bytes, what it stands for -/
def scanF : Nat → List UInt8 → Nat × Nat × List UInt8
  | 0, _ => (2, 0, [])
  | f + 1, l =>
    if l.length = 0 then (2, 0, [])
    else if bt l 0 = 34 then (0, 0, [])
    else if bt l 0 = 92 ∧ bt l 1 = 40 then (1, 0, [])
    else if bt l 0 = 92 then
      if (pieceP l).2 = 0 then (if tooShort l then 2 else 3, 0, [])
      else ((scanF f (l.drop (pieceP l).2)).1, (pieceP l).2 + (scanF f (l.drop (pieceP l).2)).2.1, (pieceP l).1 ++ (scanF f (l.drop (pieceP l).2)).2.2)
    else ((scanF f (l.drop (dec l).2)).1, (dec l).2 + (scanF f (l.drop (dec l).2)).2.1, l.take (dec l).2 ++ (scanF f (l.drop (dec l).2)).2.2)
def scanT (l : List UInt8) : Nat × Nat × List UInt8 := scanF l.length l

structure Tk where
  kind : Nat
  text : List UInt8
  pos : Nat
deriving DecidableEq

/-- a reader: where it stands, its tokens, how many ( are open in each text (the last one first), its error -/
structure LS where
  pos : Nat
  toks : List Tk
  texts : List Nat
  err : Nat

def failS (s : LS) (a e : Nat) : LS := { s with pos := a, err := e }
def putS (s : LS) (k : Nat) (t : List UInt8) (n : Nat) : LS := { s with toks := s.toks ++ [⟨k, t, s.pos⟩], pos := s.pos + n }
def skipS (l : List UInt8) (s : LS) : LS := { s with pos := s.pos + skipN (l.drop s.pos) }
def markS (l : List UInt8) (s : LS) (k : Nat) (keep : List UInt8) : LS :=
  if nameN (l.drop (s.pos + 1)) = 0 then failS s s.pos 2
  else putS s k (keep ++ (l.drop (s.pos + 1)).take (nameN (l.drop (s.pos + 1)))) (1 + nameN (l.drop (s.pos + 1)))
/-- what stands in a text so far is laid down -/
def flushS (s : LS) (n : Nat) (o : List UInt8) : LS := if 0 < n then { s with toks := s.toks ++ [⟨8, o, s.pos⟩], pos := s.pos + n } else s
def textS (l : List UInt8) (s : LS) : LS :=
  let r := scanT (l.drop s.pos)
  if r.1 = 0 then { putS (flushS s r.2.1 r.2.2) 11 [] 1 with texts := s.texts.tail }
  else if r.1 = 1 then putS (flushS s r.2.1 r.2.2) 9 [] 2
  else if r.1 = 2 then failS s l.length 5
  else failS s (s.pos + r.2.1) 2
def signS (l : List UInt8) (s : LS) (t : List UInt8) : LS :=
  if t = [] then failS s s.pos 2
  else match s.texts with
    | [] => putS s 6 t t.length
    | x :: ts =>
      if t = [40] then putS { s with texts := (x + 1) :: ts } 6 t t.length
      else if t = [41] then (if x = 0 then textS l (putS s 10 [] 1) else putS { s with texts := (x - 1) :: ts } 6 t t.length)
      else putS s 6 t t.length
def tokenS (l : List UInt8) (s : LS) : LS :=
  let r := l.drop s.pos
  if bt r 0 = 34 then (if 50 ≤ s.texts.length then failS s s.pos 6 else textS l { putS s 7 [] 1 with texts := 0 :: s.texts })
  else if digB (bt r 0) then putS s 1 (r.take (numN r)) (numN r)
  else if letB (bt r 0) then putS s 2 (r.take (nameN r)) (nameN r)
  else if bt r 0 = 36 then markS l s 4 []
  else if bt r 0 = 64 then markS l s 5 [64]
  else if bt r 0 = 46 ∧ letB (bt r 1) then markS l s 3 []
  else signS l s (signL r)
/-- tokens up to the end, or a fault; blanks ahead of each are gone over -/
def runF : Nat → List UInt8 → LS → LS
  | 0, _, s => s
  | f + 1, l, s =>
    if l.length ≤ (skipS l s).pos then skipS l s
    else if (tokenS l (skipS l s)).err ≠ 0 then tokenS l (skipS l s)
    else runF f l (tokenS l (skipS l s))
def runS (l : List UInt8) : LS := runF (l.length + 1) l ⟨0, [], [], 0⟩
/-- what Tokens answers -/
def tokensV (l : List UInt8) : List Tk × Nat × Nat :=
  if 100000 < l.length then ([], 0, 10)
  else if valid l < l.length then ([], valid l, 7)
  else if (runS l).err ≠ 0 then ([], (runS l).pos, (runS l).err)
  else if (runS l).texts ≠ [] then ([], l.length, 5)
  else ((runS l).toks, 0, 0)

end Go.Proofs.YtnbfikfngekfoaaDoor
