/-
  Plain Lean: how a pattern is read as a tree (chapter 18), function by function. No program in sight.
-/
import Derived.Test.YtoniccokohjenaaDoorUtfS
namespace Go.Proofs.YtoniccokohjenaaDoor

/-- a part of a pattern -/
inductive Rx where
  | mk (kind : Nat) (rune to : Int) (kids : List Rx) (min max : Int) (lazy not : Bool) (group : Nat) (name : List UInt8)
namespace Rx
def kind : Rx → Nat | mk k _ _ _ _ _ _ _ _ _ => k
def rune : Rx → Int | mk _ r _ _ _ _ _ _ _ _ => r
def to : Rx → Int | mk _ _ t _ _ _ _ _ _ _ => t
def kids : Rx → List Rx | mk _ _ _ k _ _ _ _ _ _ => k
def min : Rx → Int | mk _ _ _ _ m _ _ _ _ _ => m
def max : Rx → Int | mk _ _ _ _ _ m _ _ _ _ => m
def lazy : Rx → Bool | mk _ _ _ _ _ _ z _ _ _ => z
def not : Rx → Bool | mk _ _ _ _ _ _ _ n _ _ => n
def group : Rx → Nat | mk _ _ _ _ _ _ _ _ g _ => g
def name : Rx → List UInt8 | mk _ _ _ _ _ _ _ _ _ n => n
end Rx
def rxNone : Rx := .mk 0 0 0 [] 0 0 false false 0 []
def rxRune (c : Int) : Rx := .mk 1 c 0 [] 0 0 false false 0 []
def rxKind (k : Nat) : Rx := .mk k 0 0 [] 0 0 false false 0 []
def rxClass (c : Int) (n : Bool) : Rx := .mk 5 c 0 [] 0 0 false n 0 []
def rxWord (n : Bool) : Rx := .mk 12 0 0 [] 0 0 false n 0 []
def rxRange (a b : Int) : Rx := .mk 4 a b [] 0 0 false false 0 []
def rxSet (n : Bool) (ks : List Rx) : Rx := .mk 3 0 0 ks 0 0 false n 0 []
def rxSeq (ks : List Rx) : Rx := .mk 6 0 0 ks 0 0 false false 0 []
def rxAlt (ks : List Rx) : Rx := .mk 7 0 0 ks 0 0 false false 0 []
def rxRepeat (x : Rx) (a b : Int) (z : Bool) : Rx := .mk 8 0 0 [x] a b z false 0 []
def rxGroup (x : Rx) (g : Nat) (n : List UInt8) : Rx := .mk 9 0 0 [x] 0 0 false false g n

/-- a parser: where it stands, how many groups stand around, the groups' names -/
structure PS where
  pos : Nat
  deep : Nat
  names : List (List UInt8)

inductive PR (α : Type) where
  | ok (v : α) (s : PS)
  | bad (a e : Nat)
def PR.bind {α β : Type} : PR α → (α → PS → PR β) → PR β
  | .ok v s, f => f v s
  | .bad a e, _ => .bad a e

def digI (c : Int) : Bool := decide (48 ≤ c) && decide (c ≤ 57)
def ltrI (c : Int) : Bool := (decide (97 ≤ c) && decide (c ≤ 122)) || (decide (65 ≤ c) && decide (c ≤ 90))
def blkI (c : Int) : Bool := c == 32 || c == 9 || c == 10 || c == 13

section
variable (free : Bool) (l : List Int)

def due (p : Nat) : Int := l.getD p (-1)
def failR {α : Type} (a : Nat) : PR α := if l.length ≤ a then .bad l.length 5 else .bad a 2
/-- what counts nothing; k: within a note? -/
def skipL : Bool → List Int → Nat
  | _, [] => 0
  | false, c :: r => if blkI c then 1 + skipL false r else if c = 35 then 1 + skipL true r else 0
  | true, c :: r => if c = 10 then 1 + skipL false r else 1 + skipL true r
def skipP (p : Nat) : Nat := if free then p + skipL false (l.drop p) else p
def skipS' (s : PS) : PS := { s with pos := skipP free l s.pos }

/-- up to k digits: their worth behind n, how many -/
def digL : Nat → List Int → Nat → Nat × Nat
  | 0, _, n => (n, 0)
  | _ + 1, [], n => (n, 0)
  | k + 1, c :: r, n => if digI c then ((digL k r (10 * n + (c - 48).toNat)).1, (digL k r (10 * n + (c - 48).toNat)).2 + 1) else (n, 0)
def numberR (least : Nat) (s : PS) : PR Nat :=
  let q := digL 3 (l.drop s.pos) 0
  if q.2 = 0 then failR l s.pos
  else if 255 < q.1 ∨ q.1 < least then failR l (s.pos + q.2 - 1)
  else .ok q.1 { s with pos := s.pos + q.2 }
def mostR (least : Nat) (s : PS) : PR Int :=
  if due l s.pos = 44 then
    if due l (s.pos + 1) = 125 then .ok (-1) { s with pos := s.pos + 1 }
    else (numberR l least { s with pos := s.pos + 1 }).bind fun n s => .ok n s
  else .ok least s
def timesR (s : PS) : PR (Nat × Int) :=
  (numberR l 0 s).bind fun a s => (mostR l a s).bind fun b s =>
    if due l s.pos = 125 then .ok (a, b) { s with pos := s.pos + 1 } else failR l s.pos

/-- may a sign stand behind a backslash for itself? -/
def signI (c : Int) : Bool := decide (33 ≤ c) && decide (c ≤ 126) && !digI c && !ltrI c
def classI (c : Int) : Option (Int × Bool) :=
  if c = 100 ∨ c = 119 ∨ c = 115 then some (c, false) else if c = 68 ∨ c = 87 ∨ c = 83 then some (c + 32, true) else none
def litR (s : PS) : PR Int :=
  if due l s.pos = 110 then .ok 10 { s with pos := s.pos + 1 }
  else if due l s.pos = 116 then .ok 9 { s with pos := s.pos + 1 }
  else if due l s.pos = 114 then .ok 13 { s with pos := s.pos + 1 }
  else if signI (due l s.pos) then .ok (due l s.pos) { s with pos := s.pos + 1 }
  else failR l s.pos

/-- a sign of a set; false: a class -/
def oneR (s : PS) : PR (Rx × Bool) :=
  let c := due l s.pos
  if c = -1 ∨ c = 91 ∨ c = 93 then failR l s.pos
  else if c = 92 then
    match classI (due l (s.pos + 1)) with
    | some (r, n) => .ok (rxClass r n, false) { s with pos := s.pos + 2 }
    | none => (litR l { s with pos := s.pos + 1 }).bind fun c s => .ok (rxRune c, true) s
  else .ok (rxRune c, true) { s with pos := s.pos + 1 }
/-- one of a set: a sign, a class, a range -/
def itemR (s : PS) : PR Rx :=
  (oneR l s).bind fun x s =>
    if x.2 = true ∧ due l s.pos = 45 ∧ s.pos + 1 < l.length ∧ due l (s.pos + 1) ≠ 93 then
      (oneR l { s with pos := s.pos + 1 }).bind fun y s =>
        if y.2 = false ∨ y.1.rune < x.1.rune then failR l (s.pos - 1) else .ok (rxRange x.1.rune y.1.rune) s
    else .ok x.1 s
def itemsR : Nat → PS → PR (List Rx)
  | 0, _ => .bad 0 0
  | f + 1, s => (itemR l s).bind fun x s =>
    if due l s.pos = 93 then .ok [x] { s with pos := s.pos + 1 }
    else (itemsR f s).bind fun xs s => .ok (x :: xs) s
def setR (s : PS) : PR Rx :=
  if due l s.pos = 94 then (itemsR l (l.length + 1) { s with pos := s.pos + 1 }).bind fun xs s => .ok (rxSet true xs) s
  else (itemsR l (l.length + 1) s).bind fun xs s => .ok (rxSet false xs) s

/-- the letters, and digits, of a name; k: does it go on? -/
def nmL : Bool → List Int → List UInt8
  | _, [] => []
  | k, c :: r => if ltrI c || c == 95 || (k && digI c) then UInt8.ofNat c.toNat :: nmL true r else []
def nameR (s : PS) : PR (List UInt8) :=
  let n := nmL false (l.drop s.pos)
  if n = [] ∨ due l (s.pos + n.length) ≠ 62 then failR l (s.pos + n.length)
  else if n ∈ s.names then failR l (s.pos + n.length - 1)
  else .ok n { s with pos := s.pos + n.length + 1 }

section
variable (rec : PS → PR Rx)
/-- what stands at a group's head: its name; none: it is none -/
def headR (s : PS) : PR (Option (List UInt8)) :=
  if due l s.pos = 63 then
    if due l (s.pos + 1) = 58 then .ok none { s with pos := s.pos + 2 }
    else if due l (s.pos + 1) = 60 then (nameR l { s with pos := s.pos + 2 }).bind fun n s => .ok (some n) { s with names := s.names ++ [n] }
    else failR l (s.pos + 1)
  else .ok (some []) { s with names := s.names ++ [[]] }
/-- what stands behind the head -/
def restR (g : Option Nat) (n : List UInt8) (s : PS) : PR Rx :=
  (rec s).bind fun x s =>
    if due l s.pos = 41 then .ok (match g with | none => x | some k => rxGroup x k n) { s with pos := s.pos + 1, deep := s.deep - 1 }
    else failR l s.pos
def groupR (s : PS) : PR Rx :=
  if s.deep = 50 then .bad s.pos 6
  else (headR l { s with pos := s.pos + 1, deep := s.deep + 1 }).bind fun n s' =>
    restR l rec (n.map fun _ => s.names.length + 1) (n.getD []) s'
def atomR (s : PS) : PR Rx :=
  let c := due l s.pos
  if c = 42 ∨ c = 43 ∨ c = 63 ∨ c = 123 ∨ c = 125 ∨ c = 93 then failR l s.pos
  else if c = 40 then groupR l rec s
  else if c = 91 then setR l { s with pos := s.pos + 1 }
  else if c = 46 then .ok (rxKind 2) { s with pos := s.pos + 1 }
  else if c = 94 then .ok (rxKind 10) { s with pos := s.pos + 1 }
  else if c = 36 then .ok (rxKind 11) { s with pos := s.pos + 1 }
  else if c = 92 then
    match classI (due l (s.pos + 1)) with
    | some (r, n) => .ok (rxClass r n) { s with pos := s.pos + 2 }
    | none =>
      if due l (s.pos + 1) = 98 ∨ due l (s.pos + 1) = 66 then .ok (rxWord (due l (s.pos + 1) == 66)) { s with pos := s.pos + 2 }
      else (litR l { s with pos := s.pos + 1 }).bind fun c s => .ok (rxRune c) s
  else .ok (rxRune c) { s with pos := s.pos + 1 }
/-- a repeat's end: is it lazy? -/
def lazyR (x : Rx) (a b : Int) (s : PS) : PR Rx :=
  let s := skipS' free l s
  if due l s.pos = 63 then .ok (rxRepeat x a b true) { s with pos := s.pos + 1 } else .ok (rxRepeat x a b false) s
def partR (s : PS) : PR Rx :=
  (atomR l rec s).bind fun x s =>
    let s := skipS' free l s
    if due l s.pos = 42 then lazyR free l x 0 (-1) { s with pos := s.pos + 1 }
    else if due l s.pos = 43 then lazyR free l x 1 (-1) { s with pos := s.pos + 1 }
    else if due l s.pos = 63 then lazyR free l x 0 1 { s with pos := s.pos + 1 }
    else if due l s.pos = 123 then (timesR l { s with pos := s.pos + 1 }).bind fun q s => lazyR free l x q.1 q.2 s
    else .ok x s
def partsR : Nat → PS → PR (List Rx)
  | 0, _ => .bad 0 0
  | f + 1, s => if s.pos < l.length ∧ due l s.pos ≠ 124 ∧ due l s.pos ≠ 41 then
      (partR free l rec s).bind fun x s => (partsR f (skipS' free l s)).bind fun xs s => .ok (x :: xs) s
    else .ok [] s
def seqOf : List Rx → Rx
  | [] => rxNone
  | [x] => x
  | xs => rxSeq xs
def seqR (s : PS) : PR Rx := (partsR free l rec (l.length + 1) (skipS' free l s)).bind fun xs s => .ok (seqOf xs) s
def altsR : Nat → PS → PR (List Rx)
  | 0, _ => .bad 0 0
  | f + 1, s => if due l s.pos = 124 then
      (seqR free l rec { s with pos := s.pos + 1 }).bind fun x s => (altsR f s).bind fun xs s => .ok (x :: xs) s
    else .ok [] s
def altOf (x : Rx) : List Rx → Rx
  | [] => x
  | xs => rxAlt (x :: xs)
def altR (s : PS) : PR Rx := (seqR free l rec s).bind fun x s => (altsR free l rec (l.length + 1) s).bind fun xs s => .ok (altOf x xs) s
end
/-- a pattern within so many groups more -/
def altF : Nat → PS → PR Rx
  | 0, _ => .bad 0 0
  | n + 1, s => altR free l (altF n) s
/-- what Parse answers: the tree, the names, the place, the error -/
def parseL : Rx × List (List UInt8) × Nat × Nat :=
  if 1000 < l.length then (rxNone, [], 0, 10)
  else match altF free l 51 ⟨0, 0, []⟩ with
    | .bad a e => (rxNone, [], a, e)
    | .ok x s => if s.pos < l.length then (rxNone, [], s.pos, 2) else (x, s.names, 0, 0)
end
def parseV (p : List UInt8) (free : Bool) : Rx × List (List UInt8) × Nat × Nat := parseL free (explode p)

end Go.Proofs.YtoniccokohjenaaDoor
