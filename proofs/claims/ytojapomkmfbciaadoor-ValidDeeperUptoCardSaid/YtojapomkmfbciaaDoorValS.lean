/-
  Plain Lean: streams of JSON texts, read by a machine of states (chapter 9). No program in sight but readP, what a text in quotes is read as.
-/
import Derived.Test.YtojapomkmfbciaaDoorQuoJ
namespace Go.Proofs.YtojapomkmfbciaaDoor

/-- blanks -/
def blankB (c : Nat) : Bool := c == 32 || c == 10 || c == 9 || c == 13
/-- how many digits stand at the head -/
def digN : List UInt8 → Nat
  | [] => 0
  | c :: r => if 48 ≤ c.toNat ∧ c.toNat ≤ 57 then digN r + 1 else 0
/-- where the digits from i on end -/
def digE (l : List UInt8) (i : Nat) : Nat := i + digN (l.drop i)
theorem digN_le (r : List UInt8) : digN r ≤ r.length := by
  induction r with
  | nil => exact Nat.le_refl _
  | cons c r ih => unfold digN; split <;> simp only [List.length_cons] <;> omega
theorem digE_le (l : List UInt8) (i : Nat) (h : i ≤ l.length) : i ≤ digE l i ∧ digE l i ≤ l.length := by
  have := digN_le (l.drop i)
  rw [List.length_drop] at this
  unfold digE
  omega
theorem digE_step (l : List UInt8) (i : Nat) (h : i < l.length) (hd : 48 ≤ bt l i ∧ bt l i ≤ 57) : digE l i = digE l (i + 1) := by
  unfold digE
  rw [List.drop_eq_getElem_cons h]
  have hb : bt l i = l[i].toNat := by unfold bt; rw [List.getElem?_eq_getElem h]; rfl
  rw [hb] at hd
  rw [digN, if_pos hd]
  omega
theorem digE_stop (l : List UInt8) (i : Nat) (h : i < l.length → ¬ (48 ≤ bt l i ∧ bt l i ≤ 57)) : digE l i = i := by
  unfold digE
  by_cases hi : i < l.length
  · have hb : bt l i = l[i].toNat := by unfold bt; rw [List.getElem?_eq_getElem hi]; rfl
    have := h hi
    rw [hb] at this
    rw [List.drop_eq_getElem_cons hi, digN, if_neg this]; rfl
  · rw [List.drop_of_length_le (by omega)]; rfl

/-- a number's parts: how far, did it go well -/
def intV (l : List UInt8) (a : Nat) : Nat × Bool :=
  let i := if bt l a = 45 then a + 1 else a
  if bt l i = 48 then (i + 1, true) else if digE l i = i then (i, false) else (digE l i, true)
def fracV (l : List UInt8) (e : Nat) : Nat × Bool := if bt l e = 46 then (if digE l (e + 1) = e + 1 then (e + 1, false) else (digE l (e + 1), true)) else (e, true)
def expV (l : List UInt8) (e : Nat) : Nat × Bool :=
  if bt l e = 101 ∨ bt l e = 69 then
    let s := if bt l (e + 1) = 43 ∨ bt l (e + 1) = 45 then e + 1 + 1 else e + 1
    if digE l s = s then (s, false) else (digE l s, true)
  else (e, true)
def tailV (top : Bool) (l : List UInt8) (e : Nat) : Nat × Bool := if top = true ∧ e < l.length ∧ blankB (bt l e) = false then (e, false) else (e, true)
def thenV (t : Nat × Bool) (f : Nat → Nat × Bool) : Nat × Bool := if t.2 = true then f t.1 else t
def numV (top : Bool) (l : List UInt8) (a : Nat) : Nat × Bool := thenV (thenV (thenV (intV l a) (fracV l)) (expV l)) (tailV top l)
/-- a text in quotes -/
def quoV (l : List UInt8) (a : Nat) : Nat × Bool := (a + (readP (l.drop a)).2.1, (readP (l.drop a)).2.2 == 0)
/-- a word -/
def wordV : List Nat → List UInt8 → Nat → Nat × Bool
  | [], _, a => (a, true)
  | c :: w, l, a => if a < l.length ∧ bt l a = c then wordV w l (a + 1) else (a, false)

/-- how a stream is read: where; what may follow; the brackets that are open, the last one first (a brace?); where the text begins; the texts; where and why it went wrong -/
structure VS where
  pos : Nat
  st : Nat
  stack : List Bool
  beg : Nat
  spans : List (Nat × Nat)
  fault : Option (Nat × Nat)

def wrongV (l : List UInt8) (i : Nat) (s : VS) : VS := { s with fault := some (if l.length ≤ i then (l.length, 2) else (i, 1)) }
def doneV (to : Nat) (s : VS) : VS := if s.stack = [] then { s with pos := to, st := 1, spans := s.spans ++ [(s.beg, to)] } else { s with pos := to, st := 7 }
def tokV (l : List UInt8) (t : Nat × Bool) (s : VS) : VS := if t.2 = true then doneV t.1 s else wrongV l t.1 s
def opensV (d : Nat) (brace : Bool) (s : VS) : VS :=
  if d ≤ s.stack.length then { s with fault := some (s.pos, 3) } else { s with stack := brace :: s.stack, pos := s.pos + 1, st := if brace = true then 5 else 3 }
def shutsV (s : VS) : VS := doneV (s.pos + 1) { s with stack := s.stack.tail }
def startV (s : VS) : VS := if s.stack = [] then { s with beg := s.pos } else s
def bodyV (l : List UInt8) (d c : Nat) (s : VS) : VS :=
  if c = 91 then opensV d false s
  else if c = 123 then opensV d true s
  else if c = 34 then tokV l (quoV l s.pos) s
  else if c = 110 then tokV l (wordV [110, 117, 108, 108] l s.pos) s
  else if c = 116 then tokV l (wordV [116, 114, 117, 101] l s.pos) s
  else if c = 102 then tokV l (wordV [102, 97, 108, 115, 101] l s.pos) s
  else if c = 45 ∨ 48 ≤ c ∧ c ≤ 57 then tokV l (numV (s.stack == []) l s.pos) s
  else wrongV l s.pos s
def textV (l : List UInt8) (d c : Nat) (s : VS) : VS := bodyV l d c (startV s)
def keyV (l : List UInt8) (s : VS) : VS := if (quoV l s.pos).2 = true then { s with pos := (quoV l s.pos).1, st := 6 } else wrongV l (quoV l s.pos).1 s
def moreV (l : List UInt8) (c : Nat) (brace : Bool) (s : VS) : VS :=
  if c = 44 then { s with pos := s.pos + 1, st := if brace = true then 4 else 2 }
  else if c = 125 ∧ brace = true ∨ c = 93 ∧ brace = false then shutsV s
  else wrongV l s.pos s
def braceV (s : VS) : Bool := s.stack.head?.getD false
def stepV (l : List UInt8) (d c : Nat) (s : VS) : VS :=
  if s.st = 1 then wrongV l s.pos s
  else if s.st = 3 then (if c = 93 then shutsV s else textV l d c s)
  else if s.st = 0 ∨ s.st = 2 then textV l d c s
  else if s.st = 5 ∨ s.st = 4 then (if c = 125 ∧ s.st = 5 then shutsV s else if c = 34 then keyV l s else wrongV l s.pos s)
  else if s.st = 6 then (if c = 58 then { s with pos := s.pos + 1, st := 2 } else wrongV l s.pos s)
  else moreV l c (braceV s) s
/-- a round of the reader -/
def roundV (l : List UInt8) (d : Nat) (s : VS) : VS :=
  if blankB (bt l s.pos) = true then { s with pos := s.pos + 1, st := if s.st = 1 then 0 else s.st } else stepV l d (bt l s.pos) s
def goesV (l : List UInt8) (s : VS) : Prop := s.pos < l.length ∧ s.fault = none
instance (l : List UInt8) (s : VS) : Decidable (goesV l s) := by unfold goesV; infer_instance
def runV (l : List UInt8) (d : Nat) : Nat → VS → VS
  | 0, s => s
  | f + 1, s => if goesV l s then runV l d f (roundV l d s) else s
/-- the end of a stream -/
def endV (l : List UInt8) (s : VS) : VS :=
  if s.fault = none then (if s.st = 0 ∨ s.st = 1 then { s with fault := some (l.length, 0) } else wrongV l l.length s) else s
def startS : VS := ⟨0, 0, [], 0, [], none⟩
def checkS (l : List UInt8) (d : Nat) : VS := endV l (runV l d l.length startS)
/-- a stream: its texts; where and why it goes wrong -/
def checkV (l : List UInt8) (d : Nat) : List (Nat × Nat) × (Nat × Nat) := ((checkS l d).spans, (checkS l d).fault.getD (0, 0))
/-- a depth, between 0 and 200 -/
def clampV (d : Int) : Nat := (max 0 (min d 200)).toNat
def oneV (l : List UInt8) : Bool := (checkV l 200).2.2 == 0 && (checkV l 200).1 == [(0, l.length)]

/-- what is always so: no more brackets than may be; brackets where the state says so -/
def OkV (l : List UInt8) (d : Nat) (s : VS) : Prop := s.stack.length ≤ d ∧ s.pos ≤ l.length ∧ s.st ≤ 7 ∧ (s.stack = [] ↔ s.st ≤ 1)

end Go.Proofs.YtojapomkmfbciaaDoor
