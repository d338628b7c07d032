/-
Plain Lean: how a filter's tokens are read as a tree (chapter 15), function by function. No program in sight.
-/
import Derived.Test.YtmbeicndhigklaaGreatDoorPQuoH
namespace Go.Proofs.YtmbeicndhigklaaGreatDoor
def tDef:List UInt8:=[100,101,102]
def tLabel:List UInt8:=[108,97,98,101,108]
def tOr:List UInt8:=[111,114]
def tAnd:List UInt8:=[97,110,100]
def tAs:List UInt8:=[97,115]
def tIf:List UInt8:=[105,102]
def tTry:List UInt8:=[116,114,121]
def tCatch:List UInt8:=[99,97,116,99,104]
def tReduce:List UInt8:=[114,101,100,117,99,101]
def tForeach:List UInt8:=[102,111,114,101,97,99,104]
def tBreak:List UInt8:=[98,114,101,97,107]
def tThen:List UInt8:=[116,104,101,110]
def tElif:List UInt8:=[101,108,105,102]
def tElse:List UInt8:=[101,108,115,101]
def tEnd:List UInt8:=[101,110,100]
def tComma:List UInt8:=[44]
def tBar:List UInt8:=[124]
def tOpen:List UInt8:=[40]
def tBrk:List UInt8:=[91]
def tCrl:List UInt8:=[123]
def tShut:List UInt8:=[41]
def tKrb:List UInt8:=[93]
def tLrc:List UInt8:=[125]
def tSemi:List UInt8:=[59]
def tColon:List UInt8:=[58]
def tAlt:List UInt8:=[47,47]
def tMinus:List UInt8:=[45]
def tDot:List UInt8:=[46]
def tDots:List UInt8:=[46,46]
def tQuest:List UInt8:=[63]
def tDoll:List UInt8:=[36]
def wordsT:List (List UInt8):=[[97,110,100],[97,115],[98,114,101,97,107],[99,97,116,99,104],[100,101,102],[101,108,105,102],[101,108,115,101],[101,110,100],[102,111,114,101,97,99,104],[105,102],[108,97,98,101,108],[111,114],[114,101,100,117,99,101],[116,104,101,110],[116,114,121]]
def signs1T:List (List UInt8):=[[61],[124,61],[43,61],[45,61],[42,61],[47,61],[37,61],[47,47,61]]
def signs4T:List (List UInt8):=[[61,61],[33,61],[60],[60,61],[62],[62,61]]
def signs5T:List (List UInt8):=[[43],[45]]
def signs6T:List (List UInt8):=[[42],[47],[37]]
inductive Nd where
 | mk (kind:Nat) (text:List UInt8) (kids:List Nd)
namespace Nd
def kind:Nd→Nat | mk k _ _=>k
def text:Nd→List UInt8 | mk _ t _=>t
def kids:Nd→List Nd | mk _ _ k=>k
end Nd
def ndNone:Nd:=.mk 32 [] []
def ndZero:Nd:=.mk 0 [] []
def ndSelf:Nd:=.mk 1 [] []
def namedN (t:List UInt8):Nd:=.mk 4 [] [.mk 5 t []]
structure PT where
 at':Nat
 pipes:Nat
inductive PY (α:Type) where
 | ok (v:α) (s:PT)
 | bad (a e:Nat)
def PY.bind {α β:Type}:PY α→(α→PT→PY β)→PY β
 | .ok v s,f=>f v s
 | .bad a e,_=>.bad a e
structure Knot where
 pipe:PT→PY Nd
 alt:PT→PY Nd
 neg:PT→PY Nd
 post:PT→PY Nd
 pat:PT→PY Nd
def nextT (s:PT):PT:={ s with at':=s.at'+1 }
def tkNone:Tk:=⟨0,[],0⟩
section
variable (numE:List UInt8→Nat) (l:List Tk) (en:Nat)
def dueT (p:Nat):Tk:=l.getD p tkNone
def failY {α:Type} (p:Nat):PY α:=if l.length≤p then .bad en 5 else .bad (dueT l p).pos 2
def wordT (t:List UInt8):Bool:=wordsT.contains t
def isT (t:List UInt8) (p:Nat):Bool:=(dueT l p).text==t&&((dueT l p).kind==6||((dueT l p).kind==2&&wordT t))
def aheadT (n k:Nat) (t:List UInt8) (p:Nat):Bool:=decide (p+n<l.length)&&((dueT l (p+n)).kind==k&&(dueT l (p+n)).text==t)
def mustT (t:List UInt8) (s:PT):PY Unit:=if isT l t s.at'=true then .ok () (nextT s) else failY l en s.at'
def kindT (k:Nat) (s:PT):PY Tk:=if (dueT l s.at').kind=k then .ok (dueT l s.at') (nextT s) else failY l en s.at'
def strT (p:Nat):Nat×Bool:=
 let t:=dueT l p
 if t.kind=2∧t.text=tOr then (2,false)
 else if t.kind=2∧t.text=tAnd then (3,false)
 else if t.kind≠6 then (0,false)
 else if signs1T.contains t.text=true then (1,true)
 else if signs4T.contains t.text=true then (4,true)
 else if signs5T.contains t.text=true then (5,false)
 else if signs6T.contains t.text=true then (6,false)
 else (0,false)
section
variable (R:Knot)
def listF (sep:List UInt8) (one:PT→PY Nd):Nat→PT→PY (List Nd)
 | 0,_=>.bad 0 0
 | f+1,s=>(one s).bind fun n s=>
  if isT l sep s.at'=true then (listF sep one f (nextT s)).bind fun ns s=>.ok (n::ns) s else .ok [n] s
def partsF:Nat→PT→PY (List Nd)
 | 0,_=>.bad 0 0
 | f+1,s=>
  if (dueT l s.at').kind=8 then (partsF f (nextT s)).bind fun ns s'=>.ok (.mk 5 (dueT l s.at').text []::ns) s'
  else if (dueT l s.at').kind=9 then
   (R.pipe (nextT s)).bind fun n s=>(kindT l en 10 s).bind fun _ s=>(partsF f s).bind fun ns s=>.ok (n::ns) s
  else (kindT l en 11 s).bind fun _ s=>.ok [] s
def textB (fmt:List UInt8) (s:PT):PY Nd:=
 (kindT l en 7 s).bind fun _ s=>(partsF l en R (l.length+1) s).bind fun ns s=>.ok (.mk 4 fmt ns) s
def callB (s:PT):PY Nd:=
 (kindT l en 2 s).bind fun t s=>
  if isT l tOpen s.at'=true then
   (listF l tSemi R.pipe (l.length+1) (nextT s)).bind fun ns s=>(mustT l en tShut s).bind fun _ s=>.ok (.mk 25 t.text ns) s
  else .ok (.mk 25 t.text []) s
def entryV (key:Nd) (s:PT):PY Nd:=
 if isT l tColon s.at'=true then (R.alt (nextT s)).bind fun v s=>.ok (.mk 9 [] [key,v]) s
 else .ok (.mk 9 [] [key,.mk 10 [] [ndSelf,key]]) s
def entryB (s:PT):PY Nd:=
 if (dueT l s.at').kind=4 then .ok (.mk 9 [] [namedN (dueT l s.at').text,.mk 24 (dueT l s.at').text []]) (nextT s)
 else if (dueT l s.at').kind=2 then entryV l R (namedN (dueT l s.at').text) (nextT s)
 else if (dueT l s.at').kind=7 then (textB l en R [] s).bind fun key s=>entryV l R key s
 else (mustT l en tOpen s).bind fun _ s=>(R.pipe s).bind fun key s=>(mustT l en tShut s).bind fun _ s=>(mustT l en tColon s).bind fun _ s=>
  (R.alt s).bind fun v s=>.ok (.mk 9 [] [key,v]) s
def signedB (s:PT):PY Nd:=
 if isT l tDots s.at'=true then .ok (.mk 2 [] []) (nextT s)
 else if isT l tDot s.at'=true then
  if (dueT l (s.at'+1)).kind=7 then (textB l en R [] (nextT s)).bind fun m s=>.ok (.mk 10 [] [ndSelf,m]) s
  else .ok ndSelf (nextT s)
 else if isT l tOpen s.at'=true then (R.pipe (nextT s)).bind fun n s=>(mustT l en tShut s).bind fun _ s=>.ok n s
 else if isT l tBrk s.at'=true then
  if isT l tKrb (s.at'+1)=true then .ok (.mk 7 [] []) (nextT (nextT s))
  else (R.pipe (nextT s)).bind fun n s=>(mustT l en tKrb s).bind fun _ s=>.ok (.mk 7 [] [n]) s
 else if isT l tCrl s.at'=true then
  if isT l tLrc (s.at'+1)=true then .ok (.mk 8 [] []) (nextT (nextT s))
  else (listF l tComma (entryB l en R) (l.length+1) (nextT s)).bind fun ns s=>(mustT l en tLrc s).bind fun _ s=>.ok (.mk 8 [] ns) s
 else failY l en s.at'
def foldB (s:PT):PY (List Nd):=
 (R.post s).bind fun n s=>(mustT l en tAs s).bind fun _ s=>(R.pat s).bind fun p s=>(mustT l en tOpen s).bind fun _ s=>
  (R.pipe s).bind fun a s=>(mustT l en tSemi s).bind fun _ s=>(R.pipe s).bind fun b s=>.ok [n,p,a,b] s
def choF:Nat→PT→PY Nd
 | 0,_=>.bad 0 0
 | f+1,s=>(R.pipe s).bind fun c s=>(mustT l en tThen s).bind fun _ s=>(R.pipe s).bind fun a s=>
  if isT l tElif s.at'=true then (choF f (nextT s)).bind fun b s=>.ok (.mk 18 [] [c,a,b]) s
  else if isT l tElse s.at'=true then (R.pipe (nextT s)).bind fun b s=>(mustT l en tEnd s).bind fun _ s=>.ok (.mk 18 [] [c,a,b]) s
  else (mustT l en tEnd s).bind fun _ s=>.ok (.mk 18 [] [c,a,ndNone]) s
def tryB (s:PT):PY Nd:=
 (R.post s).bind fun n s=>
  if isT l tCatch s.at'=true then (R.post (nextT s)).bind fun m s=>.ok (.mk 13 [] [n,m]) s else .ok (.mk 13 [] [n]) s
def eachB (s:PT):PY Nd:=
 (foldB l en R s).bind fun ns s=>
  if isT l tSemi s.at'=true then (R.pipe (nextT s)).bind fun m s=>(mustT l en tShut s).bind fun _ s=>.ok (.mk 20 [] (ns++[m])) s
  else (mustT l en tShut s).bind fun _ s=>.ok (.mk 20 [] (ns++[ndNone])) s
def wordB (s:PT):PY Nd:=
 if isT l tIf s.at'=true then choF l en R (l.length+1) (nextT s)
 else if isT l tTry s.at'=true then tryB l R (nextT s)
 else if isT l tReduce s.at'=true then (foldB l en R (nextT s)).bind fun ns s=>(mustT l en tShut s).bind fun _ s=>.ok (.mk 19 [] ns) s
 else if isT l tForeach s.at'=true then eachB l en R (nextT s)
 else if isT l tBreak s.at'=true then (kindT l en 4 (nextT s)).bind fun t s=>.ok (.mk 22 t.text []) s
 else failY l en s.at'
def termB (s:PT):PY Nd:=
 let t:=dueT l s.at'
 if t.kind=1 then (if numE t.text=0 then .ok (.mk 3 t.text []) (nextT s) else .bad t.pos (numE t.text))
 else if t.kind=3 then .ok (.mk 10 [] [ndSelf,namedN t.text]) (nextT s)
 else if t.kind=4 then .ok (.mk 24 t.text []) (nextT s)
 else if t.kind=7 then textB l en R [] s
 else if t.kind=5 then (if (dueT l (s.at'+1)).kind=7 then textB l en R t.text (nextT s) else .ok (.mk 6 t.text []) (nextT s))
 else if t.kind=2 then (if wordT t.text=true then wordB l en R s else callB l en R s)
 else signedB l en R s
def sliceB (n:Nd) (s:PT):PY Nd:=
 if isT l tColon s.at'=true then (R.pipe (nextT s)).bind fun m s=>.ok (.mk 11 [] [n,ndNone,m]) s
 else (R.pipe s).bind fun m s=>
  if isT l tColon s.at'=true then
   if isT l tKrb (s.at'+1)=true then .ok (.mk 11 [] [n,m,ndNone]) (nextT s)
   else (R.pipe (nextT s)).bind fun k s=>.ok (.mk 11 [] [n,m,k]) s
  else .ok (.mk 10 [] [n,m]) s
def innerB (n:Nd) (s:PT):PY Nd:=
 (mustT l en tBrk s).bind fun _ s=>
  if isT l tKrb s.at'=true then .ok (.mk 12 [] [n]) (nextT s)
  else (sliceB l R n s).bind fun m s=>(mustT l en tKrb s).bind fun _ s=>.ok m s
def sufF:Nat→Nd→PT→PY Nd
 | 0,_,_=>.bad 0 0
 | f+1,n,s=>
  if (dueT l s.at').kind=3 then sufF f (.mk 10 [] [n,namedN (dueT l s.at').text]) (nextT s)
  else if (isT l tDot s.at'&&aheadT l 1 7 [] s.at')=true then (textB l en R [] (nextT s)).bind fun m s=>sufF f (.mk 10 [] [n,m]) s
  else if (isT l tDot s.at'&&aheadT l 1 6 tBrk s.at')=true then (innerB l en R n (nextT s)).bind fun m s=>sufF f m s
  else if isT l tBrk s.at'=true then (innerB l en R n s).bind fun m s=>sufF f m s
  else if isT l tQuest s.at'=true then sufF f (.mk 13 [] [n]) (nextT s)
  else .ok n s
def postB (s:PT):PY Nd:=(termB numE l en R s).bind fun n s=>sufF l en R (l.length+1) n s
def negB (s:PT):PY Nd:=
 if isT l tMinus s.at'=true then (R.neg (nextT s)).bind fun n s=>.ok (.mk 14 [] [n]) s
 else (postB numE l en R s).bind fun n s=>
  if isT l tAs s.at'=true then
   (R.pat (nextT s)).bind fun p s=>(mustT l en tBar s).bind fun _ s=>(R.pipe s).bind fun m s=>.ok (.mk 23 [] [n,p,m]) s
  else .ok n s
def opF (next:PT→PY Nd) (least:Nat):Nat→Nd→PT→PY Nd
 | 0,_,_=>.bad 0 0
 | f+1,n,s=>
  if (strT l s.at').1=least then
   (next (nextT s)).bind fun m s'=>
    if (strT l s.at').2=true then .ok (.mk 17 (dueT l s.at').text [n,m]) s' else opF next least f (.mk 17 (dueT l s.at').text [n,m]) s'
  else .ok n s
def opB:Nat→PT→PY Nd
 | 0,s=>negB numE l en R s
 | k+1,s=>(opB k s).bind fun n s=>opF l (opB k) (6-k) (l.length+1) n s
def altB (s:PT):PY Nd:=
 (opB numE l en R 6 s).bind fun n s=>
  if isT l tAlt s.at'=true then (R.alt (nextT s)).bind fun m s=>.ok (.mk 17 tAlt [n,m]) s else .ok n s
def commasF:Nat→Nd→PT→PY Nd
 | 0,_,_=>.bad 0 0
 | f+1,n,s=>if isT l tComma s.at'=true then (altB numE l en R (nextT s)).bind fun m s=>commasF f (.mk 16 [] [n,m]) s else .ok n s
def paramB (s:PT):PY Nd:=
 if (dueT l s.at').kind=4 then .ok (.mk 27 (tDoll++(dueT l s.at').text) []) (nextT s)
 else (kindT l en 2 s).bind fun t s=>.ok (.mk 27 t.text []) s
def paramsB (s:PT):PY (List Nd):=
 if isT l tOpen s.at'=true then
  (listF l tSemi (paramB l en) (l.length+1) (nextT s)).bind fun ns s=>(mustT l en tShut s).bind fun _ s=>.ok ns s
 else .ok [] s
def defB (s:PT):PY Nd:=
 (kindT l en 2 s).bind fun t s=>(paramsB l en s).bind fun ns s=>(mustT l en tColon s).bind fun _ s=>
  (R.pipe s).bind fun b s=>(mustT l en tSemi s).bind fun _ s=>(R.pipe s).bind fun r s=>.ok (.mk 26 t.text (ns++[b,r])) s
def wholeB (s:PT):PY Nd:=
 if isT l tDef s.at'=true then defB l en R (nextT s)
 else if isT l tLabel s.at'=true then
  (kindT l en 4 (nextT s)).bind fun t s=>(mustT l en tBar s).bind fun _ s=>(R.pipe s).bind fun n s=>.ok (.mk 21 t.text [n]) s
 else (altB numE l en R s).bind fun n s=>(commasF numE l en R (l.length+1) n s).bind fun n s=>
  if isT l tBar s.at'=true then (R.pipe (nextT s)).bind fun m s=>.ok (.mk 15 [] [n,m]) s else .ok n s
def pipeB (s:PT):PY Nd:=
 if s.pipes=600 then .bad (if s.at'<l.length then (dueT l s.at').pos else en) 6
 else (wholeB numE l en R { s with pipes:=s.pipes+1 }).bind fun n s=>.ok n { s with pipes:=s.pipes-1 }
def keyTB (s:PT):PY (List UInt8):=
 if (dueT l s.at').kind=7 then
  if (dueT l (s.at'+1)).kind=8 then (kindT l en 11 (nextT (nextT s))).bind fun _ s'=>.ok (dueT l (s.at'+1)).text s'
  else (kindT l en 11 (nextT s)).bind fun _ s=>.ok [] s
 else (kindT l en 2 s).bind fun t s=>.ok t.text s
def keyB (s:PT):PY Nd:=
 if (dueT l s.at').kind=4 then .ok (.mk 31 (dueT l s.at').text [.mk 28 (dueT l s.at').text []]) (nextT s)
 else (keyTB l en s).bind fun t s=>(mustT l en tColon s).bind fun _ s=>(R.pat s).bind fun p s=>.ok (.mk 31 t [p]) s
def patB (s:PT):PY Nd:=
 if (dueT l s.at').kind=4 then .ok (.mk 28 (dueT l s.at').text []) (nextT s)
 else if isT l tBrk s.at'=true then
  (listF l tComma R.pat (l.length+1) (nextT s)).bind fun ns s=>(mustT l en tKrb s).bind fun _ s=>.ok (.mk 29 [] ns) s
 else (mustT l en tCrl s).bind fun _ s=>
  (listF l tComma (keyB l en R) (l.length+1) s).bind fun ns s=>(mustT l en tLrc s).bind fun _ s=>.ok (.mk 30 [] ns) s
end
def knotF:Nat→Knot
 | 0=>⟨fun _=>.bad 0 0,fun _=>.bad 0 0,fun _=>.bad 0 0,fun _=>.bad 0 0,fun _=>.bad 0 0⟩
 | n+1=>⟨pipeB numE l en (knotF n),altB numE l en (knotF n),negB numE l en (knotF n),postB numE l en (knotF n),patB l en (knotF n)⟩
end
def depN:Nat→Nd→Nat
 | 0,_=>1
 | k+1,n=>(n.kids.map (depN k)).foldr max 0+1
def parseT (numE:List UInt8→Nat) (l:List Tk) (en:Nat):Nd×Nat×Nat:=
 match (knotF numE l en (l.length+1)).pipe ⟨0,0⟩ with
 | .bad a e=>(ndZero,a,e)
 | .ok n s=>if s.at'<l.length then (ndZero,(dueT l s.at').pos,2) else if 200<depN 200 n then (ndZero,0,6) else (n,0,0)
end Go.Proofs.YtmbeicndhigklaaGreatDoor
