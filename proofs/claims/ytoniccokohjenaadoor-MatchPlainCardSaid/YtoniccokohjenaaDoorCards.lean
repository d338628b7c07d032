/-
  DERIVED. GIVEN WITH THE SEED: THE CARDS: each row of YtoniccokohjenaaDoorRows.lean that lists a variable, with what it lists TIED to the program's text (the seventh form; the later family's looks); each row that meets fmt, with fmt's text TOLD by the authors' own Lean function (tested against real Go, not proved from fmt's source: count such statements apart). THE CARD IS WHAT COUNTS. Prove the row's statement (the work); the ties are given (YtoniccokohjenaaDoorTie.lean); close each card by the builder's one call (the guide's Derived/Test/ToyasCard.lean, 'card_holds'). Laid BY PROGRAM, IN A SANDBOX (cutbox-door.mjs). By AI agents, Wed Nov 11 2026. No macro, syntax, notation, axiom, sorry.
-/
import Derived.Test.YtoniccokohjenaaDoorRows
import GoSem.ClaimSeven
namespace Go.Proofs.YtoniccokohjenaaDoor
namespace Rows

/-- THE TIED CARD OF 'lorgnettelaw19.MatchPlain'. -/
def matchPlainCard : Claim7 := { stood := { row := matchPlainRow, standIns := [], harness := (true, "ee38e503246d2a3442c6dbf5bcbfe851cb11476c980056b52e16a5389f684eda"), looks := true }, kinds := [], alts := [], laidByText := true, laidKinds := [.data, .pinned], laidTests := true, laidLooks := .later }
def MatchPlainCardSaid : Prop := Claim7.holds Tryd.pinned (.plain (OpenSpec.ofChange matchPlainSpec)) matchPlainCard

/-- THE SECOND FORM's CARD OF 'lorgnettelaw19.MatchPlain'. -/
def matchPlainUptoCard : Claim7 := { stood := { row := matchPlainUptoRow, standIns := [], harness := (true, "ee38e503246d2a3442c6dbf5bcbfe851cb11476c980056b52e16a5389f684eda"), looks := true }, kinds := [], alts := [], laidByText := true, laidKinds := [.data, .pinned], laidTests := true, laidLooks := .later }
def MatchPlainUptoCardSaid : Prop := Claim7.holds Tryd.pinned (.plain (OpenSpec.upto matchPlainSpec)) matchPlainUptoCard
end Rows
end Go.Proofs.YtoniccokohjenaaDoor
