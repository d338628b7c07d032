/-
  DERIVED. GIVEN WITH THE SEED: THE CARDS: each row of YtojapomkmfbciaaDoorRows.lean that lists a variable, with what it lists TIED to the program's text (the seventh form; the later family's looks); each row that meets fmt, with fmt's text TOLD by the authors' own Lean function (tested against real Go, not proved from fmt's source: count such statements apart). THE CARD IS WHAT COUNTS. Prove the row's statement (the work); the ties are given (YtojapomkmfbciaaDoorTie.lean); close each card by the builder's one call (the guide's Derived/Test/ToyasCard.lean, 'card_holds'). Laid BY PROGRAM, IN A SANDBOX (cutbox-door.mjs). By AI agents, Wed Nov 11 2026. No macro, syntax, notation, axiom, sorry.
-/
import Derived.Test.YtojapomkmfbciaaDoorRows
import GoSem.ClaimSeven
namespace Go.Proofs.YtojapomkmfbciaaDoor
namespace Rows

/-- THE TIED CARD OF 'lorgnettelaw05.QuoteWrites'. -/
def quoteWritesCard : Claim7 := { stood := { row := quoteWritesRow, standIns := [], harness := (true, "931c74cba72341f49d047976725ed4616eba1523402278e6e3c0d862e8f62f77"), looks := false }, kinds := [], alts := [], laidByText := true, laidKinds := [.data, .pinned], laidTests := true, laidLooks := .later }
def QuoteWritesCardSaid : Prop := Claim7.holds Tryd.pinned (.plain (OpenSpec.ofChange quoteWritesSpec)) quoteWritesCard

/-- THE TIED CARD OF 'lorgnettelaw05.QuoteSigns'. -/
def quoteSignsCard : Claim7 := { stood := { row := quoteSignsRow, standIns := [], harness := (true, "931c74cba72341f49d047976725ed4616eba1523402278e6e3c0d862e8f62f77"), looks := false }, kinds := [], alts := [], laidByText := true, laidKinds := [.data, .pinned], laidTests := true, laidLooks := .later }
def QuoteSignsCardSaid : Prop := Claim7.holds Tryd.pinned (.plain (OpenSpec.ofChange quoteSignsSpec)) quoteSignsCard

/-- THE TIED CARD OF 'lorgnettelaw05.QuoteViable'. -/
def quoteViableCard : Claim7 := { stood := { row := quoteViableRow, standIns := [], harness := (true, "931c74cba72341f49d047976725ed4616eba1523402278e6e3c0d862e8f62f77"), looks := false }, kinds := [], alts := [], laidByText := true, laidKinds := [.data, .pinned], laidTests := true, laidLooks := .later }
def QuoteViableCardSaid : Prop := Claim7.holds Tryd.pinned (.plain (OpenSpec.ofChange quoteViableSpec)) quoteViableCard

/-- THE TIED CARD OF 'lorgnettelaw05.QuoteBack'. -/
def quoteBackCard : Claim7 := { stood := { row := quoteBackRow, standIns := [], harness := (true, "931c74cba72341f49d047976725ed4616eba1523402278e6e3c0d862e8f62f77"), looks := false }, kinds := [], alts := [], laidByText := true, laidKinds := [.data, .pinned], laidTests := true, laidLooks := .later }
def QuoteBackCardSaid : Prop := Claim7.holds Tryd.pinned (.plain (OpenSpec.ofChange quoteBackSpec)) quoteBackCard

/-- THE TIED CARD OF 'lorgnettelaw09.ValidPrefix'. -/
def validPrefixCard : Claim7 := { stood := { row := validPrefixRow, standIns := [], harness := (true, "931c74cba72341f49d047976725ed4616eba1523402278e6e3c0d862e8f62f77"), looks := false }, kinds := [], alts := [], laidByText := true, laidKinds := [.data, .pinned], laidTests := true, laidLooks := .later }
def ValidPrefixCardSaid : Prop := Claim7.holds Tryd.pinned (.plain (OpenSpec.ofChange validPrefixSpec)) validPrefixCard

/-- THE TIED CARD OF 'lorgnettelaw09.ValidSpans'. -/
def validSpansCard : Claim7 := { stood := { row := validSpansRow, standIns := [], harness := (true, "931c74cba72341f49d047976725ed4616eba1523402278e6e3c0d862e8f62f77"), looks := false }, kinds := [], alts := [], laidByText := true, laidKinds := [.data, .pinned], laidTests := true, laidLooks := .later }
def ValidSpansCardSaid : Prop := Claim7.holds Tryd.pinned (.plain (OpenSpec.ofChange validSpansSpec)) validSpansCard

/-- THE TIED CARD OF 'lorgnettelaw09.ValidJoins'. -/
def validJoinsCard : Claim7 := { stood := { row := validJoinsRow, standIns := [], harness := (true, "931c74cba72341f49d047976725ed4616eba1523402278e6e3c0d862e8f62f77"), looks := false }, kinds := [], alts := [], laidByText := true, laidKinds := [.data, .pinned], laidTests := true, laidLooks := .later }
def ValidJoinsCardSaid : Prop := Claim7.holds Tryd.pinned (.plain (OpenSpec.ofChange validJoinsSpec)) validJoinsCard

/-- THE TIED CARD OF 'lorgnettelaw09.ValidDeeper'. -/
def validDeeperCard : Claim7 := { stood := { row := validDeeperRow, standIns := [], harness := (true, "931c74cba72341f49d047976725ed4616eba1523402278e6e3c0d862e8f62f77"), looks := false }, kinds := [], alts := [], laidByText := true, laidKinds := [.data, .pinned], laidTests := true, laidLooks := .later }
def ValidDeeperCardSaid : Prop := Claim7.holds Tryd.pinned (.plain (OpenSpec.ofChange validDeeperSpec)) validDeeperCard

/-- THE SECOND FORM's CARD OF 'lorgnettelaw05.QuoteWrites'. -/
def quoteWritesUptoCard : Claim7 := { stood := { row := quoteWritesUptoRow, standIns := [], harness := (true, "931c74cba72341f49d047976725ed4616eba1523402278e6e3c0d862e8f62f77"), looks := false }, kinds := [], alts := [], laidByText := true, laidKinds := [.data, .pinned], laidTests := true, laidLooks := .later }
def QuoteWritesUptoCardSaid : Prop := Claim7.holds Tryd.pinned (.plain (OpenSpec.upto quoteWritesSpec)) quoteWritesUptoCard

/-- THE SECOND FORM's CARD OF 'lorgnettelaw05.QuoteSigns'. -/
def quoteSignsUptoCard : Claim7 := { stood := { row := quoteSignsUptoRow, standIns := [], harness := (true, "931c74cba72341f49d047976725ed4616eba1523402278e6e3c0d862e8f62f77"), looks := false }, kinds := [], alts := [], laidByText := true, laidKinds := [.data, .pinned], laidTests := true, laidLooks := .later }
def QuoteSignsUptoCardSaid : Prop := Claim7.holds Tryd.pinned (.plain (OpenSpec.upto quoteSignsSpec)) quoteSignsUptoCard

/-- THE SECOND FORM's CARD OF 'lorgnettelaw05.QuoteViable'. -/
def quoteViableUptoCard : Claim7 := { stood := { row := quoteViableUptoRow, standIns := [], harness := (true, "931c74cba72341f49d047976725ed4616eba1523402278e6e3c0d862e8f62f77"), looks := false }, kinds := [], alts := [], laidByText := true, laidKinds := [.data, .pinned], laidTests := true, laidLooks := .later }
def QuoteViableUptoCardSaid : Prop := Claim7.holds Tryd.pinned (.plain (OpenSpec.upto quoteViableSpec)) quoteViableUptoCard

/-- THE SECOND FORM's CARD OF 'lorgnettelaw05.QuoteBack'. -/
def quoteBackUptoCard : Claim7 := { stood := { row := quoteBackUptoRow, standIns := [], harness := (true, "931c74cba72341f49d047976725ed4616eba1523402278e6e3c0d862e8f62f77"), looks := false }, kinds := [], alts := [], laidByText := true, laidKinds := [.data, .pinned], laidTests := true, laidLooks := .later }
def QuoteBackUptoCardSaid : Prop := Claim7.holds Tryd.pinned (.plain (OpenSpec.upto quoteBackSpec)) quoteBackUptoCard

/-- THE SECOND FORM's CARD OF 'lorgnettelaw09.ValidPrefix'. -/
def validPrefixUptoCard : Claim7 := { stood := { row := validPrefixUptoRow, standIns := [], harness := (true, "931c74cba72341f49d047976725ed4616eba1523402278e6e3c0d862e8f62f77"), looks := false }, kinds := [], alts := [], laidByText := true, laidKinds := [.data, .pinned], laidTests := true, laidLooks := .later }
def ValidPrefixUptoCardSaid : Prop := Claim7.holds Tryd.pinned (.plain (OpenSpec.upto validPrefixSpec)) validPrefixUptoCard

/-- THE SECOND FORM's CARD OF 'lorgnettelaw09.ValidSpans'. -/
def validSpansUptoCard : Claim7 := { stood := { row := validSpansUptoRow, standIns := [], harness := (true, "931c74cba72341f49d047976725ed4616eba1523402278e6e3c0d862e8f62f77"), looks := false }, kinds := [], alts := [], laidByText := true, laidKinds := [.data, .pinned], laidTests := true, laidLooks := .later }
def ValidSpansUptoCardSaid : Prop := Claim7.holds Tryd.pinned (.plain (OpenSpec.upto validSpansSpec)) validSpansUptoCard

/-- THE SECOND FORM's CARD OF 'lorgnettelaw09.ValidJoins'. -/
def validJoinsUptoCard : Claim7 := { stood := { row := validJoinsUptoRow, standIns := [], harness := (true, "931c74cba72341f49d047976725ed4616eba1523402278e6e3c0d862e8f62f77"), looks := false }, kinds := [], alts := [], laidByText := true, laidKinds := [.data, .pinned], laidTests := true, laidLooks := .later }
def ValidJoinsUptoCardSaid : Prop := Claim7.holds Tryd.pinned (.plain (OpenSpec.upto validJoinsSpec)) validJoinsUptoCard

/-- THE SECOND FORM's CARD OF 'lorgnettelaw09.ValidDeeper'. -/
def validDeeperUptoCard : Claim7 := { stood := { row := validDeeperUptoRow, standIns := [], harness := (true, "931c74cba72341f49d047976725ed4616eba1523402278e6e3c0d862e8f62f77"), looks := false }, kinds := [], alts := [], laidByText := true, laidKinds := [.data, .pinned], laidTests := true, laidLooks := .later }
def ValidDeeperUptoCardSaid : Prop := Claim7.holds Tryd.pinned (.plain (OpenSpec.upto validDeeperSpec)) validDeeperUptoCard
end Rows
end Go.Proofs.YtojapomkmfbciaaDoor
