/-
  NARROWER THAN 'FOR EVERY INPUT', by the rows' own cells (each row's printed sentence says how): QuoteWrites: laid · QuoteSigns: laid · QuoteViable: laid · QuoteBack: laid · ValidPrefix: laid · ValidSpans: laid · ValidJoins: laid · ValidDeeper: laid.
  DERIVED. THE GIVEN ROWS OF THIS SEAT. 8 by the template 'for every input the law returns true; each argument reads behind the call as it read before'; 0 by the template 'total and deterministic' (their statements: YtojapomkmfbciaaDoorTotals.lean).
  GIVEN WITH THE SEED: the statements are not yours to turn. If you find one false, say at which input.
  Laid BY PROGRAM, IN A SANDBOX (cutbox-rows.mjs): the forced cells as the released guide's own fill.sh prints them over the translation e2b766c49106639b… (all of the seat's roots in one cut). By AI agents, Wed Nov 11 2026. No macro, syntax, notation, axiom, sorry.
-/
import Derived.Test.YtojapomkmfbciaaDoorChecked
import GoSem.PinnedTables
import GoSem.Claim
import GoSem.ClaimJoined
import GoSem.ClaimMapViews
import Derived.JoinedTies
import Derived.KernelRfl
namespace Go.Proofs.YtojapomkmfbciaaDoor
/- THE CELL 'sum', in the pinned program and in every row, IS THE sha256 OF THE DUMP (.gsa) THAT YtojapomkmfbciaaDoorProg.lean LOADS. Nothing in Lean hashes anything: it is a label: what it is worth is what the hold of that sum in a sandbox is worth. -/
noncomputable def Tryd.pinned : Pinned := { name := "ytojapomkmfbciaadoor", sum := "e2b766c49106639b0ff8fbf10e40ed97274ed7c8bdfcac5512c1c89144de5449", checked := Tryd.checked }
namespace Rows
def none {H : Type} : Left H := { results := [], args := [] }

/- WHAT THE LISTED PACKAGE-LEVEL VARIABLES READ AS WHEN THE CALL BEGINS. Each datum BY PROGRAM (the guide's laid-datum.mjs) off the statement by which the dump's own 'gosem.cut.vars' lays the variable. In a bare row this is a premise. The card (YtojapomkmfbciaaDoorCards.lean) ties it to the program's text. -/
def laid_unicode_utf8_acceptRanges {H : Type} : DataW H := .agg [.agg [.lit (.int .u8 128), .lit (.int .u8 191)], .agg [.lit (.int .u8 160), .lit (.int .u8 191)], .agg [.lit (.int .u8 128), .lit (.int .u8 159)], .agg [.lit (.int .u8 144), .lit (.int .u8 191)], .agg [.lit (.int .u8 128), .lit (.int .u8 143)], .agg [.lit (.int .u8 0), .lit (.int .u8 0)], .agg [.lit (.int .u8 0), .lit (.int .u8 0)], .agg [.lit (.int .u8 0), .lit (.int .u8 0)], .agg [.lit (.int .u8 0), .lit (.int .u8 0)], .agg [.lit (.int .u8 0), .lit (.int .u8 0)], .agg [.lit (.int .u8 0), .lit (.int .u8 0)], .agg [.lit (.int .u8 0), .lit (.int .u8 0)], .agg [.lit (.int .u8 0), .lit (.int .u8 0)], .agg [.lit (.int .u8 0), .lit (.int .u8 0)], .agg [.lit (.int .u8 0), .lit (.int .u8 0)], .agg [.lit (.int .u8 0), .lit (.int .u8 0)]]
/-- One of Go's own tables, pinned by name: the form's constant. -/
def laid_unicode_utf8_first : DataW Unit := Go.Pinned.utf8First

/-- 'lorgnettelaw05.QuoteWrites': WHATEVER THE INPUT: true; the input reads as it did. -/
def quoteWritesSpec : ChangeSpec := { name := "quoteWrites", fn := fun _ => fun
  | [d] => { results := [.lit (.bool true)], args := [d] }
  | _ => none }
def quoteWritesRow : OpenClaim := { program := "ytojapomkmfbciaadoor", sum := "e2b766c49106639b0ff8fbf10e40ed97274ed7c8bdfcac5512c1c89144de5449", func := "lorgnette/lorgnettelaw05.QuoteWrites", spec := "quoteWrites", inPlace := ["internal/bytealg.IndexByteString", "internal/abi.NoEscape"], unfollowed := true, recurses := true, named := ["unicode/utf8.first", "unicode/utf8.acceptRanges"], apart := false, laid := [("unicode/utf8.acceptRanges", laid_unicode_utf8_acceptRanges), ("unicode/utf8.first", laid_unicode_utf8_first)] }
def QuoteWritesSaid : Prop := quoteWritesRow.holds Tryd.pinned (OpenSpec.ofChange quoteWritesSpec)

/-- ITS FALSE NEIGHBOUR: 'it returns false'. Refute it at one input. -/
def quoteWritesWrong : ChangeSpec := { name := "quoteWrites", fn := fun _ => fun
  | [d] => { results := [.lit (.bool false)], args := [d] }
  | _ => none }
def QuoteWritesWrongFalsely : Prop := quoteWritesRow.holds Tryd.pinned (OpenSpec.ofChange quoteWritesWrong)

/-- 'lorgnettelaw05.QuoteSigns': WHATEVER THE INPUT: true; the input reads as it did. -/
def quoteSignsSpec : ChangeSpec := { name := "quoteSigns", fn := fun _ => fun
  | [d] => { results := [.lit (.bool true)], args := [d] }
  | _ => none }
def quoteSignsRow : OpenClaim := { program := "ytojapomkmfbciaadoor", sum := "e2b766c49106639b0ff8fbf10e40ed97274ed7c8bdfcac5512c1c89144de5449", func := "lorgnette/lorgnettelaw05.QuoteSigns", spec := "quoteSigns", inPlace := ["internal/bytealg.IndexByteString", "internal/abi.NoEscape"], unfollowed := true, recurses := true, named := ["unicode/utf8.first", "unicode/utf8.acceptRanges"], apart := false, laid := [("unicode/utf8.acceptRanges", laid_unicode_utf8_acceptRanges), ("unicode/utf8.first", laid_unicode_utf8_first)] }
def QuoteSignsSaid : Prop := quoteSignsRow.holds Tryd.pinned (OpenSpec.ofChange quoteSignsSpec)

/-- ITS FALSE NEIGHBOUR: 'it returns false'. Refute it at one input. -/
def quoteSignsWrong : ChangeSpec := { name := "quoteSigns", fn := fun _ => fun
  | [d] => { results := [.lit (.bool false)], args := [d] }
  | _ => none }
def QuoteSignsWrongFalsely : Prop := quoteSignsRow.holds Tryd.pinned (OpenSpec.ofChange quoteSignsWrong)

/-- 'lorgnettelaw05.QuoteViable': WHATEVER THE INPUT: true; the input reads as it did. -/
def quoteViableSpec : ChangeSpec := { name := "quoteViable", fn := fun _ => fun
  | [d1, d2] => { results := [.lit (.bool true)], args := [d1, d2] }
  | _ => none }
def quoteViableRow : OpenClaim := { program := "ytojapomkmfbciaadoor", sum := "e2b766c49106639b0ff8fbf10e40ed97274ed7c8bdfcac5512c1c89144de5449", func := "lorgnette/lorgnettelaw05.QuoteViable", spec := "quoteViable", inPlace := ["internal/bytealg.IndexByteString", "internal/abi.NoEscape"], unfollowed := true, recurses := true, named := ["unicode/utf8.first", "unicode/utf8.acceptRanges"], apart := false, laid := [("unicode/utf8.acceptRanges", laid_unicode_utf8_acceptRanges), ("unicode/utf8.first", laid_unicode_utf8_first)] }
def QuoteViableSaid : Prop := quoteViableRow.holds Tryd.pinned (OpenSpec.ofChange quoteViableSpec)

/-- ITS FALSE NEIGHBOUR: 'it returns false'. Refute it at one input. -/
def quoteViableWrong : ChangeSpec := { name := "quoteViable", fn := fun _ => fun
  | [d1, d2] => { results := [.lit (.bool false)], args := [d1, d2] }
  | _ => none }
def QuoteViableWrongFalsely : Prop := quoteViableRow.holds Tryd.pinned (OpenSpec.ofChange quoteViableWrong)

/-- 'lorgnettelaw05.QuoteBack': WHATEVER THE INPUT: true; the input reads as it did. -/
def quoteBackSpec : ChangeSpec := { name := "quoteBack", fn := fun _ => fun
  | [d1, d2, d3] => { results := [.lit (.bool true)], args := [d1, d2, d3] }
  | _ => none }
def quoteBackRow : OpenClaim := { program := "ytojapomkmfbciaadoor", sum := "e2b766c49106639b0ff8fbf10e40ed97274ed7c8bdfcac5512c1c89144de5449", func := "lorgnette/lorgnettelaw05.QuoteBack", spec := "quoteBack", inPlace := ["internal/bytealg.IndexByteString", "internal/abi.NoEscape"], unfollowed := true, recurses := true, named := ["unicode/utf8.first", "unicode/utf8.acceptRanges"], apart := false, laid := [("unicode/utf8.acceptRanges", laid_unicode_utf8_acceptRanges), ("unicode/utf8.first", laid_unicode_utf8_first)] }
def QuoteBackSaid : Prop := quoteBackRow.holds Tryd.pinned (OpenSpec.ofChange quoteBackSpec)

/-- ITS FALSE NEIGHBOUR: 'it returns false'. Refute it at one input. -/
def quoteBackWrong : ChangeSpec := { name := "quoteBack", fn := fun _ => fun
  | [d1, d2, d3] => { results := [.lit (.bool false)], args := [d1, d2, d3] }
  | _ => none }
def QuoteBackWrongFalsely : Prop := quoteBackRow.holds Tryd.pinned (OpenSpec.ofChange quoteBackWrong)

/-- 'lorgnettelaw09.ValidPrefix': WHATEVER THE INPUT: true; the input reads as it did. -/
def validPrefixSpec : ChangeSpec := { name := "validPrefix", fn := fun _ => fun
  | [d1, d2, d3] => { results := [.lit (.bool true)], args := [d1, d2, d3] }
  | _ => none }
def validPrefixRow : OpenClaim := { program := "ytojapomkmfbciaadoor", sum := "e2b766c49106639b0ff8fbf10e40ed97274ed7c8bdfcac5512c1c89144de5449", func := "lorgnette/lorgnettelaw09.ValidPrefix", spec := "validPrefix", inPlace := ["internal/bytealg.IndexByteString", "internal/abi.NoEscape"], unfollowed := true, recurses := true, named := ["unicode/utf8.first", "unicode/utf8.acceptRanges"], apart := false, laid := [("unicode/utf8.acceptRanges", laid_unicode_utf8_acceptRanges), ("unicode/utf8.first", laid_unicode_utf8_first)] }
def ValidPrefixSaid : Prop := validPrefixRow.holds Tryd.pinned (OpenSpec.ofChange validPrefixSpec)

/-- ITS FALSE NEIGHBOUR: 'it returns false'. Refute it at one input. -/
def validPrefixWrong : ChangeSpec := { name := "validPrefix", fn := fun _ => fun
  | [d1, d2, d3] => { results := [.lit (.bool false)], args := [d1, d2, d3] }
  | _ => none }
def ValidPrefixWrongFalsely : Prop := validPrefixRow.holds Tryd.pinned (OpenSpec.ofChange validPrefixWrong)

/-- 'lorgnettelaw09.ValidSpans': WHATEVER THE INPUT: true; the input reads as it did. -/
def validSpansSpec : ChangeSpec := { name := "validSpans", fn := fun _ => fun
  | [d1, d2] => { results := [.lit (.bool true)], args := [d1, d2] }
  | _ => none }
def validSpansRow : OpenClaim := { program := "ytojapomkmfbciaadoor", sum := "e2b766c49106639b0ff8fbf10e40ed97274ed7c8bdfcac5512c1c89144de5449", func := "lorgnette/lorgnettelaw09.ValidSpans", spec := "validSpans", inPlace := ["internal/bytealg.IndexByteString", "internal/abi.NoEscape"], unfollowed := true, recurses := true, named := ["unicode/utf8.first", "unicode/utf8.acceptRanges"], apart := false, laid := [("unicode/utf8.acceptRanges", laid_unicode_utf8_acceptRanges), ("unicode/utf8.first", laid_unicode_utf8_first)] }
def ValidSpansSaid : Prop := validSpansRow.holds Tryd.pinned (OpenSpec.ofChange validSpansSpec)

/-- ITS FALSE NEIGHBOUR: 'it returns false'. Refute it at one input. -/
def validSpansWrong : ChangeSpec := { name := "validSpans", fn := fun _ => fun
  | [d1, d2] => { results := [.lit (.bool false)], args := [d1, d2] }
  | _ => none }
def ValidSpansWrongFalsely : Prop := validSpansRow.holds Tryd.pinned (OpenSpec.ofChange validSpansWrong)

/-- 'lorgnettelaw09.ValidJoins': WHATEVER THE INPUT: true; the input reads as it did. -/
def validJoinsSpec : ChangeSpec := { name := "validJoins", fn := fun _ => fun
  | [d1, d2, d3] => { results := [.lit (.bool true)], args := [d1, d2, d3] }
  | _ => none }
def validJoinsRow : OpenClaim := { program := "ytojapomkmfbciaadoor", sum := "e2b766c49106639b0ff8fbf10e40ed97274ed7c8bdfcac5512c1c89144de5449", func := "lorgnette/lorgnettelaw09.ValidJoins", spec := "validJoins", inPlace := ["internal/bytealg.IndexByteString", "internal/abi.NoEscape"], unfollowed := true, recurses := true, named := ["unicode/utf8.first", "unicode/utf8.acceptRanges"], apart := false, laid := [("unicode/utf8.acceptRanges", laid_unicode_utf8_acceptRanges), ("unicode/utf8.first", laid_unicode_utf8_first)] }
def ValidJoinsSaid : Prop := validJoinsRow.holds Tryd.pinned (OpenSpec.ofChange validJoinsSpec)

/-- ITS FALSE NEIGHBOUR: 'it returns false'. Refute it at one input. -/
def validJoinsWrong : ChangeSpec := { name := "validJoins", fn := fun _ => fun
  | [d1, d2, d3] => { results := [.lit (.bool false)], args := [d1, d2, d3] }
  | _ => none }
def ValidJoinsWrongFalsely : Prop := validJoinsRow.holds Tryd.pinned (OpenSpec.ofChange validJoinsWrong)

/-- 'lorgnettelaw09.ValidDeeper': WHATEVER THE INPUT: true; the input reads as it did. -/
def validDeeperSpec : ChangeSpec := { name := "validDeeper", fn := fun _ => fun
  | [d1, d2, d3] => { results := [.lit (.bool true)], args := [d1, d2, d3] }
  | _ => none }
def validDeeperRow : OpenClaim := { program := "ytojapomkmfbciaadoor", sum := "e2b766c49106639b0ff8fbf10e40ed97274ed7c8bdfcac5512c1c89144de5449", func := "lorgnette/lorgnettelaw09.ValidDeeper", spec := "validDeeper", inPlace := ["internal/bytealg.IndexByteString", "internal/abi.NoEscape"], unfollowed := true, recurses := true, named := ["unicode/utf8.first", "unicode/utf8.acceptRanges"], apart := false, laid := [("unicode/utf8.acceptRanges", laid_unicode_utf8_acceptRanges), ("unicode/utf8.first", laid_unicode_utf8_first)] }
def ValidDeeperSaid : Prop := validDeeperRow.holds Tryd.pinned (OpenSpec.ofChange validDeeperSpec)

/-- ITS FALSE NEIGHBOUR: 'it returns false'. Refute it at one input. -/
def validDeeperWrong : ChangeSpec := { name := "validDeeper", fn := fun _ => fun
  | [d1, d2, d3] => { results := [.lit (.bool false)], args := [d1, d2, d3] }
  | _ => none }
def ValidDeeperWrongFalsely : Prop := validDeeperRow.holds Tryd.pinned (OpenSpec.ofChange validDeeperWrong)

/- THE SECOND FORM. 'bulk': how many values and letters a reading holds, each counted each time it is reached (what is shared counts as often as it is met; a slice's spare places count too). A statement '..UptoSaid' is the law's where the arguments, and the package variables that the reading takes, are together of bulk at most 1048576: NARROWER than '..Said'. Prove '..Said' where nothing that the law and all that it calls make is longer than what came in: it says more and counts as full. Else prove '..UptoSaid'. A law counts once. -/
mutual
def uptoBulk {H : Type} : DataW H → Nat
  | .lit (.string bytes) => bytes.length + 1
  | .lit _ => 1
  | .nil => 1
  | .ptr d => uptoBulk d + 1
  | .slice elems spare => uptoBulkAll elems + uptoBulkAll spare + 1
  | .agg parts => uptoBulkAll parts + 1
  | .iface _ d => uptoBulk d + 1
  | .map entries => uptoBulkEntries entries + 1
  | .held _ => 1
def uptoBulkAll {H : Type} : List (DataW H) → Nat
  | [] => 0
  | d :: r => uptoBulk d + uptoBulkAll r
def uptoBulkEntries {H : Type} : List (Lit × DataW H) → Nat
  | [] => 0
  | x :: r => uptoBulkEntry x + uptoBulkEntries r
def uptoBulkEntry {H : Type} : Lit × DataW H → Nat
  | (.string bytes, d) => bytes.length + uptoBulk d + 1
  | (_, d) => uptoBulk d + 1
 end
def uptoSmall : (H : Type) → List (DataW H) → Bool := fun _ ds => decide (uptoBulkAll ds ≤ 1048576)
def OpenSpec.upto (s : _root_.Go.ChangeSpec) : _root_.Go.OpenSpec := { _root_.Go.OpenSpec.ofChange s with cond := some uptoSmall }

/-- 'lorgnettelaw05.QuoteWrites', WHERE WHAT IT READS IS OF BULK AT MOST 1048576: true; the input reads as it did. -/
def quoteWritesUptoRow : OpenClaim := { program := "ytojapomkmfbciaadoor", sum := "e2b766c49106639b0ff8fbf10e40ed97274ed7c8bdfcac5512c1c89144de5449", func := "lorgnette/lorgnettelaw05.QuoteWrites", spec := "quoteWrites", inPlace := ["internal/bytealg.IndexByteString", "internal/abi.NoEscape"], unfollowed := true, recurses := true, named := ["unicode/utf8.first", "unicode/utf8.acceptRanges"], apart := false, laid := [("unicode/utf8.acceptRanges", laid_unicode_utf8_acceptRanges), ("unicode/utf8.first", laid_unicode_utf8_first)], narrowed := true }
def QuoteWritesUptoSaid : Prop := quoteWritesUptoRow.holds Tryd.pinned (OpenSpec.upto quoteWritesSpec)

/-- 'lorgnettelaw05.QuoteSigns', WHERE WHAT IT READS IS OF BULK AT MOST 1048576: true; the input reads as it did. -/
def quoteSignsUptoRow : OpenClaim := { program := "ytojapomkmfbciaadoor", sum := "e2b766c49106639b0ff8fbf10e40ed97274ed7c8bdfcac5512c1c89144de5449", func := "lorgnette/lorgnettelaw05.QuoteSigns", spec := "quoteSigns", inPlace := ["internal/bytealg.IndexByteString", "internal/abi.NoEscape"], unfollowed := true, recurses := true, named := ["unicode/utf8.first", "unicode/utf8.acceptRanges"], apart := false, laid := [("unicode/utf8.acceptRanges", laid_unicode_utf8_acceptRanges), ("unicode/utf8.first", laid_unicode_utf8_first)], narrowed := true }
def QuoteSignsUptoSaid : Prop := quoteSignsUptoRow.holds Tryd.pinned (OpenSpec.upto quoteSignsSpec)

/-- 'lorgnettelaw05.QuoteViable', WHERE WHAT IT READS IS OF BULK AT MOST 1048576: true; the input reads as it did. -/
def quoteViableUptoRow : OpenClaim := { program := "ytojapomkmfbciaadoor", sum := "e2b766c49106639b0ff8fbf10e40ed97274ed7c8bdfcac5512c1c89144de5449", func := "lorgnette/lorgnettelaw05.QuoteViable", spec := "quoteViable", inPlace := ["internal/bytealg.IndexByteString", "internal/abi.NoEscape"], unfollowed := true, recurses := true, named := ["unicode/utf8.first", "unicode/utf8.acceptRanges"], apart := false, laid := [("unicode/utf8.acceptRanges", laid_unicode_utf8_acceptRanges), ("unicode/utf8.first", laid_unicode_utf8_first)], narrowed := true }
def QuoteViableUptoSaid : Prop := quoteViableUptoRow.holds Tryd.pinned (OpenSpec.upto quoteViableSpec)

/-- 'lorgnettelaw05.QuoteBack', WHERE WHAT IT READS IS OF BULK AT MOST 1048576: true; the input reads as it did. -/
def quoteBackUptoRow : OpenClaim := { program := "ytojapomkmfbciaadoor", sum := "e2b766c49106639b0ff8fbf10e40ed97274ed7c8bdfcac5512c1c89144de5449", func := "lorgnette/lorgnettelaw05.QuoteBack", spec := "quoteBack", inPlace := ["internal/bytealg.IndexByteString", "internal/abi.NoEscape"], unfollowed := true, recurses := true, named := ["unicode/utf8.first", "unicode/utf8.acceptRanges"], apart := false, laid := [("unicode/utf8.acceptRanges", laid_unicode_utf8_acceptRanges), ("unicode/utf8.first", laid_unicode_utf8_first)], narrowed := true }
def QuoteBackUptoSaid : Prop := quoteBackUptoRow.holds Tryd.pinned (OpenSpec.upto quoteBackSpec)

/-- 'lorgnettelaw09.ValidPrefix', WHERE WHAT IT READS IS OF BULK AT MOST 1048576: true; the input reads as it did. -/
def validPrefixUptoRow : OpenClaim := { program := "ytojapomkmfbciaadoor", sum := "e2b766c49106639b0ff8fbf10e40ed97274ed7c8bdfcac5512c1c89144de5449", func := "lorgnette/lorgnettelaw09.ValidPrefix", spec := "validPrefix", inPlace := ["internal/bytealg.IndexByteString", "internal/abi.NoEscape"], unfollowed := true, recurses := true, named := ["unicode/utf8.first", "unicode/utf8.acceptRanges"], apart := false, laid := [("unicode/utf8.acceptRanges", laid_unicode_utf8_acceptRanges), ("unicode/utf8.first", laid_unicode_utf8_first)], narrowed := true }
def ValidPrefixUptoSaid : Prop := validPrefixUptoRow.holds Tryd.pinned (OpenSpec.upto validPrefixSpec)

/-- 'lorgnettelaw09.ValidSpans', WHERE WHAT IT READS IS OF BULK AT MOST 1048576: true; the input reads as it did. -/
def validSpansUptoRow : OpenClaim := { program := "ytojapomkmfbciaadoor", sum := "e2b766c49106639b0ff8fbf10e40ed97274ed7c8bdfcac5512c1c89144de5449", func := "lorgnette/lorgnettelaw09.ValidSpans", spec := "validSpans", inPlace := ["internal/bytealg.IndexByteString", "internal/abi.NoEscape"], unfollowed := true, recurses := true, named := ["unicode/utf8.first", "unicode/utf8.acceptRanges"], apart := false, laid := [("unicode/utf8.acceptRanges", laid_unicode_utf8_acceptRanges), ("unicode/utf8.first", laid_unicode_utf8_first)], narrowed := true }
def ValidSpansUptoSaid : Prop := validSpansUptoRow.holds Tryd.pinned (OpenSpec.upto validSpansSpec)

/-- 'lorgnettelaw09.ValidJoins', WHERE WHAT IT READS IS OF BULK AT MOST 1048576: true; the input reads as it did. -/
def validJoinsUptoRow : OpenClaim := { program := "ytojapomkmfbciaadoor", sum := "e2b766c49106639b0ff8fbf10e40ed97274ed7c8bdfcac5512c1c89144de5449", func := "lorgnette/lorgnettelaw09.ValidJoins", spec := "validJoins", inPlace := ["internal/bytealg.IndexByteString", "internal/abi.NoEscape"], unfollowed := true, recurses := true, named := ["unicode/utf8.first", "unicode/utf8.acceptRanges"], apart := false, laid := [("unicode/utf8.acceptRanges", laid_unicode_utf8_acceptRanges), ("unicode/utf8.first", laid_unicode_utf8_first)], narrowed := true }
def ValidJoinsUptoSaid : Prop := validJoinsUptoRow.holds Tryd.pinned (OpenSpec.upto validJoinsSpec)

/-- 'lorgnettelaw09.ValidDeeper', WHERE WHAT IT READS IS OF BULK AT MOST 1048576: true; the input reads as it did. -/
def validDeeperUptoRow : OpenClaim := { program := "ytojapomkmfbciaadoor", sum := "e2b766c49106639b0ff8fbf10e40ed97274ed7c8bdfcac5512c1c89144de5449", func := "lorgnette/lorgnettelaw09.ValidDeeper", spec := "validDeeper", inPlace := ["internal/bytealg.IndexByteString", "internal/abi.NoEscape"], unfollowed := true, recurses := true, named := ["unicode/utf8.first", "unicode/utf8.acceptRanges"], apart := false, laid := [("unicode/utf8.acceptRanges", laid_unicode_utf8_acceptRanges), ("unicode/utf8.first", laid_unicode_utf8_first)], narrowed := true }
def ValidDeeperUptoSaid : Prop := validDeeperUptoRow.holds Tryd.pinned (OpenSpec.upto validDeeperSpec)

end Rows
end Go.Proofs.YtojapomkmfbciaaDoor
