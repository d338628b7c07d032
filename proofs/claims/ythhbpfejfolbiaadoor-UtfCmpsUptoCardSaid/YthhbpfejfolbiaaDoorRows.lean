/-
  NARROWER THAN 'FOR EVERY INPUT', by the rows' own cells (each row's printed sentence says how): UtfDecodes: laid · UtfEncodes: laid · UtfCleans: laid · UtfSlices: laid · UtfImplodes: laid · UtfBack: laid · UtfCmps: laid · UtfOrder: laid.
  DERIVED. THE GIVEN ROWS OF THIS SEAT. 8 by the template 'for every input the law returns true; each argument reads behind the call as it read before'; 0 by the template 'total and deterministic' (their statements: YthhbpfejfolbiaaDoorTotals.lean).
  GIVEN WITH THE SEED: the statements are not yours to turn. If you find one false, say at which input.
  Laid BY PROGRAM, IN A SANDBOX (cutbox-rows.mjs): the forced cells as the released guide's own fill.sh prints them over the translation 0ba886ac5adbd134… (all of the seat's roots in one cut). By AI agents, Wed Nov 11 2026. No macro, syntax, notation, axiom, sorry.
-/
import Derived.Test.YthhbpfejfolbiaaDoorChecked
import GoSem.PinnedTables
import GoSem.Claim
import GoSem.ClaimJoined
import GoSem.ClaimMapViews
import Derived.JoinedTies
import Derived.KernelRfl
namespace Go.Proofs.YthhbpfejfolbiaaDoor
/- THE CELL 'sum', in the pinned program and in every row, IS THE sha256 OF THE DUMP (.gsa) THAT YthhbpfejfolbiaaDoorProg.lean LOADS. Nothing in Lean hashes anything: it is a label: what it is worth is what the hold of that sum in a sandbox is worth. -/
noncomputable def Tryd.pinned : Pinned := { name := "ythhbpfejfolbiaadoor", sum := "0ba886ac5adbd1344ad64ab96ddac974f97c01b954aa13fb42aca1ac71c64c0d", checked := Tryd.checked }
namespace Rows
def none {H : Type} : Left H := { results := [], args := [] }

/- WHAT THE LISTED PACKAGE-LEVEL VARIABLES READ AS WHEN THE CALL BEGINS. Each datum BY PROGRAM (the guide's laid-datum.mjs) off the statement by which the dump's own 'gosem.cut.vars' lays the variable. In a bare row this is a premise. The card (YthhbpfejfolbiaaDoorCards.lean) ties it to the program's text. -/
def laid_unicode_utf8_acceptRanges {H : Type} : DataW H := .agg [.agg [.lit (.int .u8 128), .lit (.int .u8 191)], .agg [.lit (.int .u8 160), .lit (.int .u8 191)], .agg [.lit (.int .u8 128), .lit (.int .u8 159)], .agg [.lit (.int .u8 144), .lit (.int .u8 191)], .agg [.lit (.int .u8 128), .lit (.int .u8 143)], .agg [.lit (.int .u8 0), .lit (.int .u8 0)], .agg [.lit (.int .u8 0), .lit (.int .u8 0)], .agg [.lit (.int .u8 0), .lit (.int .u8 0)], .agg [.lit (.int .u8 0), .lit (.int .u8 0)], .agg [.lit (.int .u8 0), .lit (.int .u8 0)], .agg [.lit (.int .u8 0), .lit (.int .u8 0)], .agg [.lit (.int .u8 0), .lit (.int .u8 0)], .agg [.lit (.int .u8 0), .lit (.int .u8 0)], .agg [.lit (.int .u8 0), .lit (.int .u8 0)], .agg [.lit (.int .u8 0), .lit (.int .u8 0)], .agg [.lit (.int .u8 0), .lit (.int .u8 0)]]
/-- One of Go's own tables, pinned by name: the form's constant. -/
def laid_unicode_utf8_first : DataW Unit := Go.Pinned.utf8First

/-- 'lorgnettelaw04.UtfDecodes': WHATEVER THE INPUT: true; the input reads as it did. -/
def utfDecodesSpec : ChangeSpec := { name := "utfDecodes", fn := fun _ => fun
  | [d] => { results := [.lit (.bool true)], args := [d] }
  | _ => none }
def utfDecodesRow : OpenClaim := { program := "ythhbpfejfolbiaadoor", sum := "0ba886ac5adbd1344ad64ab96ddac974f97c01b954aa13fb42aca1ac71c64c0d", func := "lorgnette/lorgnettelaw04.UtfDecodes", spec := "utfDecodes", inPlace := ["internal/abi.NoEscape"], named := ["unicode/utf8.first", "unicode/utf8.acceptRanges"], apart := false, laid := [("unicode/utf8.acceptRanges", laid_unicode_utf8_acceptRanges), ("unicode/utf8.first", laid_unicode_utf8_first)] }
def UtfDecodesSaid : Prop := utfDecodesRow.holds Tryd.pinned (OpenSpec.ofChange utfDecodesSpec)

/-- ITS FALSE NEIGHBOUR: 'it returns false'. Refute it at one input. -/
def utfDecodesWrong : ChangeSpec := { name := "utfDecodes", fn := fun _ => fun
  | [d] => { results := [.lit (.bool false)], args := [d] }
  | _ => none }
def UtfDecodesWrongFalsely : Prop := utfDecodesRow.holds Tryd.pinned (OpenSpec.ofChange utfDecodesWrong)

/-- 'lorgnettelaw04.UtfEncodes': WHATEVER THE INPUT: true; the input reads as it did. -/
def utfEncodesSpec : ChangeSpec := { name := "utfEncodes", fn := fun _ => fun
  | [d] => { results := [.lit (.bool true)], args := [d] }
  | _ => none }
def utfEncodesRow : OpenClaim := { program := "ythhbpfejfolbiaadoor", sum := "0ba886ac5adbd1344ad64ab96ddac974f97c01b954aa13fb42aca1ac71c64c0d", func := "lorgnette/lorgnettelaw04.UtfEncodes", spec := "utfEncodes", inPlace := ["internal/abi.NoEscape"], named := ["unicode/utf8.first", "unicode/utf8.acceptRanges"], apart := false, laid := [("unicode/utf8.acceptRanges", laid_unicode_utf8_acceptRanges), ("unicode/utf8.first", laid_unicode_utf8_first)] }
def UtfEncodesSaid : Prop := utfEncodesRow.holds Tryd.pinned (OpenSpec.ofChange utfEncodesSpec)

/-- ITS FALSE NEIGHBOUR: 'it returns false'. Refute it at one input. -/
def utfEncodesWrong : ChangeSpec := { name := "utfEncodes", fn := fun _ => fun
  | [d] => { results := [.lit (.bool false)], args := [d] }
  | _ => none }
def UtfEncodesWrongFalsely : Prop := utfEncodesRow.holds Tryd.pinned (OpenSpec.ofChange utfEncodesWrong)

/-- 'lorgnettelaw04.UtfCleans': WHATEVER THE INPUT: true; the input reads as it did. -/
def utfCleansSpec : ChangeSpec := { name := "utfCleans", fn := fun _ => fun
  | [d] => { results := [.lit (.bool true)], args := [d] }
  | _ => none }
def utfCleansRow : OpenClaim := { program := "ythhbpfejfolbiaadoor", sum := "0ba886ac5adbd1344ad64ab96ddac974f97c01b954aa13fb42aca1ac71c64c0d", func := "lorgnette/lorgnettelaw04.UtfCleans", spec := "utfCleans", inPlace := ["internal/abi.NoEscape"], named := ["unicode/utf8.first", "unicode/utf8.acceptRanges"], apart := false, laid := [("unicode/utf8.acceptRanges", laid_unicode_utf8_acceptRanges), ("unicode/utf8.first", laid_unicode_utf8_first)] }
def UtfCleansSaid : Prop := utfCleansRow.holds Tryd.pinned (OpenSpec.ofChange utfCleansSpec)

/-- ITS FALSE NEIGHBOUR: 'it returns false'. Refute it at one input. -/
def utfCleansWrong : ChangeSpec := { name := "utfCleans", fn := fun _ => fun
  | [d] => { results := [.lit (.bool false)], args := [d] }
  | _ => none }
def UtfCleansWrongFalsely : Prop := utfCleansRow.holds Tryd.pinned (OpenSpec.ofChange utfCleansWrong)

/-- 'lorgnettelaw04.UtfSlices': WHATEVER THE INPUT: true; the input reads as it did. -/
def utfSlicesSpec : ChangeSpec := { name := "utfSlices", fn := fun _ => fun
  | [d1, d2, d3] => { results := [.lit (.bool true)], args := [d1, d2, d3] }
  | _ => none }
def utfSlicesRow : OpenClaim := { program := "ythhbpfejfolbiaadoor", sum := "0ba886ac5adbd1344ad64ab96ddac974f97c01b954aa13fb42aca1ac71c64c0d", func := "lorgnette/lorgnettelaw04.UtfSlices", spec := "utfSlices", inPlace := ["internal/abi.NoEscape"], named := ["unicode/utf8.first", "unicode/utf8.acceptRanges"], apart := false, laid := [("unicode/utf8.acceptRanges", laid_unicode_utf8_acceptRanges), ("unicode/utf8.first", laid_unicode_utf8_first)] }
def UtfSlicesSaid : Prop := utfSlicesRow.holds Tryd.pinned (OpenSpec.ofChange utfSlicesSpec)

/-- ITS FALSE NEIGHBOUR: 'it returns false'. Refute it at one input. -/
def utfSlicesWrong : ChangeSpec := { name := "utfSlices", fn := fun _ => fun
  | [d1, d2, d3] => { results := [.lit (.bool false)], args := [d1, d2, d3] }
  | _ => none }
def UtfSlicesWrongFalsely : Prop := utfSlicesRow.holds Tryd.pinned (OpenSpec.ofChange utfSlicesWrong)

/-- 'lorgnettelaw04.UtfImplodes': WHATEVER THE INPUT: true; the input reads as it did. -/
def utfImplodesSpec : ChangeSpec := { name := "utfImplodes", fn := fun _ => fun
  | [d] => { results := [.lit (.bool true)], args := [d] }
  | _ => none }
def utfImplodesRow : OpenClaim := { program := "ythhbpfejfolbiaadoor", sum := "0ba886ac5adbd1344ad64ab96ddac974f97c01b954aa13fb42aca1ac71c64c0d", func := "lorgnette/lorgnettelaw04.UtfImplodes", spec := "utfImplodes", inPlace := ["internal/abi.NoEscape"], named := ["unicode/utf8.first", "unicode/utf8.acceptRanges"], apart := false, laid := [("unicode/utf8.acceptRanges", laid_unicode_utf8_acceptRanges), ("unicode/utf8.first", laid_unicode_utf8_first)] }
def UtfImplodesSaid : Prop := utfImplodesRow.holds Tryd.pinned (OpenSpec.ofChange utfImplodesSpec)

/-- ITS FALSE NEIGHBOUR: 'it returns false'. Refute it at one input. -/
def utfImplodesWrong : ChangeSpec := { name := "utfImplodes", fn := fun _ => fun
  | [d] => { results := [.lit (.bool false)], args := [d] }
  | _ => none }
def UtfImplodesWrongFalsely : Prop := utfImplodesRow.holds Tryd.pinned (OpenSpec.ofChange utfImplodesWrong)

/-- 'lorgnettelaw04.UtfBack': WHATEVER THE INPUT: true; the input reads as it did. -/
def utfBackSpec : ChangeSpec := { name := "utfBack", fn := fun _ => fun
  | [d1, d2] => { results := [.lit (.bool true)], args := [d1, d2] }
  | _ => none }
def utfBackRow : OpenClaim := { program := "ythhbpfejfolbiaadoor", sum := "0ba886ac5adbd1344ad64ab96ddac974f97c01b954aa13fb42aca1ac71c64c0d", func := "lorgnette/lorgnettelaw04.UtfBack", spec := "utfBack", inPlace := ["internal/abi.NoEscape"], named := ["unicode/utf8.first", "unicode/utf8.acceptRanges"], apart := false, laid := [("unicode/utf8.acceptRanges", laid_unicode_utf8_acceptRanges), ("unicode/utf8.first", laid_unicode_utf8_first)] }
def UtfBackSaid : Prop := utfBackRow.holds Tryd.pinned (OpenSpec.ofChange utfBackSpec)

/-- ITS FALSE NEIGHBOUR: 'it returns false'. Refute it at one input. -/
def utfBackWrong : ChangeSpec := { name := "utfBack", fn := fun _ => fun
  | [d1, d2] => { results := [.lit (.bool false)], args := [d1, d2] }
  | _ => none }
def UtfBackWrongFalsely : Prop := utfBackRow.holds Tryd.pinned (OpenSpec.ofChange utfBackWrong)

/-- 'lorgnettelaw04.UtfCmps': WHATEVER THE INPUT: true; the input reads as it did. -/
def utfCmpsSpec : ChangeSpec := { name := "utfCmps", fn := fun _ => fun
  | [d1, d2] => { results := [.lit (.bool true)], args := [d1, d2] }
  | _ => none }
def utfCmpsRow : OpenClaim := { program := "ythhbpfejfolbiaadoor", sum := "0ba886ac5adbd1344ad64ab96ddac974f97c01b954aa13fb42aca1ac71c64c0d", func := "lorgnette/lorgnettelaw04.UtfCmps", spec := "utfCmps", inPlace := ["internal/abi.NoEscape"], named := ["unicode/utf8.first", "unicode/utf8.acceptRanges"], apart := false, laid := [("unicode/utf8.acceptRanges", laid_unicode_utf8_acceptRanges), ("unicode/utf8.first", laid_unicode_utf8_first)] }
def UtfCmpsSaid : Prop := utfCmpsRow.holds Tryd.pinned (OpenSpec.ofChange utfCmpsSpec)

/-- ITS FALSE NEIGHBOUR: 'it returns false'. Refute it at one input. -/
def utfCmpsWrong : ChangeSpec := { name := "utfCmps", fn := fun _ => fun
  | [d1, d2] => { results := [.lit (.bool false)], args := [d1, d2] }
  | _ => none }
def UtfCmpsWrongFalsely : Prop := utfCmpsRow.holds Tryd.pinned (OpenSpec.ofChange utfCmpsWrong)

/-- 'lorgnettelaw04.UtfOrder': WHATEVER THE INPUT: true; the input reads as it did. -/
def utfOrderSpec : ChangeSpec := { name := "utfOrder", fn := fun _ => fun
  | [d1, d2, d3] => { results := [.lit (.bool true)], args := [d1, d2, d3] }
  | _ => none }
def utfOrderRow : OpenClaim := { program := "ythhbpfejfolbiaadoor", sum := "0ba886ac5adbd1344ad64ab96ddac974f97c01b954aa13fb42aca1ac71c64c0d", func := "lorgnette/lorgnettelaw04.UtfOrder", spec := "utfOrder", inPlace := ["internal/abi.NoEscape"], named := ["unicode/utf8.first", "unicode/utf8.acceptRanges"], apart := false, laid := [("unicode/utf8.acceptRanges", laid_unicode_utf8_acceptRanges), ("unicode/utf8.first", laid_unicode_utf8_first)] }
def UtfOrderSaid : Prop := utfOrderRow.holds Tryd.pinned (OpenSpec.ofChange utfOrderSpec)

/-- ITS FALSE NEIGHBOUR: 'it returns false'. Refute it at one input. -/
def utfOrderWrong : ChangeSpec := { name := "utfOrder", fn := fun _ => fun
  | [d1, d2, d3] => { results := [.lit (.bool false)], args := [d1, d2, d3] }
  | _ => none }
def UtfOrderWrongFalsely : Prop := utfOrderRow.holds Tryd.pinned (OpenSpec.ofChange utfOrderWrong)

/- THE SECOND FORM. 'bulk': how many values and letters a reading holds, each counted each time it is reached (what is shared counts as often as it is met; a slice's spare places count too). A statement '..UptoSaid' is the law's where the arguments, and the package variables that the reading takes, are together of bulk at most 1048576: NARROWER than '..Said'. Prove '..Said' where nothing that the law and all that it calls make is longer than what came in: it says more and counts as full. Else prove '..UptoSaid'. A law counts once. -/
mutual
def uptoBulk {H : Type} : DataW H → Nat
  | .lit (.string bytes) => bytes.length + 1
  | .lit _ => 1
  | .nil => 1
  | .ptr d => uptoBulk d + 1
  | .slice elems spare => uptoBulkAll elems + uptoBulkAll spare + 1
  | .agg parts => uptoBulkAll parts + 1
  | .iface _ d => uptoBulk d + 1
  | .map entries => uptoBulkEntries entries + 1
  | .held _ => 1
def uptoBulkAll {H : Type} : List (DataW H) → Nat
  | [] => 0
  | d :: r => uptoBulk d + uptoBulkAll r
def uptoBulkEntries {H : Type} : List (Lit × DataW H) → Nat
  | [] => 0
  | x :: r => uptoBulkEntry x + uptoBulkEntries r
def uptoBulkEntry {H : Type} : Lit × DataW H → Nat
  | (.string bytes, d) => bytes.length + uptoBulk d + 1
  | (_, d) => uptoBulk d + 1
 end
def uptoSmall : (H : Type) → List (DataW H) → Bool := fun _ ds => decide (uptoBulkAll ds ≤ 1048576)
def OpenSpec.upto (s : _root_.Go.ChangeSpec) : _root_.Go.OpenSpec := { _root_.Go.OpenSpec.ofChange s with cond := some uptoSmall }

/-- 'lorgnettelaw04.UtfDecodes', WHERE WHAT IT READS IS OF BULK AT MOST 1048576: true; the input reads as it did. -/
def utfDecodesUptoRow : OpenClaim := { program := "ythhbpfejfolbiaadoor", sum := "0ba886ac5adbd1344ad64ab96ddac974f97c01b954aa13fb42aca1ac71c64c0d", func := "lorgnette/lorgnettelaw04.UtfDecodes", spec := "utfDecodes", inPlace := ["internal/abi.NoEscape"], named := ["unicode/utf8.first", "unicode/utf8.acceptRanges"], apart := false, laid := [("unicode/utf8.acceptRanges", laid_unicode_utf8_acceptRanges), ("unicode/utf8.first", laid_unicode_utf8_first)], narrowed := true }
def UtfDecodesUptoSaid : Prop := utfDecodesUptoRow.holds Tryd.pinned (OpenSpec.upto utfDecodesSpec)

/-- 'lorgnettelaw04.UtfEncodes', WHERE WHAT IT READS IS OF BULK AT MOST 1048576: true; the input reads as it did. -/
def utfEncodesUptoRow : OpenClaim := { program := "ythhbpfejfolbiaadoor", sum := "0ba886ac5adbd1344ad64ab96ddac974f97c01b954aa13fb42aca1ac71c64c0d", func := "lorgnette/lorgnettelaw04.UtfEncodes", spec := "utfEncodes", inPlace := ["internal/abi.NoEscape"], named := ["unicode/utf8.first", "unicode/utf8.acceptRanges"], apart := false, laid := [("unicode/utf8.acceptRanges", laid_unicode_utf8_acceptRanges), ("unicode/utf8.first", laid_unicode_utf8_first)], narrowed := true }
def UtfEncodesUptoSaid : Prop := utfEncodesUptoRow.holds Tryd.pinned (OpenSpec.upto utfEncodesSpec)

/-- 'lorgnettelaw04.UtfCleans', WHERE WHAT IT READS IS OF BULK AT MOST 1048576: true; the input reads as it did. -/
def utfCleansUptoRow : OpenClaim := { program := "ythhbpfejfolbiaadoor", sum := "0ba886ac5adbd1344ad64ab96ddac974f97c01b954aa13fb42aca1ac71c64c0d", func := "lorgnette/lorgnettelaw04.UtfCleans", spec := "utfCleans", inPlace := ["internal/abi.NoEscape"], named := ["unicode/utf8.first", "unicode/utf8.acceptRanges"], apart := false, laid := [("unicode/utf8.acceptRanges", laid_unicode_utf8_acceptRanges), ("unicode/utf8.first", laid_unicode_utf8_first)], narrowed := true }
def UtfCleansUptoSaid : Prop := utfCleansUptoRow.holds Tryd.pinned (OpenSpec.upto utfCleansSpec)

/-- 'lorgnettelaw04.UtfSlices', WHERE WHAT IT READS IS OF BULK AT MOST 1048576: true; the input reads as it did. -/
def utfSlicesUptoRow : OpenClaim := { program := "ythhbpfejfolbiaadoor", sum := "0ba886ac5adbd1344ad64ab96ddac974f97c01b954aa13fb42aca1ac71c64c0d", func := "lorgnette/lorgnettelaw04.UtfSlices", spec := "utfSlices", inPlace := ["internal/abi.NoEscape"], named := ["unicode/utf8.first", "unicode/utf8.acceptRanges"], apart := false, laid := [("unicode/utf8.acceptRanges", laid_unicode_utf8_acceptRanges), ("unicode/utf8.first", laid_unicode_utf8_first)], narrowed := true }
def UtfSlicesUptoSaid : Prop := utfSlicesUptoRow.holds Tryd.pinned (OpenSpec.upto utfSlicesSpec)

/-- 'lorgnettelaw04.UtfImplodes', WHERE WHAT IT READS IS OF BULK AT MOST 1048576: true; the input reads as it did. -/
def utfImplodesUptoRow : OpenClaim := { program := "ythhbpfejfolbiaadoor", sum := "0ba886ac5adbd1344ad64ab96ddac974f97c01b954aa13fb42aca1ac71c64c0d", func := "lorgnette/lorgnettelaw04.UtfImplodes", spec := "utfImplodes", inPlace := ["internal/abi.NoEscape"], named := ["unicode/utf8.first", "unicode/utf8.acceptRanges"], apart := false, laid := [("unicode/utf8.acceptRanges", laid_unicode_utf8_acceptRanges), ("unicode/utf8.first", laid_unicode_utf8_first)], narrowed := true }
def UtfImplodesUptoSaid : Prop := utfImplodesUptoRow.holds Tryd.pinned (OpenSpec.upto utfImplodesSpec)

/-- 'lorgnettelaw04.UtfBack', WHERE WHAT IT READS IS OF BULK AT MOST 1048576: true; the input reads as it did. -/
def utfBackUptoRow : OpenClaim := { program := "ythhbpfejfolbiaadoor", sum := "0ba886ac5adbd1344ad64ab96ddac974f97c01b954aa13fb42aca1ac71c64c0d", func := "lorgnette/lorgnettelaw04.UtfBack", spec := "utfBack", inPlace := ["internal/abi.NoEscape"], named := ["unicode/utf8.first", "unicode/utf8.acceptRanges"], apart := false, laid := [("unicode/utf8.acceptRanges", laid_unicode_utf8_acceptRanges), ("unicode/utf8.first", laid_unicode_utf8_first)], narrowed := true }
def UtfBackUptoSaid : Prop := utfBackUptoRow.holds Tryd.pinned (OpenSpec.upto utfBackSpec)

/-- 'lorgnettelaw04.UtfCmps', WHERE WHAT IT READS IS OF BULK AT MOST 1048576: true; the input reads as it did. -/
def utfCmpsUptoRow : OpenClaim := { program := "ythhbpfejfolbiaadoor", sum := "0ba886ac5adbd1344ad64ab96ddac974f97c01b954aa13fb42aca1ac71c64c0d", func := "lorgnette/lorgnettelaw04.UtfCmps", spec := "utfCmps", inPlace := ["internal/abi.NoEscape"], named := ["unicode/utf8.first", "unicode/utf8.acceptRanges"], apart := false, laid := [("unicode/utf8.acceptRanges", laid_unicode_utf8_acceptRanges), ("unicode/utf8.first", laid_unicode_utf8_first)], narrowed := true }
def UtfCmpsUptoSaid : Prop := utfCmpsUptoRow.holds Tryd.pinned (OpenSpec.upto utfCmpsSpec)

/-- 'lorgnettelaw04.UtfOrder', WHERE WHAT IT READS IS OF BULK AT MOST 1048576: true; the input reads as it did. -/
def utfOrderUptoRow : OpenClaim := { program := "ythhbpfejfolbiaadoor", sum := "0ba886ac5adbd1344ad64ab96ddac974f97c01b954aa13fb42aca1ac71c64c0d", func := "lorgnette/lorgnettelaw04.UtfOrder", spec := "utfOrder", inPlace := ["internal/abi.NoEscape"], named := ["unicode/utf8.first", "unicode/utf8.acceptRanges"], apart := false, laid := [("unicode/utf8.acceptRanges", laid_unicode_utf8_acceptRanges), ("unicode/utf8.first", laid_unicode_utf8_first)], narrowed := true }
def UtfOrderUptoSaid : Prop := utfOrderUptoRow.holds Tryd.pinned (OpenSpec.upto utfOrderSpec)

end Rows
end Go.Proofs.YthhbpfejfolbiaaDoor
