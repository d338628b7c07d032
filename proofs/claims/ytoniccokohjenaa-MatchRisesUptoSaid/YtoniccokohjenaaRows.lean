/-
  NARROWER THAN 'FOR EVERY INPUT', by the rows' own cells (each row's printed sentence says how): RegexDepths: loops.
  DERIVED. THE GIVEN ROWS OF THIS SEAT. 8 by the template 'for every input the law returns true; each argument reads behind the call as it read before'; 0 by the template 'total and deterministic' (their statements: YtoniccokohjenaaTotals.lean).
  GIVEN WITH THE SEED: the statements are not yours to turn. If you find one false, say at which input.
  Laid BY PROGRAM, IN A SANDBOX (cutbox-rows.mjs): the forced cells as the released guide's own fill.sh prints them over the translation 9029c4ceed1e2c22… (all of the seat's roots in one cut). By AI agents, Wed Nov 11 2026. No macro, syntax, notation, axiom, sorry.
-/
import Derived.Test.YtoniccokohjenaaChecked
import GoSem.Claim
import GoSem.ClaimJoined
import GoSem.ClaimMapViews
import Derived.JoinedTies
import Derived.KernelRfl
namespace Go.Proofs.Ytoniccokohjenaa
/- THE CELL 'sum', in the pinned program and in every row, IS THE sha256 OF THE DUMP (.gsa) THAT YtoniccokohjenaaProg.lean LOADS. Nothing in Lean hashes anything: it is a label: what it is worth is what the hold of that sum in a sandbox is worth. -/
noncomputable def Try.pinned : Pinned := { name := "ytoniccokohjenaa", sum := "9029c4ceed1e2c220ee7c2bfcaf44960874553aa1f9eeb0c2775c0d1ad58ec3d", checked := Try.checked }
namespace Rows
def none {H : Type} : Left H := { results := [], args := [] }

/-- 'lorgnettelaw18.RegexParses': WHATEVER THE INPUT: true; the input reads as it did. -/
def regexParsesSpec : ChangeSpec := { name := "regexParses", fn := fun _ => fun
  | [d1, d2] => { results := [.lit (.bool true)], args := [d1, d2] }
  | _ => none }
def regexParsesRow : OpenClaim := { program := "ytoniccokohjenaa", sum := "9029c4ceed1e2c220ee7c2bfcaf44960874553aa1f9eeb0c2775c0d1ad58ec3d", func := "lorgnette/lorgnettelaw18.RegexParses", spec := "regexParses", inPlace := ["internal/abi.NoEscape"], unfollowed := true, recurses := true, apart := false }
def RegexParsesSaid : Prop := regexParsesRow.holds Try.pinned (OpenSpec.ofChange regexParsesSpec)

/-- ITS FALSE NEIGHBOUR: 'it returns false'. Refute it at one input. -/
def regexParsesWrong : ChangeSpec := { name := "regexParses", fn := fun _ => fun
  | [d1, d2] => { results := [.lit (.bool false)], args := [d1, d2] }
  | _ => none }
def RegexParsesWrongFalsely : Prop := regexParsesRow.holds Try.pinned (OpenSpec.ofChange regexParsesWrong)

/-- 'lorgnettelaw18.RegexSound': WHATEVER THE INPUT: true; the input reads as it did. -/
def regexSoundSpec : ChangeSpec := { name := "regexSound", fn := fun _ => fun
  | [d1, d2] => { results := [.lit (.bool true)], args := [d1, d2] }
  | _ => none }
def regexSoundRow : OpenClaim := { program := "ytoniccokohjenaa", sum := "9029c4ceed1e2c220ee7c2bfcaf44960874553aa1f9eeb0c2775c0d1ad58ec3d", func := "lorgnette/lorgnettelaw18.RegexSound", spec := "regexSound", inPlace := ["internal/abi.NoEscape"], unfollowed := true, recurses := true, apart := false }
def RegexSoundSaid : Prop := regexSoundRow.holds Try.pinned (OpenSpec.ofChange regexSoundSpec)

/-- ITS FALSE NEIGHBOUR: 'it returns false'. Refute it at one input. -/
def regexSoundWrong : ChangeSpec := { name := "regexSound", fn := fun _ => fun
  | [d1, d2] => { results := [.lit (.bool false)], args := [d1, d2] }
  | _ => none }
def RegexSoundWrongFalsely : Prop := regexSoundRow.holds Try.pinned (OpenSpec.ofChange regexSoundWrong)

/-- 'lorgnettelaw18.RegexPlain': WHATEVER THE INPUT: true; the input reads as it did. -/
def regexPlainSpec : ChangeSpec := { name := "regexPlain", fn := fun _ => fun
  | [d] => { results := [.lit (.bool true)], args := [d] }
  | _ => none }
def regexPlainRow : OpenClaim := { program := "ytoniccokohjenaa", sum := "9029c4ceed1e2c220ee7c2bfcaf44960874553aa1f9eeb0c2775c0d1ad58ec3d", func := "lorgnette/lorgnettelaw18.RegexPlain", spec := "regexPlain", inPlace := ["internal/abi.NoEscape"], unfollowed := true, recurses := true, apart := false }
def RegexPlainSaid : Prop := regexPlainRow.holds Try.pinned (OpenSpec.ofChange regexPlainSpec)

/-- ITS FALSE NEIGHBOUR: 'it returns false'. Refute it at one input. -/
def regexPlainWrong : ChangeSpec := { name := "regexPlain", fn := fun _ => fun
  | [d] => { results := [.lit (.bool false)], args := [d] }
  | _ => none }
def RegexPlainWrongFalsely : Prop := regexPlainRow.holds Try.pinned (OpenSpec.ofChange regexPlainWrong)

/-- 'lorgnettelaw18.RegexFree': WHATEVER THE INPUT: true; the input reads as it did. -/
def regexFreeSpec : ChangeSpec := { name := "regexFree", fn := fun _ => fun
  | [d] => { results := [.lit (.bool true)], args := [d] }
  | _ => none }
def regexFreeRow : OpenClaim := { program := "ytoniccokohjenaa", sum := "9029c4ceed1e2c220ee7c2bfcaf44960874553aa1f9eeb0c2775c0d1ad58ec3d", func := "lorgnette/lorgnettelaw18.RegexFree", spec := "regexFree", inPlace := ["internal/abi.NoEscape"], unfollowed := true, recurses := true, apart := false }
def RegexFreeSaid : Prop := regexFreeRow.holds Try.pinned (OpenSpec.ofChange regexFreeSpec)

/-- ITS FALSE NEIGHBOUR: 'it returns false'. Refute it at one input. -/
def regexFreeWrong : ChangeSpec := { name := "regexFree", fn := fun _ => fun
  | [d] => { results := [.lit (.bool false)], args := [d] }
  | _ => none }
def RegexFreeWrongFalsely : Prop := regexFreeRow.holds Try.pinned (OpenSpec.ofChange regexFreeWrong)

/-- 'lorgnettelaw18.RegexDepths': WHATEVER THE INPUT: true; the input reads as it did. -/
def regexDepthsSpec : ChangeSpec := { name := "regexDepths", fn := fun _ => fun
  | [d] => { results := [.lit (.bool true)], args := [d] }
  | _ => none }
def regexDepthsRow : OpenClaim := { program := "ytoniccokohjenaa", sum := "9029c4ceed1e2c220ee7c2bfcaf44960874553aa1f9eeb0c2775c0d1ad58ec3d", func := "lorgnette/lorgnettelaw18.RegexDepths", spec := "regexDepths", inPlace := ["internal/abi.NoEscape"], unfollowed := true, recurses := true, loops := true, apart := false }
def RegexDepthsSaid : Prop := regexDepthsRow.holds Try.pinned (OpenSpec.ofChange regexDepthsSpec)

/-- ITS FALSE NEIGHBOUR: 'it returns false'. Refute it at one input. -/
def regexDepthsWrong : ChangeSpec := { name := "regexDepths", fn := fun _ => fun
  | [d] => { results := [.lit (.bool false)], args := [d] }
  | _ => none }
def RegexDepthsWrongFalsely : Prop := regexDepthsRow.holds Try.pinned (OpenSpec.ofChange regexDepthsWrong)

/-- 'lorgnettelaw19.MatchAlls': WHATEVER THE INPUT: true; the input reads as it did. -/
def matchAllsSpec : ChangeSpec := { name := "matchAlls", fn := fun _ => fun
  | [d1, d2, d3] => { results := [.lit (.bool true)], args := [d1, d2, d3] }
  | _ => none }
def matchAllsRow : OpenClaim := { program := "ytoniccokohjenaa", sum := "9029c4ceed1e2c220ee7c2bfcaf44960874553aa1f9eeb0c2775c0d1ad58ec3d", func := "lorgnette/lorgnettelaw19.MatchAlls", spec := "matchAlls", inPlace := ["internal/abi.NoEscape"], unfollowed := true, recurses := true, apart := false }
def MatchAllsSaid : Prop := matchAllsRow.holds Try.pinned (OpenSpec.ofChange matchAllsSpec)

/-- ITS FALSE NEIGHBOUR: 'it returns false'. Refute it at one input. -/
def matchAllsWrong : ChangeSpec := { name := "matchAlls", fn := fun _ => fun
  | [d1, d2, d3] => { results := [.lit (.bool false)], args := [d1, d2, d3] }
  | _ => none }
def MatchAllsWrongFalsely : Prop := matchAllsRow.holds Try.pinned (OpenSpec.ofChange matchAllsWrong)

/-- 'lorgnettelaw19.MatchReplaces': WHATEVER THE INPUT: true; the input reads as it did. -/
def matchReplacesSpec : ChangeSpec := { name := "matchReplaces", fn := fun _ => fun
  | [d1, d2, d3, d4] => { results := [.lit (.bool true)], args := [d1, d2, d3, d4] }
  | _ => none }
def matchReplacesRow : OpenClaim := { program := "ytoniccokohjenaa", sum := "9029c4ceed1e2c220ee7c2bfcaf44960874553aa1f9eeb0c2775c0d1ad58ec3d", func := "lorgnette/lorgnettelaw19.MatchReplaces", spec := "matchReplaces", inPlace := ["internal/abi.NoEscape"], unfollowed := true, recurses := true, apart := false }
def MatchReplacesSaid : Prop := matchReplacesRow.holds Try.pinned (OpenSpec.ofChange matchReplacesSpec)

/-- ITS FALSE NEIGHBOUR: 'it returns false'. Refute it at one input. -/
def matchReplacesWrong : ChangeSpec := { name := "matchReplaces", fn := fun _ => fun
  | [d1, d2, d3, d4] => { results := [.lit (.bool false)], args := [d1, d2, d3, d4] }
  | _ => none }
def MatchReplacesWrongFalsely : Prop := matchReplacesRow.holds Try.pinned (OpenSpec.ofChange matchReplacesWrong)

/-- 'lorgnettelaw19.MatchRises': WHATEVER THE INPUT: true; the input reads as it did. -/
def matchRisesSpec : ChangeSpec := { name := "matchRises", fn := fun _ => fun
  | [d1, d2, d3] => { results := [.lit (.bool true)], args := [d1, d2, d3] }
  | _ => none }
def matchRisesRow : OpenClaim := { program := "ytoniccokohjenaa", sum := "9029c4ceed1e2c220ee7c2bfcaf44960874553aa1f9eeb0c2775c0d1ad58ec3d", func := "lorgnette/lorgnettelaw19.MatchRises", spec := "matchRises", inPlace := ["internal/abi.NoEscape"], unfollowed := true, recurses := true, apart := false }
def MatchRisesSaid : Prop := matchRisesRow.holds Try.pinned (OpenSpec.ofChange matchRisesSpec)

/-- ITS FALSE NEIGHBOUR: 'it returns false'. Refute it at one input. -/
def matchRisesWrong : ChangeSpec := { name := "matchRises", fn := fun _ => fun
  | [d1, d2, d3] => { results := [.lit (.bool false)], args := [d1, d2, d3] }
  | _ => none }
def MatchRisesWrongFalsely : Prop := matchRisesRow.holds Try.pinned (OpenSpec.ofChange matchRisesWrong)

/- THE SECOND FORM. 'bulk': how many values and letters a reading holds, each counted each time it is reached (what is shared counts as often as it is met; a slice's spare places count too). A statement '..UptoSaid' is the law's where the arguments, and the package variables that the reading takes, are together of bulk at most 1048576: NARROWER than '..Said'. Prove '..Said' where nothing that the law and all that it calls make is longer than what came in: it says more and counts as full. Else prove '..UptoSaid'. A law counts once. -/
mutual
def uptoBulk {H : Type} : DataW H → Nat
  | .lit (.string bytes) => bytes.length + 1
  | .lit _ => 1
  | .nil => 1
  | .ptr d => uptoBulk d + 1
  | .slice elems spare => uptoBulkAll elems + uptoBulkAll spare + 1
  | .agg parts => uptoBulkAll parts + 1
  | .iface _ d => uptoBulk d + 1
  | .map entries => uptoBulkEntries entries + 1
  | .held _ => 1
def uptoBulkAll {H : Type} : List (DataW H) → Nat
  | [] => 0
  | d :: r => uptoBulk d + uptoBulkAll r
def uptoBulkEntries {H : Type} : List (Lit × DataW H) → Nat
  | [] => 0
  | x :: r => uptoBulkEntry x + uptoBulkEntries r
def uptoBulkEntry {H : Type} : Lit × DataW H → Nat
  | (.string bytes, d) => bytes.length + uptoBulk d + 1
  | (_, d) => uptoBulk d + 1
 end
def uptoSmall : (H : Type) → List (DataW H) → Bool := fun _ ds => decide (uptoBulkAll ds ≤ 1048576)
def OpenSpec.upto (s : _root_.Go.ChangeSpec) : _root_.Go.OpenSpec := { _root_.Go.OpenSpec.ofChange s with cond := some uptoSmall }

/-- 'lorgnettelaw18.RegexParses', WHERE WHAT IT READS IS OF BULK AT MOST 1048576: true; the input reads as it did. -/
def regexParsesUptoRow : OpenClaim := { program := "ytoniccokohjenaa", sum := "9029c4ceed1e2c220ee7c2bfcaf44960874553aa1f9eeb0c2775c0d1ad58ec3d", func := "lorgnette/lorgnettelaw18.RegexParses", spec := "regexParses", inPlace := ["internal/abi.NoEscape"], unfollowed := true, recurses := true, apart := false, narrowed := true }
def RegexParsesUptoSaid : Prop := regexParsesUptoRow.holds Try.pinned (OpenSpec.upto regexParsesSpec)

/-- 'lorgnettelaw18.RegexSound', WHERE WHAT IT READS IS OF BULK AT MOST 1048576: true; the input reads as it did. -/
def regexSoundUptoRow : OpenClaim := { program := "ytoniccokohjenaa", sum := "9029c4ceed1e2c220ee7c2bfcaf44960874553aa1f9eeb0c2775c0d1ad58ec3d", func := "lorgnette/lorgnettelaw18.RegexSound", spec := "regexSound", inPlace := ["internal/abi.NoEscape"], unfollowed := true, recurses := true, apart := false, narrowed := true }
def RegexSoundUptoSaid : Prop := regexSoundUptoRow.holds Try.pinned (OpenSpec.upto regexSoundSpec)

/-- 'lorgnettelaw18.RegexPlain', WHERE WHAT IT READS IS OF BULK AT MOST 1048576: true; the input reads as it did. -/
def regexPlainUptoRow : OpenClaim := { program := "ytoniccokohjenaa", sum := "9029c4ceed1e2c220ee7c2bfcaf44960874553aa1f9eeb0c2775c0d1ad58ec3d", func := "lorgnette/lorgnettelaw18.RegexPlain", spec := "regexPlain", inPlace := ["internal/abi.NoEscape"], unfollowed := true, recurses := true, apart := false, narrowed := true }
def RegexPlainUptoSaid : Prop := regexPlainUptoRow.holds Try.pinned (OpenSpec.upto regexPlainSpec)

/-- 'lorgnettelaw18.RegexFree', WHERE WHAT IT READS IS OF BULK AT MOST 1048576: true; the input reads as it did. -/
def regexFreeUptoRow : OpenClaim := { program := "ytoniccokohjenaa", sum := "9029c4ceed1e2c220ee7c2bfcaf44960874553aa1f9eeb0c2775c0d1ad58ec3d", func := "lorgnette/lorgnettelaw18.RegexFree", spec := "regexFree", inPlace := ["internal/abi.NoEscape"], unfollowed := true, recurses := true, apart := false, narrowed := true }
def RegexFreeUptoSaid : Prop := regexFreeUptoRow.holds Try.pinned (OpenSpec.upto regexFreeSpec)

/-- 'lorgnettelaw18.RegexDepths', WHERE WHAT IT READS IS OF BULK AT MOST 1048576: true; the input reads as it did. -/
def regexDepthsUptoRow : OpenClaim := { program := "ytoniccokohjenaa", sum := "9029c4ceed1e2c220ee7c2bfcaf44960874553aa1f9eeb0c2775c0d1ad58ec3d", func := "lorgnette/lorgnettelaw18.RegexDepths", spec := "regexDepths", inPlace := ["internal/abi.NoEscape"], unfollowed := true, recurses := true, loops := true, apart := false, narrowed := true }
def RegexDepthsUptoSaid : Prop := regexDepthsUptoRow.holds Try.pinned (OpenSpec.upto regexDepthsSpec)

/-- 'lorgnettelaw19.MatchAlls', WHERE WHAT IT READS IS OF BULK AT MOST 1048576: true; the input reads as it did. -/
def matchAllsUptoRow : OpenClaim := { program := "ytoniccokohjenaa", sum := "9029c4ceed1e2c220ee7c2bfcaf44960874553aa1f9eeb0c2775c0d1ad58ec3d", func := "lorgnette/lorgnettelaw19.MatchAlls", spec := "matchAlls", inPlace := ["internal/abi.NoEscape"], unfollowed := true, recurses := true, apart := false, narrowed := true }
def MatchAllsUptoSaid : Prop := matchAllsUptoRow.holds Try.pinned (OpenSpec.upto matchAllsSpec)

/-- 'lorgnettelaw19.MatchReplaces', WHERE WHAT IT READS IS OF BULK AT MOST 1048576: true; the input reads as it did. -/
def matchReplacesUptoRow : OpenClaim := { program := "ytoniccokohjenaa", sum := "9029c4ceed1e2c220ee7c2bfcaf44960874553aa1f9eeb0c2775c0d1ad58ec3d", func := "lorgnette/lorgnettelaw19.MatchReplaces", spec := "matchReplaces", inPlace := ["internal/abi.NoEscape"], unfollowed := true, recurses := true, apart := false, narrowed := true }
def MatchReplacesUptoSaid : Prop := matchReplacesUptoRow.holds Try.pinned (OpenSpec.upto matchReplacesSpec)

/-- 'lorgnettelaw19.MatchRises', WHERE WHAT IT READS IS OF BULK AT MOST 1048576: true; the input reads as it did. -/
def matchRisesUptoRow : OpenClaim := { program := "ytoniccokohjenaa", sum := "9029c4ceed1e2c220ee7c2bfcaf44960874553aa1f9eeb0c2775c0d1ad58ec3d", func := "lorgnette/lorgnettelaw19.MatchRises", spec := "matchRises", inPlace := ["internal/abi.NoEscape"], unfollowed := true, recurses := true, apart := false, narrowed := true }
def MatchRisesUptoSaid : Prop := matchRisesUptoRow.holds Try.pinned (OpenSpec.upto matchRisesSpec)

end Rows
end Go.Proofs.Ytoniccokohjenaa
