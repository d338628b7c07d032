/-
  NARROWER THAN 'FOR EVERY INPUT', by the rows' own cells (each row's printed sentence says how): LimbDivs: laid · LimbParses: laid · LimbNorms: laid · LimbCmps: laid · LimbSums: laid · LimbTexts: laid · LimbMuls: laid · LimbRing: laid · LimbOrder: laid · LimbShifts: laid · LimbBack: laid.
  DERIVED. THE GIVEN ROWS OF THIS SEAT. 11 by the template 'for every input the law returns true; each argument reads behind the call as it read before'; 0 by the template 'total and deterministic' (their statements: YtmmlclgmehfmhaaDoorTotals.lean).
  GIVEN WITH THE SEED: the statements are not yours to turn. If you find one false, say at which input.
  Laid BY PROGRAM, IN A SANDBOX (cutbox-rows.mjs): the forced cells as the released guide's own fill.sh prints them over the translation 2ef31ec5a16c0e91… (all of the seat's roots in one cut). By AI agents, Wed Nov 11 2026. No macro, syntax, notation, axiom, sorry.
-/
import Derived.Test.YtmmlclgmehfmhaaDoorChecked
import GoSem.Claim
import GoSem.ClaimJoined
import GoSem.ClaimMapViews
import Derived.JoinedTies
import Derived.KernelRfl
namespace Go.Proofs.YtmmlclgmehfmhaaDoor
/- THE CELL 'sum', in the pinned program and in every row, IS THE sha256 OF THE DUMP (.gsa) THAT YtmmlclgmehfmhaaDoorProg.lean LOADS. Nothing in Lean hashes anything: it is a label: what it is worth is what the hold of that sum in a sandbox is worth. -/
noncomputable def Tryd.pinned : Pinned := { name := "ytmmlclgmehfmhaadoor", sum := "2ef31ec5a16c0e91f4a92ff7a9c8d17bda7f6c4bfd8a115d08b9fd56730dea93", checked := Tryd.checked }
namespace Rows
def none {H : Type} : Left H := { results := [], args := [] }

/- WHAT THE LISTED PACKAGE-LEVEL VARIABLES READ AS WHEN THE CALL BEGINS. Each datum BY PROGRAM (the guide's laid-datum.mjs) off the statement by which the dump's own 'gosem.cut.vars' lays the variable. In a bare row this is a premise. The card (YtmmlclgmehfmhaaDoorCards.lean) ties it to the program's text. -/
def laid_math_bits_deBruijn32tab {H : Type} : DataW H := .agg [.lit (.int .u8 0), .lit (.int .u8 1), .lit (.int .u8 28), .lit (.int .u8 2), .lit (.int .u8 29), .lit (.int .u8 14), .lit (.int .u8 24), .lit (.int .u8 3), .lit (.int .u8 30), .lit (.int .u8 22), .lit (.int .u8 20), .lit (.int .u8 15), .lit (.int .u8 25), .lit (.int .u8 17), .lit (.int .u8 4), .lit (.int .u8 8), .lit (.int .u8 31), .lit (.int .u8 27), .lit (.int .u8 13), .lit (.int .u8 23), .lit (.int .u8 21), .lit (.int .u8 19), .lit (.int .u8 16), .lit (.int .u8 7), .lit (.int .u8 26), .lit (.int .u8 12), .lit (.int .u8 18), .lit (.int .u8 6), .lit (.int .u8 11), .lit (.int .u8 5), .lit (.int .u8 10), .lit (.int .u8 9)]
def laid_math_bits_deBruijn64tab {H : Type} : DataW H := .agg [.lit (.int .u8 0), .lit (.int .u8 1), .lit (.int .u8 56), .lit (.int .u8 2), .lit (.int .u8 57), .lit (.int .u8 49), .lit (.int .u8 28), .lit (.int .u8 3), .lit (.int .u8 61), .lit (.int .u8 58), .lit (.int .u8 42), .lit (.int .u8 50), .lit (.int .u8 38), .lit (.int .u8 29), .lit (.int .u8 17), .lit (.int .u8 4), .lit (.int .u8 62), .lit (.int .u8 47), .lit (.int .u8 59), .lit (.int .u8 36), .lit (.int .u8 45), .lit (.int .u8 43), .lit (.int .u8 51), .lit (.int .u8 22), .lit (.int .u8 53), .lit (.int .u8 39), .lit (.int .u8 33), .lit (.int .u8 30), .lit (.int .u8 24), .lit (.int .u8 18), .lit (.int .u8 12), .lit (.int .u8 5), .lit (.int .u8 63), .lit (.int .u8 55), .lit (.int .u8 48), .lit (.int .u8 27), .lit (.int .u8 60), .lit (.int .u8 41), .lit (.int .u8 37), .lit (.int .u8 16), .lit (.int .u8 46), .lit (.int .u8 35), .lit (.int .u8 44), .lit (.int .u8 21), .lit (.int .u8 52), .lit (.int .u8 32), .lit (.int .u8 23), .lit (.int .u8 11), .lit (.int .u8 54), .lit (.int .u8 26), .lit (.int .u8 40), .lit (.int .u8 15), .lit (.int .u8 34), .lit (.int .u8 20), .lit (.int .u8 31), .lit (.int .u8 10), .lit (.int .u8 25), .lit (.int .u8 14), .lit (.int .u8 19), .lit (.int .u8 9), .lit (.int .u8 13), .lit (.int .u8 8), .lit (.int .u8 7), .lit (.int .u8 6)]
def laid_internal_strconv_uint64pow10 {H : Type} : DataW H := .agg [.lit (.int .u64 1), .lit (.int .u64 10), .lit (.int .u64 100), .lit (.int .u64 1000), .lit (.int .u64 10000), .lit (.int .u64 100000), .lit (.int .u64 1000000), .lit (.int .u64 10000000), .lit (.int .u64 100000000), .lit (.int .u64 1000000000), .lit (.int .u64 10000000000), .lit (.int .u64 100000000000), .lit (.int .u64 1000000000000), .lit (.int .u64 10000000000000), .lit (.int .u64 100000000000000), .lit (.int .u64 1000000000000000), .lit (.int .u64 10000000000000000), .lit (.int .u64 100000000000000000), .lit (.int .u64 1000000000000000000), .lit (.int .u64 10000000000000000000)]

/-- 'lorgnettelaw01.LimbDivs': WHATEVER THE INPUT: true; the input reads as it did. -/
def limbDivsSpec : ChangeSpec := { name := "limbDivs", fn := fun _ => fun
  | [d1, d2] => { results := [.lit (.bool true)], args := [d1, d2] }
  | _ => none }
def limbDivsRow : OpenClaim := { program := "ytmmlclgmehfmhaadoor", sum := "2ef31ec5a16c0e91f4a92ff7a9c8d17bda7f6c4bfd8a115d08b9fd56730dea93", func := "lorgnette/lorgnettelaw01.LimbDivs", spec := "limbDivs", inPlace := ["internal/abi.NoEscape", "internal/bytealg.MakeNoZero"], unfollowed := true, recurses := true, named := ["internal/strconv.uint64pow10", "math/bits.deBruijn32tab", "math/bits.deBruijn64tab"], apart := false, laid := [("math/bits.deBruijn32tab", laid_math_bits_deBruijn32tab), ("math/bits.deBruijn64tab", laid_math_bits_deBruijn64tab), ("internal/strconv.uint64pow10", laid_internal_strconv_uint64pow10)] }
def LimbDivsSaid : Prop := limbDivsRow.holds Tryd.pinned (OpenSpec.ofChange limbDivsSpec)

/-- ITS FALSE NEIGHBOUR: 'it returns false'. Refute it at one input. -/
def limbDivsWrong : ChangeSpec := { name := "limbDivs", fn := fun _ => fun
  | [d1, d2] => { results := [.lit (.bool false)], args := [d1, d2] }
  | _ => none }
def LimbDivsWrongFalsely : Prop := limbDivsRow.holds Tryd.pinned (OpenSpec.ofChange limbDivsWrong)

/-- 'lorgnettelaw01.LimbParses': WHATEVER THE INPUT: true; the input reads as it did. -/
def limbParsesSpec : ChangeSpec := { name := "limbParses", fn := fun _ => fun
  | [d] => { results := [.lit (.bool true)], args := [d] }
  | _ => none }
def limbParsesRow : OpenClaim := { program := "ytmmlclgmehfmhaadoor", sum := "2ef31ec5a16c0e91f4a92ff7a9c8d17bda7f6c4bfd8a115d08b9fd56730dea93", func := "lorgnette/lorgnettelaw01.LimbParses", spec := "limbParses", inPlace := ["internal/abi.NoEscape", "internal/bytealg.MakeNoZero"], unfollowed := true, recurses := true, named := ["internal/strconv.uint64pow10", "math/bits.deBruijn32tab", "math/bits.deBruijn64tab"], apart := false, laid := [("math/bits.deBruijn32tab", laid_math_bits_deBruijn32tab), ("math/bits.deBruijn64tab", laid_math_bits_deBruijn64tab), ("internal/strconv.uint64pow10", laid_internal_strconv_uint64pow10)] }
def LimbParsesSaid : Prop := limbParsesRow.holds Tryd.pinned (OpenSpec.ofChange limbParsesSpec)

/-- ITS FALSE NEIGHBOUR: 'it returns false'. Refute it at one input. -/
def limbParsesWrong : ChangeSpec := { name := "limbParses", fn := fun _ => fun
  | [d] => { results := [.lit (.bool false)], args := [d] }
  | _ => none }
def LimbParsesWrongFalsely : Prop := limbParsesRow.holds Tryd.pinned (OpenSpec.ofChange limbParsesWrong)

/-- 'lorgnettelaw01.LimbNorms': WHATEVER THE INPUT: true; the input reads as it did. -/
def limbNormsSpec : ChangeSpec := { name := "limbNorms", fn := fun _ => fun
  | [d1, d2] => { results := [.lit (.bool true)], args := [d1, d2] }
  | _ => none }
def limbNormsRow : OpenClaim := { program := "ytmmlclgmehfmhaadoor", sum := "2ef31ec5a16c0e91f4a92ff7a9c8d17bda7f6c4bfd8a115d08b9fd56730dea93", func := "lorgnette/lorgnettelaw01.LimbNorms", spec := "limbNorms", inPlace := ["internal/abi.NoEscape", "internal/bytealg.MakeNoZero"], unfollowed := true, recurses := true, named := ["internal/strconv.uint64pow10", "math/bits.deBruijn32tab", "math/bits.deBruijn64tab"], apart := false, laid := [("math/bits.deBruijn32tab", laid_math_bits_deBruijn32tab), ("math/bits.deBruijn64tab", laid_math_bits_deBruijn64tab), ("internal/strconv.uint64pow10", laid_internal_strconv_uint64pow10)] }
def LimbNormsSaid : Prop := limbNormsRow.holds Tryd.pinned (OpenSpec.ofChange limbNormsSpec)

/-- ITS FALSE NEIGHBOUR: 'it returns false'. Refute it at one input. -/
def limbNormsWrong : ChangeSpec := { name := "limbNorms", fn := fun _ => fun
  | [d1, d2] => { results := [.lit (.bool false)], args := [d1, d2] }
  | _ => none }
def LimbNormsWrongFalsely : Prop := limbNormsRow.holds Tryd.pinned (OpenSpec.ofChange limbNormsWrong)

/-- 'lorgnettelaw01.LimbCmps': WHATEVER THE INPUT: true; the input reads as it did. -/
def limbCmpsSpec : ChangeSpec := { name := "limbCmps", fn := fun _ => fun
  | [d1, d2] => { results := [.lit (.bool true)], args := [d1, d2] }
  | _ => none }
def limbCmpsRow : OpenClaim := { program := "ytmmlclgmehfmhaadoor", sum := "2ef31ec5a16c0e91f4a92ff7a9c8d17bda7f6c4bfd8a115d08b9fd56730dea93", func := "lorgnette/lorgnettelaw01.LimbCmps", spec := "limbCmps", inPlace := ["internal/abi.NoEscape", "internal/bytealg.MakeNoZero"], unfollowed := true, recurses := true, named := ["internal/strconv.uint64pow10", "math/bits.deBruijn32tab", "math/bits.deBruijn64tab"], apart := false, laid := [("math/bits.deBruijn32tab", laid_math_bits_deBruijn32tab), ("math/bits.deBruijn64tab", laid_math_bits_deBruijn64tab), ("internal/strconv.uint64pow10", laid_internal_strconv_uint64pow10)] }
def LimbCmpsSaid : Prop := limbCmpsRow.holds Tryd.pinned (OpenSpec.ofChange limbCmpsSpec)

/-- ITS FALSE NEIGHBOUR: 'it returns false'. Refute it at one input. -/
def limbCmpsWrong : ChangeSpec := { name := "limbCmps", fn := fun _ => fun
  | [d1, d2] => { results := [.lit (.bool false)], args := [d1, d2] }
  | _ => none }
def LimbCmpsWrongFalsely : Prop := limbCmpsRow.holds Tryd.pinned (OpenSpec.ofChange limbCmpsWrong)

/-- 'lorgnettelaw01.LimbSums': WHATEVER THE INPUT: true; the input reads as it did. -/
def limbSumsSpec : ChangeSpec := { name := "limbSums", fn := fun _ => fun
  | [d1, d2] => { results := [.lit (.bool true)], args := [d1, d2] }
  | _ => none }
def limbSumsRow : OpenClaim := { program := "ytmmlclgmehfmhaadoor", sum := "2ef31ec5a16c0e91f4a92ff7a9c8d17bda7f6c4bfd8a115d08b9fd56730dea93", func := "lorgnette/lorgnettelaw01.LimbSums", spec := "limbSums", inPlace := ["internal/abi.NoEscape", "internal/bytealg.MakeNoZero"], unfollowed := true, recurses := true, named := ["internal/strconv.uint64pow10", "math/bits.deBruijn32tab", "math/bits.deBruijn64tab"], apart := false, laid := [("math/bits.deBruijn32tab", laid_math_bits_deBruijn32tab), ("math/bits.deBruijn64tab", laid_math_bits_deBruijn64tab), ("internal/strconv.uint64pow10", laid_internal_strconv_uint64pow10)] }
def LimbSumsSaid : Prop := limbSumsRow.holds Tryd.pinned (OpenSpec.ofChange limbSumsSpec)

/-- ITS FALSE NEIGHBOUR: 'it returns false'. Refute it at one input. -/
def limbSumsWrong : ChangeSpec := { name := "limbSums", fn := fun _ => fun
  | [d1, d2] => { results := [.lit (.bool false)], args := [d1, d2] }
  | _ => none }
def LimbSumsWrongFalsely : Prop := limbSumsRow.holds Tryd.pinned (OpenSpec.ofChange limbSumsWrong)

/-- 'lorgnettelaw01.LimbTexts': WHATEVER THE INPUT: true; the input reads as it did. -/
def limbTextsSpec : ChangeSpec := { name := "limbTexts", fn := fun _ => fun
  | [d] => { results := [.lit (.bool true)], args := [d] }
  | _ => none }
def limbTextsRow : OpenClaim := { program := "ytmmlclgmehfmhaadoor", sum := "2ef31ec5a16c0e91f4a92ff7a9c8d17bda7f6c4bfd8a115d08b9fd56730dea93", func := "lorgnette/lorgnettelaw01.LimbTexts", spec := "limbTexts", inPlace := ["internal/abi.NoEscape", "internal/bytealg.MakeNoZero"], unfollowed := true, recurses := true, named := ["internal/strconv.uint64pow10", "math/bits.deBruijn32tab", "math/bits.deBruijn64tab"], apart := false, laid := [("math/bits.deBruijn32tab", laid_math_bits_deBruijn32tab), ("math/bits.deBruijn64tab", laid_math_bits_deBruijn64tab), ("internal/strconv.uint64pow10", laid_internal_strconv_uint64pow10)] }
def LimbTextsSaid : Prop := limbTextsRow.holds Tryd.pinned (OpenSpec.ofChange limbTextsSpec)

/-- ITS FALSE NEIGHBOUR: 'it returns false'. Refute it at one input. -/
def limbTextsWrong : ChangeSpec := { name := "limbTexts", fn := fun _ => fun
  | [d] => { results := [.lit (.bool false)], args := [d] }
  | _ => none }
def LimbTextsWrongFalsely : Prop := limbTextsRow.holds Tryd.pinned (OpenSpec.ofChange limbTextsWrong)

/-- 'lorgnettelaw01.LimbMuls': WHATEVER THE INPUT: true; the input reads as it did. -/
def limbMulsSpec : ChangeSpec := { name := "limbMuls", fn := fun _ => fun
  | [d1, d2] => { results := [.lit (.bool true)], args := [d1, d2] }
  | _ => none }
def limbMulsRow : OpenClaim := { program := "ytmmlclgmehfmhaadoor", sum := "2ef31ec5a16c0e91f4a92ff7a9c8d17bda7f6c4bfd8a115d08b9fd56730dea93", func := "lorgnette/lorgnettelaw01.LimbMuls", spec := "limbMuls", inPlace := ["internal/abi.NoEscape", "internal/bytealg.MakeNoZero"], unfollowed := true, recurses := true, named := ["internal/strconv.uint64pow10", "math/bits.deBruijn32tab", "math/bits.deBruijn64tab"], apart := false, laid := [("math/bits.deBruijn32tab", laid_math_bits_deBruijn32tab), ("math/bits.deBruijn64tab", laid_math_bits_deBruijn64tab), ("internal/strconv.uint64pow10", laid_internal_strconv_uint64pow10)] }
def LimbMulsSaid : Prop := limbMulsRow.holds Tryd.pinned (OpenSpec.ofChange limbMulsSpec)

/-- ITS FALSE NEIGHBOUR: 'it returns false'. Refute it at one input. -/
def limbMulsWrong : ChangeSpec := { name := "limbMuls", fn := fun _ => fun
  | [d1, d2] => { results := [.lit (.bool false)], args := [d1, d2] }
  | _ => none }
def LimbMulsWrongFalsely : Prop := limbMulsRow.holds Tryd.pinned (OpenSpec.ofChange limbMulsWrong)

/-- 'lorgnettelaw01.LimbRing': WHATEVER THE INPUT: true; the input reads as it did. -/
def limbRingSpec : ChangeSpec := { name := "limbRing", fn := fun _ => fun
  | [d1, d2, d3] => { results := [.lit (.bool true)], args := [d1, d2, d3] }
  | _ => none }
def limbRingRow : OpenClaim := { program := "ytmmlclgmehfmhaadoor", sum := "2ef31ec5a16c0e91f4a92ff7a9c8d17bda7f6c4bfd8a115d08b9fd56730dea93", func := "lorgnette/lorgnettelaw01.LimbRing", spec := "limbRing", inPlace := ["internal/abi.NoEscape", "internal/bytealg.MakeNoZero"], unfollowed := true, recurses := true, named := ["internal/strconv.uint64pow10", "math/bits.deBruijn32tab", "math/bits.deBruijn64tab"], apart := false, laid := [("math/bits.deBruijn32tab", laid_math_bits_deBruijn32tab), ("math/bits.deBruijn64tab", laid_math_bits_deBruijn64tab), ("internal/strconv.uint64pow10", laid_internal_strconv_uint64pow10)] }
def LimbRingSaid : Prop := limbRingRow.holds Tryd.pinned (OpenSpec.ofChange limbRingSpec)

/-- ITS FALSE NEIGHBOUR: 'it returns false'. Refute it at one input. -/
def limbRingWrong : ChangeSpec := { name := "limbRing", fn := fun _ => fun
  | [d1, d2, d3] => { results := [.lit (.bool false)], args := [d1, d2, d3] }
  | _ => none }
def LimbRingWrongFalsely : Prop := limbRingRow.holds Tryd.pinned (OpenSpec.ofChange limbRingWrong)

/-- 'lorgnettelaw01.LimbOrder': WHATEVER THE INPUT: true; the input reads as it did. -/
def limbOrderSpec : ChangeSpec := { name := "limbOrder", fn := fun _ => fun
  | [d1, d2, d3] => { results := [.lit (.bool true)], args := [d1, d2, d3] }
  | _ => none }
def limbOrderRow : OpenClaim := { program := "ytmmlclgmehfmhaadoor", sum := "2ef31ec5a16c0e91f4a92ff7a9c8d17bda7f6c4bfd8a115d08b9fd56730dea93", func := "lorgnette/lorgnettelaw01.LimbOrder", spec := "limbOrder", inPlace := ["internal/abi.NoEscape", "internal/bytealg.MakeNoZero"], unfollowed := true, recurses := true, named := ["internal/strconv.uint64pow10", "math/bits.deBruijn32tab", "math/bits.deBruijn64tab"], apart := false, laid := [("math/bits.deBruijn32tab", laid_math_bits_deBruijn32tab), ("math/bits.deBruijn64tab", laid_math_bits_deBruijn64tab), ("internal/strconv.uint64pow10", laid_internal_strconv_uint64pow10)] }
def LimbOrderSaid : Prop := limbOrderRow.holds Tryd.pinned (OpenSpec.ofChange limbOrderSpec)

/-- ITS FALSE NEIGHBOUR: 'it returns false'. Refute it at one input. -/
def limbOrderWrong : ChangeSpec := { name := "limbOrder", fn := fun _ => fun
  | [d1, d2, d3] => { results := [.lit (.bool false)], args := [d1, d2, d3] }
  | _ => none }
def LimbOrderWrongFalsely : Prop := limbOrderRow.holds Tryd.pinned (OpenSpec.ofChange limbOrderWrong)

/-- 'lorgnettelaw01.LimbShifts': WHATEVER THE INPUT: true; the input reads as it did. -/
def limbShiftsSpec : ChangeSpec := { name := "limbShifts", fn := fun _ => fun
  | [d1, d2] => { results := [.lit (.bool true)], args := [d1, d2] }
  | _ => none }
def limbShiftsRow : OpenClaim := { program := "ytmmlclgmehfmhaadoor", sum := "2ef31ec5a16c0e91f4a92ff7a9c8d17bda7f6c4bfd8a115d08b9fd56730dea93", func := "lorgnette/lorgnettelaw01.LimbShifts", spec := "limbShifts", inPlace := ["internal/abi.NoEscape", "internal/bytealg.MakeNoZero"], unfollowed := true, recurses := true, named := ["internal/strconv.uint64pow10", "math/bits.deBruijn32tab", "math/bits.deBruijn64tab"], apart := false, laid := [("math/bits.deBruijn32tab", laid_math_bits_deBruijn32tab), ("math/bits.deBruijn64tab", laid_math_bits_deBruijn64tab), ("internal/strconv.uint64pow10", laid_internal_strconv_uint64pow10)] }
def LimbShiftsSaid : Prop := limbShiftsRow.holds Tryd.pinned (OpenSpec.ofChange limbShiftsSpec)

/-- ITS FALSE NEIGHBOUR: 'it returns false'. Refute it at one input. -/
def limbShiftsWrong : ChangeSpec := { name := "limbShifts", fn := fun _ => fun
  | [d1, d2] => { results := [.lit (.bool false)], args := [d1, d2] }
  | _ => none }
def LimbShiftsWrongFalsely : Prop := limbShiftsRow.holds Tryd.pinned (OpenSpec.ofChange limbShiftsWrong)

/-- 'lorgnettelaw01.LimbBack': WHATEVER THE INPUT: true; the input reads as it did. -/
def limbBackSpec : ChangeSpec := { name := "limbBack", fn := fun _ => fun
  | [d1, d2, d3] => { results := [.lit (.bool true)], args := [d1, d2, d3] }
  | _ => none }
def limbBackRow : OpenClaim := { program := "ytmmlclgmehfmhaadoor", sum := "2ef31ec5a16c0e91f4a92ff7a9c8d17bda7f6c4bfd8a115d08b9fd56730dea93", func := "lorgnette/lorgnettelaw01.LimbBack", spec := "limbBack", inPlace := ["internal/abi.NoEscape", "internal/bytealg.MakeNoZero"], unfollowed := true, recurses := true, named := ["internal/strconv.uint64pow10", "math/bits.deBruijn32tab", "math/bits.deBruijn64tab"], apart := false, laid := [("math/bits.deBruijn32tab", laid_math_bits_deBruijn32tab), ("math/bits.deBruijn64tab", laid_math_bits_deBruijn64tab), ("internal/strconv.uint64pow10", laid_internal_strconv_uint64pow10)] }
def LimbBackSaid : Prop := limbBackRow.holds Tryd.pinned (OpenSpec.ofChange limbBackSpec)

/-- ITS FALSE NEIGHBOUR: 'it returns false'. Refute it at one input. -/
def limbBackWrong : ChangeSpec := { name := "limbBack", fn := fun _ => fun
  | [d1, d2, d3] => { results := [.lit (.bool false)], args := [d1, d2, d3] }
  | _ => none }
def LimbBackWrongFalsely : Prop := limbBackRow.holds Tryd.pinned (OpenSpec.ofChange limbBackWrong)

/- THE SECOND FORM. 'bulk': how many values and letters a reading holds, each counted each time it is reached (what is shared counts as often as it is met; a slice's spare places count too). A statement '..UptoSaid' is the law's where the arguments, and the package variables that the reading takes, are together of bulk at most 1048576: NARROWER than '..Said'. Prove '..Said' where nothing that the law and all that it calls make is longer than what came in: it says more and counts as full. Else prove '..UptoSaid'. A law counts once. -/
mutual
def uptoBulk {H : Type} : DataW H → Nat
  | .lit (.string bytes) => bytes.length + 1
  | .lit _ => 1
  | .nil => 1
  | .ptr d => uptoBulk d + 1
  | .slice elems spare => uptoBulkAll elems + uptoBulkAll spare + 1
  | .agg parts => uptoBulkAll parts + 1
  | .iface _ d => uptoBulk d + 1
  | .map entries => uptoBulkEntries entries + 1
  | .held _ => 1
def uptoBulkAll {H : Type} : List (DataW H) → Nat
  | [] => 0
  | d :: r => uptoBulk d + uptoBulkAll r
def uptoBulkEntries {H : Type} : List (Lit × DataW H) → Nat
  | [] => 0
  | x :: r => uptoBulkEntry x + uptoBulkEntries r
def uptoBulkEntry {H : Type} : Lit × DataW H → Nat
  | (.string bytes, d) => bytes.length + uptoBulk d + 1
  | (_, d) => uptoBulk d + 1
 end
def uptoSmall : (H : Type) → List (DataW H) → Bool := fun _ ds => decide (uptoBulkAll ds ≤ 1048576)
def OpenSpec.upto (s : _root_.Go.ChangeSpec) : _root_.Go.OpenSpec := { _root_.Go.OpenSpec.ofChange s with cond := some uptoSmall }

/-- 'lorgnettelaw01.LimbDivs', WHERE WHAT IT READS IS OF BULK AT MOST 1048576: true; the input reads as it did. -/
def limbDivsUptoRow : OpenClaim := { program := "ytmmlclgmehfmhaadoor", sum := "2ef31ec5a16c0e91f4a92ff7a9c8d17bda7f6c4bfd8a115d08b9fd56730dea93", func := "lorgnette/lorgnettelaw01.LimbDivs", spec := "limbDivs", inPlace := ["internal/abi.NoEscape", "internal/bytealg.MakeNoZero"], unfollowed := true, recurses := true, named := ["internal/strconv.uint64pow10", "math/bits.deBruijn32tab", "math/bits.deBruijn64tab"], apart := false, laid := [("math/bits.deBruijn32tab", laid_math_bits_deBruijn32tab), ("math/bits.deBruijn64tab", laid_math_bits_deBruijn64tab), ("internal/strconv.uint64pow10", laid_internal_strconv_uint64pow10)], narrowed := true }
def LimbDivsUptoSaid : Prop := limbDivsUptoRow.holds Tryd.pinned (OpenSpec.upto limbDivsSpec)

/-- 'lorgnettelaw01.LimbParses', WHERE WHAT IT READS IS OF BULK AT MOST 1048576: true; the input reads as it did. -/
def limbParsesUptoRow : OpenClaim := { program := "ytmmlclgmehfmhaadoor", sum := "2ef31ec5a16c0e91f4a92ff7a9c8d17bda7f6c4bfd8a115d08b9fd56730dea93", func := "lorgnette/lorgnettelaw01.LimbParses", spec := "limbParses", inPlace := ["internal/abi.NoEscape", "internal/bytealg.MakeNoZero"], unfollowed := true, recurses := true, named := ["internal/strconv.uint64pow10", "math/bits.deBruijn32tab", "math/bits.deBruijn64tab"], apart := false, laid := [("math/bits.deBruijn32tab", laid_math_bits_deBruijn32tab), ("math/bits.deBruijn64tab", laid_math_bits_deBruijn64tab), ("internal/strconv.uint64pow10", laid_internal_strconv_uint64pow10)], narrowed := true }
def LimbParsesUptoSaid : Prop := limbParsesUptoRow.holds Tryd.pinned (OpenSpec.upto limbParsesSpec)

/-- 'lorgnettelaw01.LimbNorms', WHERE WHAT IT READS IS OF BULK AT MOST 1048576: true; the input reads as it did. -/
def limbNormsUptoRow : OpenClaim := { program := "ytmmlclgmehfmhaadoor", sum := "2ef31ec5a16c0e91f4a92ff7a9c8d17bda7f6c4bfd8a115d08b9fd56730dea93", func := "lorgnette/lorgnettelaw01.LimbNorms", spec := "limbNorms", inPlace := ["internal/abi.NoEscape", "internal/bytealg.MakeNoZero"], unfollowed := true, recurses := true, named := ["internal/strconv.uint64pow10", "math/bits.deBruijn32tab", "math/bits.deBruijn64tab"], apart := false, laid := [("math/bits.deBruijn32tab", laid_math_bits_deBruijn32tab), ("math/bits.deBruijn64tab", laid_math_bits_deBruijn64tab), ("internal/strconv.uint64pow10", laid_internal_strconv_uint64pow10)], narrowed := true }
def LimbNormsUptoSaid : Prop := limbNormsUptoRow.holds Tryd.pinned (OpenSpec.upto limbNormsSpec)

/-- 'lorgnettelaw01.LimbCmps', WHERE WHAT IT READS IS OF BULK AT MOST 1048576: true; the input reads as it did. -/
def limbCmpsUptoRow : OpenClaim := { program := "ytmmlclgmehfmhaadoor", sum := "2ef31ec5a16c0e91f4a92ff7a9c8d17bda7f6c4bfd8a115d08b9fd56730dea93", func := "lorgnette/lorgnettelaw01.LimbCmps", spec := "limbCmps", inPlace := ["internal/abi.NoEscape", "internal/bytealg.MakeNoZero"], unfollowed := true, recurses := true, named := ["internal/strconv.uint64pow10", "math/bits.deBruijn32tab", "math/bits.deBruijn64tab"], apart := false, laid := [("math/bits.deBruijn32tab", laid_math_bits_deBruijn32tab), ("math/bits.deBruijn64tab", laid_math_bits_deBruijn64tab), ("internal/strconv.uint64pow10", laid_internal_strconv_uint64pow10)], narrowed := true }
def LimbCmpsUptoSaid : Prop := limbCmpsUptoRow.holds Tryd.pinned (OpenSpec.upto limbCmpsSpec)

/-- 'lorgnettelaw01.LimbSums', WHERE WHAT IT READS IS OF BULK AT MOST 1048576: true; the input reads as it did. -/
def limbSumsUptoRow : OpenClaim := { program := "ytmmlclgmehfmhaadoor", sum := "2ef31ec5a16c0e91f4a92ff7a9c8d17bda7f6c4bfd8a115d08b9fd56730dea93", func := "lorgnette/lorgnettelaw01.LimbSums", spec := "limbSums", inPlace := ["internal/abi.NoEscape", "internal/bytealg.MakeNoZero"], unfollowed := true, recurses := true, named := ["internal/strconv.uint64pow10", "math/bits.deBruijn32tab", "math/bits.deBruijn64tab"], apart := false, laid := [("math/bits.deBruijn32tab", laid_math_bits_deBruijn32tab), ("math/bits.deBruijn64tab", laid_math_bits_deBruijn64tab), ("internal/strconv.uint64pow10", laid_internal_strconv_uint64pow10)], narrowed := true }
def LimbSumsUptoSaid : Prop := limbSumsUptoRow.holds Tryd.pinned (OpenSpec.upto limbSumsSpec)

/-- 'lorgnettelaw01.LimbTexts', WHERE WHAT IT READS IS OF BULK AT MOST 1048576: true; the input reads as it did. -/
def limbTextsUptoRow : OpenClaim := { program := "ytmmlclgmehfmhaadoor", sum := "2ef31ec5a16c0e91f4a92ff7a9c8d17bda7f6c4bfd8a115d08b9fd56730dea93", func := "lorgnette/lorgnettelaw01.LimbTexts", spec := "limbTexts", inPlace := ["internal/abi.NoEscape", "internal/bytealg.MakeNoZero"], unfollowed := true, recurses := true, named := ["internal/strconv.uint64pow10", "math/bits.deBruijn32tab", "math/bits.deBruijn64tab"], apart := false, laid := [("math/bits.deBruijn32tab", laid_math_bits_deBruijn32tab), ("math/bits.deBruijn64tab", laid_math_bits_deBruijn64tab), ("internal/strconv.uint64pow10", laid_internal_strconv_uint64pow10)], narrowed := true }
def LimbTextsUptoSaid : Prop := limbTextsUptoRow.holds Tryd.pinned (OpenSpec.upto limbTextsSpec)

/-- 'lorgnettelaw01.LimbMuls', WHERE WHAT IT READS IS OF BULK AT MOST 1048576: true; the input reads as it did. -/
def limbMulsUptoRow : OpenClaim := { program := "ytmmlclgmehfmhaadoor", sum := "2ef31ec5a16c0e91f4a92ff7a9c8d17bda7f6c4bfd8a115d08b9fd56730dea93", func := "lorgnette/lorgnettelaw01.LimbMuls", spec := "limbMuls", inPlace := ["internal/abi.NoEscape", "internal/bytealg.MakeNoZero"], unfollowed := true, recurses := true, named := ["internal/strconv.uint64pow10", "math/bits.deBruijn32tab", "math/bits.deBruijn64tab"], apart := false, laid := [("math/bits.deBruijn32tab", laid_math_bits_deBruijn32tab), ("math/bits.deBruijn64tab", laid_math_bits_deBruijn64tab), ("internal/strconv.uint64pow10", laid_internal_strconv_uint64pow10)], narrowed := true }
def LimbMulsUptoSaid : Prop := limbMulsUptoRow.holds Tryd.pinned (OpenSpec.upto limbMulsSpec)

/-- 'lorgnettelaw01.LimbRing', WHERE WHAT IT READS IS OF BULK AT MOST 1048576: true; the input reads as it did. -/
def limbRingUptoRow : OpenClaim := { program := "ytmmlclgmehfmhaadoor", sum := "2ef31ec5a16c0e91f4a92ff7a9c8d17bda7f6c4bfd8a115d08b9fd56730dea93", func := "lorgnette/lorgnettelaw01.LimbRing", spec := "limbRing", inPlace := ["internal/abi.NoEscape", "internal/bytealg.MakeNoZero"], unfollowed := true, recurses := true, named := ["internal/strconv.uint64pow10", "math/bits.deBruijn32tab", "math/bits.deBruijn64tab"], apart := false, laid := [("math/bits.deBruijn32tab", laid_math_bits_deBruijn32tab), ("math/bits.deBruijn64tab", laid_math_bits_deBruijn64tab), ("internal/strconv.uint64pow10", laid_internal_strconv_uint64pow10)], narrowed := true }
def LimbRingUptoSaid : Prop := limbRingUptoRow.holds Tryd.pinned (OpenSpec.upto limbRingSpec)

/-- 'lorgnettelaw01.LimbOrder', WHERE WHAT IT READS IS OF BULK AT MOST 1048576: true; the input reads as it did. -/
def limbOrderUptoRow : OpenClaim := { program := "ytmmlclgmehfmhaadoor", sum := "2ef31ec5a16c0e91f4a92ff7a9c8d17bda7f6c4bfd8a115d08b9fd56730dea93", func := "lorgnette/lorgnettelaw01.LimbOrder", spec := "limbOrder", inPlace := ["internal/abi.NoEscape", "internal/bytealg.MakeNoZero"], unfollowed := true, recurses := true, named := ["internal/strconv.uint64pow10", "math/bits.deBruijn32tab", "math/bits.deBruijn64tab"], apart := false, laid := [("math/bits.deBruijn32tab", laid_math_bits_deBruijn32tab), ("math/bits.deBruijn64tab", laid_math_bits_deBruijn64tab), ("internal/strconv.uint64pow10", laid_internal_strconv_uint64pow10)], narrowed := true }
def LimbOrderUptoSaid : Prop := limbOrderUptoRow.holds Tryd.pinned (OpenSpec.upto limbOrderSpec)

/-- 'lorgnettelaw01.LimbShifts', WHERE WHAT IT READS IS OF BULK AT MOST 1048576: true; the input reads as it did. -/
def limbShiftsUptoRow : OpenClaim := { program := "ytmmlclgmehfmhaadoor", sum := "2ef31ec5a16c0e91f4a92ff7a9c8d17bda7f6c4bfd8a115d08b9fd56730dea93", func := "lorgnette/lorgnettelaw01.LimbShifts", spec := "limbShifts", inPlace := ["internal/abi.NoEscape", "internal/bytealg.MakeNoZero"], unfollowed := true, recurses := true, named := ["internal/strconv.uint64pow10", "math/bits.deBruijn32tab", "math/bits.deBruijn64tab"], apart := false, laid := [("math/bits.deBruijn32tab", laid_math_bits_deBruijn32tab), ("math/bits.deBruijn64tab", laid_math_bits_deBruijn64tab), ("internal/strconv.uint64pow10", laid_internal_strconv_uint64pow10)], narrowed := true }
def LimbShiftsUptoSaid : Prop := limbShiftsUptoRow.holds Tryd.pinned (OpenSpec.upto limbShiftsSpec)

/-- 'lorgnettelaw01.LimbBack', WHERE WHAT IT READS IS OF BULK AT MOST 1048576: true; the input reads as it did. -/
def limbBackUptoRow : OpenClaim := { program := "ytmmlclgmehfmhaadoor", sum := "2ef31ec5a16c0e91f4a92ff7a9c8d17bda7f6c4bfd8a115d08b9fd56730dea93", func := "lorgnette/lorgnettelaw01.LimbBack", spec := "limbBack", inPlace := ["internal/abi.NoEscape", "internal/bytealg.MakeNoZero"], unfollowed := true, recurses := true, named := ["internal/strconv.uint64pow10", "math/bits.deBruijn32tab", "math/bits.deBruijn64tab"], apart := false, laid := [("math/bits.deBruijn32tab", laid_math_bits_deBruijn32tab), ("math/bits.deBruijn64tab", laid_math_bits_deBruijn64tab), ("internal/strconv.uint64pow10", laid_internal_strconv_uint64pow10)], narrowed := true }
def LimbBackUptoSaid : Prop := limbBackUptoRow.holds Tryd.pinned (OpenSpec.upto limbBackSpec)

end Rows
end Go.Proofs.YtmmlclgmehfmhaaDoor
