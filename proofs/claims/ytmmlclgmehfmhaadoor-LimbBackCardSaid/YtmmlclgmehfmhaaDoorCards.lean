/-
  DERIVED. GIVEN WITH THE SEED: THE CARDS: each row of YtmmlclgmehfmhaaDoorRows.lean that lists a variable, with what it lists TIED to the program's text (the seventh form; the later family's looks); each row that meets fmt, with fmt's text TOLD by the authors' own Lean function (tested against real Go, not proved from fmt's source: count such statements apart). THE CARD IS WHAT COUNTS. Prove the row's statement (the work); the ties are given (YtmmlclgmehfmhaaDoorTie.lean); close each card by the builder's one call (the guide's Derived/Test/ToyasCard.lean, 'card_holds'). Laid BY PROGRAM, IN A SANDBOX (cutbox-door.mjs). By AI agents, Wed Nov 11 2026. No macro, syntax, notation, axiom, sorry.
-/
import Derived.Test.YtmmlclgmehfmhaaDoorRows
import GoSem.ClaimSeven
namespace Go.Proofs.YtmmlclgmehfmhaaDoor
namespace Rows

/-- THE TIED CARD OF 'lorgnettelaw01.LimbDivs'. -/
def limbDivsCard : Claim7 := { stood := { row := limbDivsRow, standIns := [], harness := (true, "4c1b99aff697731aa4a8aa1045326b8f26d7e508537fc7f362655d7c30cb4e8a"), looks := false }, kinds := [], alts := [], laidByText := true, laidKinds := [.data, .data, .data], laidTests := true, laidLooks := .later }
def LimbDivsCardSaid : Prop := Claim7.holds Tryd.pinned (.plain (OpenSpec.ofChange limbDivsSpec)) limbDivsCard

/-- THE TIED CARD OF 'lorgnettelaw01.LimbParses'. -/
def limbParsesCard : Claim7 := { stood := { row := limbParsesRow, standIns := [], harness := (true, "4c1b99aff697731aa4a8aa1045326b8f26d7e508537fc7f362655d7c30cb4e8a"), looks := false }, kinds := [], alts := [], laidByText := true, laidKinds := [.data, .data, .data], laidTests := true, laidLooks := .later }
def LimbParsesCardSaid : Prop := Claim7.holds Tryd.pinned (.plain (OpenSpec.ofChange limbParsesSpec)) limbParsesCard

/-- THE TIED CARD OF 'lorgnettelaw01.LimbNorms'. -/
def limbNormsCard : Claim7 := { stood := { row := limbNormsRow, standIns := [], harness := (true, "4c1b99aff697731aa4a8aa1045326b8f26d7e508537fc7f362655d7c30cb4e8a"), looks := false }, kinds := [], alts := [], laidByText := true, laidKinds := [.data, .data, .data], laidTests := true, laidLooks := .later }
def LimbNormsCardSaid : Prop := Claim7.holds Tryd.pinned (.plain (OpenSpec.ofChange limbNormsSpec)) limbNormsCard

/-- THE TIED CARD OF 'lorgnettelaw01.LimbCmps'. -/
def limbCmpsCard : Claim7 := { stood := { row := limbCmpsRow, standIns := [], harness := (true, "4c1b99aff697731aa4a8aa1045326b8f26d7e508537fc7f362655d7c30cb4e8a"), looks := false }, kinds := [], alts := [], laidByText := true, laidKinds := [.data, .data, .data], laidTests := true, laidLooks := .later }
def LimbCmpsCardSaid : Prop := Claim7.holds Tryd.pinned (.plain (OpenSpec.ofChange limbCmpsSpec)) limbCmpsCard

/-- THE TIED CARD OF 'lorgnettelaw01.LimbSums'. -/
def limbSumsCard : Claim7 := { stood := { row := limbSumsRow, standIns := [], harness := (true, "4c1b99aff697731aa4a8aa1045326b8f26d7e508537fc7f362655d7c30cb4e8a"), looks := false }, kinds := [], alts := [], laidByText := true, laidKinds := [.data, .data, .data], laidTests := true, laidLooks := .later }
def LimbSumsCardSaid : Prop := Claim7.holds Tryd.pinned (.plain (OpenSpec.ofChange limbSumsSpec)) limbSumsCard

/-- THE TIED CARD OF 'lorgnettelaw01.LimbTexts'. -/
def limbTextsCard : Claim7 := { stood := { row := limbTextsRow, standIns := [], harness := (true, "4c1b99aff697731aa4a8aa1045326b8f26d7e508537fc7f362655d7c30cb4e8a"), looks := false }, kinds := [], alts := [], laidByText := true, laidKinds := [.data, .data, .data], laidTests := true, laidLooks := .later }
def LimbTextsCardSaid : Prop := Claim7.holds Tryd.pinned (.plain (OpenSpec.ofChange limbTextsSpec)) limbTextsCard

/-- THE TIED CARD OF 'lorgnettelaw01.LimbMuls'. -/
def limbMulsCard : Claim7 := { stood := { row := limbMulsRow, standIns := [], harness := (true, "4c1b99aff697731aa4a8aa1045326b8f26d7e508537fc7f362655d7c30cb4e8a"), looks := false }, kinds := [], alts := [], laidByText := true, laidKinds := [.data, .data, .data], laidTests := true, laidLooks := .later }
def LimbMulsCardSaid : Prop := Claim7.holds Tryd.pinned (.plain (OpenSpec.ofChange limbMulsSpec)) limbMulsCard

/-- THE TIED CARD OF 'lorgnettelaw01.LimbRing'. -/
def limbRingCard : Claim7 := { stood := { row := limbRingRow, standIns := [], harness := (true, "4c1b99aff697731aa4a8aa1045326b8f26d7e508537fc7f362655d7c30cb4e8a"), looks := false }, kinds := [], alts := [], laidByText := true, laidKinds := [.data, .data, .data], laidTests := true, laidLooks := .later }
def LimbRingCardSaid : Prop := Claim7.holds Tryd.pinned (.plain (OpenSpec.ofChange limbRingSpec)) limbRingCard

/-- THE TIED CARD OF 'lorgnettelaw01.LimbOrder'. -/
def limbOrderCard : Claim7 := { stood := { row := limbOrderRow, standIns := [], harness := (true, "4c1b99aff697731aa4a8aa1045326b8f26d7e508537fc7f362655d7c30cb4e8a"), looks := false }, kinds := [], alts := [], laidByText := true, laidKinds := [.data, .data, .data], laidTests := true, laidLooks := .later }
def LimbOrderCardSaid : Prop := Claim7.holds Tryd.pinned (.plain (OpenSpec.ofChange limbOrderSpec)) limbOrderCard

/-- THE TIED CARD OF 'lorgnettelaw01.LimbShifts'. -/
def limbShiftsCard : Claim7 := { stood := { row := limbShiftsRow, standIns := [], harness := (true, "4c1b99aff697731aa4a8aa1045326b8f26d7e508537fc7f362655d7c30cb4e8a"), looks := false }, kinds := [], alts := [], laidByText := true, laidKinds := [.data, .data, .data], laidTests := true, laidLooks := .later }
def LimbShiftsCardSaid : Prop := Claim7.holds Tryd.pinned (.plain (OpenSpec.ofChange limbShiftsSpec)) limbShiftsCard

/-- THE TIED CARD OF 'lorgnettelaw01.LimbBack'. -/
def limbBackCard : Claim7 := { stood := { row := limbBackRow, standIns := [], harness := (true, "4c1b99aff697731aa4a8aa1045326b8f26d7e508537fc7f362655d7c30cb4e8a"), looks := false }, kinds := [], alts := [], laidByText := true, laidKinds := [.data, .data, .data], laidTests := true, laidLooks := .later }
def LimbBackCardSaid : Prop := Claim7.holds Tryd.pinned (.plain (OpenSpec.ofChange limbBackSpec)) limbBackCard

/-- THE SECOND FORM's CARD OF 'lorgnettelaw01.LimbDivs'. -/
def limbDivsUptoCard : Claim7 := { stood := { row := limbDivsUptoRow, standIns := [], harness := (true, "4c1b99aff697731aa4a8aa1045326b8f26d7e508537fc7f362655d7c30cb4e8a"), looks := false }, kinds := [], alts := [], laidByText := true, laidKinds := [.data, .data, .data], laidTests := true, laidLooks := .later }
def LimbDivsUptoCardSaid : Prop := Claim7.holds Tryd.pinned (.plain (OpenSpec.upto limbDivsSpec)) limbDivsUptoCard

/-- THE SECOND FORM's CARD OF 'lorgnettelaw01.LimbParses'. -/
def limbParsesUptoCard : Claim7 := { stood := { row := limbParsesUptoRow, standIns := [], harness := (true, "4c1b99aff697731aa4a8aa1045326b8f26d7e508537fc7f362655d7c30cb4e8a"), looks := false }, kinds := [], alts := [], laidByText := true, laidKinds := [.data, .data, .data], laidTests := true, laidLooks := .later }
def LimbParsesUptoCardSaid : Prop := Claim7.holds Tryd.pinned (.plain (OpenSpec.upto limbParsesSpec)) limbParsesUptoCard

/-- THE SECOND FORM's CARD OF 'lorgnettelaw01.LimbNorms'. -/
def limbNormsUptoCard : Claim7 := { stood := { row := limbNormsUptoRow, standIns := [], harness := (true, "4c1b99aff697731aa4a8aa1045326b8f26d7e508537fc7f362655d7c30cb4e8a"), looks := false }, kinds := [], alts := [], laidByText := true, laidKinds := [.data, .data, .data], laidTests := true, laidLooks := .later }
def LimbNormsUptoCardSaid : Prop := Claim7.holds Tryd.pinned (.plain (OpenSpec.upto limbNormsSpec)) limbNormsUptoCard

/-- THE SECOND FORM's CARD OF 'lorgnettelaw01.LimbCmps'. -/
def limbCmpsUptoCard : Claim7 := { stood := { row := limbCmpsUptoRow, standIns := [], harness := (true, "4c1b99aff697731aa4a8aa1045326b8f26d7e508537fc7f362655d7c30cb4e8a"), looks := false }, kinds := [], alts := [], laidByText := true, laidKinds := [.data, .data, .data], laidTests := true, laidLooks := .later }
def LimbCmpsUptoCardSaid : Prop := Claim7.holds Tryd.pinned (.plain (OpenSpec.upto limbCmpsSpec)) limbCmpsUptoCard

/-- THE SECOND FORM's CARD OF 'lorgnettelaw01.LimbSums'. -/
def limbSumsUptoCard : Claim7 := { stood := { row := limbSumsUptoRow, standIns := [], harness := (true, "4c1b99aff697731aa4a8aa1045326b8f26d7e508537fc7f362655d7c30cb4e8a"), looks := false }, kinds := [], alts := [], laidByText := true, laidKinds := [.data, .data, .data], laidTests := true, laidLooks := .later }
def LimbSumsUptoCardSaid : Prop := Claim7.holds Tryd.pinned (.plain (OpenSpec.upto limbSumsSpec)) limbSumsUptoCard

/-- THE SECOND FORM's CARD OF 'lorgnettelaw01.LimbTexts'. -/
def limbTextsUptoCard : Claim7 := { stood := { row := limbTextsUptoRow, standIns := [], harness := (true, "4c1b99aff697731aa4a8aa1045326b8f26d7e508537fc7f362655d7c30cb4e8a"), looks := false }, kinds := [], alts := [], laidByText := true, laidKinds := [.data, .data, .data], laidTests := true, laidLooks := .later }
def LimbTextsUptoCardSaid : Prop := Claim7.holds Tryd.pinned (.plain (OpenSpec.upto limbTextsSpec)) limbTextsUptoCard

/-- THE SECOND FORM's CARD OF 'lorgnettelaw01.LimbMuls'. -/
def limbMulsUptoCard : Claim7 := { stood := { row := limbMulsUptoRow, standIns := [], harness := (true, "4c1b99aff697731aa4a8aa1045326b8f26d7e508537fc7f362655d7c30cb4e8a"), looks := false }, kinds := [], alts := [], laidByText := true, laidKinds := [.data, .data, .data], laidTests := true, laidLooks := .later }
def LimbMulsUptoCardSaid : Prop := Claim7.holds Tryd.pinned (.plain (OpenSpec.upto limbMulsSpec)) limbMulsUptoCard

/-- THE SECOND FORM's CARD OF 'lorgnettelaw01.LimbRing'. -/
def limbRingUptoCard : Claim7 := { stood := { row := limbRingUptoRow, standIns := [], harness := (true, "4c1b99aff697731aa4a8aa1045326b8f26d7e508537fc7f362655d7c30cb4e8a"), looks := false }, kinds := [], alts := [], laidByText := true, laidKinds := [.data, .data, .data], laidTests := true, laidLooks := .later }
def LimbRingUptoCardSaid : Prop := Claim7.holds Tryd.pinned (.plain (OpenSpec.upto limbRingSpec)) limbRingUptoCard

/-- THE SECOND FORM's CARD OF 'lorgnettelaw01.LimbOrder'. -/
def limbOrderUptoCard : Claim7 := { stood := { row := limbOrderUptoRow, standIns := [], harness := (true, "4c1b99aff697731aa4a8aa1045326b8f26d7e508537fc7f362655d7c30cb4e8a"), looks := false }, kinds := [], alts := [], laidByText := true, laidKinds := [.data, .data, .data], laidTests := true, laidLooks := .later }
def LimbOrderUptoCardSaid : Prop := Claim7.holds Tryd.pinned (.plain (OpenSpec.upto limbOrderSpec)) limbOrderUptoCard

/-- THE SECOND FORM's CARD OF 'lorgnettelaw01.LimbShifts'. -/
def limbShiftsUptoCard : Claim7 := { stood := { row := limbShiftsUptoRow, standIns := [], harness := (true, "4c1b99aff697731aa4a8aa1045326b8f26d7e508537fc7f362655d7c30cb4e8a"), looks := false }, kinds := [], alts := [], laidByText := true, laidKinds := [.data, .data, .data], laidTests := true, laidLooks := .later }
def LimbShiftsUptoCardSaid : Prop := Claim7.holds Tryd.pinned (.plain (OpenSpec.upto limbShiftsSpec)) limbShiftsUptoCard

/-- THE SECOND FORM's CARD OF 'lorgnettelaw01.LimbBack'. -/
def limbBackUptoCard : Claim7 := { stood := { row := limbBackUptoRow, standIns := [], harness := (true, "4c1b99aff697731aa4a8aa1045326b8f26d7e508537fc7f362655d7c30cb4e8a"), looks := false }, kinds := [], alts := [], laidByText := true, laidKinds := [.data, .data, .data], laidTests := true, laidLooks := .later }
def LimbBackUptoCardSaid : Prop := Claim7.holds Tryd.pinned (.plain (OpenSpec.upto limbBackSpec)) limbBackUptoCard
end Rows
end Go.Proofs.YtmmlclgmehfmhaaDoor
