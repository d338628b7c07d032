/-
  DERIVED. GIVEN WITH THE SEED: THE CARDS: each row of YtmbeicndhigklaaGreatDoorRows.lean that lists a variable, with what it lists TIED to the program's text (the seventh form; the later family's looks); each row that meets fmt, with fmt's text TOLD by the authors' own Lean function (tested against real Go, not proved from fmt's source: count such statements apart). THE CARD IS WHAT COUNTS. Prove the row's statement (the work); the ties are given (YtmbeicndhigklaaGreatDoorTie.lean); close each card by the builder's one call (the guide's Derived/Test/ToyasCard.lean, 'card_holds'). Laid BY PROGRAM, IN A SANDBOX (cutbox-door.mjs). By AI agents, Wed Nov 11 2026. No macro, syntax, notation, axiom, sorry.
-/
import Derived.Test.YtmbeicndhigklaaGreatDoorRows
import GoSem.ClaimSeven
namespace Go.Proofs.YtmbeicndhigklaaGreatDoor
namespace Rows

/-- THE TIED CARD OF 'lorgnettelaw17.ScopeFrees'. -/
def scopeFreesCard : Claim7 := { stood := { row := scopeFreesRow, standIns := [], harness := (true, "c26c9651303f445fa78a4b8340ff31bab75a8de330fc80f3c834c128483fea48"), looks := true }, kinds := [], alts := [], laidByText := true, laidKinds := [.data, .data, .data, .data, .sentinel, .sentinel, .pinned], laidTests := true, laidLooks := .later }
def ScopeFreesCardSaid : Prop := Claim7.holds Tryz.pinned (.plain (OpenSpec.ofChange scopeFreesSpec)) scopeFreesCard

/-- THE TIED CARD OF 'lorgnettelaw17.ScopePipes'. -/
def scopePipesCard : Claim7 := { stood := { row := scopePipesRow, standIns := [], harness := (true, "c26c9651303f445fa78a4b8340ff31bab75a8de330fc80f3c834c128483fea48"), looks := true }, kinds := [], alts := [], laidByText := true, laidKinds := [.data, .data, .data, .data, .sentinel, .sentinel, .pinned], laidTests := true, laidLooks := .later }
def ScopePipesCardSaid : Prop := Claim7.holds Tryz.pinned (.plain (OpenSpec.ofChange scopePipesSpec)) scopePipesCard

/-- THE TIED CARD OF 'lorgnettelaw17.ScopeBinds'. -/
def scopeBindsCard : Claim7 := { stood := { row := scopeBindsRow, standIns := [], harness := (true, "c26c9651303f445fa78a4b8340ff31bab75a8de330fc80f3c834c128483fea48"), looks := true }, kinds := [], alts := [], laidByText := true, laidKinds := [.data, .data, .data, .data, .sentinel, .sentinel, .pinned], laidTests := true, laidLooks := .later }
def ScopeBindsCardSaid : Prop := Claim7.holds Tryz.pinned (.plain (OpenSpec.ofChange scopeBindsSpec)) scopeBindsCard

/-- THE TIED CARD OF 'lorgnettelaw17.ScopeChecks'. -/
def scopeChecksCard : Claim7 := { stood := { row := scopeChecksRow, standIns := [], harness := (true, "c26c9651303f445fa78a4b8340ff31bab75a8de330fc80f3c834c128483fea48"), looks := true }, kinds := [], alts := [], laidByText := true, laidKinds := [.data, .data, .data, .data, .sentinel, .sentinel, .pinned], laidTests := true, laidLooks := .later }
def ScopeChecksCardSaid : Prop := Claim7.holds Tryz.pinned (.plain (OpenSpec.ofChange scopeChecksSpec)) scopeChecksCard

/-- THE TIED CARD OF 'lorgnettelaw17.ScopeKnown'. -/
def scopeKnownCard : Claim7 := { stood := { row := scopeKnownRow, standIns := [], harness := (true, "c26c9651303f445fa78a4b8340ff31bab75a8de330fc80f3c834c128483fea48"), looks := true }, kinds := [], alts := [], laidByText := true, laidKinds := [.data, .data, .data, .data, .sentinel, .sentinel, .pinned], laidTests := true, laidLooks := .later }
def ScopeKnownCardSaid : Prop := Claim7.holds Tryz.pinned (.plain (OpenSpec.ofChange scopeKnownSpec)) scopeKnownCard

/-- THE SECOND FORM's CARD OF 'lorgnettelaw17.ScopeFrees'. -/
def scopeFreesUptoCard : Claim7 := { stood := { row := scopeFreesUptoRow, standIns := [], harness := (true, "c26c9651303f445fa78a4b8340ff31bab75a8de330fc80f3c834c128483fea48"), looks := true }, kinds := [], alts := [], laidByText := true, laidKinds := [.data, .data, .data, .data, .sentinel, .sentinel, .pinned], laidTests := true, laidLooks := .later }
def ScopeFreesUptoCardSaid : Prop := Claim7.holds Tryz.pinned (.plain (OpenSpec.upto scopeFreesSpec)) scopeFreesUptoCard

/-- THE SECOND FORM's CARD OF 'lorgnettelaw17.ScopePipes'. -/
def scopePipesUptoCard : Claim7 := { stood := { row := scopePipesUptoRow, standIns := [], harness := (true, "c26c9651303f445fa78a4b8340ff31bab75a8de330fc80f3c834c128483fea48"), looks := true }, kinds := [], alts := [], laidByText := true, laidKinds := [.data, .data, .data, .data, .sentinel, .sentinel, .pinned], laidTests := true, laidLooks := .later }
def ScopePipesUptoCardSaid : Prop := Claim7.holds Tryz.pinned (.plain (OpenSpec.upto scopePipesSpec)) scopePipesUptoCard

/-- THE SECOND FORM's CARD OF 'lorgnettelaw17.ScopeBinds'. -/
def scopeBindsUptoCard : Claim7 := { stood := { row := scopeBindsUptoRow, standIns := [], harness := (true, "c26c9651303f445fa78a4b8340ff31bab75a8de330fc80f3c834c128483fea48"), looks := true }, kinds := [], alts := [], laidByText := true, laidKinds := [.data, .data, .data, .data, .sentinel, .sentinel, .pinned], laidTests := true, laidLooks := .later }
def ScopeBindsUptoCardSaid : Prop := Claim7.holds Tryz.pinned (.plain (OpenSpec.upto scopeBindsSpec)) scopeBindsUptoCard

/-- THE SECOND FORM's CARD OF 'lorgnettelaw17.ScopeChecks'. -/
def scopeChecksUptoCard : Claim7 := { stood := { row := scopeChecksUptoRow, standIns := [], harness := (true, "c26c9651303f445fa78a4b8340ff31bab75a8de330fc80f3c834c128483fea48"), looks := true }, kinds := [], alts := [], laidByText := true, laidKinds := [.data, .data, .data, .data, .sentinel, .sentinel, .pinned], laidTests := true, laidLooks := .later }
def ScopeChecksUptoCardSaid : Prop := Claim7.holds Tryz.pinned (.plain (OpenSpec.upto scopeChecksSpec)) scopeChecksUptoCard

/-- THE SECOND FORM's CARD OF 'lorgnettelaw17.ScopeKnown'. -/
def scopeKnownUptoCard : Claim7 := { stood := { row := scopeKnownUptoRow, standIns := [], harness := (true, "c26c9651303f445fa78a4b8340ff31bab75a8de330fc80f3c834c128483fea48"), looks := true }, kinds := [], alts := [], laidByText := true, laidKinds := [.data, .data, .data, .data, .sentinel, .sentinel, .pinned], laidTests := true, laidLooks := .later }
def ScopeKnownUptoCardSaid : Prop := Claim7.holds Tryz.pinned (.plain (OpenSpec.upto scopeKnownSpec)) scopeKnownUptoCard
end Rows
end Go.Proofs.YtmbeicndhigklaaGreatDoor
