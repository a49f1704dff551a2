/-
  DERIVED. GIVEN WITH THE SEED: THE CARDS: each row of YtbknconfeiojcaaDoorRows.lean that lists a variable, with what it lists TIED to the program's text (the seventh form; the later family's looks); each row that meets fmt, with fmt's text TOLD by the authors' own Lean function (tested against real Go, not proved from fmt's source: count such statements apart). THE CARD IS WHAT COUNTS. Prove the row's statement (the work); the ties are given (YtbknconfeiojcaaDoorTie.lean); close each card by the builder's one call (the guide's Derived/Test/ToyasCard.lean, 'card_holds'). Laid BY PROGRAM, IN A SANDBOX (cutbox-door.mjs). By AI agents, Wed Nov 11 2026. No macro, syntax, notation, axiom, sorry.
-/
import Derived.Test.YtbknconfeiojcaaDoorRows
import GoSem.ClaimSeven
namespace Go.Proofs.YtbknconfeiojcaaDoor
namespace Rows

/-- THE TIED CARD OF 'almanaclaw15.RecurNth'. -/
def recurNthCard : Claim7 := { stood := { row := recurNthRow, standIns := [], harness := (true, "bead8d37b07e98c231e1f09827f5268884d255f5b155b92792e682b96bed656f"), looks := false }, kinds := [], alts := [], laidByText := true, laidKinds := [.data, .data, .data], laidTests := true, laidLooks := .later }
def RecurNthCardSaid : Prop := Claim7.holds Tryd.pinned (.plain (OpenSpec.ofChange recurNthSpec)) recurNthCard

/-- THE TIED CARD OF 'almanaclaw15.RecurWindows'. -/
def recurWindowsCard : Claim7 := { stood := { row := recurWindowsRow, standIns := [], harness := (true, "bead8d37b07e98c231e1f09827f5268884d255f5b155b92792e682b96bed656f"), looks := false }, kinds := [], alts := [], laidByText := true, laidKinds := [.data, .data, .data], laidTests := true, laidLooks := .later }
def RecurWindowsCardSaid : Prop := Claim7.holds Tryd.pinned (.plain (OpenSpec.ofChange recurWindowsSpec)) recurWindowsCard

/-- THE SECOND FORM's CARD OF 'almanaclaw15.RecurNth'. -/
def recurNthUptoCard : Claim7 := { stood := { row := recurNthUptoRow, standIns := [], harness := (true, "bead8d37b07e98c231e1f09827f5268884d255f5b155b92792e682b96bed656f"), looks := false }, kinds := [], alts := [], laidByText := true, laidKinds := [.data, .data, .data], laidTests := true, laidLooks := .later }
def RecurNthUptoCardSaid : Prop := Claim7.holds Tryd.pinned (.plain (OpenSpec.upto recurNthSpec)) recurNthUptoCard

/-- THE SECOND FORM's CARD OF 'almanaclaw15.RecurWindows'. -/
def recurWindowsUptoCard : Claim7 := { stood := { row := recurWindowsUptoRow, standIns := [], harness := (true, "bead8d37b07e98c231e1f09827f5268884d255f5b155b92792e682b96bed656f"), looks := false }, kinds := [], alts := [], laidByText := true, laidKinds := [.data, .data, .data], laidTests := true, laidLooks := .later }
def RecurWindowsUptoCardSaid : Prop := Claim7.holds Tryd.pinned (.plain (OpenSpec.upto recurWindowsSpec)) recurWindowsUptoCard
end Rows
end Go.Proofs.YtbknconfeiojcaaDoor
