/-
  DERIVED. GIVEN WITH THE SEED: THE CARDS: each row of YtojkdncegglceaaDoorRows.lean that lists a variable, with what it lists TIED to the program's text (the seventh form; the later family's looks); each row that meets fmt, with fmt's text TOLD by the authors' own Lean function (tested against real Go, not proved from fmt's source: count such statements apart). THE CARD IS WHAT COUNTS. Prove the row's statement (the work); the ties are given (YtojkdncegglceaaDoorTie.lean); close each card by the builder's one call (the guide's Derived/Test/ToyasCard.lean, 'card_holds'). Laid BY PROGRAM, IN A SANDBOX (cutbox-door.mjs). By AI agents, Wed Nov 11 2026. No macro, syntax, notation, axiom, sorry.
-/
import Derived.Test.YtojkdncegglceaaDoorRows
import GoSem.ClaimSeven
namespace Go.Proofs.YtojkdncegglceaaDoor
namespace Rows

/-- THE TIED CARD OF 'almanaclaw35.GenMakes'. -/
def genMakesCard : Claim7 := { stood := { row := genMakesRow, standIns := [], harness := (true, "23c6af0760fb5a62d178529d761a4d11fd9e7213dceb26d985c1b38bf29d72bf"), looks := false }, kinds := [], alts := [], laidByText := true, laidKinds := [.data, .data, .data], laidTests := true, laidLooks := .later }
def GenMakesCardSaid : Prop := Claim7.holds Tryd.pinned (.plain (OpenSpec.ofChange genMakesSpec)) genMakesCard

/-- THE TIED CARD OF 'almanaclaw35.GenSteps'. -/
def genStepsCard : Claim7 := { stood := { row := genStepsRow, standIns := [], harness := (true, "23c6af0760fb5a62d178529d761a4d11fd9e7213dceb26d985c1b38bf29d72bf"), looks := false }, kinds := [], alts := [], laidByText := true, laidKinds := [.data, .data, .data], laidTests := true, laidLooks := .later }
def GenStepsCardSaid : Prop := Claim7.holds Tryd.pinned (.plain (OpenSpec.ofChange genStepsSpec)) genStepsCard

/-- THE SECOND FORM's CARD OF 'almanaclaw35.GenMakes'. -/
def genMakesUptoCard : Claim7 := { stood := { row := genMakesUptoRow, standIns := [], harness := (true, "23c6af0760fb5a62d178529d761a4d11fd9e7213dceb26d985c1b38bf29d72bf"), looks := false }, kinds := [], alts := [], laidByText := true, laidKinds := [.data, .data, .data], laidTests := true, laidLooks := .later }
def GenMakesUptoCardSaid : Prop := Claim7.holds Tryd.pinned (.plain (OpenSpec.upto genMakesSpec)) genMakesUptoCard

/-- THE SECOND FORM's CARD OF 'almanaclaw35.GenSteps'. -/
def genStepsUptoCard : Claim7 := { stood := { row := genStepsUptoRow, standIns := [], harness := (true, "23c6af0760fb5a62d178529d761a4d11fd9e7213dceb26d985c1b38bf29d72bf"), looks := false }, kinds := [], alts := [], laidByText := true, laidKinds := [.data, .data, .data], laidTests := true, laidLooks := .later }
def GenStepsUptoCardSaid : Prop := Claim7.holds Tryd.pinned (.plain (OpenSpec.upto genStepsSpec)) genStepsUptoCard
end Rows
end Go.Proofs.YtojkdncegglceaaDoor
