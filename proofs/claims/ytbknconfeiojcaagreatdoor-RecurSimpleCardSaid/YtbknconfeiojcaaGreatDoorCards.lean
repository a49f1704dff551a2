/-
  DERIVED. GIVEN WITH THE SEED: THE CARDS: each row of YtbknconfeiojcaaGreatDoorRows.lean that lists a variable, with what it lists TIED to the program's text (the seventh form; the later family's looks); each row that meets fmt, with fmt's text TOLD by the authors' own Lean function (tested against real Go, not proved from fmt's source: count such statements apart). THE CARD IS WHAT COUNTS. Prove the row's statement (the work); the ties are given (YtbknconfeiojcaaGreatDoorTie.lean); close each card by the builder's one call (the guide's Derived/Test/ToyasCard.lean, 'card_holds'). Laid BY PROGRAM, IN A SANDBOX (cutbox-door.mjs). By AI agents, Wed Nov 11 2026. No macro, syntax, notation, axiom, sorry.
-/
import Derived.Test.YtbknconfeiojcaaGreatDoorRows
import GoSem.ClaimSeven
namespace Go.Proofs.YtbknconfeiojcaaGreatDoor
namespace Rows

/-- THE TIED CARD OF 'almanaclaw15.RecurTimes'. -/
def recurTimesCard : Claim7 := { stood := { row := recurTimesRow, standIns := [], harness := (true, "e35601e96b7b481498df14d42e6e139b2352260aa77ebde7d814262db2899918"), looks := false }, kinds := [], alts := [], laidByText := true, laidKinds := [.data, .data, .data], laidTests := true, laidLooks := .later }
def RecurTimesCardSaid : Prop := Claim7.holds Tryz.pinned (.plain (OpenSpec.ofChange recurTimesSpec)) recurTimesCard

/-- THE TIED CARD OF 'almanaclaw15.RecurSimple'. -/
def recurSimpleCard : Claim7 := { stood := { row := recurSimpleRow, standIns := [], harness := (true, "e35601e96b7b481498df14d42e6e139b2352260aa77ebde7d814262db2899918"), looks := false }, kinds := [], alts := [], laidByText := true, laidKinds := [.data, .data, .data], laidTests := true, laidLooks := .later }
def RecurSimpleCardSaid : Prop := Claim7.holds Tryz.pinned (.plain (OpenSpec.ofChange recurSimpleSpec)) recurSimpleCard

/-- THE SECOND FORM's CARD OF 'almanaclaw15.RecurTimes'. -/
def recurTimesUptoCard : Claim7 := { stood := { row := recurTimesUptoRow, standIns := [], harness := (true, "e35601e96b7b481498df14d42e6e139b2352260aa77ebde7d814262db2899918"), looks := false }, kinds := [], alts := [], laidByText := true, laidKinds := [.data, .data, .data], laidTests := true, laidLooks := .later }
def RecurTimesUptoCardSaid : Prop := Claim7.holds Tryz.pinned (.plain (OpenSpec.upto recurTimesSpec)) recurTimesUptoCard

/-- THE SECOND FORM's CARD OF 'almanaclaw15.RecurSimple'. -/
def recurSimpleUptoCard : Claim7 := { stood := { row := recurSimpleUptoRow, standIns := [], harness := (true, "e35601e96b7b481498df14d42e6e139b2352260aa77ebde7d814262db2899918"), looks := false }, kinds := [], alts := [], laidByText := true, laidKinds := [.data, .data, .data], laidTests := true, laidLooks := .later }
def RecurSimpleUptoCardSaid : Prop := Claim7.holds Tryz.pinned (.plain (OpenSpec.upto recurSimpleSpec)) recurSimpleUptoCard
end Rows
end Go.Proofs.YtbknconfeiojcaaGreatDoor
