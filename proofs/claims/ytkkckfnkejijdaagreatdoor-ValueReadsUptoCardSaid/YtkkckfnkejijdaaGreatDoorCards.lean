/-
  DERIVED. GIVEN WITH THE SEED: THE CARDS: each row of YtkkckfnkejijdaaGreatDoorRows.lean that lists a variable, with what it lists TIED to the program's text (the seventh form; the later family's looks); each row that meets fmt, with fmt's text TOLD by the authors' own Lean function (tested against real Go, not proved from fmt's source: count such statements apart). THE CARD IS WHAT COUNTS. Prove the row's statement (the work); the ties are given (YtkkckfnkejijdaaGreatDoorTie.lean); close each card by the builder's one call (the guide's Derived/Test/ToyasCard.lean, 'card_holds'). Laid BY PROGRAM, IN A SANDBOX (cutbox-door.mjs). By AI agents, Wed Nov 11 2026. No macro, syntax, notation, axiom, sorry.
-/
import Derived.Test.YtkkckfnkejijdaaGreatDoorRows
import GoSem.ClaimSeven
namespace Go.Proofs.YtkkckfnkejijdaaGreatDoor
namespace Rows

/-- THE TIED CARD OF 'almanaclaw12.CompBack'. -/
def compBackCard : Claim7 := { stood := { row := compBackRow, standIns := [], harness := (true, "a824ebe349cd2dfeb363bf5db661ab3bb45fcaaa8d0b8cbe36c36984d1a7f3c8"), looks := true }, kinds := [], alts := [], laidByText := true, laidKinds := [.data, .pinned], laidTests := true, laidLooks := .later }
def CompBackCardSaid : Prop := Claim7.holds Tryz.pinned (.plain (OpenSpec.ofChange compBackSpec)) compBackCard

/-- THE TIED CARD OF 'almanaclaw12.CompLetters'. -/
def compLettersCard : Claim7 := { stood := { row := compLettersRow, standIns := [], harness := (true, "a824ebe349cd2dfeb363bf5db661ab3bb45fcaaa8d0b8cbe36c36984d1a7f3c8"), looks := true }, kinds := [], alts := [], laidByText := true, laidKinds := [.data, .pinned], laidTests := true, laidLooks := .later }
def CompLettersCardSaid : Prop := Claim7.holds Tryz.pinned (.plain (OpenSpec.ofChange compLettersSpec)) compLettersCard

/-- THE TIED CARD OF 'almanaclaw12.CompWrites'. -/
def compWritesCard : Claim7 := { stood := { row := compWritesRow, standIns := [], harness := (true, "a824ebe349cd2dfeb363bf5db661ab3bb45fcaaa8d0b8cbe36c36984d1a7f3c8"), looks := true }, kinds := [], alts := [], laidByText := true, laidKinds := [.data, .pinned], laidTests := true, laidLooks := .later }
def CompWritesCardSaid : Prop := Claim7.holds Tryz.pinned (.plain (OpenSpec.ofChange compWritesSpec)) compWritesCard

/-- THE TIED CARD OF 'almanaclaw13.ValueReads'. -/
def valueReadsCard : Claim7 := { stood := { row := valueReadsRow, standIns := [], harness := (true, "a824ebe349cd2dfeb363bf5db661ab3bb45fcaaa8d0b8cbe36c36984d1a7f3c8"), looks := true }, kinds := [], alts := [], laidByText := true, laidKinds := [.data, .data, .data, .data, .pinned], laidTests := true, laidLooks := .later }
def ValueReadsCardSaid : Prop := Claim7.holds Tryz.pinned (.plain (OpenSpec.ofChange valueReadsSpec)) valueReadsCard

/-- THE TIED CARD OF 'almanaclaw13.ValueWrites'. -/
def valueWritesCard : Claim7 := { stood := { row := valueWritesRow, standIns := [], harness := (true, "a824ebe349cd2dfeb363bf5db661ab3bb45fcaaa8d0b8cbe36c36984d1a7f3c8"), looks := true }, kinds := [], alts := [], laidByText := true, laidKinds := [.data, .data, .data], laidTests := true, laidLooks := .later }
def ValueWritesCardSaid : Prop := Claim7.holds Tryz.pinned (.plain (OpenSpec.ofChange valueWritesSpec)) valueWritesCard

/-- THE TIED CARD OF 'almanaclaw13.ValueBack'. -/
def valueBackCard : Claim7 := { stood := { row := valueBackRow, standIns := [], harness := (true, "a824ebe349cd2dfeb363bf5db661ab3bb45fcaaa8d0b8cbe36c36984d1a7f3c8"), looks := true }, kinds := [], alts := [], laidByText := true, laidKinds := [.data, .data, .data], laidTests := true, laidLooks := .later }
def ValueBackCardSaid : Prop := Claim7.holds Tryz.pinned (.plain (OpenSpec.ofChange valueBackSpec)) valueBackCard

/-- THE SECOND FORM's CARD OF 'almanaclaw12.CompBack'. -/
def compBackUptoCard : Claim7 := { stood := { row := compBackUptoRow, standIns := [], harness := (true, "a824ebe349cd2dfeb363bf5db661ab3bb45fcaaa8d0b8cbe36c36984d1a7f3c8"), looks := true }, kinds := [], alts := [], laidByText := true, laidKinds := [.data, .pinned], laidTests := true, laidLooks := .later }
def CompBackUptoCardSaid : Prop := Claim7.holds Tryz.pinned (.plain (OpenSpec.upto compBackSpec)) compBackUptoCard

/-- THE SECOND FORM's CARD OF 'almanaclaw12.CompLetters'. -/
def compLettersUptoCard : Claim7 := { stood := { row := compLettersUptoRow, standIns := [], harness := (true, "a824ebe349cd2dfeb363bf5db661ab3bb45fcaaa8d0b8cbe36c36984d1a7f3c8"), looks := true }, kinds := [], alts := [], laidByText := true, laidKinds := [.data, .pinned], laidTests := true, laidLooks := .later }
def CompLettersUptoCardSaid : Prop := Claim7.holds Tryz.pinned (.plain (OpenSpec.upto compLettersSpec)) compLettersUptoCard

/-- THE SECOND FORM's CARD OF 'almanaclaw12.CompWrites'. -/
def compWritesUptoCard : Claim7 := { stood := { row := compWritesUptoRow, standIns := [], harness := (true, "a824ebe349cd2dfeb363bf5db661ab3bb45fcaaa8d0b8cbe36c36984d1a7f3c8"), looks := true }, kinds := [], alts := [], laidByText := true, laidKinds := [.data, .pinned], laidTests := true, laidLooks := .later }
def CompWritesUptoCardSaid : Prop := Claim7.holds Tryz.pinned (.plain (OpenSpec.upto compWritesSpec)) compWritesUptoCard

/-- THE SECOND FORM's CARD OF 'almanaclaw13.ValueReads'. -/
def valueReadsUptoCard : Claim7 := { stood := { row := valueReadsUptoRow, standIns := [], harness := (true, "a824ebe349cd2dfeb363bf5db661ab3bb45fcaaa8d0b8cbe36c36984d1a7f3c8"), looks := true }, kinds := [], alts := [], laidByText := true, laidKinds := [.data, .data, .data, .data, .pinned], laidTests := true, laidLooks := .later }
def ValueReadsUptoCardSaid : Prop := Claim7.holds Tryz.pinned (.plain (OpenSpec.upto valueReadsSpec)) valueReadsUptoCard

/-- THE SECOND FORM's CARD OF 'almanaclaw13.ValueWrites'. -/
def valueWritesUptoCard : Claim7 := { stood := { row := valueWritesUptoRow, standIns := [], harness := (true, "a824ebe349cd2dfeb363bf5db661ab3bb45fcaaa8d0b8cbe36c36984d1a7f3c8"), looks := true }, kinds := [], alts := [], laidByText := true, laidKinds := [.data, .data, .data], laidTests := true, laidLooks := .later }
def ValueWritesUptoCardSaid : Prop := Claim7.holds Tryz.pinned (.plain (OpenSpec.upto valueWritesSpec)) valueWritesUptoCard

/-- THE SECOND FORM's CARD OF 'almanaclaw13.ValueBack'. -/
def valueBackUptoCard : Claim7 := { stood := { row := valueBackUptoRow, standIns := [], harness := (true, "a824ebe349cd2dfeb363bf5db661ab3bb45fcaaa8d0b8cbe36c36984d1a7f3c8"), looks := true }, kinds := [], alts := [], laidByText := true, laidKinds := [.data, .data, .data], laidTests := true, laidLooks := .later }
def ValueBackUptoCardSaid : Prop := Claim7.holds Tryz.pinned (.plain (OpenSpec.upto valueBackSpec)) valueBackUptoCard
end Rows
end Go.Proofs.YtkkckfnkejijdaaGreatDoor
