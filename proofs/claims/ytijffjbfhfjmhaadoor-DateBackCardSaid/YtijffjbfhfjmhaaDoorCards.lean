/-
  DERIVED. GIVEN WITH THE SEED: THE CARDS: each row of YtijffjbfhfjmhaaDoorRows.lean that lists a variable, with what it lists TIED to the program's text (the seventh form; the later family's looks); each row that meets fmt, with fmt's text TOLD by the authors' own Lean function (tested against real Go, not proved from fmt's source: count such statements apart). THE CARD IS WHAT COUNTS. Prove the row's statement (the work); the ties are given (YtijffjbfhfjmhaaDoorTie.lean); close each card by the builder's one call (the guide's Derived/Test/ToyasCard.lean, 'card_holds'). Laid BY PROGRAM, IN A SANDBOX (cutbox-door.mjs). By AI agents, Wed Nov 11 2026. No macro, syntax, notation, axiom, sorry.
-/
import Derived.Test.YtijffjbfhfjmhaaDoorRows
import GoSem.ClaimSeven
namespace Go.Proofs.YtijffjbfhfjmhaaDoor
namespace Rows

/-- THE TIED CARD OF 'almanaclaw10.DateTells'. -/
def dateTellsCard : Claim7 := { stood := { row := dateTellsRow, standIns := [], harness := (true, "960dec5d3e55bffea94c195f0203232e98fe8e49ce410a4043d544bad2955fd7"), looks := false }, kinds := [], alts := [], laidByText := true, laidKinds := [.data, .data, .data], laidTests := true, laidLooks := .later }
def DateTellsCardSaid : Prop := Claim7.holds Tryd.pinned (.plain (OpenSpec.ofChange dateTellsSpec)) dateTellsCard

/-- THE TIED CARD OF 'almanaclaw10.DateFollows'. -/
def dateFollowsCard : Claim7 := { stood := { row := dateFollowsRow, standIns := [], harness := (true, "960dec5d3e55bffea94c195f0203232e98fe8e49ce410a4043d544bad2955fd7"), looks := false }, kinds := [], alts := [], laidByText := true, laidKinds := [.data, .data, .data], laidTests := true, laidLooks := .later }
def DateFollowsCardSaid : Prop := Claim7.holds Tryd.pinned (.plain (OpenSpec.ofChange dateFollowsSpec)) dateFollowsCard

/-- THE TIED CARD OF 'almanaclaw10.DateWrites'. -/
def dateWritesCard : Claim7 := { stood := { row := dateWritesRow, standIns := [], harness := (true, "960dec5d3e55bffea94c195f0203232e98fe8e49ce410a4043d544bad2955fd7"), looks := false }, kinds := [], alts := [], laidByText := true, laidKinds := [.data, .data, .data], laidTests := true, laidLooks := .later }
def DateWritesCardSaid : Prop := Claim7.holds Tryd.pinned (.plain (OpenSpec.ofChange dateWritesSpec)) dateWritesCard

/-- THE TIED CARD OF 'almanaclaw10.DateBack'. -/
def dateBackCard : Claim7 := { stood := { row := dateBackRow, standIns := [], harness := (true, "960dec5d3e55bffea94c195f0203232e98fe8e49ce410a4043d544bad2955fd7"), looks := false }, kinds := [], alts := [], laidByText := true, laidKinds := [.data, .data, .data], laidTests := true, laidLooks := .later }
def DateBackCardSaid : Prop := Claim7.holds Tryd.pinned (.plain (OpenSpec.ofChange dateBackSpec)) dateBackCard

/-- THE SECOND FORM's CARD OF 'almanaclaw10.DateTells'. -/
def dateTellsUptoCard : Claim7 := { stood := { row := dateTellsUptoRow, standIns := [], harness := (true, "960dec5d3e55bffea94c195f0203232e98fe8e49ce410a4043d544bad2955fd7"), looks := false }, kinds := [], alts := [], laidByText := true, laidKinds := [.data, .data, .data], laidTests := true, laidLooks := .later }
def DateTellsUptoCardSaid : Prop := Claim7.holds Tryd.pinned (.plain (OpenSpec.upto dateTellsSpec)) dateTellsUptoCard

/-- THE SECOND FORM's CARD OF 'almanaclaw10.DateFollows'. -/
def dateFollowsUptoCard : Claim7 := { stood := { row := dateFollowsUptoRow, standIns := [], harness := (true, "960dec5d3e55bffea94c195f0203232e98fe8e49ce410a4043d544bad2955fd7"), looks := false }, kinds := [], alts := [], laidByText := true, laidKinds := [.data, .data, .data], laidTests := true, laidLooks := .later }
def DateFollowsUptoCardSaid : Prop := Claim7.holds Tryd.pinned (.plain (OpenSpec.upto dateFollowsSpec)) dateFollowsUptoCard

/-- THE SECOND FORM's CARD OF 'almanaclaw10.DateWrites'. -/
def dateWritesUptoCard : Claim7 := { stood := { row := dateWritesUptoRow, standIns := [], harness := (true, "960dec5d3e55bffea94c195f0203232e98fe8e49ce410a4043d544bad2955fd7"), looks := false }, kinds := [], alts := [], laidByText := true, laidKinds := [.data, .data, .data], laidTests := true, laidLooks := .later }
def DateWritesUptoCardSaid : Prop := Claim7.holds Tryd.pinned (.plain (OpenSpec.upto dateWritesSpec)) dateWritesUptoCard

/-- THE SECOND FORM's CARD OF 'almanaclaw10.DateBack'. -/
def dateBackUptoCard : Claim7 := { stood := { row := dateBackUptoRow, standIns := [], harness := (true, "960dec5d3e55bffea94c195f0203232e98fe8e49ce410a4043d544bad2955fd7"), looks := false }, kinds := [], alts := [], laidByText := true, laidKinds := [.data, .data, .data], laidTests := true, laidLooks := .later }
def DateBackUptoCardSaid : Prop := Claim7.holds Tryd.pinned (.plain (OpenSpec.upto dateBackSpec)) dateBackUptoCard
end Rows
end Go.Proofs.YtijffjbfhfjmhaaDoor
