/-
  DERIVED. GIVEN WITH THE SEED: THE CARDS: each row of YtbpeienllhbffaaDoorRows.lean that lists a variable, with what it lists TIED to the program's text (the seventh form; the later family's looks); each row that meets fmt, with fmt's text TOLD by the authors' own Lean function (tested against real Go, not proved from fmt's source: count such statements apart). THE CARD IS WHAT COUNTS. Prove the row's statement (the work); the ties are given (YtbpeienllhbffaaDoorTie.lean); close each card by the builder's one call (the guide's Derived/Test/ToyasCard.lean, 'card_holds'). Laid BY PROGRAM, IN A SANDBOX (cutbox-door.mjs). By AI agents, Wed Nov 11 2026. No macro, syntax, notation, axiom, sorry.
-/
import Derived.Test.YtbpeienllhbffaaDoorRows
import GoSem.ClaimSeven
namespace Go.Proofs.YtbpeienllhbffaaDoor
namespace Rows

/-- THE TIED CARD OF 'sounderlaw22.EventReads'. -/
def eventReadsCard : Claim7 := { stood := { row := eventReadsRow, standIns := [], harness := (true, "be37a7fb8beef2db824164050d223b48340d987d3488757f03e2ae6d60b2e29d"), looks := true }, kinds := [], alts := [], laidByText := true, laidKinds := [.data, .data, .data, .data, .sentinel, .sentinel, .pinned], laidTests := true, laidLooks := .later }
def EventReadsCardSaid : Prop := Claim7.holds Tryd.pinned (.plain (OpenSpec.ofChange eventReadsSpec)) eventReadsCard

/-- THE TIED CARD OF 'sounderlaw22.EventBack'. -/
def eventBackCard : Claim7 := { stood := { row := eventBackRow, standIns := [], harness := (true, "be37a7fb8beef2db824164050d223b48340d987d3488757f03e2ae6d60b2e29d"), looks := true }, kinds := [], alts := [], laidByText := true, laidKinds := [.data, .data, .data, .data, .sentinel, .sentinel, .pinned], laidTests := true, laidLooks := .later }
def EventBackCardSaid : Prop := Claim7.holds Tryd.pinned (.plain (OpenSpec.ofChange eventBackSpec)) eventBackCard

/-- THE TIED CARD OF 'sounderlaw22.EventText'. -/
def eventTextCard : Claim7 := { stood := { row := eventTextRow, standIns := [], harness := (true, "be37a7fb8beef2db824164050d223b48340d987d3488757f03e2ae6d60b2e29d"), looks := true }, kinds := [], alts := [], laidByText := true, laidKinds := [.data, .data, .data, .data, .sentinel, .sentinel, .pinned], laidTests := true, laidLooks := .later }
def EventTextCardSaid : Prop := Claim7.holds Tryd.pinned (.plain (OpenSpec.ofChange eventTextSpec)) eventTextCard

/-- THE TIED CARD OF 'sounderlaw22.EventSpoilt'. -/
def eventSpoiltCard : Claim7 := { stood := { row := eventSpoiltRow, standIns := [], harness := (true, "be37a7fb8beef2db824164050d223b48340d987d3488757f03e2ae6d60b2e29d"), looks := true }, kinds := [], alts := [], laidByText := true, laidKinds := [.data, .data, .data, .data, .sentinel, .sentinel, .pinned], laidTests := true, laidLooks := .later }
def EventSpoiltCardSaid : Prop := Claim7.holds Tryd.pinned (.plain (OpenSpec.ofChange eventSpoiltSpec)) eventSpoiltCard

/-- THE TIED CARD OF 'sounderlaw22.EventWrites'. -/
def eventWritesCard : Claim7 := { stood := { row := eventWritesRow, standIns := [], harness := (true, "be37a7fb8beef2db824164050d223b48340d987d3488757f03e2ae6d60b2e29d"), looks := true }, kinds := [], alts := [], laidByText := true, laidKinds := [.data, .data, .data, .data, .sentinel, .sentinel, .pinned], laidTests := true, laidLooks := .later }
def EventWritesCardSaid : Prop := Claim7.holds Tryd.pinned (.plain (OpenSpec.ofChange eventWritesSpec)) eventWritesCard

/-- THE TIED CARD OF 'sounderlaw22.EventParts'. -/
def eventPartsCard : Claim7 := { stood := { row := eventPartsRow, standIns := [], harness := (true, "be37a7fb8beef2db824164050d223b48340d987d3488757f03e2ae6d60b2e29d"), looks := true }, kinds := [], alts := [], laidByText := true, laidKinds := [.data, .data, .data, .data, .sentinel, .sentinel, .pinned], laidTests := true, laidLooks := .later }
def EventPartsCardSaid : Prop := Claim7.holds Tryd.pinned (.plain (OpenSpec.ofChange eventPartsSpec)) eventPartsCard

/-- THE TIED CARD OF 'sounderlaw20.ConfTells'. -/
def confTellsCard : Claim7 := { stood := { row := confTellsRow, standIns := [], harness := (true, "be37a7fb8beef2db824164050d223b48340d987d3488757f03e2ae6d60b2e29d"), looks := true }, kinds := [], alts := [], laidByText := true, laidKinds := [.data, .data, .data, .data, .sentinel, .sentinel, .pinned], laidTests := true, laidLooks := .later }
def ConfTellsCardSaid : Prop := Claim7.holds Tryd.pinned (.plain (OpenSpec.ofChange confTellsSpec)) confTellsCard

/-- THE TIED CARD OF 'sounderlaw20.ConfAgain'. -/
def confAgainCard : Claim7 := { stood := { row := confAgainRow, standIns := [], harness := (true, "be37a7fb8beef2db824164050d223b48340d987d3488757f03e2ae6d60b2e29d"), looks := true }, kinds := [], alts := [], laidByText := true, laidKinds := [.data, .data, .data, .data, .sentinel, .sentinel, .pinned], laidTests := true, laidLooks := .later }
def ConfAgainCardSaid : Prop := Claim7.holds Tryd.pinned (.plain (OpenSpec.ofChange confAgainSpec)) confAgainCard

/-- THE TIED CARD OF 'sounderlaw20.ConfFew'. -/
def confFewCard : Claim7 := { stood := { row := confFewRow, standIns := [], harness := (true, "be37a7fb8beef2db824164050d223b48340d987d3488757f03e2ae6d60b2e29d"), looks := true }, kinds := [], alts := [], laidByText := true, laidKinds := [.data, .data, .data, .data, .sentinel, .sentinel, .pinned], laidTests := true, laidLooks := .later }
def ConfFewCardSaid : Prop := Claim7.holds Tryd.pinned (.plain (OpenSpec.ofChange confFewSpec)) confFewCard

/-- THE TIED CARD OF 'sounderlaw20.ConfEdges'. -/
def confEdgesCard : Claim7 := { stood := { row := confEdgesRow, standIns := [], harness := (true, "be37a7fb8beef2db824164050d223b48340d987d3488757f03e2ae6d60b2e29d"), looks := true }, kinds := [], alts := [], laidByText := true, laidKinds := [.data, .data, .data, .data, .sentinel, .sentinel, .pinned], laidTests := true, laidLooks := .later }
def ConfEdgesCardSaid : Prop := Claim7.holds Tryd.pinned (.plain (OpenSpec.ofChange confEdgesSpec)) confEdgesCard

/-- THE TIED CARD OF 'sounderlaw20.ConfBack'. -/
def confBackCard : Claim7 := { stood := { row := confBackRow, standIns := [], harness := (true, "be37a7fb8beef2db824164050d223b48340d987d3488757f03e2ae6d60b2e29d"), looks := true }, kinds := [], alts := [], laidByText := true, laidKinds := [.data, .data, .data, .data, .sentinel, .sentinel, .pinned], laidTests := true, laidLooks := .later }
def ConfBackCardSaid : Prop := Claim7.holds Tryd.pinned (.plain (OpenSpec.ofChange confBackSpec)) confBackCard

/-- THE SECOND FORM's CARD OF 'sounderlaw22.EventReads'. -/
def eventReadsUptoCard : Claim7 := { stood := { row := eventReadsUptoRow, standIns := [], harness := (true, "be37a7fb8beef2db824164050d223b48340d987d3488757f03e2ae6d60b2e29d"), looks := true }, kinds := [], alts := [], laidByText := true, laidKinds := [.data, .data, .data, .data, .sentinel, .sentinel, .pinned], laidTests := true, laidLooks := .later }
def EventReadsUptoCardSaid : Prop := Claim7.holds Tryd.pinned (.plain (OpenSpec.upto eventReadsSpec)) eventReadsUptoCard

/-- THE SECOND FORM's CARD OF 'sounderlaw22.EventBack'. -/
def eventBackUptoCard : Claim7 := { stood := { row := eventBackUptoRow, standIns := [], harness := (true, "be37a7fb8beef2db824164050d223b48340d987d3488757f03e2ae6d60b2e29d"), looks := true }, kinds := [], alts := [], laidByText := true, laidKinds := [.data, .data, .data, .data, .sentinel, .sentinel, .pinned], laidTests := true, laidLooks := .later }
def EventBackUptoCardSaid : Prop := Claim7.holds Tryd.pinned (.plain (OpenSpec.upto eventBackSpec)) eventBackUptoCard

/-- THE SECOND FORM's CARD OF 'sounderlaw22.EventText'. -/
def eventTextUptoCard : Claim7 := { stood := { row := eventTextUptoRow, standIns := [], harness := (true, "be37a7fb8beef2db824164050d223b48340d987d3488757f03e2ae6d60b2e29d"), looks := true }, kinds := [], alts := [], laidByText := true, laidKinds := [.data, .data, .data, .data, .sentinel, .sentinel, .pinned], laidTests := true, laidLooks := .later }
def EventTextUptoCardSaid : Prop := Claim7.holds Tryd.pinned (.plain (OpenSpec.upto eventTextSpec)) eventTextUptoCard

/-- THE SECOND FORM's CARD OF 'sounderlaw22.EventSpoilt'. -/
def eventSpoiltUptoCard : Claim7 := { stood := { row := eventSpoiltUptoRow, standIns := [], harness := (true, "be37a7fb8beef2db824164050d223b48340d987d3488757f03e2ae6d60b2e29d"), looks := true }, kinds := [], alts := [], laidByText := true, laidKinds := [.data, .data, .data, .data, .sentinel, .sentinel, .pinned], laidTests := true, laidLooks := .later }
def EventSpoiltUptoCardSaid : Prop := Claim7.holds Tryd.pinned (.plain (OpenSpec.upto eventSpoiltSpec)) eventSpoiltUptoCard

/-- THE SECOND FORM's CARD OF 'sounderlaw22.EventWrites'. -/
def eventWritesUptoCard : Claim7 := { stood := { row := eventWritesUptoRow, standIns := [], harness := (true, "be37a7fb8beef2db824164050d223b48340d987d3488757f03e2ae6d60b2e29d"), looks := true }, kinds := [], alts := [], laidByText := true, laidKinds := [.data, .data, .data, .data, .sentinel, .sentinel, .pinned], laidTests := true, laidLooks := .later }
def EventWritesUptoCardSaid : Prop := Claim7.holds Tryd.pinned (.plain (OpenSpec.upto eventWritesSpec)) eventWritesUptoCard

/-- THE SECOND FORM's CARD OF 'sounderlaw22.EventParts'. -/
def eventPartsUptoCard : Claim7 := { stood := { row := eventPartsUptoRow, standIns := [], harness := (true, "be37a7fb8beef2db824164050d223b48340d987d3488757f03e2ae6d60b2e29d"), looks := true }, kinds := [], alts := [], laidByText := true, laidKinds := [.data, .data, .data, .data, .sentinel, .sentinel, .pinned], laidTests := true, laidLooks := .later }
def EventPartsUptoCardSaid : Prop := Claim7.holds Tryd.pinned (.plain (OpenSpec.upto eventPartsSpec)) eventPartsUptoCard

/-- THE SECOND FORM's CARD OF 'sounderlaw20.ConfTells'. -/
def confTellsUptoCard : Claim7 := { stood := { row := confTellsUptoRow, standIns := [], harness := (true, "be37a7fb8beef2db824164050d223b48340d987d3488757f03e2ae6d60b2e29d"), looks := true }, kinds := [], alts := [], laidByText := true, laidKinds := [.data, .data, .data, .data, .sentinel, .sentinel, .pinned], laidTests := true, laidLooks := .later }
def ConfTellsUptoCardSaid : Prop := Claim7.holds Tryd.pinned (.plain (OpenSpec.upto confTellsSpec)) confTellsUptoCard

/-- THE SECOND FORM's CARD OF 'sounderlaw20.ConfAgain'. -/
def confAgainUptoCard : Claim7 := { stood := { row := confAgainUptoRow, standIns := [], harness := (true, "be37a7fb8beef2db824164050d223b48340d987d3488757f03e2ae6d60b2e29d"), looks := true }, kinds := [], alts := [], laidByText := true, laidKinds := [.data, .data, .data, .data, .sentinel, .sentinel, .pinned], laidTests := true, laidLooks := .later }
def ConfAgainUptoCardSaid : Prop := Claim7.holds Tryd.pinned (.plain (OpenSpec.upto confAgainSpec)) confAgainUptoCard

/-- THE SECOND FORM's CARD OF 'sounderlaw20.ConfFew'. -/
def confFewUptoCard : Claim7 := { stood := { row := confFewUptoRow, standIns := [], harness := (true, "be37a7fb8beef2db824164050d223b48340d987d3488757f03e2ae6d60b2e29d"), looks := true }, kinds := [], alts := [], laidByText := true, laidKinds := [.data, .data, .data, .data, .sentinel, .sentinel, .pinned], laidTests := true, laidLooks := .later }
def ConfFewUptoCardSaid : Prop := Claim7.holds Tryd.pinned (.plain (OpenSpec.upto confFewSpec)) confFewUptoCard

/-- THE SECOND FORM's CARD OF 'sounderlaw20.ConfEdges'. -/
def confEdgesUptoCard : Claim7 := { stood := { row := confEdgesUptoRow, standIns := [], harness := (true, "be37a7fb8beef2db824164050d223b48340d987d3488757f03e2ae6d60b2e29d"), looks := true }, kinds := [], alts := [], laidByText := true, laidKinds := [.data, .data, .data, .data, .sentinel, .sentinel, .pinned], laidTests := true, laidLooks := .later }
def ConfEdgesUptoCardSaid : Prop := Claim7.holds Tryd.pinned (.plain (OpenSpec.upto confEdgesSpec)) confEdgesUptoCard

/-- THE SECOND FORM's CARD OF 'sounderlaw20.ConfBack'. -/
def confBackUptoCard : Claim7 := { stood := { row := confBackUptoRow, standIns := [], harness := (true, "be37a7fb8beef2db824164050d223b48340d987d3488757f03e2ae6d60b2e29d"), looks := true }, kinds := [], alts := [], laidByText := true, laidKinds := [.data, .data, .data, .data, .sentinel, .sentinel, .pinned], laidTests := true, laidLooks := .later }
def ConfBackUptoCardSaid : Prop := Claim7.holds Tryd.pinned (.plain (OpenSpec.upto confBackSpec)) confBackUptoCard
end Rows
end Go.Proofs.YtbpeienllhbffaaDoor
