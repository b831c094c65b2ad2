/-
  DERIVED. GIVEN WITH THE SEED: THE CARDS: each row of YtglbiddddflmeaaDoorRows.lean that lists a variable, with what it lists TIED to the program's text (the seventh form; the later family's looks); each row that meets fmt, with fmt's text TOLD by the authors' own Lean function (tested against real Go, not proved from fmt's source: count such statements apart). THE CARD IS WHAT COUNTS. Prove the row's statement (the work); the ties are given (YtglbiddddflmeaaDoorTie.lean); close each card by the builder's one call (the guide's Derived/Test/ToyasCard.lean, 'card_holds'). Laid BY PROGRAM, IN A SANDBOX (cutbox-door.mjs). By AI agents, Wed Nov 11 2026. No macro, syntax, notation, axiom, sorry.
-/
import Derived.Test.YtglbiddddflmeaaDoorRows
import GoSem.ClaimSeven
namespace Go.Proofs.YtglbiddddflmeaaDoor
namespace Rows

/-- THE TIED CARD OF 'laws.FnExactJournalOf'. -/
def fnExactJournalOfCard : Claim7 := { stood := { row := fnExactJournalOfRow, standIns := [], harness := (true, "5d60059d97d7f6968499d966eaa2d726e6d12d57da4c0a891a9eab3118f7cb68"), looks := true }, kinds := [], alts := [], laidByText := true, laidKinds := [.data, .data, .data, .widerDeep], laidTests := true, laidLooks := .later }
def FnExactJournalOfCardSaid : Prop := Claim7.holds Tryd.pinned (.plain (OpenSpec.ofChange fnExactJournalOfSpec)) fnExactJournalOfCard

/-- THE TIED CARD OF 'laws.FnExactIsJournal'. -/
def fnExactIsJournalCard : Claim7 := { stood := { row := fnExactIsJournalRow, standIns := [], harness := (true, "5d60059d97d7f6968499d966eaa2d726e6d12d57da4c0a891a9eab3118f7cb68"), looks := true }, kinds := [], alts := [], laidByText := true, laidKinds := [.data, .data, .data, .data, .sentinel, .sentinel, .widerDeep, .pinned], laidTests := true, laidLooks := .later }
def FnExactIsJournalCardSaid : Prop := Claim7.holds Tryd.pinned (.plain (OpenSpec.ofChange fnExactIsJournalSpec)) fnExactIsJournalCard

/-- THE TIED CARD OF 'laws.FnExactCommonEvents'. -/
def fnExactCommonEventsCard : Claim7 := { stood := { row := fnExactCommonEventsRow, standIns := [], harness := (true, "5d60059d97d7f6968499d966eaa2d726e6d12d57da4c0a891a9eab3118f7cb68"), looks := true }, kinds := [], alts := [], laidByText := true, laidKinds := [.data, .data, .data, .data, .sentinel, .sentinel, .widerDeep, .pinned], laidTests := true, laidLooks := .later }
def FnExactCommonEventsCardSaid : Prop := Claim7.holds Tryd.pinned (.plain (OpenSpec.ofChange fnExactCommonEventsSpec)) fnExactCommonEventsCard

/-- THE TIED CARD OF 'laws.FnExactJournalSum'. -/
def fnExactJournalSumCard : Claim7 := { stood := { row := fnExactJournalSumRow, standIns := [], harness := (true, "5d60059d97d7f6968499d966eaa2d726e6d12d57da4c0a891a9eab3118f7cb68"), looks := true }, kinds := [], alts := [], laidByText := true, laidKinds := [.data, .data, .data, .data, .sentinel, .sentinel, .widerDeep, .pinned], laidTests := true, laidLooks := .later }
def FnExactJournalSumCardSaid : Prop := Claim7.holds Tryd.pinned (.plain (OpenSpec.ofChange fnExactJournalSumSpec)) fnExactJournalSumCard

/-- THE TIED CARD OF 'laws.FnExactAppendEvent'. -/
def fnExactAppendEventCard : Claim7 := { stood := { row := fnExactAppendEventRow, standIns := [], harness := (true, "5d60059d97d7f6968499d966eaa2d726e6d12d57da4c0a891a9eab3118f7cb68"), looks := true }, kinds := [], alts := [], laidByText := true, laidKinds := [.data, .data, .data, .data, .sentinel, .sentinel, .widerDeep, .pinned], laidTests := true, laidLooks := .later }
def FnExactAppendEventCardSaid : Prop := Claim7.holds Tryd.pinned (.plain (OpenSpec.ofChange fnExactAppendEventSpec)) fnExactAppendEventCard

/-- THE TIED CARD OF 'laws.FnExactRecoverEvents'. -/
def fnExactRecoverEventsCard : Claim7 := { stood := { row := fnExactRecoverEventsRow, standIns := [], harness := (true, "5d60059d97d7f6968499d966eaa2d726e6d12d57da4c0a891a9eab3118f7cb68"), looks := true }, kinds := [], alts := [], laidByText := true, laidKinds := [.data, .data, .data, .data, .sentinel, .sentinel, .widerDeep, .pinned], laidTests := true, laidLooks := .later }
def FnExactRecoverEventsCardSaid : Prop := Claim7.holds Tryd.pinned (.plain (OpenSpec.ofChange fnExactRecoverEventsSpec)) fnExactRecoverEventsCard

/-- THE TIED CARD OF 'laws.FnJournals'. -/
def fnJournalsCard : Claim7 := { stood := { row := fnJournalsRow, standIns := [], harness := (true, "5d60059d97d7f6968499d966eaa2d726e6d12d57da4c0a891a9eab3118f7cb68"), looks := true }, kinds := [], alts := [], laidByText := true, laidKinds := [.data, .data, .data, .data, .sentinel, .sentinel, .widerDeep, .pinned], laidTests := true, laidLooks := .later }
def FnJournalsCardSaid : Prop := Claim7.holds Tryd.pinned (.plain (OpenSpec.ofChange fnJournalsSpec)) fnJournalsCard

/-- THE TIED CARD OF 'laws.FnCommon'. -/
def fnCommonCard : Claim7 := { stood := { row := fnCommonRow, standIns := [], harness := (true, "5d60059d97d7f6968499d966eaa2d726e6d12d57da4c0a891a9eab3118f7cb68"), looks := true }, kinds := [], alts := [], laidByText := true, laidKinds := [.data, .data, .data, .data, .sentinel, .sentinel, .widerDeep, .pinned], laidTests := true, laidLooks := .later }
def FnCommonCardSaid : Prop := Claim7.holds Tryd.pinned (.plain (OpenSpec.ofChange fnCommonSpec)) fnCommonCard

/-- THE TIED CARD OF 'laws.FnRecovered'. -/
def fnRecoveredCard : Claim7 := { stood := { row := fnRecoveredRow, standIns := [], harness := (true, "5d60059d97d7f6968499d966eaa2d726e6d12d57da4c0a891a9eab3118f7cb68"), looks := true }, kinds := [], alts := [], laidByText := true, laidKinds := [.data, .data, .data, .data, .sentinel, .sentinel, .widerDeep, .pinned], laidTests := true, laidLooks := .later }
def FnRecoveredCardSaid : Prop := Claim7.holds Tryd.pinned (.plain (OpenSpec.ofChange fnRecoveredSpec)) fnRecoveredCard

/-- THE SECOND FORM's CARD OF 'laws.FnExactJournalOf'. -/
def fnExactJournalOfUptoCard : Claim7 := { stood := { row := fnExactJournalOfUptoRow, standIns := [], harness := (true, "5d60059d97d7f6968499d966eaa2d726e6d12d57da4c0a891a9eab3118f7cb68"), looks := true }, kinds := [], alts := [], laidByText := true, laidKinds := [.data, .data, .data, .widerDeep], laidTests := true, laidLooks := .later }
def FnExactJournalOfUptoCardSaid : Prop := Claim7.holds Tryd.pinned (.plain (OpenSpec.upto fnExactJournalOfSpec)) fnExactJournalOfUptoCard

/-- THE SECOND FORM's CARD OF 'laws.FnExactIsJournal'. -/
def fnExactIsJournalUptoCard : Claim7 := { stood := { row := fnExactIsJournalUptoRow, standIns := [], harness := (true, "5d60059d97d7f6968499d966eaa2d726e6d12d57da4c0a891a9eab3118f7cb68"), looks := true }, kinds := [], alts := [], laidByText := true, laidKinds := [.data, .data, .data, .data, .sentinel, .sentinel, .widerDeep, .pinned], laidTests := true, laidLooks := .later }
def FnExactIsJournalUptoCardSaid : Prop := Claim7.holds Tryd.pinned (.plain (OpenSpec.upto fnExactIsJournalSpec)) fnExactIsJournalUptoCard

/-- THE SECOND FORM's CARD OF 'laws.FnExactCommonEvents'. -/
def fnExactCommonEventsUptoCard : Claim7 := { stood := { row := fnExactCommonEventsUptoRow, standIns := [], harness := (true, "5d60059d97d7f6968499d966eaa2d726e6d12d57da4c0a891a9eab3118f7cb68"), looks := true }, kinds := [], alts := [], laidByText := true, laidKinds := [.data, .data, .data, .data, .sentinel, .sentinel, .widerDeep, .pinned], laidTests := true, laidLooks := .later }
def FnExactCommonEventsUptoCardSaid : Prop := Claim7.holds Tryd.pinned (.plain (OpenSpec.upto fnExactCommonEventsSpec)) fnExactCommonEventsUptoCard

/-- THE SECOND FORM's CARD OF 'laws.FnExactJournalSum'. -/
def fnExactJournalSumUptoCard : Claim7 := { stood := { row := fnExactJournalSumUptoRow, standIns := [], harness := (true, "5d60059d97d7f6968499d966eaa2d726e6d12d57da4c0a891a9eab3118f7cb68"), looks := true }, kinds := [], alts := [], laidByText := true, laidKinds := [.data, .data, .data, .data, .sentinel, .sentinel, .widerDeep, .pinned], laidTests := true, laidLooks := .later }
def FnExactJournalSumUptoCardSaid : Prop := Claim7.holds Tryd.pinned (.plain (OpenSpec.upto fnExactJournalSumSpec)) fnExactJournalSumUptoCard

/-- THE SECOND FORM's CARD OF 'laws.FnExactAppendEvent'. -/
def fnExactAppendEventUptoCard : Claim7 := { stood := { row := fnExactAppendEventUptoRow, standIns := [], harness := (true, "5d60059d97d7f6968499d966eaa2d726e6d12d57da4c0a891a9eab3118f7cb68"), looks := true }, kinds := [], alts := [], laidByText := true, laidKinds := [.data, .data, .data, .data, .sentinel, .sentinel, .widerDeep, .pinned], laidTests := true, laidLooks := .later }
def FnExactAppendEventUptoCardSaid : Prop := Claim7.holds Tryd.pinned (.plain (OpenSpec.upto fnExactAppendEventSpec)) fnExactAppendEventUptoCard

/-- THE SECOND FORM's CARD OF 'laws.FnExactRecoverEvents'. -/
def fnExactRecoverEventsUptoCard : Claim7 := { stood := { row := fnExactRecoverEventsUptoRow, standIns := [], harness := (true, "5d60059d97d7f6968499d966eaa2d726e6d12d57da4c0a891a9eab3118f7cb68"), looks := true }, kinds := [], alts := [], laidByText := true, laidKinds := [.data, .data, .data, .data, .sentinel, .sentinel, .widerDeep, .pinned], laidTests := true, laidLooks := .later }
def FnExactRecoverEventsUptoCardSaid : Prop := Claim7.holds Tryd.pinned (.plain (OpenSpec.upto fnExactRecoverEventsSpec)) fnExactRecoverEventsUptoCard

/-- THE SECOND FORM's CARD OF 'laws.FnJournals'. -/
def fnJournalsUptoCard : Claim7 := { stood := { row := fnJournalsUptoRow, standIns := [], harness := (true, "5d60059d97d7f6968499d966eaa2d726e6d12d57da4c0a891a9eab3118f7cb68"), looks := true }, kinds := [], alts := [], laidByText := true, laidKinds := [.data, .data, .data, .data, .sentinel, .sentinel, .widerDeep, .pinned], laidTests := true, laidLooks := .later }
def FnJournalsUptoCardSaid : Prop := Claim7.holds Tryd.pinned (.plain (OpenSpec.upto fnJournalsSpec)) fnJournalsUptoCard

/-- THE SECOND FORM's CARD OF 'laws.FnCommon'. -/
def fnCommonUptoCard : Claim7 := { stood := { row := fnCommonUptoRow, standIns := [], harness := (true, "5d60059d97d7f6968499d966eaa2d726e6d12d57da4c0a891a9eab3118f7cb68"), looks := true }, kinds := [], alts := [], laidByText := true, laidKinds := [.data, .data, .data, .data, .sentinel, .sentinel, .widerDeep, .pinned], laidTests := true, laidLooks := .later }
def FnCommonUptoCardSaid : Prop := Claim7.holds Tryd.pinned (.plain (OpenSpec.upto fnCommonSpec)) fnCommonUptoCard

/-- THE SECOND FORM's CARD OF 'laws.FnRecovered'. -/
def fnRecoveredUptoCard : Claim7 := { stood := { row := fnRecoveredUptoRow, standIns := [], harness := (true, "5d60059d97d7f6968499d966eaa2d726e6d12d57da4c0a891a9eab3118f7cb68"), looks := true }, kinds := [], alts := [], laidByText := true, laidKinds := [.data, .data, .data, .data, .sentinel, .sentinel, .widerDeep, .pinned], laidTests := true, laidLooks := .later }
def FnRecoveredUptoCardSaid : Prop := Claim7.holds Tryd.pinned (.plain (OpenSpec.upto fnRecoveredSpec)) fnRecoveredUptoCard
end Rows
end Go.Proofs.YtglbiddddflmeaaDoor
