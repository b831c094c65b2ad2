/-
  DERIVED. GIVEN WITH THE SEED: THE CARDS: each row of YtinindjjapblcaaGreatDoorRows.lean that lists a variable, with what it lists TIED to the program's text (the seventh form; the later family's looks); each row that meets fmt, with fmt's text TOLD by the authors' own Lean function (tested against real Go, not proved from fmt's source: count such statements apart). THE CARD IS WHAT COUNTS. Prove the row's statement (the work); the ties are given (YtinindjjapblcaaGreatDoorTie.lean); close each card by the builder's one call (the guide's Derived/Test/ToyasCard.lean, 'card_holds'). Laid BY PROGRAM, IN A SANDBOX (cutbox-door.mjs). By AI agents, Wed Nov 11 2026. No macro, syntax, notation, axiom, sorry.
-/
import Derived.Test.YtinindjjapblcaaGreatDoorRows
import GoSem.ClaimSeven
namespace Go.Proofs.YtinindjjapblcaaGreatDoor
namespace Rows

/-- THE TIED CARD OF 'laws.FnRoomEvents'. -/
def fnRoomEventsCard : Claim7 := { stood := { row := fnRoomEventsRow, standIns := [], harness := (true, "46c95c68e5f45c4c6f6ad9e8d45bf340e04f04bde1573a812fa8831c5afee2d6"), looks := true }, kinds := [], alts := [], laidByText := true, laidKinds := [.data, .data, .data, .data, .sentinel, .sentinel, .widerDeep, .pinned], laidTests := true, laidLooks := .later }
def FnRoomEventsCardSaid : Prop := Claim7.holds Tryz.pinned (.plain (OpenSpec.ofChange fnRoomEventsSpec)) fnRoomEventsCard

/-- THE TIED CARD OF 'laws.FnReplays'. -/
def fnReplaysCard : Claim7 := { stood := { row := fnReplaysRow, standIns := [], harness := (true, "46c95c68e5f45c4c6f6ad9e8d45bf340e04f04bde1573a812fa8831c5afee2d6"), looks := true }, kinds := [], alts := [], laidByText := true, laidKinds := [.data, .data, .data, .data, .sentinel, .sentinel, .widerDeep, .pinned], laidTests := true, laidLooks := .later }
def FnReplaysCardSaid : Prop := Claim7.holds Tryz.pinned (.plain (OpenSpec.ofChange fnReplaysSpec)) fnReplaysCard

/-- THE TIED CARD OF 'laws.FnExactReplayEvents'. -/
def fnExactReplayEventsCard : Claim7 := { stood := { row := fnExactReplayEventsRow, standIns := [], harness := (true, "46c95c68e5f45c4c6f6ad9e8d45bf340e04f04bde1573a812fa8831c5afee2d6"), looks := true }, kinds := [], alts := [], laidByText := true, laidKinds := [.data, .data, .data, .data, .sentinel, .sentinel, .widerDeep, .pinned], laidTests := true, laidLooks := .later }
def FnExactReplayEventsCardSaid : Prop := Claim7.holds Tryz.pinned (.plain (OpenSpec.ofChange fnExactReplayEventsSpec)) fnExactReplayEventsCard

/-- THE SECOND FORM's CARD OF 'laws.FnRoomEvents'. -/
def fnRoomEventsUptoCard : Claim7 := { stood := { row := fnRoomEventsUptoRow, standIns := [], harness := (true, "46c95c68e5f45c4c6f6ad9e8d45bf340e04f04bde1573a812fa8831c5afee2d6"), looks := true }, kinds := [], alts := [], laidByText := true, laidKinds := [.data, .data, .data, .data, .sentinel, .sentinel, .widerDeep, .pinned], laidTests := true, laidLooks := .later }
def FnRoomEventsUptoCardSaid : Prop := Claim7.holds Tryz.pinned (.plain (OpenSpec.upto fnRoomEventsSpec)) fnRoomEventsUptoCard

/-- THE SECOND FORM's CARD OF 'laws.FnReplays'. -/
def fnReplaysUptoCard : Claim7 := { stood := { row := fnReplaysUptoRow, standIns := [], harness := (true, "46c95c68e5f45c4c6f6ad9e8d45bf340e04f04bde1573a812fa8831c5afee2d6"), looks := true }, kinds := [], alts := [], laidByText := true, laidKinds := [.data, .data, .data, .data, .sentinel, .sentinel, .widerDeep, .pinned], laidTests := true, laidLooks := .later }
def FnReplaysUptoCardSaid : Prop := Claim7.holds Tryz.pinned (.plain (OpenSpec.upto fnReplaysSpec)) fnReplaysUptoCard

/-- THE SECOND FORM's CARD OF 'laws.FnExactReplayEvents'. -/
def fnExactReplayEventsUptoCard : Claim7 := { stood := { row := fnExactReplayEventsUptoRow, standIns := [], harness := (true, "46c95c68e5f45c4c6f6ad9e8d45bf340e04f04bde1573a812fa8831c5afee2d6"), looks := true }, kinds := [], alts := [], laidByText := true, laidKinds := [.data, .data, .data, .data, .sentinel, .sentinel, .widerDeep, .pinned], laidTests := true, laidLooks := .later }
def FnExactReplayEventsUptoCardSaid : Prop := Claim7.holds Tryz.pinned (.plain (OpenSpec.upto fnExactReplayEventsSpec)) fnExactReplayEventsUptoCard
end Rows
end Go.Proofs.YtinindjjapblcaaGreatDoor
