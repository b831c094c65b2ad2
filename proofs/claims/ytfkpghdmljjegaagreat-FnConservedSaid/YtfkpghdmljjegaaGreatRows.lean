/-
  No cell of these rows narrows 'for every input' (looked for: loops, veiled, ifaces, maps, wideKeys, modest, calm, conditions, laid).
  DERIVED. THE GIVEN ROWS OF THIS SEAT. 11 by the template 'for every input the law returns true; each argument reads behind the call as it read before'; 0 by the template 'total and deterministic' (their statements: YtfkpghdmljjegaaGreatTotals.lean).
  GIVEN WITH THE SEED: the statements are not yours to turn. If you find one false, say at which input.
  Laid BY PROGRAM, IN A SANDBOX (cutbox-rows.mjs): the forced cells as the released guide's own fill.sh prints them over the translation e82f0bf61b598af6… (all of the seat's roots in one cut). By AI agents, Wed Nov 11 2026. No macro, syntax, notation, axiom, sorry.
-/
import Derived.Test.YtfkpghdmljjegaaGreatChecked
import GoSem.Claim
import GoSem.ClaimJoined
import GoSem.ClaimMapViews
import Derived.JoinedTies
import Derived.KernelRfl
namespace Go.Proofs.YtfkpghdmljjegaaGreat
/- THE CELL 'sum', in the pinned program and in every row, IS THE sha256 OF THE DUMP (.gsa) THAT YtfkpghdmljjegaaGreatProg.lean LOADS. Nothing in Lean hashes anything: it is a label: what it is worth is what the hold of that sum in a sandbox is worth. -/
noncomputable def Tryz.pinned : Pinned := { name := "ytfkpghdmljjegaagreat", sum := "e82f0bf61b598af6b87e48b277811cc204b49e406155f7ec56717a9a55dbe376", checked := Tryz.checked }
namespace Rows
def none {H : Type} : Left H := { results := [], args := [] }

/-- 'laws.FnConserved': WHATEVER THE INPUT: true; the input reads as it did. -/
def fnConservedSpec : ChangeSpec := { name := "fnConserved", fn := fun _ => fun
  | [d] => { results := [.lit (.bool true)], args := [d] }
  | _ => none }
def fnConservedRow : OpenClaim := { program := "ytfkpghdmljjegaagreat", sum := "e82f0bf61b598af6b87e48b277811cc204b49e406155f7ec56717a9a55dbe376", func := "loop.example/g00852/laws.FnConserved", spec := "fnConserved", unfollowed := true, recurses := true, apart := false }
def FnConservedSaid : Prop := fnConservedRow.holds Tryz.pinned (OpenSpec.ofChange fnConservedSpec)

/-- ITS FALSE NEIGHBOUR: 'it returns false'. Refute it at one input. -/
def fnConservedWrong : ChangeSpec := { name := "fnConserved", fn := fun _ => fun
  | [d] => { results := [.lit (.bool false)], args := [d] }
  | _ => none }
def FnConservedWrongFalsely : Prop := fnConservedRow.holds Tryz.pinned (OpenSpec.ofChange fnConservedWrong)

/-- 'laws.FnExactPlannedFlows': WHATEVER THE INPUT: true; the input reads as it did. -/
def fnExactPlannedFlowsSpec : ChangeSpec := { name := "fnExactPlannedFlows", fn := fun _ => fun
  | [d1, d2, d3, d4] => { results := [.lit (.bool true)], args := [d1, d2, d3, d4] }
  | _ => none }
def fnExactPlannedFlowsRow : OpenClaim := { program := "ytfkpghdmljjegaagreat", sum := "e82f0bf61b598af6b87e48b277811cc204b49e406155f7ec56717a9a55dbe376", func := "loop.example/g00852/laws.FnExactPlannedFlows", spec := "fnExactPlannedFlows", unfollowed := true, recurses := true, apart := false }
def FnExactPlannedFlowsSaid : Prop := fnExactPlannedFlowsRow.holds Tryz.pinned (OpenSpec.ofChange fnExactPlannedFlowsSpec)

/-- ITS FALSE NEIGHBOUR: 'it returns false'. Refute it at one input. -/
def fnExactPlannedFlowsWrong : ChangeSpec := { name := "fnExactPlannedFlows", fn := fun _ => fun
  | [d1, d2, d3, d4] => { results := [.lit (.bool false)], args := [d1, d2, d3, d4] }
  | _ => none }
def FnExactPlannedFlowsWrongFalsely : Prop := fnExactPlannedFlowsRow.holds Tryz.pinned (OpenSpec.ofChange fnExactPlannedFlowsWrong)

/-- 'laws.FnExactPlannedReadings': WHATEVER THE INPUT: true; the input reads as it did. -/
def fnExactPlannedReadingsSpec : ChangeSpec := { name := "fnExactPlannedReadings", fn := fun _ => fun
  | [d1, d2, d3, d4] => { results := [.lit (.bool true)], args := [d1, d2, d3, d4] }
  | _ => none }
def fnExactPlannedReadingsRow : OpenClaim := { program := "ytfkpghdmljjegaagreat", sum := "e82f0bf61b598af6b87e48b277811cc204b49e406155f7ec56717a9a55dbe376", func := "loop.example/g00852/laws.FnExactPlannedReadings", spec := "fnExactPlannedReadings", unfollowed := true, recurses := true, apart := false }
def FnExactPlannedReadingsSaid : Prop := fnExactPlannedReadingsRow.holds Tryz.pinned (OpenSpec.ofChange fnExactPlannedReadingsSpec)

/-- ITS FALSE NEIGHBOUR: 'it returns false'. Refute it at one input. -/
def fnExactPlannedReadingsWrong : ChangeSpec := { name := "fnExactPlannedReadings", fn := fun _ => fun
  | [d1, d2, d3, d4] => { results := [.lit (.bool false)], args := [d1, d2, d3, d4] }
  | _ => none }
def FnExactPlannedReadingsWrongFalsely : Prop := fnExactPlannedReadingsRow.holds Tryz.pinned (OpenSpec.ofChange fnExactPlannedReadingsWrong)

/-- 'laws.FnPlanned': WHATEVER THE INPUT: true; the input reads as it did. -/
def fnPlannedSpec : ChangeSpec := { name := "fnPlanned", fn := fun _ => fun
  | [d] => { results := [.lit (.bool true)], args := [d] }
  | _ => none }
def fnPlannedRow : OpenClaim := { program := "ytfkpghdmljjegaagreat", sum := "e82f0bf61b598af6b87e48b277811cc204b49e406155f7ec56717a9a55dbe376", func := "loop.example/g00852/laws.FnPlanned", spec := "fnPlanned", unfollowed := true, recurses := true, apart := false }
def FnPlannedSaid : Prop := fnPlannedRow.holds Tryz.pinned (OpenSpec.ofChange fnPlannedSpec)

/-- ITS FALSE NEIGHBOUR: 'it returns false'. Refute it at one input. -/
def fnPlannedWrong : ChangeSpec := { name := "fnPlanned", fn := fun _ => fun
  | [d] => { results := [.lit (.bool false)], args := [d] }
  | _ => none }
def FnPlannedWrongFalsely : Prop := fnPlannedRow.holds Tryz.pinned (OpenSpec.ofChange fnPlannedWrong)

/-- 'laws.FnSettledHours': WHATEVER THE INPUT: true; the input reads as it did. -/
def fnSettledHoursSpec : ChangeSpec := { name := "fnSettledHours", fn := fun _ => fun
  | [d] => { results := [.lit (.bool true)], args := [d] }
  | _ => none }
def fnSettledHoursRow : OpenClaim := { program := "ytfkpghdmljjegaagreat", sum := "e82f0bf61b598af6b87e48b277811cc204b49e406155f7ec56717a9a55dbe376", func := "loop.example/g00852/laws.FnSettledHours", spec := "fnSettledHours", unfollowed := true, recurses := true, apart := false }
def FnSettledHoursSaid : Prop := fnSettledHoursRow.holds Tryz.pinned (OpenSpec.ofChange fnSettledHoursSpec)

/-- ITS FALSE NEIGHBOUR: 'it returns false'. Refute it at one input. -/
def fnSettledHoursWrong : ChangeSpec := { name := "fnSettledHours", fn := fun _ => fun
  | [d] => { results := [.lit (.bool false)], args := [d] }
  | _ => none }
def FnSettledHoursWrongFalsely : Prop := fnSettledHoursRow.holds Tryz.pinned (OpenSpec.ofChange fnSettledHoursWrong)

/-- 'laws.FnSettledRooms': WHATEVER THE INPUT: true; the input reads as it did. -/
def fnSettledRoomsSpec : ChangeSpec := { name := "fnSettledRooms", fn := fun _ => fun
  | [d] => { results := [.lit (.bool true)], args := [d] }
  | _ => none }
def fnSettledRoomsRow : OpenClaim := { program := "ytfkpghdmljjegaagreat", sum := "e82f0bf61b598af6b87e48b277811cc204b49e406155f7ec56717a9a55dbe376", func := "loop.example/g00852/laws.FnSettledRooms", spec := "fnSettledRooms", unfollowed := true, recurses := true, apart := false }
def FnSettledRoomsSaid : Prop := fnSettledRoomsRow.holds Tryz.pinned (OpenSpec.ofChange fnSettledRoomsSpec)

/-- ITS FALSE NEIGHBOUR: 'it returns false'. Refute it at one input. -/
def fnSettledRoomsWrong : ChangeSpec := { name := "fnSettledRooms", fn := fun _ => fun
  | [d] => { results := [.lit (.bool false)], args := [d] }
  | _ => none }
def FnSettledRoomsWrongFalsely : Prop := fnSettledRoomsRow.holds Tryz.pinned (OpenSpec.ofChange fnSettledRoomsWrong)

/-- 'laws.FnExactSettleHours': WHATEVER THE INPUT: true; the input reads as it did. -/
def fnExactSettleHoursSpec : ChangeSpec := { name := "fnExactSettleHours", fn := fun _ => fun
  | [d1, d2, d3, d4, d5, d6] => { results := [.lit (.bool true)], args := [d1, d2, d3, d4, d5, d6] }
  | _ => none }
def fnExactSettleHoursRow : OpenClaim := { program := "ytfkpghdmljjegaagreat", sum := "e82f0bf61b598af6b87e48b277811cc204b49e406155f7ec56717a9a55dbe376", func := "loop.example/g00852/laws.FnExactSettleHours", spec := "fnExactSettleHours", unfollowed := true, recurses := true, apart := false }
def FnExactSettleHoursSaid : Prop := fnExactSettleHoursRow.holds Tryz.pinned (OpenSpec.ofChange fnExactSettleHoursSpec)

/-- ITS FALSE NEIGHBOUR: 'it returns false'. Refute it at one input. -/
def fnExactSettleHoursWrong : ChangeSpec := { name := "fnExactSettleHours", fn := fun _ => fun
  | [d1, d2, d3, d4, d5, d6] => { results := [.lit (.bool false)], args := [d1, d2, d3, d4, d5, d6] }
  | _ => none }
def FnExactSettleHoursWrongFalsely : Prop := fnExactSettleHoursRow.holds Tryz.pinned (OpenSpec.ofChange fnExactSettleHoursWrong)

/-- 'laws.FnExactSettleHour': WHATEVER THE INPUT: true; the input reads as it did. -/
def fnExactSettleHourSpec : ChangeSpec := { name := "fnExactSettleHour", fn := fun _ => fun
  | [d1, d2, d3, d4, d5, d6] => { results := [.lit (.bool true)], args := [d1, d2, d3, d4, d5, d6] }
  | _ => none }
def fnExactSettleHourRow : OpenClaim := { program := "ytfkpghdmljjegaagreat", sum := "e82f0bf61b598af6b87e48b277811cc204b49e406155f7ec56717a9a55dbe376", func := "loop.example/g00852/laws.FnExactSettleHour", spec := "fnExactSettleHour", unfollowed := true, recurses := true, apart := false }
def FnExactSettleHourSaid : Prop := fnExactSettleHourRow.holds Tryz.pinned (OpenSpec.ofChange fnExactSettleHourSpec)

/-- ITS FALSE NEIGHBOUR: 'it returns false'. Refute it at one input. -/
def fnExactSettleHourWrong : ChangeSpec := { name := "fnExactSettleHour", fn := fun _ => fun
  | [d1, d2, d3, d4, d5, d6] => { results := [.lit (.bool false)], args := [d1, d2, d3, d4, d5, d6] }
  | _ => none }
def FnExactSettleHourWrongFalsely : Prop := fnExactSettleHourRow.holds Tryz.pinned (OpenSpec.ofChange fnExactSettleHourWrong)

/-- 'laws.FnExactSettleRoom': WHATEVER THE INPUT: true; the input reads as it did. -/
def fnExactSettleRoomSpec : ChangeSpec := { name := "fnExactSettleRoom", fn := fun _ => fun
  | [d1, d2] => { results := [.lit (.bool true)], args := [d1, d2] }
  | _ => none }
def fnExactSettleRoomRow : OpenClaim := { program := "ytfkpghdmljjegaagreat", sum := "e82f0bf61b598af6b87e48b277811cc204b49e406155f7ec56717a9a55dbe376", func := "loop.example/g00852/laws.FnExactSettleRoom", spec := "fnExactSettleRoom", unfollowed := true, recurses := true, apart := false }
def FnExactSettleRoomSaid : Prop := fnExactSettleRoomRow.holds Tryz.pinned (OpenSpec.ofChange fnExactSettleRoomSpec)

/-- ITS FALSE NEIGHBOUR: 'it returns false'. Refute it at one input. -/
def fnExactSettleRoomWrong : ChangeSpec := { name := "fnExactSettleRoom", fn := fun _ => fun
  | [d1, d2] => { results := [.lit (.bool false)], args := [d1, d2] }
  | _ => none }
def FnExactSettleRoomWrongFalsely : Prop := fnExactSettleRoomRow.holds Tryz.pinned (OpenSpec.ofChange fnExactSettleRoomWrong)

/-- 'laws.FnTop': WHATEVER THE INPUT: true; the input reads as it did. -/
def fnTopSpec : ChangeSpec := { name := "fnTop", fn := fun _ => fun
  | [d] => { results := [.lit (.bool true)], args := [d] }
  | _ => none }
def fnTopRow : OpenClaim := { program := "ytfkpghdmljjegaagreat", sum := "e82f0bf61b598af6b87e48b277811cc204b49e406155f7ec56717a9a55dbe376", func := "loop.example/g00852/laws.FnTop", spec := "fnTop", unfollowed := true, recurses := true, apart := false }
def FnTopSaid : Prop := fnTopRow.holds Tryz.pinned (OpenSpec.ofChange fnTopSpec)

/-- ITS FALSE NEIGHBOUR: 'it returns false'. Refute it at one input. -/
def fnTopWrong : ChangeSpec := { name := "fnTop", fn := fun _ => fun
  | [d] => { results := [.lit (.bool false)], args := [d] }
  | _ => none }
def FnTopWrongFalsely : Prop := fnTopRow.holds Tryz.pinned (OpenSpec.ofChange fnTopWrong)

/-- 'laws.FnRooms': WHATEVER THE INPUT: true; the input reads as it did. -/
def fnRoomsSpec : ChangeSpec := { name := "fnRooms", fn := fun _ => fun
  | [d] => { results := [.lit (.bool true)], args := [d] }
  | _ => none }
def fnRoomsRow : OpenClaim := { program := "ytfkpghdmljjegaagreat", sum := "e82f0bf61b598af6b87e48b277811cc204b49e406155f7ec56717a9a55dbe376", func := "loop.example/g00852/laws.FnRooms", spec := "fnRooms", unfollowed := true, recurses := true, apart := false }
def FnRoomsSaid : Prop := fnRoomsRow.holds Tryz.pinned (OpenSpec.ofChange fnRoomsSpec)

/-- ITS FALSE NEIGHBOUR: 'it returns false'. Refute it at one input. -/
def fnRoomsWrong : ChangeSpec := { name := "fnRooms", fn := fun _ => fun
  | [d] => { results := [.lit (.bool false)], args := [d] }
  | _ => none }
def FnRoomsWrongFalsely : Prop := fnRoomsRow.holds Tryz.pinned (OpenSpec.ofChange fnRoomsWrong)

/- THE SECOND FORM. 'bulk': how many values and letters a reading holds, each counted each time it is reached (what is shared counts as often as it is met; a slice's spare places count too). A statement '..UptoSaid' is the law's where the arguments, and the package variables that the reading takes, are together of bulk at most 1048576: NARROWER than '..Said'. Prove '..Said' where nothing that the law and all that it calls make is longer than what came in: it says more and counts as full. Else prove '..UptoSaid'. A law counts once. -/
mutual
def uptoBulk {H : Type} : DataW H → Nat
  | .lit (.string bytes) => bytes.length + 1
  | .lit _ => 1
  | .nil => 1
  | .ptr d => uptoBulk d + 1
  | .slice elems spare => uptoBulkAll elems + uptoBulkAll spare + 1
  | .agg parts => uptoBulkAll parts + 1
  | .iface _ d => uptoBulk d + 1
  | .map entries => uptoBulkEntries entries + 1
  | .held _ => 1
def uptoBulkAll {H : Type} : List (DataW H) → Nat
  | [] => 0
  | d :: r => uptoBulk d + uptoBulkAll r
def uptoBulkEntries {H : Type} : List (Lit × DataW H) → Nat
  | [] => 0
  | x :: r => uptoBulkEntry x + uptoBulkEntries r
def uptoBulkEntry {H : Type} : Lit × DataW H → Nat
  | (.string bytes, d) => bytes.length + uptoBulk d + 1
  | (_, d) => uptoBulk d + 1
 end
def uptoSmall : (H : Type) → List (DataW H) → Bool := fun _ ds => decide (uptoBulkAll ds ≤ 1048576)
def OpenSpec.upto (s : _root_.Go.ChangeSpec) : _root_.Go.OpenSpec := { _root_.Go.OpenSpec.ofChange s with cond := some uptoSmall }

/-- 'laws.FnConserved', WHERE WHAT IT READS IS OF BULK AT MOST 1048576: true; the input reads as it did. -/
def fnConservedUptoRow : OpenClaim := { program := "ytfkpghdmljjegaagreat", sum := "e82f0bf61b598af6b87e48b277811cc204b49e406155f7ec56717a9a55dbe376", func := "loop.example/g00852/laws.FnConserved", spec := "fnConserved", unfollowed := true, recurses := true, apart := false, narrowed := true }
def FnConservedUptoSaid : Prop := fnConservedUptoRow.holds Tryz.pinned (OpenSpec.upto fnConservedSpec)

/-- 'laws.FnExactPlannedFlows', WHERE WHAT IT READS IS OF BULK AT MOST 1048576: true; the input reads as it did. -/
def fnExactPlannedFlowsUptoRow : OpenClaim := { program := "ytfkpghdmljjegaagreat", sum := "e82f0bf61b598af6b87e48b277811cc204b49e406155f7ec56717a9a55dbe376", func := "loop.example/g00852/laws.FnExactPlannedFlows", spec := "fnExactPlannedFlows", unfollowed := true, recurses := true, apart := false, narrowed := true }
def FnExactPlannedFlowsUptoSaid : Prop := fnExactPlannedFlowsUptoRow.holds Tryz.pinned (OpenSpec.upto fnExactPlannedFlowsSpec)

/-- 'laws.FnExactPlannedReadings', WHERE WHAT IT READS IS OF BULK AT MOST 1048576: true; the input reads as it did. -/
def fnExactPlannedReadingsUptoRow : OpenClaim := { program := "ytfkpghdmljjegaagreat", sum := "e82f0bf61b598af6b87e48b277811cc204b49e406155f7ec56717a9a55dbe376", func := "loop.example/g00852/laws.FnExactPlannedReadings", spec := "fnExactPlannedReadings", unfollowed := true, recurses := true, apart := false, narrowed := true }
def FnExactPlannedReadingsUptoSaid : Prop := fnExactPlannedReadingsUptoRow.holds Tryz.pinned (OpenSpec.upto fnExactPlannedReadingsSpec)

/-- 'laws.FnPlanned', WHERE WHAT IT READS IS OF BULK AT MOST 1048576: true; the input reads as it did. -/
def fnPlannedUptoRow : OpenClaim := { program := "ytfkpghdmljjegaagreat", sum := "e82f0bf61b598af6b87e48b277811cc204b49e406155f7ec56717a9a55dbe376", func := "loop.example/g00852/laws.FnPlanned", spec := "fnPlanned", unfollowed := true, recurses := true, apart := false, narrowed := true }
def FnPlannedUptoSaid : Prop := fnPlannedUptoRow.holds Tryz.pinned (OpenSpec.upto fnPlannedSpec)

/-- 'laws.FnSettledHours', WHERE WHAT IT READS IS OF BULK AT MOST 1048576: true; the input reads as it did. -/
def fnSettledHoursUptoRow : OpenClaim := { program := "ytfkpghdmljjegaagreat", sum := "e82f0bf61b598af6b87e48b277811cc204b49e406155f7ec56717a9a55dbe376", func := "loop.example/g00852/laws.FnSettledHours", spec := "fnSettledHours", unfollowed := true, recurses := true, apart := false, narrowed := true }
def FnSettledHoursUptoSaid : Prop := fnSettledHoursUptoRow.holds Tryz.pinned (OpenSpec.upto fnSettledHoursSpec)

/-- 'laws.FnSettledRooms', WHERE WHAT IT READS IS OF BULK AT MOST 1048576: true; the input reads as it did. -/
def fnSettledRoomsUptoRow : OpenClaim := { program := "ytfkpghdmljjegaagreat", sum := "e82f0bf61b598af6b87e48b277811cc204b49e406155f7ec56717a9a55dbe376", func := "loop.example/g00852/laws.FnSettledRooms", spec := "fnSettledRooms", unfollowed := true, recurses := true, apart := false, narrowed := true }
def FnSettledRoomsUptoSaid : Prop := fnSettledRoomsUptoRow.holds Tryz.pinned (OpenSpec.upto fnSettledRoomsSpec)

/-- 'laws.FnExactSettleHours', WHERE WHAT IT READS IS OF BULK AT MOST 1048576: true; the input reads as it did. -/
def fnExactSettleHoursUptoRow : OpenClaim := { program := "ytfkpghdmljjegaagreat", sum := "e82f0bf61b598af6b87e48b277811cc204b49e406155f7ec56717a9a55dbe376", func := "loop.example/g00852/laws.FnExactSettleHours", spec := "fnExactSettleHours", unfollowed := true, recurses := true, apart := false, narrowed := true }
def FnExactSettleHoursUptoSaid : Prop := fnExactSettleHoursUptoRow.holds Tryz.pinned (OpenSpec.upto fnExactSettleHoursSpec)

/-- 'laws.FnExactSettleHour', WHERE WHAT IT READS IS OF BULK AT MOST 1048576: true; the input reads as it did. -/
def fnExactSettleHourUptoRow : OpenClaim := { program := "ytfkpghdmljjegaagreat", sum := "e82f0bf61b598af6b87e48b277811cc204b49e406155f7ec56717a9a55dbe376", func := "loop.example/g00852/laws.FnExactSettleHour", spec := "fnExactSettleHour", unfollowed := true, recurses := true, apart := false, narrowed := true }
def FnExactSettleHourUptoSaid : Prop := fnExactSettleHourUptoRow.holds Tryz.pinned (OpenSpec.upto fnExactSettleHourSpec)

/-- 'laws.FnExactSettleRoom', WHERE WHAT IT READS IS OF BULK AT MOST 1048576: true; the input reads as it did. -/
def fnExactSettleRoomUptoRow : OpenClaim := { program := "ytfkpghdmljjegaagreat", sum := "e82f0bf61b598af6b87e48b277811cc204b49e406155f7ec56717a9a55dbe376", func := "loop.example/g00852/laws.FnExactSettleRoom", spec := "fnExactSettleRoom", unfollowed := true, recurses := true, apart := false, narrowed := true }
def FnExactSettleRoomUptoSaid : Prop := fnExactSettleRoomUptoRow.holds Tryz.pinned (OpenSpec.upto fnExactSettleRoomSpec)

/-- 'laws.FnTop', WHERE WHAT IT READS IS OF BULK AT MOST 1048576: true; the input reads as it did. -/
def fnTopUptoRow : OpenClaim := { program := "ytfkpghdmljjegaagreat", sum := "e82f0bf61b598af6b87e48b277811cc204b49e406155f7ec56717a9a55dbe376", func := "loop.example/g00852/laws.FnTop", spec := "fnTop", unfollowed := true, recurses := true, apart := false, narrowed := true }
def FnTopUptoSaid : Prop := fnTopUptoRow.holds Tryz.pinned (OpenSpec.upto fnTopSpec)

/-- 'laws.FnRooms', WHERE WHAT IT READS IS OF BULK AT MOST 1048576: true; the input reads as it did. -/
def fnRoomsUptoRow : OpenClaim := { program := "ytfkpghdmljjegaagreat", sum := "e82f0bf61b598af6b87e48b277811cc204b49e406155f7ec56717a9a55dbe376", func := "loop.example/g00852/laws.FnRooms", spec := "fnRooms", unfollowed := true, recurses := true, apart := false, narrowed := true }
def FnRoomsUptoSaid : Prop := fnRoomsUptoRow.holds Tryz.pinned (OpenSpec.upto fnRoomsSpec)

end Rows
end Go.Proofs.YtfkpghdmljjegaaGreat
