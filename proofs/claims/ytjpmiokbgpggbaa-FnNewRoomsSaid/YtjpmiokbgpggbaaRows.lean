/-
  No cell of these rows narrows 'for every input' (looked for: loops, veiled, ifaces, maps, wideKeys, modest, calm, conditions, laid).
  DERIVED. THE GIVEN ROWS OF THIS SEAT. 5 by the template 'for every input the law returns true; each argument reads behind the call as it read before'; 0 by the template 'total and deterministic' (their statements: YtjpmiokbgpggbaaTotals.lean).
  GIVEN WITH THE SEED: the statements are not yours to turn. If you find one false, say at which input.
  Laid BY PROGRAM, IN A SANDBOX (cutbox-rows.mjs): the forced cells as the released guide's own fill.sh prints them over the translation c2c8900e678dbbe5… (all of the seat's roots in one cut). By AI agents, Wed Nov 11 2026. No macro, syntax, notation, axiom, sorry.
-/
import Derived.Test.YtjpmiokbgpggbaaChecked
import GoSem.Claim
import GoSem.ClaimJoined
import GoSem.ClaimMapViews
import Derived.JoinedTies
import Derived.KernelRfl
namespace Go.Proofs.Ytjpmiokbgpggbaa
/- THE CELL 'sum', in the pinned program and in every row, IS THE sha256 OF THE DUMP (.gsa) THAT YtjpmiokbgpggbaaProg.lean LOADS. Nothing in Lean hashes anything: it is a label: what it is worth is what the hold of that sum in a sandbox is worth. -/
noncomputable def Try.pinned : Pinned := { name := "ytjpmiokbgpggbaa", sum := "c2c8900e678dbbe595c3eed8b9508ca41607efd1dead06962562602b946d9ffe", checked := Try.checked }
namespace Rows
def none {H : Type} : Left H := { results := [], args := [] }

/-- 'laws.FnExactIsRoom': WHATEVER THE INPUT: true; the input reads as it did. -/
def fnExactIsRoomSpec : ChangeSpec := { name := "fnExactIsRoom", fn := fun _ => fun
  | [d] => { results := [.lit (.bool true)], args := [d] }
  | _ => none }
def fnExactIsRoomRow : OpenClaim := { program := "ytjpmiokbgpggbaa", sum := "c2c8900e678dbbe595c3eed8b9508ca41607efd1dead06962562602b946d9ffe", func := "loop.example/g00852/laws.FnExactIsRoom", spec := "fnExactIsRoom", unfollowed := true, recurses := true, apart := false }
def FnExactIsRoomSaid : Prop := fnExactIsRoomRow.holds Try.pinned (OpenSpec.ofChange fnExactIsRoomSpec)

/-- ITS FALSE NEIGHBOUR: 'it returns false'. Refute it at one input. -/
def fnExactIsRoomWrong : ChangeSpec := { name := "fnExactIsRoom", fn := fun _ => fun
  | [d] => { results := [.lit (.bool false)], args := [d] }
  | _ => none }
def FnExactIsRoomWrongFalsely : Prop := fnExactIsRoomRow.holds Try.pinned (OpenSpec.ofChange fnExactIsRoomWrong)

/-- 'laws.FnExactCurrentHour': WHATEVER THE INPUT: true; the input reads as it did. -/
def fnExactCurrentHourSpec : ChangeSpec := { name := "fnExactCurrentHour", fn := fun _ => fun
  | [d] => { results := [.lit (.bool true)], args := [d] }
  | _ => none }
def fnExactCurrentHourRow : OpenClaim := { program := "ytjpmiokbgpggbaa", sum := "c2c8900e678dbbe595c3eed8b9508ca41607efd1dead06962562602b946d9ffe", func := "loop.example/g00852/laws.FnExactCurrentHour", spec := "fnExactCurrentHour", unfollowed := true, recurses := true, apart := false }
def FnExactCurrentHourSaid : Prop := fnExactCurrentHourRow.holds Try.pinned (OpenSpec.ofChange fnExactCurrentHourSpec)

/-- ITS FALSE NEIGHBOUR: 'it returns false'. Refute it at one input. -/
def fnExactCurrentHourWrong : ChangeSpec := { name := "fnExactCurrentHour", fn := fun _ => fun
  | [d] => { results := [.lit (.bool false)], args := [d] }
  | _ => none }
def FnExactCurrentHourWrongFalsely : Prop := fnExactCurrentHourRow.holds Try.pinned (OpenSpec.ofChange fnExactCurrentHourWrong)

/-- 'laws.FnExactNewRoom': WHATEVER THE INPUT: true; the input reads as it did. -/
def fnExactNewRoomSpec : ChangeSpec := { name := "fnExactNewRoom", fn := fun _ => fun
  | [d1, d2] => { results := [.lit (.bool true)], args := [d1, d2] }
  | _ => none }
def fnExactNewRoomRow : OpenClaim := { program := "ytjpmiokbgpggbaa", sum := "c2c8900e678dbbe595c3eed8b9508ca41607efd1dead06962562602b946d9ffe", func := "loop.example/g00852/laws.FnExactNewRoom", spec := "fnExactNewRoom", unfollowed := true, recurses := true, apart := false }
def FnExactNewRoomSaid : Prop := fnExactNewRoomRow.holds Try.pinned (OpenSpec.ofChange fnExactNewRoomSpec)

/-- ITS FALSE NEIGHBOUR: 'it returns false'. Refute it at one input. -/
def fnExactNewRoomWrong : ChangeSpec := { name := "fnExactNewRoom", fn := fun _ => fun
  | [d1, d2] => { results := [.lit (.bool false)], args := [d1, d2] }
  | _ => none }
def FnExactNewRoomWrongFalsely : Prop := fnExactNewRoomRow.holds Try.pinned (OpenSpec.ofChange fnExactNewRoomWrong)

/-- 'laws.FnNewRooms': WHATEVER THE INPUT: true; the input reads as it did. -/
def fnNewRoomsSpec : ChangeSpec := { name := "fnNewRooms", fn := fun _ => fun
  | [d] => { results := [.lit (.bool true)], args := [d] }
  | _ => none }
def fnNewRoomsRow : OpenClaim := { program := "ytjpmiokbgpggbaa", sum := "c2c8900e678dbbe595c3eed8b9508ca41607efd1dead06962562602b946d9ffe", func := "loop.example/g00852/laws.FnNewRooms", spec := "fnNewRooms", unfollowed := true, recurses := true, apart := false }
def FnNewRoomsSaid : Prop := fnNewRoomsRow.holds Try.pinned (OpenSpec.ofChange fnNewRoomsSpec)

/-- ITS FALSE NEIGHBOUR: 'it returns false'. Refute it at one input. -/
def fnNewRoomsWrong : ChangeSpec := { name := "fnNewRooms", fn := fun _ => fun
  | [d] => { results := [.lit (.bool false)], args := [d] }
  | _ => none }
def FnNewRoomsWrongFalsely : Prop := fnNewRoomsRow.holds Try.pinned (OpenSpec.ofChange fnNewRoomsWrong)

/-- 'laws.FnExactRoomEvents': WHATEVER THE INPUT: true; the input reads as it did. -/
def fnExactRoomEventsSpec : ChangeSpec := { name := "fnExactRoomEvents", fn := fun _ => fun
  | [d] => { results := [.lit (.bool true)], args := [d] }
  | _ => none }
def fnExactRoomEventsRow : OpenClaim := { program := "ytjpmiokbgpggbaa", sum := "c2c8900e678dbbe595c3eed8b9508ca41607efd1dead06962562602b946d9ffe", func := "loop.example/g00852/laws.FnExactRoomEvents", spec := "fnExactRoomEvents", unfollowed := true, recurses := true, apart := false }
def FnExactRoomEventsSaid : Prop := fnExactRoomEventsRow.holds Try.pinned (OpenSpec.ofChange fnExactRoomEventsSpec)

/-- ITS FALSE NEIGHBOUR: 'it returns false'. Refute it at one input. -/
def fnExactRoomEventsWrong : ChangeSpec := { name := "fnExactRoomEvents", fn := fun _ => fun
  | [d] => { results := [.lit (.bool false)], args := [d] }
  | _ => none }
def FnExactRoomEventsWrongFalsely : Prop := fnExactRoomEventsRow.holds Try.pinned (OpenSpec.ofChange fnExactRoomEventsWrong)

/- THE SECOND FORM. 'bulk': how many values and letters a reading holds, each counted each time it is reached (what is shared counts as often as it is met; a slice's spare places count too). A statement '..UptoSaid' is the law's where the arguments, and the package variables that the reading takes, are together of bulk at most 1048576: NARROWER than '..Said'. Prove '..Said' where nothing that the law and all that it calls make is longer than what came in: it says more and counts as full. Else prove '..UptoSaid'. A law counts once. -/
mutual
def uptoBulk {H : Type} : DataW H → Nat
  | .lit (.string bytes) => bytes.length + 1
  | .lit _ => 1
  | .nil => 1
  | .ptr d => uptoBulk d + 1
  | .slice elems spare => uptoBulkAll elems + uptoBulkAll spare + 1
  | .agg parts => uptoBulkAll parts + 1
  | .iface _ d => uptoBulk d + 1
  | .map entries => uptoBulkEntries entries + 1
  | .held _ => 1
def uptoBulkAll {H : Type} : List (DataW H) → Nat
  | [] => 0
  | d :: r => uptoBulk d + uptoBulkAll r
def uptoBulkEntries {H : Type} : List (Lit × DataW H) → Nat
  | [] => 0
  | x :: r => uptoBulkEntry x + uptoBulkEntries r
def uptoBulkEntry {H : Type} : Lit × DataW H → Nat
  | (.string bytes, d) => bytes.length + uptoBulk d + 1
  | (_, d) => uptoBulk d + 1
 end
def uptoSmall : (H : Type) → List (DataW H) → Bool := fun _ ds => decide (uptoBulkAll ds ≤ 1048576)
def OpenSpec.upto (s : _root_.Go.ChangeSpec) : _root_.Go.OpenSpec := { _root_.Go.OpenSpec.ofChange s with cond := some uptoSmall }

/-- 'laws.FnExactIsRoom', WHERE WHAT IT READS IS OF BULK AT MOST 1048576: true; the input reads as it did. -/
def fnExactIsRoomUptoRow : OpenClaim := { program := "ytjpmiokbgpggbaa", sum := "c2c8900e678dbbe595c3eed8b9508ca41607efd1dead06962562602b946d9ffe", func := "loop.example/g00852/laws.FnExactIsRoom", spec := "fnExactIsRoom", unfollowed := true, recurses := true, apart := false, narrowed := true }
def FnExactIsRoomUptoSaid : Prop := fnExactIsRoomUptoRow.holds Try.pinned (OpenSpec.upto fnExactIsRoomSpec)

/-- 'laws.FnExactCurrentHour', WHERE WHAT IT READS IS OF BULK AT MOST 1048576: true; the input reads as it did. -/
def fnExactCurrentHourUptoRow : OpenClaim := { program := "ytjpmiokbgpggbaa", sum := "c2c8900e678dbbe595c3eed8b9508ca41607efd1dead06962562602b946d9ffe", func := "loop.example/g00852/laws.FnExactCurrentHour", spec := "fnExactCurrentHour", unfollowed := true, recurses := true, apart := false, narrowed := true }
def FnExactCurrentHourUptoSaid : Prop := fnExactCurrentHourUptoRow.holds Try.pinned (OpenSpec.upto fnExactCurrentHourSpec)

/-- 'laws.FnExactNewRoom', WHERE WHAT IT READS IS OF BULK AT MOST 1048576: true; the input reads as it did. -/
def fnExactNewRoomUptoRow : OpenClaim := { program := "ytjpmiokbgpggbaa", sum := "c2c8900e678dbbe595c3eed8b9508ca41607efd1dead06962562602b946d9ffe", func := "loop.example/g00852/laws.FnExactNewRoom", spec := "fnExactNewRoom", unfollowed := true, recurses := true, apart := false, narrowed := true }
def FnExactNewRoomUptoSaid : Prop := fnExactNewRoomUptoRow.holds Try.pinned (OpenSpec.upto fnExactNewRoomSpec)

/-- 'laws.FnNewRooms', WHERE WHAT IT READS IS OF BULK AT MOST 1048576: true; the input reads as it did. -/
def fnNewRoomsUptoRow : OpenClaim := { program := "ytjpmiokbgpggbaa", sum := "c2c8900e678dbbe595c3eed8b9508ca41607efd1dead06962562602b946d9ffe", func := "loop.example/g00852/laws.FnNewRooms", spec := "fnNewRooms", unfollowed := true, recurses := true, apart := false, narrowed := true }
def FnNewRoomsUptoSaid : Prop := fnNewRoomsUptoRow.holds Try.pinned (OpenSpec.upto fnNewRoomsSpec)

/-- 'laws.FnExactRoomEvents', WHERE WHAT IT READS IS OF BULK AT MOST 1048576: true; the input reads as it did. -/
def fnExactRoomEventsUptoRow : OpenClaim := { program := "ytjpmiokbgpggbaa", sum := "c2c8900e678dbbe595c3eed8b9508ca41607efd1dead06962562602b946d9ffe", func := "loop.example/g00852/laws.FnExactRoomEvents", spec := "fnExactRoomEvents", unfollowed := true, recurses := true, apart := false, narrowed := true }
def FnExactRoomEventsUptoSaid : Prop := fnExactRoomEventsUptoRow.holds Try.pinned (OpenSpec.upto fnExactRoomEventsSpec)

end Rows
end Go.Proofs.Ytjpmiokbgpggbaa
