/-
  No cell of these rows narrows 'for every input' (looked for: loops, veiled, ifaces, maps, wideKeys, modest, calm, conditions, laid).
  DERIVED. THE GIVEN ROWS OF THIS SEAT. 12 by the template 'for every input the law returns true; each argument reads behind the call as it read before'; 0 by the template 'total and deterministic' (their statements: YtclnfjpjmelfpaaTotals.lean).
  GIVEN WITH THE SEED: the statements are not yours to turn. If you find one false, say at which input.
  Laid BY PROGRAM, IN A SANDBOX (cutbox-rows.mjs): the forced cells as the released guide's own fill.sh prints them over the translation d53d64f60bb464c9… (all of the seat's roots in one cut). By AI agents, Wed Nov 11 2026. No macro, syntax, notation, axiom, sorry.
-/
import Derived.Test.YtclnfjpjmelfpaaChecked
import GoSem.Claim
import GoSem.ClaimJoined
import GoSem.ClaimMapViews
import Derived.JoinedTies
import Derived.KernelRfl
namespace Go.Proofs.Ytclnfjpjmelfpaa
/- THE CELL 'sum', in the pinned program and in every row, IS THE sha256 OF THE DUMP (.gsa) THAT YtclnfjpjmelfpaaProg.lean LOADS. Nothing in Lean hashes anything: it is a label: what it is worth is what the hold of that sum in a sandbox is worth. -/
noncomputable def Try.pinned : Pinned := { name := "ytclnfjpjmelfpaa", sum := "d53d64f60bb464c9000c294a841ace126cc9d67087f672b16cf95f173c8b67d0", checked := Try.checked }
namespace Rows
def none {H : Type} : Left H := { results := [], args := [] }

/-- 'laws.FnExactIsPosting': WHATEVER THE INPUT: true; the input reads as it did. -/
def fnExactIsPostingSpec : ChangeSpec := { name := "fnExactIsPosting", fn := fun _ => fun
  | [d] => { results := [.lit (.bool true)], args := [d] }
  | _ => none }
def fnExactIsPostingRow : OpenClaim := { program := "ytclnfjpjmelfpaa", sum := "d53d64f60bb464c9000c294a841ace126cc9d67087f672b16cf95f173c8b67d0", func := "loop.example/g00852/laws.FnExactIsPosting", spec := "fnExactIsPosting", apart := false }
def FnExactIsPostingSaid : Prop := fnExactIsPostingRow.holds Try.pinned (OpenSpec.ofChange fnExactIsPostingSpec)

/-- ITS FALSE NEIGHBOUR: 'it returns false'. Refute it at one input. -/
def fnExactIsPostingWrong : ChangeSpec := { name := "fnExactIsPosting", fn := fun _ => fun
  | [d] => { results := [.lit (.bool false)], args := [d] }
  | _ => none }
def FnExactIsPostingWrongFalsely : Prop := fnExactIsPostingRow.holds Try.pinned (OpenSpec.ofChange fnExactIsPostingWrong)

/-- 'laws.FnExactIsSettled': WHATEVER THE INPUT: true; the input reads as it did. -/
def fnExactIsSettledSpec : ChangeSpec := { name := "fnExactIsSettled", fn := fun _ => fun
  | [d] => { results := [.lit (.bool true)], args := [d] }
  | _ => none }
def fnExactIsSettledRow : OpenClaim := { program := "ytclnfjpjmelfpaa", sum := "d53d64f60bb464c9000c294a841ace126cc9d67087f672b16cf95f173c8b67d0", func := "loop.example/g00852/laws.FnExactIsSettled", spec := "fnExactIsSettled", unfollowed := true, recurses := true, apart := false }
def FnExactIsSettledSaid : Prop := fnExactIsSettledRow.holds Try.pinned (OpenSpec.ofChange fnExactIsSettledSpec)

/-- ITS FALSE NEIGHBOUR: 'it returns false'. Refute it at one input. -/
def fnExactIsSettledWrong : ChangeSpec := { name := "fnExactIsSettled", fn := fun _ => fun
  | [d] => { results := [.lit (.bool false)], args := [d] }
  | _ => none }
def FnExactIsSettledWrongFalsely : Prop := fnExactIsSettledRow.holds Try.pinned (OpenSpec.ofChange fnExactIsSettledWrong)

/-- 'laws.FnStatements': WHATEVER THE INPUT: true; the input reads as it did. -/
def fnStatementsSpec : ChangeSpec := { name := "fnStatements", fn := fun _ => fun
  | [d] => { results := [.lit (.bool true)], args := [d] }
  | _ => none }
def fnStatementsRow : OpenClaim := { program := "ytclnfjpjmelfpaa", sum := "d53d64f60bb464c9000c294a841ace126cc9d67087f672b16cf95f173c8b67d0", func := "loop.example/g00852/laws.FnStatements", spec := "fnStatements", unfollowed := true, recurses := true, apart := false }
def FnStatementsSaid : Prop := fnStatementsRow.holds Try.pinned (OpenSpec.ofChange fnStatementsSpec)

/-- ITS FALSE NEIGHBOUR: 'it returns false'. Refute it at one input. -/
def fnStatementsWrong : ChangeSpec := { name := "fnStatements", fn := fun _ => fun
  | [d] => { results := [.lit (.bool false)], args := [d] }
  | _ => none }
def FnStatementsWrongFalsely : Prop := fnStatementsRow.holds Try.pinned (OpenSpec.ofChange fnStatementsWrong)

/-- 'laws.FnExactReverseLedger': WHATEVER THE INPUT: true; the input reads as it did. -/
def fnExactReverseLedgerSpec : ChangeSpec := { name := "fnExactReverseLedger", fn := fun _ => fun
  | [d] => { results := [.lit (.bool true)], args := [d] }
  | _ => none }
def fnExactReverseLedgerRow : OpenClaim := { program := "ytclnfjpjmelfpaa", sum := "d53d64f60bb464c9000c294a841ace126cc9d67087f672b16cf95f173c8b67d0", func := "loop.example/g00852/laws.FnExactReverseLedger", spec := "fnExactReverseLedger", unfollowed := true, recurses := true, apart := false }
def FnExactReverseLedgerSaid : Prop := fnExactReverseLedgerRow.holds Try.pinned (OpenSpec.ofChange fnExactReverseLedgerSpec)

/-- ITS FALSE NEIGHBOUR: 'it returns false'. Refute it at one input. -/
def fnExactReverseLedgerWrong : ChangeSpec := { name := "fnExactReverseLedger", fn := fun _ => fun
  | [d] => { results := [.lit (.bool false)], args := [d] }
  | _ => none }
def FnExactReverseLedgerWrongFalsely : Prop := fnExactReverseLedgerRow.holds Try.pinned (OpenSpec.ofChange fnExactReverseLedgerWrong)

/-- 'laws.FnExactStatementOf': WHATEVER THE INPUT: true; the input reads as it did. -/
def fnExactStatementOfSpec : ChangeSpec := { name := "fnExactStatementOf", fn := fun _ => fun
  | [d1, d2] => { results := [.lit (.bool true)], args := [d1, d2] }
  | _ => none }
def fnExactStatementOfRow : OpenClaim := { program := "ytclnfjpjmelfpaa", sum := "d53d64f60bb464c9000c294a841ace126cc9d67087f672b16cf95f173c8b67d0", func := "loop.example/g00852/laws.FnExactStatementOf", spec := "fnExactStatementOf", unfollowed := true, recurses := true, apart := false }
def FnExactStatementOfSaid : Prop := fnExactStatementOfRow.holds Try.pinned (OpenSpec.ofChange fnExactStatementOfSpec)

/-- ITS FALSE NEIGHBOUR: 'it returns false'. Refute it at one input. -/
def fnExactStatementOfWrong : ChangeSpec := { name := "fnExactStatementOf", fn := fun _ => fun
  | [d1, d2] => { results := [.lit (.bool false)], args := [d1, d2] }
  | _ => none }
def FnExactStatementOfWrongFalsely : Prop := fnExactStatementOfRow.holds Try.pinned (OpenSpec.ofChange fnExactStatementOfWrong)

/-- 'laws.FnExactJoinLedgers': WHATEVER THE INPUT: true; the input reads as it did. -/
def fnExactJoinLedgersSpec : ChangeSpec := { name := "fnExactJoinLedgers", fn := fun _ => fun
  | [d1, d2] => { results := [.lit (.bool true)], args := [d1, d2] }
  | _ => none }
def fnExactJoinLedgersRow : OpenClaim := { program := "ytclnfjpjmelfpaa", sum := "d53d64f60bb464c9000c294a841ace126cc9d67087f672b16cf95f173c8b67d0", func := "loop.example/g00852/laws.FnExactJoinLedgers", spec := "fnExactJoinLedgers", unfollowed := true, recurses := true, apart := false }
def FnExactJoinLedgersSaid : Prop := fnExactJoinLedgersRow.holds Try.pinned (OpenSpec.ofChange fnExactJoinLedgersSpec)

/-- ITS FALSE NEIGHBOUR: 'it returns false'. Refute it at one input. -/
def fnExactJoinLedgersWrong : ChangeSpec := { name := "fnExactJoinLedgers", fn := fun _ => fun
  | [d1, d2] => { results := [.lit (.bool false)], args := [d1, d2] }
  | _ => none }
def FnExactJoinLedgersWrongFalsely : Prop := fnExactJoinLedgersRow.holds Try.pinned (OpenSpec.ofChange fnExactJoinLedgersWrong)

/-- 'laws.FnExactGasBalances': WHATEVER THE INPUT: true; the input reads as it did. -/
def fnExactGasBalancesSpec : ChangeSpec := { name := "fnExactGasBalances", fn := fun _ => fun
  | [d] => { results := [.lit (.bool true)], args := [d] }
  | _ => none }
def fnExactGasBalancesRow : OpenClaim := { program := "ytclnfjpjmelfpaa", sum := "d53d64f60bb464c9000c294a841ace126cc9d67087f672b16cf95f173c8b67d0", func := "loop.example/g00852/laws.FnExactGasBalances", spec := "fnExactGasBalances", unfollowed := true, recurses := true, apart := false }
def FnExactGasBalancesSaid : Prop := fnExactGasBalancesRow.holds Try.pinned (OpenSpec.ofChange fnExactGasBalancesSpec)

/-- ITS FALSE NEIGHBOUR: 'it returns false'. Refute it at one input. -/
def fnExactGasBalancesWrong : ChangeSpec := { name := "fnExactGasBalances", fn := fun _ => fun
  | [d] => { results := [.lit (.bool false)], args := [d] }
  | _ => none }
def FnExactGasBalancesWrongFalsely : Prop := fnExactGasBalancesRow.holds Try.pinned (OpenSpec.ofChange fnExactGasBalancesWrong)

/-- 'laws.FnExactMoneyBalances': WHATEVER THE INPUT: true; the input reads as it did. -/
def fnExactMoneyBalancesSpec : ChangeSpec := { name := "fnExactMoneyBalances", fn := fun _ => fun
  | [d] => { results := [.lit (.bool true)], args := [d] }
  | _ => none }
def fnExactMoneyBalancesRow : OpenClaim := { program := "ytclnfjpjmelfpaa", sum := "d53d64f60bb464c9000c294a841ace126cc9d67087f672b16cf95f173c8b67d0", func := "loop.example/g00852/laws.FnExactMoneyBalances", spec := "fnExactMoneyBalances", unfollowed := true, recurses := true, apart := false }
def FnExactMoneyBalancesSaid : Prop := fnExactMoneyBalancesRow.holds Try.pinned (OpenSpec.ofChange fnExactMoneyBalancesSpec)

/-- ITS FALSE NEIGHBOUR: 'it returns false'. Refute it at one input. -/
def fnExactMoneyBalancesWrong : ChangeSpec := { name := "fnExactMoneyBalances", fn := fun _ => fun
  | [d] => { results := [.lit (.bool false)], args := [d] }
  | _ => none }
def FnExactMoneyBalancesWrongFalsely : Prop := fnExactMoneyBalancesRow.holds Try.pinned (OpenSpec.ofChange fnExactMoneyBalancesWrong)

/-- 'laws.FnExactSettleLedger': WHATEVER THE INPUT: true; the input reads as it did. -/
def fnExactSettleLedgerSpec : ChangeSpec := { name := "fnExactSettleLedger", fn := fun _ => fun
  | [d1, d2] => { results := [.lit (.bool true)], args := [d1, d2] }
  | _ => none }
def fnExactSettleLedgerRow : OpenClaim := { program := "ytclnfjpjmelfpaa", sum := "d53d64f60bb464c9000c294a841ace126cc9d67087f672b16cf95f173c8b67d0", func := "loop.example/g00852/laws.FnExactSettleLedger", spec := "fnExactSettleLedger", unfollowed := true, recurses := true, apart := false }
def FnExactSettleLedgerSaid : Prop := fnExactSettleLedgerRow.holds Try.pinned (OpenSpec.ofChange fnExactSettleLedgerSpec)

/-- ITS FALSE NEIGHBOUR: 'it returns false'. Refute it at one input. -/
def fnExactSettleLedgerWrong : ChangeSpec := { name := "fnExactSettleLedger", fn := fun _ => fun
  | [d1, d2] => { results := [.lit (.bool false)], args := [d1, d2] }
  | _ => none }
def FnExactSettleLedgerWrongFalsely : Prop := fnExactSettleLedgerRow.holds Try.pinned (OpenSpec.ofChange fnExactSettleLedgerWrong)

/-- 'laws.FnReversed': WHATEVER THE INPUT: true; the input reads as it did. -/
def fnReversedSpec : ChangeSpec := { name := "fnReversed", fn := fun _ => fun
  | [d] => { results := [.lit (.bool true)], args := [d] }
  | _ => none }
def fnReversedRow : OpenClaim := { program := "ytclnfjpjmelfpaa", sum := "d53d64f60bb464c9000c294a841ace126cc9d67087f672b16cf95f173c8b67d0", func := "loop.example/g00852/laws.FnReversed", spec := "fnReversed", unfollowed := true, recurses := true, apart := false }
def FnReversedSaid : Prop := fnReversedRow.holds Try.pinned (OpenSpec.ofChange fnReversedSpec)

/-- ITS FALSE NEIGHBOUR: 'it returns false'. Refute it at one input. -/
def fnReversedWrong : ChangeSpec := { name := "fnReversed", fn := fun _ => fun
  | [d] => { results := [.lit (.bool false)], args := [d] }
  | _ => none }
def FnReversedWrongFalsely : Prop := fnReversedRow.holds Try.pinned (OpenSpec.ofChange fnReversedWrong)

/-- 'laws.FnLedgers': WHATEVER THE INPUT: true; the input reads as it did. -/
def fnLedgersSpec : ChangeSpec := { name := "fnLedgers", fn := fun _ => fun
  | [d] => { results := [.lit (.bool true)], args := [d] }
  | _ => none }
def fnLedgersRow : OpenClaim := { program := "ytclnfjpjmelfpaa", sum := "d53d64f60bb464c9000c294a841ace126cc9d67087f672b16cf95f173c8b67d0", func := "loop.example/g00852/laws.FnLedgers", spec := "fnLedgers", unfollowed := true, recurses := true, apart := false }
def FnLedgersSaid : Prop := fnLedgersRow.holds Try.pinned (OpenSpec.ofChange fnLedgersSpec)

/-- ITS FALSE NEIGHBOUR: 'it returns false'. Refute it at one input. -/
def fnLedgersWrong : ChangeSpec := { name := "fnLedgers", fn := fun _ => fun
  | [d] => { results := [.lit (.bool false)], args := [d] }
  | _ => none }
def FnLedgersWrongFalsely : Prop := fnLedgersRow.holds Try.pinned (OpenSpec.ofChange fnLedgersWrong)

/-- 'laws.FnExactIsConserved': WHATEVER THE INPUT: true; the input reads as it did. -/
def fnExactIsConservedSpec : ChangeSpec := { name := "fnExactIsConserved", fn := fun _ => fun
  | [d] => { results := [.lit (.bool true)], args := [d] }
  | _ => none }
def fnExactIsConservedRow : OpenClaim := { program := "ytclnfjpjmelfpaa", sum := "d53d64f60bb464c9000c294a841ace126cc9d67087f672b16cf95f173c8b67d0", func := "loop.example/g00852/laws.FnExactIsConserved", spec := "fnExactIsConserved", unfollowed := true, recurses := true, apart := false }
def FnExactIsConservedSaid : Prop := fnExactIsConservedRow.holds Try.pinned (OpenSpec.ofChange fnExactIsConservedSpec)

/-- ITS FALSE NEIGHBOUR: 'it returns false'. Refute it at one input. -/
def fnExactIsConservedWrong : ChangeSpec := { name := "fnExactIsConserved", fn := fun _ => fun
  | [d] => { results := [.lit (.bool false)], args := [d] }
  | _ => none }
def FnExactIsConservedWrongFalsely : Prop := fnExactIsConservedRow.holds Try.pinned (OpenSpec.ofChange fnExactIsConservedWrong)

/- THE SECOND FORM. 'bulk': how many values and letters a reading holds, each counted each time it is reached (what is shared counts as often as it is met; a slice's spare places count too). A statement '..UptoSaid' is the law's where the arguments, and the package variables that the reading takes, are together of bulk at most 1048576: NARROWER than '..Said'. Prove '..Said' where nothing that the law and all that it calls make is longer than what came in: it says more and counts as full. Else prove '..UptoSaid'. A law counts once. -/
mutual
def uptoBulk {H : Type} : DataW H → Nat
  | .lit (.string bytes) => bytes.length + 1
  | .lit _ => 1
  | .nil => 1
  | .ptr d => uptoBulk d + 1
  | .slice elems spare => uptoBulkAll elems + uptoBulkAll spare + 1
  | .agg parts => uptoBulkAll parts + 1
  | .iface _ d => uptoBulk d + 1
  | .map entries => uptoBulkEntries entries + 1
  | .held _ => 1
def uptoBulkAll {H : Type} : List (DataW H) → Nat
  | [] => 0
  | d :: r => uptoBulk d + uptoBulkAll r
def uptoBulkEntries {H : Type} : List (Lit × DataW H) → Nat
  | [] => 0
  | x :: r => uptoBulkEntry x + uptoBulkEntries r
def uptoBulkEntry {H : Type} : Lit × DataW H → Nat
  | (.string bytes, d) => bytes.length + uptoBulk d + 1
  | (_, d) => uptoBulk d + 1
 end
def uptoSmall : (H : Type) → List (DataW H) → Bool := fun _ ds => decide (uptoBulkAll ds ≤ 1048576)
def OpenSpec.upto (s : _root_.Go.ChangeSpec) : _root_.Go.OpenSpec := { _root_.Go.OpenSpec.ofChange s with cond := some uptoSmall }

/-- 'laws.FnExactIsPosting', WHERE WHAT IT READS IS OF BULK AT MOST 1048576: true; the input reads as it did. -/
def fnExactIsPostingUptoRow : OpenClaim := { program := "ytclnfjpjmelfpaa", sum := "d53d64f60bb464c9000c294a841ace126cc9d67087f672b16cf95f173c8b67d0", func := "loop.example/g00852/laws.FnExactIsPosting", spec := "fnExactIsPosting", apart := false, narrowed := true }
def FnExactIsPostingUptoSaid : Prop := fnExactIsPostingUptoRow.holds Try.pinned (OpenSpec.upto fnExactIsPostingSpec)

/-- 'laws.FnExactIsSettled', WHERE WHAT IT READS IS OF BULK AT MOST 1048576: true; the input reads as it did. -/
def fnExactIsSettledUptoRow : OpenClaim := { program := "ytclnfjpjmelfpaa", sum := "d53d64f60bb464c9000c294a841ace126cc9d67087f672b16cf95f173c8b67d0", func := "loop.example/g00852/laws.FnExactIsSettled", spec := "fnExactIsSettled", unfollowed := true, recurses := true, apart := false, narrowed := true }
def FnExactIsSettledUptoSaid : Prop := fnExactIsSettledUptoRow.holds Try.pinned (OpenSpec.upto fnExactIsSettledSpec)

/-- 'laws.FnStatements', WHERE WHAT IT READS IS OF BULK AT MOST 1048576: true; the input reads as it did. -/
def fnStatementsUptoRow : OpenClaim := { program := "ytclnfjpjmelfpaa", sum := "d53d64f60bb464c9000c294a841ace126cc9d67087f672b16cf95f173c8b67d0", func := "loop.example/g00852/laws.FnStatements", spec := "fnStatements", unfollowed := true, recurses := true, apart := false, narrowed := true }
def FnStatementsUptoSaid : Prop := fnStatementsUptoRow.holds Try.pinned (OpenSpec.upto fnStatementsSpec)

/-- 'laws.FnExactReverseLedger', WHERE WHAT IT READS IS OF BULK AT MOST 1048576: true; the input reads as it did. -/
def fnExactReverseLedgerUptoRow : OpenClaim := { program := "ytclnfjpjmelfpaa", sum := "d53d64f60bb464c9000c294a841ace126cc9d67087f672b16cf95f173c8b67d0", func := "loop.example/g00852/laws.FnExactReverseLedger", spec := "fnExactReverseLedger", unfollowed := true, recurses := true, apart := false, narrowed := true }
def FnExactReverseLedgerUptoSaid : Prop := fnExactReverseLedgerUptoRow.holds Try.pinned (OpenSpec.upto fnExactReverseLedgerSpec)

/-- 'laws.FnExactStatementOf', WHERE WHAT IT READS IS OF BULK AT MOST 1048576: true; the input reads as it did. -/
def fnExactStatementOfUptoRow : OpenClaim := { program := "ytclnfjpjmelfpaa", sum := "d53d64f60bb464c9000c294a841ace126cc9d67087f672b16cf95f173c8b67d0", func := "loop.example/g00852/laws.FnExactStatementOf", spec := "fnExactStatementOf", unfollowed := true, recurses := true, apart := false, narrowed := true }
def FnExactStatementOfUptoSaid : Prop := fnExactStatementOfUptoRow.holds Try.pinned (OpenSpec.upto fnExactStatementOfSpec)

/-- 'laws.FnExactJoinLedgers', WHERE WHAT IT READS IS OF BULK AT MOST 1048576: true; the input reads as it did. -/
def fnExactJoinLedgersUptoRow : OpenClaim := { program := "ytclnfjpjmelfpaa", sum := "d53d64f60bb464c9000c294a841ace126cc9d67087f672b16cf95f173c8b67d0", func := "loop.example/g00852/laws.FnExactJoinLedgers", spec := "fnExactJoinLedgers", unfollowed := true, recurses := true, apart := false, narrowed := true }
def FnExactJoinLedgersUptoSaid : Prop := fnExactJoinLedgersUptoRow.holds Try.pinned (OpenSpec.upto fnExactJoinLedgersSpec)

/-- 'laws.FnExactGasBalances', WHERE WHAT IT READS IS OF BULK AT MOST 1048576: true; the input reads as it did. -/
def fnExactGasBalancesUptoRow : OpenClaim := { program := "ytclnfjpjmelfpaa", sum := "d53d64f60bb464c9000c294a841ace126cc9d67087f672b16cf95f173c8b67d0", func := "loop.example/g00852/laws.FnExactGasBalances", spec := "fnExactGasBalances", unfollowed := true, recurses := true, apart := false, narrowed := true }
def FnExactGasBalancesUptoSaid : Prop := fnExactGasBalancesUptoRow.holds Try.pinned (OpenSpec.upto fnExactGasBalancesSpec)

/-- 'laws.FnExactMoneyBalances', WHERE WHAT IT READS IS OF BULK AT MOST 1048576: true; the input reads as it did. -/
def fnExactMoneyBalancesUptoRow : OpenClaim := { program := "ytclnfjpjmelfpaa", sum := "d53d64f60bb464c9000c294a841ace126cc9d67087f672b16cf95f173c8b67d0", func := "loop.example/g00852/laws.FnExactMoneyBalances", spec := "fnExactMoneyBalances", unfollowed := true, recurses := true, apart := false, narrowed := true }
def FnExactMoneyBalancesUptoSaid : Prop := fnExactMoneyBalancesUptoRow.holds Try.pinned (OpenSpec.upto fnExactMoneyBalancesSpec)

/-- 'laws.FnExactSettleLedger', WHERE WHAT IT READS IS OF BULK AT MOST 1048576: true; the input reads as it did. -/
def fnExactSettleLedgerUptoRow : OpenClaim := { program := "ytclnfjpjmelfpaa", sum := "d53d64f60bb464c9000c294a841ace126cc9d67087f672b16cf95f173c8b67d0", func := "loop.example/g00852/laws.FnExactSettleLedger", spec := "fnExactSettleLedger", unfollowed := true, recurses := true, apart := false, narrowed := true }
def FnExactSettleLedgerUptoSaid : Prop := fnExactSettleLedgerUptoRow.holds Try.pinned (OpenSpec.upto fnExactSettleLedgerSpec)

/-- 'laws.FnReversed', WHERE WHAT IT READS IS OF BULK AT MOST 1048576: true; the input reads as it did. -/
def fnReversedUptoRow : OpenClaim := { program := "ytclnfjpjmelfpaa", sum := "d53d64f60bb464c9000c294a841ace126cc9d67087f672b16cf95f173c8b67d0", func := "loop.example/g00852/laws.FnReversed", spec := "fnReversed", unfollowed := true, recurses := true, apart := false, narrowed := true }
def FnReversedUptoSaid : Prop := fnReversedUptoRow.holds Try.pinned (OpenSpec.upto fnReversedSpec)

/-- 'laws.FnLedgers', WHERE WHAT IT READS IS OF BULK AT MOST 1048576: true; the input reads as it did. -/
def fnLedgersUptoRow : OpenClaim := { program := "ytclnfjpjmelfpaa", sum := "d53d64f60bb464c9000c294a841ace126cc9d67087f672b16cf95f173c8b67d0", func := "loop.example/g00852/laws.FnLedgers", spec := "fnLedgers", unfollowed := true, recurses := true, apart := false, narrowed := true }
def FnLedgersUptoSaid : Prop := fnLedgersUptoRow.holds Try.pinned (OpenSpec.upto fnLedgersSpec)

/-- 'laws.FnExactIsConserved', WHERE WHAT IT READS IS OF BULK AT MOST 1048576: true; the input reads as it did. -/
def fnExactIsConservedUptoRow : OpenClaim := { program := "ytclnfjpjmelfpaa", sum := "d53d64f60bb464c9000c294a841ace126cc9d67087f672b16cf95f173c8b67d0", func := "loop.example/g00852/laws.FnExactIsConserved", spec := "fnExactIsConserved", unfollowed := true, recurses := true, apart := false, narrowed := true }
def FnExactIsConservedUptoSaid : Prop := fnExactIsConservedUptoRow.holds Try.pinned (OpenSpec.upto fnExactIsConservedSpec)

end Rows
end Go.Proofs.Ytclnfjpjmelfpaa
