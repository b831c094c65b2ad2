/-
  No cell of these rows narrows 'for every input' (looked for: loops, veiled, ifaces, maps, wideKeys, modest, calm, conditions, laid).
  DERIVED. THE GIVEN ROWS OF THIS SEAT. 10 by the template 'for every input the law returns true; each argument reads behind the call as it read before'; 0 by the template 'total and deterministic' (their statements: YtbkmnoedhilopaaTotals.lean).
  GIVEN WITH THE SEED: the statements are not yours to turn. If you find one false, say at which input.
  Laid BY PROGRAM, IN A SANDBOX (cutbox-rows.mjs): the forced cells as the released guide's own fill.sh prints them over the translation bdc0defe83a0ada8… (all of the seat's roots in one cut). By AI agents, Wed Nov 11 2026. No macro, syntax, notation, axiom, sorry.
-/
import Derived.Test.YtbkmnoedhilopaaChecked
import GoSem.Claim
import GoSem.ClaimJoined
import GoSem.ClaimMapViews
import Derived.JoinedTies
import Derived.KernelRfl
namespace Go.Proofs.Ytbkmnoedhilopaa
/- THE CELL 'sum', in the pinned program and in every row, IS THE sha256 OF THE DUMP (.gsa) THAT YtbkmnoedhilopaaProg.lean LOADS. Nothing in Lean hashes anything: it is a label: what it is worth is what the hold of that sum in a sandbox is worth. -/
noncomputable def Try.pinned : Pinned := { name := "ytbkmnoedhilopaa", sum := "bdc0defe83a0ada84d79a4aab8ced79219341e2f8e04f1cc2e616717c73b54ef", checked := Try.checked }
namespace Rows
def none {H : Type} : Left H := { results := [], args := [] }

/-- 'laws.FnExactIsTerms': WHATEVER THE INPUT: true; the input reads as it did. -/
def fnExactIsTermsSpec : ChangeSpec := { name := "fnExactIsTerms", fn := fun _ => fun
  | [d] => { results := [.lit (.bool true)], args := [d] }
  | _ => none }
def fnExactIsTermsRow : OpenClaim := { program := "ytbkmnoedhilopaa", sum := "bdc0defe83a0ada84d79a4aab8ced79219341e2f8e04f1cc2e616717c73b54ef", func := "loop.example/g00852/laws.FnExactIsTerms", spec := "fnExactIsTerms", apart := false }
def FnExactIsTermsSaid : Prop := fnExactIsTermsRow.holds Try.pinned (OpenSpec.ofChange fnExactIsTermsSpec)

/-- ITS FALSE NEIGHBOUR: 'it returns false'. Refute it at one input. -/
def fnExactIsTermsWrong : ChangeSpec := { name := "fnExactIsTerms", fn := fun _ => fun
  | [d] => { results := [.lit (.bool false)], args := [d] }
  | _ => none }
def FnExactIsTermsWrongFalsely : Prop := fnExactIsTermsRow.holds Try.pinned (OpenSpec.ofChange fnExactIsTermsWrong)

/-- 'laws.FnExactToleranceFor': WHATEVER THE INPUT: true; the input reads as it did. -/
def fnExactToleranceForSpec : ChangeSpec := { name := "fnExactToleranceFor", fn := fun _ => fun
  | [d1, d2] => { results := [.lit (.bool true)], args := [d1, d2] }
  | _ => none }
def fnExactToleranceForRow : OpenClaim := { program := "ytbkmnoedhilopaa", sum := "bdc0defe83a0ada84d79a4aab8ced79219341e2f8e04f1cc2e616717c73b54ef", func := "loop.example/g00852/laws.FnExactToleranceFor", spec := "fnExactToleranceFor", apart := false }
def FnExactToleranceForSaid : Prop := fnExactToleranceForRow.holds Try.pinned (OpenSpec.ofChange fnExactToleranceForSpec)

/-- ITS FALSE NEIGHBOUR: 'it returns false'. Refute it at one input. -/
def fnExactToleranceForWrong : ChangeSpec := { name := "fnExactToleranceFor", fn := fun _ => fun
  | [d1, d2] => { results := [.lit (.bool false)], args := [d1, d2] }
  | _ => none }
def FnExactToleranceForWrongFalsely : Prop := fnExactToleranceForRow.holds Try.pinned (OpenSpec.ofChange fnExactToleranceForWrong)

/-- 'laws.FnExactTierOf': WHATEVER THE INPUT: true; the input reads as it did. -/
def fnExactTierOfSpec : ChangeSpec := { name := "fnExactTierOf", fn := fun _ => fun
  | [d1, d2] => { results := [.lit (.bool true)], args := [d1, d2] }
  | _ => none }
def fnExactTierOfRow : OpenClaim := { program := "ytbkmnoedhilopaa", sum := "bdc0defe83a0ada84d79a4aab8ced79219341e2f8e04f1cc2e616717c73b54ef", func := "loop.example/g00852/laws.FnExactTierOf", spec := "fnExactTierOf", apart := false }
def FnExactTierOfSaid : Prop := fnExactTierOfRow.holds Try.pinned (OpenSpec.ofChange fnExactTierOfSpec)

/-- ITS FALSE NEIGHBOUR: 'it returns false'. Refute it at one input. -/
def fnExactTierOfWrong : ChangeSpec := { name := "fnExactTierOf", fn := fun _ => fun
  | [d1, d2] => { results := [.lit (.bool false)], args := [d1, d2] }
  | _ => none }
def FnExactTierOfWrongFalsely : Prop := fnExactTierOfRow.holds Try.pinned (OpenSpec.ofChange fnExactTierOfWrong)

/-- 'laws.FnExactChargeFor': WHATEVER THE INPUT: true; the input reads as it did. -/
def fnExactChargeForSpec : ChangeSpec := { name := "fnExactChargeFor", fn := fun _ => fun
  | [d1, d2] => { results := [.lit (.bool true)], args := [d1, d2] }
  | _ => none }
def fnExactChargeForRow : OpenClaim := { program := "ytbkmnoedhilopaa", sum := "bdc0defe83a0ada84d79a4aab8ced79219341e2f8e04f1cc2e616717c73b54ef", func := "loop.example/g00852/laws.FnExactChargeFor", spec := "fnExactChargeFor", apart := false }
def FnExactChargeForSaid : Prop := fnExactChargeForRow.holds Try.pinned (OpenSpec.ofChange fnExactChargeForSpec)

/-- ITS FALSE NEIGHBOUR: 'it returns false'. Refute it at one input. -/
def fnExactChargeForWrong : ChangeSpec := { name := "fnExactChargeFor", fn := fun _ => fun
  | [d1, d2] => { results := [.lit (.bool false)], args := [d1, d2] }
  | _ => none }
def FnExactChargeForWrongFalsely : Prop := fnExactChargeForRow.holds Try.pinned (OpenSpec.ofChange fnExactChargeForWrong)

/-- 'laws.FnExactExcessOf': WHATEVER THE INPUT: true; the input reads as it did. -/
def fnExactExcessOfSpec : ChangeSpec := { name := "fnExactExcessOf", fn := fun _ => fun
  | [d1, d2, d3] => { results := [.lit (.bool true)], args := [d1, d2, d3] }
  | _ => none }
def fnExactExcessOfRow : OpenClaim := { program := "ytbkmnoedhilopaa", sum := "bdc0defe83a0ada84d79a4aab8ced79219341e2f8e04f1cc2e616717c73b54ef", func := "loop.example/g00852/laws.FnExactExcessOf", spec := "fnExactExcessOf", apart := false }
def FnExactExcessOfSaid : Prop := fnExactExcessOfRow.holds Try.pinned (OpenSpec.ofChange fnExactExcessOfSpec)

/-- ITS FALSE NEIGHBOUR: 'it returns false'. Refute it at one input. -/
def fnExactExcessOfWrong : ChangeSpec := { name := "fnExactExcessOf", fn := fun _ => fun
  | [d1, d2, d3] => { results := [.lit (.bool false)], args := [d1, d2, d3] }
  | _ => none }
def FnExactExcessOfWrongFalsely : Prop := fnExactExcessOfRow.holds Try.pinned (OpenSpec.ofChange fnExactExcessOfWrong)

/-- 'laws.FnExactCashOut': WHATEVER THE INPUT: true; the input reads as it did. -/
def fnExactCashOutSpec : ChangeSpec := { name := "fnExactCashOut", fn := fun _ => fun
  | [d1, d2, d3] => { results := [.lit (.bool true)], args := [d1, d2, d3] }
  | _ => none }
def fnExactCashOutRow : OpenClaim := { program := "ytbkmnoedhilopaa", sum := "bdc0defe83a0ada84d79a4aab8ced79219341e2f8e04f1cc2e616717c73b54ef", func := "loop.example/g00852/laws.FnExactCashOut", spec := "fnExactCashOut", apart := false }
def FnExactCashOutSaid : Prop := fnExactCashOutRow.holds Try.pinned (OpenSpec.ofChange fnExactCashOutSpec)

/-- ITS FALSE NEIGHBOUR: 'it returns false'. Refute it at one input. -/
def fnExactCashOutWrong : ChangeSpec := { name := "fnExactCashOut", fn := fun _ => fun
  | [d1, d2, d3] => { results := [.lit (.bool false)], args := [d1, d2, d3] }
  | _ => none }
def FnExactCashOutWrongFalsely : Prop := fnExactCashOutRow.holds Try.pinned (OpenSpec.ofChange fnExactCashOutWrong)

/-- 'laws.FnExactRollBalance': WHATEVER THE INPUT: true; the input reads as it did. -/
def fnExactRollBalanceSpec : ChangeSpec := { name := "fnExactRollBalance", fn := fun _ => fun
  | [d1, d2, d3] => { results := [.lit (.bool true)], args := [d1, d2, d3] }
  | _ => none }
def fnExactRollBalanceRow : OpenClaim := { program := "ytbkmnoedhilopaa", sum := "bdc0defe83a0ada84d79a4aab8ced79219341e2f8e04f1cc2e616717c73b54ef", func := "loop.example/g00852/laws.FnExactRollBalance", spec := "fnExactRollBalance", apart := false }
def FnExactRollBalanceSaid : Prop := fnExactRollBalanceRow.holds Try.pinned (OpenSpec.ofChange fnExactRollBalanceSpec)

/-- ITS FALSE NEIGHBOUR: 'it returns false'. Refute it at one input. -/
def fnExactRollBalanceWrong : ChangeSpec := { name := "fnExactRollBalance", fn := fun _ => fun
  | [d1, d2, d3] => { results := [.lit (.bool false)], args := [d1, d2, d3] }
  | _ => none }
def FnExactRollBalanceWrongFalsely : Prop := fnExactRollBalanceRow.holds Try.pinned (OpenSpec.ofChange fnExactRollBalanceWrong)

/-- 'laws.FnCharges': WHATEVER THE INPUT: true; the input reads as it did. -/
def fnChargesSpec : ChangeSpec := { name := "fnCharges", fn := fun _ => fun
  | [d] => { results := [.lit (.bool true)], args := [d] }
  | _ => none }
def fnChargesRow : OpenClaim := { program := "ytbkmnoedhilopaa", sum := "bdc0defe83a0ada84d79a4aab8ced79219341e2f8e04f1cc2e616717c73b54ef", func := "loop.example/g00852/laws.FnCharges", spec := "fnCharges", apart := false }
def FnChargesSaid : Prop := fnChargesRow.holds Try.pinned (OpenSpec.ofChange fnChargesSpec)

/-- ITS FALSE NEIGHBOUR: 'it returns false'. Refute it at one input. -/
def fnChargesWrong : ChangeSpec := { name := "fnCharges", fn := fun _ => fun
  | [d] => { results := [.lit (.bool false)], args := [d] }
  | _ => none }
def FnChargesWrongFalsely : Prop := fnChargesRow.holds Try.pinned (OpenSpec.ofChange fnChargesWrong)

/-- 'laws.FnCashOut': WHATEVER THE INPUT: true; the input reads as it did. -/
def fnCashOutSpec : ChangeSpec := { name := "fnCashOut", fn := fun _ => fun
  | [d] => { results := [.lit (.bool true)], args := [d] }
  | _ => none }
def fnCashOutRow : OpenClaim := { program := "ytbkmnoedhilopaa", sum := "bdc0defe83a0ada84d79a4aab8ced79219341e2f8e04f1cc2e616717c73b54ef", func := "loop.example/g00852/laws.FnCashOut", spec := "fnCashOut", apart := false }
def FnCashOutSaid : Prop := fnCashOutRow.holds Try.pinned (OpenSpec.ofChange fnCashOutSpec)

/-- ITS FALSE NEIGHBOUR: 'it returns false'. Refute it at one input. -/
def fnCashOutWrong : ChangeSpec := { name := "fnCashOut", fn := fun _ => fun
  | [d] => { results := [.lit (.bool false)], args := [d] }
  | _ => none }
def FnCashOutWrongFalsely : Prop := fnCashOutRow.holds Try.pinned (OpenSpec.ofChange fnCashOutWrong)

/-- 'laws.FnRolled': WHATEVER THE INPUT: true; the input reads as it did. -/
def fnRolledSpec : ChangeSpec := { name := "fnRolled", fn := fun _ => fun
  | [d] => { results := [.lit (.bool true)], args := [d] }
  | _ => none }
def fnRolledRow : OpenClaim := { program := "ytbkmnoedhilopaa", sum := "bdc0defe83a0ada84d79a4aab8ced79219341e2f8e04f1cc2e616717c73b54ef", func := "loop.example/g00852/laws.FnRolled", spec := "fnRolled", apart := false }
def FnRolledSaid : Prop := fnRolledRow.holds Try.pinned (OpenSpec.ofChange fnRolledSpec)

/-- ITS FALSE NEIGHBOUR: 'it returns false'. Refute it at one input. -/
def fnRolledWrong : ChangeSpec := { name := "fnRolled", fn := fun _ => fun
  | [d] => { results := [.lit (.bool false)], args := [d] }
  | _ => none }
def FnRolledWrongFalsely : Prop := fnRolledRow.holds Try.pinned (OpenSpec.ofChange fnRolledWrong)

/- THE SECOND FORM. 'bulk': how many values and letters a reading holds, each counted each time it is reached (what is shared counts as often as it is met; a slice's spare places count too). A statement '..UptoSaid' is the law's where the arguments, and the package variables that the reading takes, are together of bulk at most 1048576: NARROWER than '..Said'. Prove '..Said' where nothing that the law and all that it calls make is longer than what came in: it says more and counts as full. Else prove '..UptoSaid'. A law counts once. -/
mutual
def uptoBulk {H : Type} : DataW H → Nat
  | .lit (.string bytes) => bytes.length + 1
  | .lit _ => 1
  | .nil => 1
  | .ptr d => uptoBulk d + 1
  | .slice elems spare => uptoBulkAll elems + uptoBulkAll spare + 1
  | .agg parts => uptoBulkAll parts + 1
  | .iface _ d => uptoBulk d + 1
  | .map entries => uptoBulkEntries entries + 1
  | .held _ => 1
def uptoBulkAll {H : Type} : List (DataW H) → Nat
  | [] => 0
  | d :: r => uptoBulk d + uptoBulkAll r
def uptoBulkEntries {H : Type} : List (Lit × DataW H) → Nat
  | [] => 0
  | x :: r => uptoBulkEntry x + uptoBulkEntries r
def uptoBulkEntry {H : Type} : Lit × DataW H → Nat
  | (.string bytes, d) => bytes.length + uptoBulk d + 1
  | (_, d) => uptoBulk d + 1
 end
def uptoSmall : (H : Type) → List (DataW H) → Bool := fun _ ds => decide (uptoBulkAll ds ≤ 1048576)
def OpenSpec.upto (s : _root_.Go.ChangeSpec) : _root_.Go.OpenSpec := { _root_.Go.OpenSpec.ofChange s with cond := some uptoSmall }

/-- 'laws.FnExactIsTerms', WHERE WHAT IT READS IS OF BULK AT MOST 1048576: true; the input reads as it did. -/
def fnExactIsTermsUptoRow : OpenClaim := { program := "ytbkmnoedhilopaa", sum := "bdc0defe83a0ada84d79a4aab8ced79219341e2f8e04f1cc2e616717c73b54ef", func := "loop.example/g00852/laws.FnExactIsTerms", spec := "fnExactIsTerms", apart := false, narrowed := true }
def FnExactIsTermsUptoSaid : Prop := fnExactIsTermsUptoRow.holds Try.pinned (OpenSpec.upto fnExactIsTermsSpec)

/-- 'laws.FnExactToleranceFor', WHERE WHAT IT READS IS OF BULK AT MOST 1048576: true; the input reads as it did. -/
def fnExactToleranceForUptoRow : OpenClaim := { program := "ytbkmnoedhilopaa", sum := "bdc0defe83a0ada84d79a4aab8ced79219341e2f8e04f1cc2e616717c73b54ef", func := "loop.example/g00852/laws.FnExactToleranceFor", spec := "fnExactToleranceFor", apart := false, narrowed := true }
def FnExactToleranceForUptoSaid : Prop := fnExactToleranceForUptoRow.holds Try.pinned (OpenSpec.upto fnExactToleranceForSpec)

/-- 'laws.FnExactTierOf', WHERE WHAT IT READS IS OF BULK AT MOST 1048576: true; the input reads as it did. -/
def fnExactTierOfUptoRow : OpenClaim := { program := "ytbkmnoedhilopaa", sum := "bdc0defe83a0ada84d79a4aab8ced79219341e2f8e04f1cc2e616717c73b54ef", func := "loop.example/g00852/laws.FnExactTierOf", spec := "fnExactTierOf", apart := false, narrowed := true }
def FnExactTierOfUptoSaid : Prop := fnExactTierOfUptoRow.holds Try.pinned (OpenSpec.upto fnExactTierOfSpec)

/-- 'laws.FnExactChargeFor', WHERE WHAT IT READS IS OF BULK AT MOST 1048576: true; the input reads as it did. -/
def fnExactChargeForUptoRow : OpenClaim := { program := "ytbkmnoedhilopaa", sum := "bdc0defe83a0ada84d79a4aab8ced79219341e2f8e04f1cc2e616717c73b54ef", func := "loop.example/g00852/laws.FnExactChargeFor", spec := "fnExactChargeFor", apart := false, narrowed := true }
def FnExactChargeForUptoSaid : Prop := fnExactChargeForUptoRow.holds Try.pinned (OpenSpec.upto fnExactChargeForSpec)

/-- 'laws.FnExactExcessOf', WHERE WHAT IT READS IS OF BULK AT MOST 1048576: true; the input reads as it did. -/
def fnExactExcessOfUptoRow : OpenClaim := { program := "ytbkmnoedhilopaa", sum := "bdc0defe83a0ada84d79a4aab8ced79219341e2f8e04f1cc2e616717c73b54ef", func := "loop.example/g00852/laws.FnExactExcessOf", spec := "fnExactExcessOf", apart := false, narrowed := true }
def FnExactExcessOfUptoSaid : Prop := fnExactExcessOfUptoRow.holds Try.pinned (OpenSpec.upto fnExactExcessOfSpec)

/-- 'laws.FnExactCashOut', WHERE WHAT IT READS IS OF BULK AT MOST 1048576: true; the input reads as it did. -/
def fnExactCashOutUptoRow : OpenClaim := { program := "ytbkmnoedhilopaa", sum := "bdc0defe83a0ada84d79a4aab8ced79219341e2f8e04f1cc2e616717c73b54ef", func := "loop.example/g00852/laws.FnExactCashOut", spec := "fnExactCashOut", apart := false, narrowed := true }
def FnExactCashOutUptoSaid : Prop := fnExactCashOutUptoRow.holds Try.pinned (OpenSpec.upto fnExactCashOutSpec)

/-- 'laws.FnExactRollBalance', WHERE WHAT IT READS IS OF BULK AT MOST 1048576: true; the input reads as it did. -/
def fnExactRollBalanceUptoRow : OpenClaim := { program := "ytbkmnoedhilopaa", sum := "bdc0defe83a0ada84d79a4aab8ced79219341e2f8e04f1cc2e616717c73b54ef", func := "loop.example/g00852/laws.FnExactRollBalance", spec := "fnExactRollBalance", apart := false, narrowed := true }
def FnExactRollBalanceUptoSaid : Prop := fnExactRollBalanceUptoRow.holds Try.pinned (OpenSpec.upto fnExactRollBalanceSpec)

/-- 'laws.FnCharges', WHERE WHAT IT READS IS OF BULK AT MOST 1048576: true; the input reads as it did. -/
def fnChargesUptoRow : OpenClaim := { program := "ytbkmnoedhilopaa", sum := "bdc0defe83a0ada84d79a4aab8ced79219341e2f8e04f1cc2e616717c73b54ef", func := "loop.example/g00852/laws.FnCharges", spec := "fnCharges", apart := false, narrowed := true }
def FnChargesUptoSaid : Prop := fnChargesUptoRow.holds Try.pinned (OpenSpec.upto fnChargesSpec)

/-- 'laws.FnCashOut', WHERE WHAT IT READS IS OF BULK AT MOST 1048576: true; the input reads as it did. -/
def fnCashOutUptoRow : OpenClaim := { program := "ytbkmnoedhilopaa", sum := "bdc0defe83a0ada84d79a4aab8ced79219341e2f8e04f1cc2e616717c73b54ef", func := "loop.example/g00852/laws.FnCashOut", spec := "fnCashOut", apart := false, narrowed := true }
def FnCashOutUptoSaid : Prop := fnCashOutUptoRow.holds Try.pinned (OpenSpec.upto fnCashOutSpec)

/-- 'laws.FnRolled', WHERE WHAT IT READS IS OF BULK AT MOST 1048576: true; the input reads as it did. -/
def fnRolledUptoRow : OpenClaim := { program := "ytbkmnoedhilopaa", sum := "bdc0defe83a0ada84d79a4aab8ced79219341e2f8e04f1cc2e616717c73b54ef", func := "loop.example/g00852/laws.FnRolled", spec := "fnRolled", apart := false, narrowed := true }
def FnRolledUptoSaid : Prop := fnRolledUptoRow.holds Try.pinned (OpenSpec.upto fnRolledSpec)

end Rows
end Go.Proofs.Ytbkmnoedhilopaa
