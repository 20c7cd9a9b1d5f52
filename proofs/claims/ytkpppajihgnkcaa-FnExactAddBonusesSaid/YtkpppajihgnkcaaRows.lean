/-
  No cell of these rows narrows 'for every input' (looked for: loops, veiled, ifaces, maps, wideKeys, modest, calm, conditions, laid).
  DERIVED. THE GIVEN ROWS OF THIS SEAT. 12 by the template 'for every input the law returns true; each argument reads behind the call as it read before'; 0 by the template 'total and deterministic' (their statements: YtkpppajihgnkcaaTotals.lean).
  GIVEN WITH THE SEED: the statements are not yours to turn. If you find one false, say at which input.
  Laid BY PROGRAM, IN A SANDBOX (cutbox-rows.mjs): the forced cells as the released guide's own fill.sh prints them over the translation d1b81d40921414fc… (all of the seat's roots in one cut). By AI agents, Wed Nov 11 2026. No macro, syntax, notation, axiom, sorry.
-/
import Derived.Test.YtkpppajihgnkcaaChecked
import GoSem.Claim
import GoSem.ClaimJoined
import GoSem.ClaimMapViews
import Derived.JoinedTies
import Derived.KernelRfl
namespace Go.Proofs.Ytkpppajihgnkcaa
/- THE CELL 'sum', in the pinned program and in every row, IS THE sha256 OF THE DUMP (.gsa) THAT YtkpppajihgnkcaaProg.lean LOADS. Nothing in Lean hashes anything: it is a label: what it is worth is what the hold of that sum in a sandbox is worth. -/
noncomputable def Try.pinned : Pinned := { name := "ytkpppajihgnkcaa", sum := "d1b81d40921414fce295fd207c7c9cdc4b31775970dc623791b1e3b75f92827b", checked := Try.checked }
namespace Rows
def none {H : Type} : Left H := { results := [], args := [] }

/-- 'laws.FnExactChangeTable': WHATEVER THE INPUT: true; the input reads as it did. -/
def fnExactChangeTableSpec : ChangeSpec := { name := "fnExactChangeTable", fn := fun _ => fun
  | [d1, d2] => { results := [.lit (.bool true)], args := [d1, d2] }
  | _ => none }
def fnExactChangeTableRow : OpenClaim := { program := "ytkpppajihgnkcaa", sum := "d1b81d40921414fce295fd207c7c9cdc4b31775970dc623791b1e3b75f92827b", func := "loop.example/g01025/laws.FnExactChangeTable", spec := "fnExactChangeTable", apart := false }
def FnExactChangeTableSaid : Prop := fnExactChangeTableRow.holds Try.pinned (OpenSpec.ofChange fnExactChangeTableSpec)

/-- ITS FALSE NEIGHBOUR: 'it returns false'. Refute it at one input. -/
def fnExactChangeTableWrong : ChangeSpec := { name := "fnExactChangeTable", fn := fun _ => fun
  | [d1, d2] => { results := [.lit (.bool false)], args := [d1, d2] }
  | _ => none }
def FnExactChangeTableWrongFalsely : Prop := fnExactChangeTableRow.holds Try.pinned (OpenSpec.ofChange fnExactChangeTableWrong)

/-- 'laws.FnExactChangeBasis': WHATEVER THE INPUT: true; the input reads as it did. -/
def fnExactChangeBasisSpec : ChangeSpec := { name := "fnExactChangeBasis", fn := fun _ => fun
  | [d1, d2] => { results := [.lit (.bool true)], args := [d1, d2] }
  | _ => none }
def fnExactChangeBasisRow : OpenClaim := { program := "ytkpppajihgnkcaa", sum := "d1b81d40921414fce295fd207c7c9cdc4b31775970dc623791b1e3b75f92827b", func := "loop.example/g01025/laws.FnExactChangeBasis", spec := "fnExactChangeBasis", apart := false }
def FnExactChangeBasisSaid : Prop := fnExactChangeBasisRow.holds Try.pinned (OpenSpec.ofChange fnExactChangeBasisSpec)

/-- ITS FALSE NEIGHBOUR: 'it returns false'. Refute it at one input. -/
def fnExactChangeBasisWrong : ChangeSpec := { name := "fnExactChangeBasis", fn := fun _ => fun
  | [d1, d2] => { results := [.lit (.bool false)], args := [d1, d2] }
  | _ => none }
def FnExactChangeBasisWrongFalsely : Prop := fnExactChangeBasisRow.holds Try.pinned (OpenSpec.ofChange fnExactChangeBasisWrong)

/-- 'laws.FnExactAdditionFor': WHATEVER THE INPUT: true; the input reads as it did. -/
def fnExactAdditionForSpec : ChangeSpec := { name := "fnExactAdditionFor", fn := fun _ => fun
  | [d1, d2, d3] => { results := [.lit (.bool true)], args := [d1, d2, d3] }
  | _ => none }
def fnExactAdditionForRow : OpenClaim := { program := "ytkpppajihgnkcaa", sum := "d1b81d40921414fce295fd207c7c9cdc4b31775970dc623791b1e3b75f92827b", func := "loop.example/g01025/laws.FnExactAdditionFor", spec := "fnExactAdditionFor", unfollowed := true, recurses := true, named := ["math/bits.divideError", "math/bits.overflowError"], apart := false }
def FnExactAdditionForSaid : Prop := fnExactAdditionForRow.holds Try.pinned (OpenSpec.ofChange fnExactAdditionForSpec)

/-- ITS FALSE NEIGHBOUR: 'it returns false'. Refute it at one input. -/
def fnExactAdditionForWrong : ChangeSpec := { name := "fnExactAdditionFor", fn := fun _ => fun
  | [d1, d2, d3] => { results := [.lit (.bool false)], args := [d1, d2, d3] }
  | _ => none }
def FnExactAdditionForWrongFalsely : Prop := fnExactAdditionForRow.holds Try.pinned (OpenSpec.ofChange fnExactAdditionForWrong)

/-- 'laws.FnExactPremiumIncome': WHATEVER THE INPUT: true; the input reads as it did. -/
def fnExactPremiumIncomeSpec : ChangeSpec := { name := "fnExactPremiumIncome", fn := fun _ => fun
  | [d1, d2] => { results := [.lit (.bool true)], args := [d1, d2] }
  | _ => none }
def fnExactPremiumIncomeRow : OpenClaim := { program := "ytkpppajihgnkcaa", sum := "d1b81d40921414fce295fd207c7c9cdc4b31775970dc623791b1e3b75f92827b", func := "loop.example/g01025/laws.FnExactPremiumIncome", spec := "fnExactPremiumIncome", unfollowed := true, recurses := true, named := ["math/bits.divideError", "math/bits.overflowError"], apart := false }
def FnExactPremiumIncomeSaid : Prop := fnExactPremiumIncomeRow.holds Try.pinned (OpenSpec.ofChange fnExactPremiumIncomeSpec)

/-- ITS FALSE NEIGHBOUR: 'it returns false'. Refute it at one input. -/
def fnExactPremiumIncomeWrong : ChangeSpec := { name := "fnExactPremiumIncome", fn := fun _ => fun
  | [d1, d2] => { results := [.lit (.bool false)], args := [d1, d2] }
  | _ => none }
def FnExactPremiumIncomeWrongFalsely : Prop := fnExactPremiumIncomeRow.holds Try.pinned (OpenSpec.ofChange fnExactPremiumIncomeWrong)

/-- 'laws.FnExactTotalReserve': WHATEVER THE INPUT: true; the input reads as it did. -/
def fnExactTotalReserveSpec : ChangeSpec := { name := "fnExactTotalReserve", fn := fun _ => fun
  | [d1, d2] => { results := [.lit (.bool true)], args := [d1, d2] }
  | _ => none }
def fnExactTotalReserveRow : OpenClaim := { program := "ytkpppajihgnkcaa", sum := "d1b81d40921414fce295fd207c7c9cdc4b31775970dc623791b1e3b75f92827b", func := "loop.example/g01025/laws.FnExactTotalReserve", spec := "fnExactTotalReserve", unfollowed := true, recurses := true, named := ["math/bits.divideError", "math/bits.overflowError"], apart := false }
def FnExactTotalReserveSaid : Prop := fnExactTotalReserveRow.holds Try.pinned (OpenSpec.ofChange fnExactTotalReserveSpec)

/-- ITS FALSE NEIGHBOUR: 'it returns false'. Refute it at one input. -/
def fnExactTotalReserveWrong : ChangeSpec := { name := "fnExactTotalReserve", fn := fun _ => fun
  | [d1, d2] => { results := [.lit (.bool false)], args := [d1, d2] }
  | _ => none }
def FnExactTotalReserveWrongFalsely : Prop := fnExactTotalReserveRow.holds Try.pinned (OpenSpec.ofChange fnExactTotalReserveWrong)

/-- 'laws.FnExactLargestHolding': WHATEVER THE INPUT: true; the input reads as it did. -/
def fnExactLargestHoldingSpec : ChangeSpec := { name := "fnExactLargestHolding", fn := fun _ => fun
  | [d1, d2] => { results := [.lit (.bool true)], args := [d1, d2] }
  | _ => none }
def fnExactLargestHoldingRow : OpenClaim := { program := "ytkpppajihgnkcaa", sum := "d1b81d40921414fce295fd207c7c9cdc4b31775970dc623791b1e3b75f92827b", func := "loop.example/g01025/laws.FnExactLargestHolding", spec := "fnExactLargestHolding", unfollowed := true, recurses := true, named := ["math/bits.divideError", "math/bits.overflowError"], apart := false }
def FnExactLargestHoldingSaid : Prop := fnExactLargestHoldingRow.holds Try.pinned (OpenSpec.ofChange fnExactLargestHoldingSpec)

/-- ITS FALSE NEIGHBOUR: 'it returns false'. Refute it at one input. -/
def fnExactLargestHoldingWrong : ChangeSpec := { name := "fnExactLargestHolding", fn := fun _ => fun
  | [d1, d2] => { results := [.lit (.bool false)], args := [d1, d2] }
  | _ => none }
def FnExactLargestHoldingWrongFalsely : Prop := fnExactLargestHoldingRow.holds Try.pinned (OpenSpec.ofChange fnExactLargestHoldingWrong)

/-- 'laws.FnExactBonusRate': WHATEVER THE INPUT: true; the input reads as it did. -/
def fnExactBonusRateSpec : ChangeSpec := { name := "fnExactBonusRate", fn := fun _ => fun
  | [d1, d2, d3] => { results := [.lit (.bool true)], args := [d1, d2, d3] }
  | _ => none }
def fnExactBonusRateRow : OpenClaim := { program := "ytkpppajihgnkcaa", sum := "d1b81d40921414fce295fd207c7c9cdc4b31775970dc623791b1e3b75f92827b", func := "loop.example/g01025/laws.FnExactBonusRate", spec := "fnExactBonusRate", unfollowed := true, recurses := true, named := ["math/bits.divideError", "math/bits.overflowError"], apart := false }
def FnExactBonusRateSaid : Prop := fnExactBonusRateRow.holds Try.pinned (OpenSpec.ofChange fnExactBonusRateSpec)

/-- ITS FALSE NEIGHBOUR: 'it returns false'. Refute it at one input. -/
def fnExactBonusRateWrong : ChangeSpec := { name := "fnExactBonusRate", fn := fun _ => fun
  | [d1, d2, d3] => { results := [.lit (.bool false)], args := [d1, d2, d3] }
  | _ => none }
def FnExactBonusRateWrongFalsely : Prop := fnExactBonusRateRow.holds Try.pinned (OpenSpec.ofChange fnExactBonusRateWrong)

/-- 'laws.FnExactReserveByKind': WHATEVER THE INPUT: true; the input reads as it did. -/
def fnExactReserveByKindSpec : ChangeSpec := { name := "fnExactReserveByKind", fn := fun _ => fun
  | [d1, d2] => { results := [.lit (.bool true)], args := [d1, d2] }
  | _ => none }
def fnExactReserveByKindRow : OpenClaim := { program := "ytkpppajihgnkcaa", sum := "d1b81d40921414fce295fd207c7c9cdc4b31775970dc623791b1e3b75f92827b", func := "loop.example/g01025/laws.FnExactReserveByKind", spec := "fnExactReserveByKind", unfollowed := true, recurses := true, named := ["math/bits.divideError", "math/bits.overflowError"], apart := false }
def FnExactReserveByKindSaid : Prop := fnExactReserveByKindRow.holds Try.pinned (OpenSpec.ofChange fnExactReserveByKindSpec)

/-- ITS FALSE NEIGHBOUR: 'it returns false'. Refute it at one input. -/
def fnExactReserveByKindWrong : ChangeSpec := { name := "fnExactReserveByKind", fn := fun _ => fun
  | [d1, d2] => { results := [.lit (.bool false)], args := [d1, d2] }
  | _ => none }
def FnExactReserveByKindWrongFalsely : Prop := fnExactReserveByKindRow.holds Try.pinned (OpenSpec.ofChange fnExactReserveByKindWrong)

/-- 'laws.FnExactAddBonuses': WHATEVER THE INPUT: true; the input reads as it did. -/
def fnExactAddBonusesSpec : ChangeSpec := { name := "fnExactAddBonuses", fn := fun _ => fun
  | [d1, d2, d3] => { results := [.lit (.bool true)], args := [d1, d2, d3] }
  | _ => none }
def fnExactAddBonusesRow : OpenClaim := { program := "ytkpppajihgnkcaa", sum := "d1b81d40921414fce295fd207c7c9cdc4b31775970dc623791b1e3b75f92827b", func := "loop.example/g01025/laws.FnExactAddBonuses", spec := "fnExactAddBonuses", unfollowed := true, recurses := true, named := ["math/bits.divideError", "math/bits.overflowError"], apart := false }
def FnExactAddBonusesSaid : Prop := fnExactAddBonusesRow.holds Try.pinned (OpenSpec.ofChange fnExactAddBonusesSpec)

/-- ITS FALSE NEIGHBOUR: 'it returns false'. Refute it at one input. -/
def fnExactAddBonusesWrong : ChangeSpec := { name := "fnExactAddBonuses", fn := fun _ => fun
  | [d1, d2, d3] => { results := [.lit (.bool false)], args := [d1, d2, d3] }
  | _ => none }
def FnExactAddBonusesWrongFalsely : Prop := fnExactAddBonusesRow.holds Try.pinned (OpenSpec.ofChange fnExactAddBonusesWrong)

/-- 'laws.FnExactRequiredReserve': WHATEVER THE INPUT: true; the input reads as it did. -/
def fnExactRequiredReserveSpec : ChangeSpec := { name := "fnExactRequiredReserve", fn := fun _ => fun
  | [d1, d2, d3] => { results := [.lit (.bool true)], args := [d1, d2, d3] }
  | _ => none }
def fnExactRequiredReserveRow : OpenClaim := { program := "ytkpppajihgnkcaa", sum := "d1b81d40921414fce295fd207c7c9cdc4b31775970dc623791b1e3b75f92827b", func := "loop.example/g01025/laws.FnExactRequiredReserve", spec := "fnExactRequiredReserve", unfollowed := true, recurses := true, named := ["math/bits.divideError", "math/bits.overflowError"], apart := false }
def FnExactRequiredReserveSaid : Prop := fnExactRequiredReserveRow.holds Try.pinned (OpenSpec.ofChange fnExactRequiredReserveSpec)

/-- ITS FALSE NEIGHBOUR: 'it returns false'. Refute it at one input. -/
def fnExactRequiredReserveWrong : ChangeSpec := { name := "fnExactRequiredReserve", fn := fun _ => fun
  | [d1, d2, d3] => { results := [.lit (.bool false)], args := [d1, d2, d3] }
  | _ => none }
def FnExactRequiredReserveWrongFalsely : Prop := fnExactRequiredReserveRow.holds Try.pinned (OpenSpec.ofChange fnExactRequiredReserveWrong)

/-- 'laws.FnExactBonusWeights': WHATEVER THE INPUT: true; the input reads as it did. -/
def fnExactBonusWeightsSpec : ChangeSpec := { name := "fnExactBonusWeights", fn := fun _ => fun
  | [d1, d2] => { results := [.lit (.bool true)], args := [d1, d2] }
  | _ => none }
def fnExactBonusWeightsRow : OpenClaim := { program := "ytkpppajihgnkcaa", sum := "d1b81d40921414fce295fd207c7c9cdc4b31775970dc623791b1e3b75f92827b", func := "loop.example/g01025/laws.FnExactBonusWeights", spec := "fnExactBonusWeights", unfollowed := true, recurses := true, named := ["math/bits.divideError", "math/bits.overflowError"], apart := false }
def FnExactBonusWeightsSaid : Prop := fnExactBonusWeightsRow.holds Try.pinned (OpenSpec.ofChange fnExactBonusWeightsSpec)

/-- ITS FALSE NEIGHBOUR: 'it returns false'. Refute it at one input. -/
def fnExactBonusWeightsWrong : ChangeSpec := { name := "fnExactBonusWeights", fn := fun _ => fun
  | [d1, d2] => { results := [.lit (.bool false)], args := [d1, d2] }
  | _ => none }
def FnExactBonusWeightsWrongFalsely : Prop := fnExactBonusWeightsRow.holds Try.pinned (OpenSpec.ofChange fnExactBonusWeightsWrong)

/-- 'laws.FnExactMissingMoney': WHATEVER THE INPUT: true; the input reads as it did. -/
def fnExactMissingMoneySpec : ChangeSpec := { name := "fnExactMissingMoney", fn := fun _ => fun
  | [d1, d2, d3, d4] => { results := [.lit (.bool true)], args := [d1, d2, d3, d4] }
  | _ => none }
def fnExactMissingMoneyRow : OpenClaim := { program := "ytkpppajihgnkcaa", sum := "d1b81d40921414fce295fd207c7c9cdc4b31775970dc623791b1e3b75f92827b", func := "loop.example/g01025/laws.FnExactMissingMoney", spec := "fnExactMissingMoney", unfollowed := true, recurses := true, named := ["math/bits.divideError", "math/bits.overflowError"], apart := false }
def FnExactMissingMoneySaid : Prop := fnExactMissingMoneyRow.holds Try.pinned (OpenSpec.ofChange fnExactMissingMoneySpec)

/-- ITS FALSE NEIGHBOUR: 'it returns false'. Refute it at one input. -/
def fnExactMissingMoneyWrong : ChangeSpec := { name := "fnExactMissingMoney", fn := fun _ => fun
  | [d1, d2, d3, d4] => { results := [.lit (.bool false)], args := [d1, d2, d3, d4] }
  | _ => none }
def FnExactMissingMoneyWrongFalsely : Prop := fnExactMissingMoneyRow.holds Try.pinned (OpenSpec.ofChange fnExactMissingMoneyWrong)

/- THE SECOND FORM. 'bulk': how many values and letters a reading holds, each counted each time it is reached (what is shared counts as often as it is met; a slice's spare places count too). A statement '..UptoSaid' is the law's where the arguments, and the package variables that the reading takes, are together of bulk at most 1048576: NARROWER than '..Said'. Prove '..Said' where nothing that the law and all that it calls make is longer than what came in: it says more and counts as full. Else prove '..UptoSaid'. A law counts once. -/
mutual
def uptoBulk {H : Type} : DataW H → Nat
  | .lit (.string bytes) => bytes.length + 1
  | .lit _ => 1
  | .nil => 1
  | .ptr d => uptoBulk d + 1
  | .slice elems spare => uptoBulkAll elems + uptoBulkAll spare + 1
  | .agg parts => uptoBulkAll parts + 1
  | .iface _ d => uptoBulk d + 1
  | .map entries => uptoBulkEntries entries + 1
  | .held _ => 1
def uptoBulkAll {H : Type} : List (DataW H) → Nat
  | [] => 0
  | d :: r => uptoBulk d + uptoBulkAll r
def uptoBulkEntries {H : Type} : List (Lit × DataW H) → Nat
  | [] => 0
  | x :: r => uptoBulkEntry x + uptoBulkEntries r
def uptoBulkEntry {H : Type} : Lit × DataW H → Nat
  | (.string bytes, d) => bytes.length + uptoBulk d + 1
  | (_, d) => uptoBulk d + 1
 end
def uptoSmall : (H : Type) → List (DataW H) → Bool := fun _ ds => decide (uptoBulkAll ds ≤ 1048576)
def OpenSpec.upto (s : _root_.Go.ChangeSpec) : _root_.Go.OpenSpec := { _root_.Go.OpenSpec.ofChange s with cond := some uptoSmall }

/-- 'laws.FnExactChangeTable', WHERE WHAT IT READS IS OF BULK AT MOST 1048576: true; the input reads as it did. -/
def fnExactChangeTableUptoRow : OpenClaim := { program := "ytkpppajihgnkcaa", sum := "d1b81d40921414fce295fd207c7c9cdc4b31775970dc623791b1e3b75f92827b", func := "loop.example/g01025/laws.FnExactChangeTable", spec := "fnExactChangeTable", apart := false, narrowed := true }
def FnExactChangeTableUptoSaid : Prop := fnExactChangeTableUptoRow.holds Try.pinned (OpenSpec.upto fnExactChangeTableSpec)

/-- 'laws.FnExactChangeBasis', WHERE WHAT IT READS IS OF BULK AT MOST 1048576: true; the input reads as it did. -/
def fnExactChangeBasisUptoRow : OpenClaim := { program := "ytkpppajihgnkcaa", sum := "d1b81d40921414fce295fd207c7c9cdc4b31775970dc623791b1e3b75f92827b", func := "loop.example/g01025/laws.FnExactChangeBasis", spec := "fnExactChangeBasis", apart := false, narrowed := true }
def FnExactChangeBasisUptoSaid : Prop := fnExactChangeBasisUptoRow.holds Try.pinned (OpenSpec.upto fnExactChangeBasisSpec)

/-- 'laws.FnExactAdditionFor', WHERE WHAT IT READS IS OF BULK AT MOST 1048576: true; the input reads as it did. -/
def fnExactAdditionForUptoRow : OpenClaim := { program := "ytkpppajihgnkcaa", sum := "d1b81d40921414fce295fd207c7c9cdc4b31775970dc623791b1e3b75f92827b", func := "loop.example/g01025/laws.FnExactAdditionFor", spec := "fnExactAdditionFor", unfollowed := true, recurses := true, named := ["math/bits.divideError", "math/bits.overflowError"], apart := false, narrowed := true }
def FnExactAdditionForUptoSaid : Prop := fnExactAdditionForUptoRow.holds Try.pinned (OpenSpec.upto fnExactAdditionForSpec)

/-- 'laws.FnExactPremiumIncome', WHERE WHAT IT READS IS OF BULK AT MOST 1048576: true; the input reads as it did. -/
def fnExactPremiumIncomeUptoRow : OpenClaim := { program := "ytkpppajihgnkcaa", sum := "d1b81d40921414fce295fd207c7c9cdc4b31775970dc623791b1e3b75f92827b", func := "loop.example/g01025/laws.FnExactPremiumIncome", spec := "fnExactPremiumIncome", unfollowed := true, recurses := true, named := ["math/bits.divideError", "math/bits.overflowError"], apart := false, narrowed := true }
def FnExactPremiumIncomeUptoSaid : Prop := fnExactPremiumIncomeUptoRow.holds Try.pinned (OpenSpec.upto fnExactPremiumIncomeSpec)

/-- 'laws.FnExactTotalReserve', WHERE WHAT IT READS IS OF BULK AT MOST 1048576: true; the input reads as it did. -/
def fnExactTotalReserveUptoRow : OpenClaim := { program := "ytkpppajihgnkcaa", sum := "d1b81d40921414fce295fd207c7c9cdc4b31775970dc623791b1e3b75f92827b", func := "loop.example/g01025/laws.FnExactTotalReserve", spec := "fnExactTotalReserve", unfollowed := true, recurses := true, named := ["math/bits.divideError", "math/bits.overflowError"], apart := false, narrowed := true }
def FnExactTotalReserveUptoSaid : Prop := fnExactTotalReserveUptoRow.holds Try.pinned (OpenSpec.upto fnExactTotalReserveSpec)

/-- 'laws.FnExactLargestHolding', WHERE WHAT IT READS IS OF BULK AT MOST 1048576: true; the input reads as it did. -/
def fnExactLargestHoldingUptoRow : OpenClaim := { program := "ytkpppajihgnkcaa", sum := "d1b81d40921414fce295fd207c7c9cdc4b31775970dc623791b1e3b75f92827b", func := "loop.example/g01025/laws.FnExactLargestHolding", spec := "fnExactLargestHolding", unfollowed := true, recurses := true, named := ["math/bits.divideError", "math/bits.overflowError"], apart := false, narrowed := true }
def FnExactLargestHoldingUptoSaid : Prop := fnExactLargestHoldingUptoRow.holds Try.pinned (OpenSpec.upto fnExactLargestHoldingSpec)

/-- 'laws.FnExactBonusRate', WHERE WHAT IT READS IS OF BULK AT MOST 1048576: true; the input reads as it did. -/
def fnExactBonusRateUptoRow : OpenClaim := { program := "ytkpppajihgnkcaa", sum := "d1b81d40921414fce295fd207c7c9cdc4b31775970dc623791b1e3b75f92827b", func := "loop.example/g01025/laws.FnExactBonusRate", spec := "fnExactBonusRate", unfollowed := true, recurses := true, named := ["math/bits.divideError", "math/bits.overflowError"], apart := false, narrowed := true }
def FnExactBonusRateUptoSaid : Prop := fnExactBonusRateUptoRow.holds Try.pinned (OpenSpec.upto fnExactBonusRateSpec)

/-- 'laws.FnExactReserveByKind', WHERE WHAT IT READS IS OF BULK AT MOST 1048576: true; the input reads as it did. -/
def fnExactReserveByKindUptoRow : OpenClaim := { program := "ytkpppajihgnkcaa", sum := "d1b81d40921414fce295fd207c7c9cdc4b31775970dc623791b1e3b75f92827b", func := "loop.example/g01025/laws.FnExactReserveByKind", spec := "fnExactReserveByKind", unfollowed := true, recurses := true, named := ["math/bits.divideError", "math/bits.overflowError"], apart := false, narrowed := true }
def FnExactReserveByKindUptoSaid : Prop := fnExactReserveByKindUptoRow.holds Try.pinned (OpenSpec.upto fnExactReserveByKindSpec)

/-- 'laws.FnExactAddBonuses', WHERE WHAT IT READS IS OF BULK AT MOST 1048576: true; the input reads as it did. -/
def fnExactAddBonusesUptoRow : OpenClaim := { program := "ytkpppajihgnkcaa", sum := "d1b81d40921414fce295fd207c7c9cdc4b31775970dc623791b1e3b75f92827b", func := "loop.example/g01025/laws.FnExactAddBonuses", spec := "fnExactAddBonuses", unfollowed := true, recurses := true, named := ["math/bits.divideError", "math/bits.overflowError"], apart := false, narrowed := true }
def FnExactAddBonusesUptoSaid : Prop := fnExactAddBonusesUptoRow.holds Try.pinned (OpenSpec.upto fnExactAddBonusesSpec)

/-- 'laws.FnExactRequiredReserve', WHERE WHAT IT READS IS OF BULK AT MOST 1048576: true; the input reads as it did. -/
def fnExactRequiredReserveUptoRow : OpenClaim := { program := "ytkpppajihgnkcaa", sum := "d1b81d40921414fce295fd207c7c9cdc4b31775970dc623791b1e3b75f92827b", func := "loop.example/g01025/laws.FnExactRequiredReserve", spec := "fnExactRequiredReserve", unfollowed := true, recurses := true, named := ["math/bits.divideError", "math/bits.overflowError"], apart := false, narrowed := true }
def FnExactRequiredReserveUptoSaid : Prop := fnExactRequiredReserveUptoRow.holds Try.pinned (OpenSpec.upto fnExactRequiredReserveSpec)

/-- 'laws.FnExactBonusWeights', WHERE WHAT IT READS IS OF BULK AT MOST 1048576: true; the input reads as it did. -/
def fnExactBonusWeightsUptoRow : OpenClaim := { program := "ytkpppajihgnkcaa", sum := "d1b81d40921414fce295fd207c7c9cdc4b31775970dc623791b1e3b75f92827b", func := "loop.example/g01025/laws.FnExactBonusWeights", spec := "fnExactBonusWeights", unfollowed := true, recurses := true, named := ["math/bits.divideError", "math/bits.overflowError"], apart := false, narrowed := true }
def FnExactBonusWeightsUptoSaid : Prop := fnExactBonusWeightsUptoRow.holds Try.pinned (OpenSpec.upto fnExactBonusWeightsSpec)

/-- 'laws.FnExactMissingMoney', WHERE WHAT IT READS IS OF BULK AT MOST 1048576: true; the input reads as it did. -/
def fnExactMissingMoneyUptoRow : OpenClaim := { program := "ytkpppajihgnkcaa", sum := "d1b81d40921414fce295fd207c7c9cdc4b31775970dc623791b1e3b75f92827b", func := "loop.example/g01025/laws.FnExactMissingMoney", spec := "fnExactMissingMoney", unfollowed := true, recurses := true, named := ["math/bits.divideError", "math/bits.overflowError"], apart := false, narrowed := true }
def FnExactMissingMoneyUptoSaid : Prop := fnExactMissingMoneyUptoRow.holds Try.pinned (OpenSpec.upto fnExactMissingMoneySpec)

end Rows
end Go.Proofs.Ytkpppajihgnkcaa
