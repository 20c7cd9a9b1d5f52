/-
  No cell of these rows narrows 'for every input' (looked for: loops, veiled, ifaces, maps, wideKeys, modest, calm, conditions, laid).
  DERIVED. THE GIVEN ROWS OF THIS SEAT. 9 by the template 'for every input the law returns true; each argument reads behind the call as it read before'; 0 by the template 'total and deterministic' (their statements: YthcnkcoplgdlkaaTotals.lean).
  GIVEN WITH THE SEED: the statements are not yours to turn. If you find one false, say at which input.
  Laid BY PROGRAM, IN A SANDBOX (cutbox-rows.mjs): the forced cells as the released guide's own fill.sh prints them over the translation 9c9fc5a31f682715… (all of the seat's roots in one cut). By AI agents, Wed Nov 11 2026. No macro, syntax, notation, axiom, sorry.
-/
import Derived.Test.YthcnkcoplgdlkaaChecked
import GoSem.Claim
import GoSem.ClaimJoined
import GoSem.ClaimMapViews
import Derived.JoinedTies
import Derived.KernelRfl
namespace Go.Proofs.Ythcnkcoplgdlkaa
/- THE CELL 'sum', in the pinned program and in every row, IS THE sha256 OF THE DUMP (.gsa) THAT YthcnkcoplgdlkaaProg.lean LOADS. Nothing in Lean hashes anything: it is a label: what it is worth is what the hold of that sum in a sandbox is worth. -/
noncomputable def Try.pinned : Pinned := { name := "ythcnkcoplgdlkaa", sum := "9c9fc5a31f68271530719479bef4933536348bcad349e342bcc1a8aa6b4c5d6a", checked := Try.checked }
namespace Rows
def none {H : Type} : Left H := { results := [], args := [] }

/-- 'laws.FnExactChangeBasis': WHATEVER THE INPUT: true; the input reads as it did. -/
def fnExactChangeBasisSpec : ChangeSpec := { name := "fnExactChangeBasis", fn := fun _ => fun
  | [d1, d2] => { results := [.lit (.bool true)], args := [d1, d2] }
  | _ => none }
def fnExactChangeBasisRow : OpenClaim := { program := "ythcnkcoplgdlkaa", sum := "9c9fc5a31f68271530719479bef4933536348bcad349e342bcc1a8aa6b4c5d6a", func := "loop.example/g01025/laws.FnExactChangeBasis", spec := "fnExactChangeBasis", apart := false }
def FnExactChangeBasisSaid : Prop := fnExactChangeBasisRow.holds Try.pinned (OpenSpec.ofChange fnExactChangeBasisSpec)

/-- ITS FALSE NEIGHBOUR: 'it returns false'. Refute it at one input. -/
def fnExactChangeBasisWrong : ChangeSpec := { name := "fnExactChangeBasis", fn := fun _ => fun
  | [d1, d2] => { results := [.lit (.bool false)], args := [d1, d2] }
  | _ => none }
def FnExactChangeBasisWrongFalsely : Prop := fnExactChangeBasisRow.holds Try.pinned (OpenSpec.ofChange fnExactChangeBasisWrong)

/-- 'laws.FnLeaving': WHATEVER THE INPUT: true; the input reads as it did. -/
def fnLeavingSpec : ChangeSpec := { name := "fnLeaving", fn := fun _ => fun
  | [d] => { results := [.lit (.bool true)], args := [d] }
  | _ => none }
def fnLeavingRow : OpenClaim := { program := "ythcnkcoplgdlkaa", sum := "9c9fc5a31f68271530719479bef4933536348bcad349e342bcc1a8aa6b4c5d6a", func := "loop.example/g01025/laws.FnLeaving", spec := "fnLeaving", named := ["math/bits.divideError", "math/bits.overflowError"], apart := false }
def FnLeavingSaid : Prop := fnLeavingRow.holds Try.pinned (OpenSpec.ofChange fnLeavingSpec)

/-- ITS FALSE NEIGHBOUR: 'it returns false'. Refute it at one input. -/
def fnLeavingWrong : ChangeSpec := { name := "fnLeaving", fn := fun _ => fun
  | [d] => { results := [.lit (.bool false)], args := [d] }
  | _ => none }
def FnLeavingWrongFalsely : Prop := fnLeavingRow.holds Try.pinned (OpenSpec.ofChange fnLeavingWrong)

/-- 'laws.FnReserveLists': WHATEVER THE INPUT: true; the input reads as it did. -/
def fnReserveListsSpec : ChangeSpec := { name := "fnReserveLists", fn := fun _ => fun
  | [d] => { results := [.lit (.bool true)], args := [d] }
  | _ => none }
def fnReserveListsRow : OpenClaim := { program := "ythcnkcoplgdlkaa", sum := "9c9fc5a31f68271530719479bef4933536348bcad349e342bcc1a8aa6b4c5d6a", func := "loop.example/g01025/laws.FnReserveLists", spec := "fnReserveLists", named := ["math/bits.divideError", "math/bits.overflowError"], apart := false }
def FnReserveListsSaid : Prop := fnReserveListsRow.holds Try.pinned (OpenSpec.ofChange fnReserveListsSpec)

/-- ITS FALSE NEIGHBOUR: 'it returns false'. Refute it at one input. -/
def fnReserveListsWrong : ChangeSpec := { name := "fnReserveLists", fn := fun _ => fun
  | [d] => { results := [.lit (.bool false)], args := [d] }
  | _ => none }
def FnReserveListsWrongFalsely : Prop := fnReserveListsRow.holds Try.pinned (OpenSpec.ofChange fnReserveListsWrong)

/-- 'laws.FnAgeing': WHATEVER THE INPUT: true; the input reads as it did. -/
def fnAgeingSpec : ChangeSpec := { name := "fnAgeing", fn := fun _ => fun
  | [d] => { results := [.lit (.bool true)], args := [d] }
  | _ => none }
def fnAgeingRow : OpenClaim := { program := "ythcnkcoplgdlkaa", sum := "9c9fc5a31f68271530719479bef4933536348bcad349e342bcc1a8aa6b4c5d6a", func := "loop.example/g01025/laws.FnAgeing", spec := "fnAgeing", unfollowed := true, recurses := true, named := ["math/bits.divideError", "math/bits.overflowError"], apart := false }
def FnAgeingSaid : Prop := fnAgeingRow.holds Try.pinned (OpenSpec.ofChange fnAgeingSpec)

/-- ITS FALSE NEIGHBOUR: 'it returns false'. Refute it at one input. -/
def fnAgeingWrong : ChangeSpec := { name := "fnAgeing", fn := fun _ => fun
  | [d] => { results := [.lit (.bool false)], args := [d] }
  | _ => none }
def FnAgeingWrongFalsely : Prop := fnAgeingRow.holds Try.pinned (OpenSpec.ofChange fnAgeingWrong)

/-- 'laws.FnKeptYears': WHATEVER THE INPUT: true; the input reads as it did. -/
def fnKeptYearsSpec : ChangeSpec := { name := "fnKeptYears", fn := fun _ => fun
  | [d] => { results := [.lit (.bool true)], args := [d] }
  | _ => none }
def fnKeptYearsRow : OpenClaim := { program := "ythcnkcoplgdlkaa", sum := "9c9fc5a31f68271530719479bef4933536348bcad349e342bcc1a8aa6b4c5d6a", func := "loop.example/g01025/laws.FnKeptYears", spec := "fnKeptYears", named := ["math/bits.divideError", "math/bits.overflowError"], apart := false }
def FnKeptYearsSaid : Prop := fnKeptYearsRow.holds Try.pinned (OpenSpec.ofChange fnKeptYearsSpec)

/-- ITS FALSE NEIGHBOUR: 'it returns false'. Refute it at one input. -/
def fnKeptYearsWrong : ChangeSpec := { name := "fnKeptYears", fn := fun _ => fun
  | [d] => { results := [.lit (.bool false)], args := [d] }
  | _ => none }
def FnKeptYearsWrongFalsely : Prop := fnKeptYearsRow.holds Try.pinned (OpenSpec.ofChange fnKeptYearsWrong)

/-- 'laws.FnAdditions': WHATEVER THE INPUT: true; the input reads as it did. -/
def fnAdditionsSpec : ChangeSpec := { name := "fnAdditions", fn := fun _ => fun
  | [d] => { results := [.lit (.bool true)], args := [d] }
  | _ => none }
def fnAdditionsRow : OpenClaim := { program := "ythcnkcoplgdlkaa", sum := "9c9fc5a31f68271530719479bef4933536348bcad349e342bcc1a8aa6b4c5d6a", func := "loop.example/g01025/laws.FnAdditions", spec := "fnAdditions", unfollowed := true, recurses := true, named := ["math/bits.divideError", "math/bits.overflowError"], apart := false }
def FnAdditionsSaid : Prop := fnAdditionsRow.holds Try.pinned (OpenSpec.ofChange fnAdditionsSpec)

/-- ITS FALSE NEIGHBOUR: 'it returns false'. Refute it at one input. -/
def fnAdditionsWrong : ChangeSpec := { name := "fnAdditions", fn := fun _ => fun
  | [d] => { results := [.lit (.bool false)], args := [d] }
  | _ => none }
def FnAdditionsWrongFalsely : Prop := fnAdditionsRow.holds Try.pinned (OpenSpec.ofChange fnAdditionsWrong)

/-- 'laws.FnExactSolvencyRate': WHATEVER THE INPUT: true; the input reads as it did. -/
def fnExactSolvencyRateSpec : ChangeSpec := { name := "fnExactSolvencyRate", fn := fun _ => fun
  | [d1, d2, d3, d4] => { results := [.lit (.bool true)], args := [d1, d2, d3, d4] }
  | _ => none }
def fnExactSolvencyRateRow : OpenClaim := { program := "ythcnkcoplgdlkaa", sum := "9c9fc5a31f68271530719479bef4933536348bcad349e342bcc1a8aa6b4c5d6a", func := "loop.example/g01025/laws.FnExactSolvencyRate", spec := "fnExactSolvencyRate", unfollowed := true, recurses := true, named := ["math/bits.divideError", "math/bits.overflowError"], apart := false }
def FnExactSolvencyRateSaid : Prop := fnExactSolvencyRateRow.holds Try.pinned (OpenSpec.ofChange fnExactSolvencyRateSpec)

/-- ITS FALSE NEIGHBOUR: 'it returns false'. Refute it at one input. -/
def fnExactSolvencyRateWrong : ChangeSpec := { name := "fnExactSolvencyRate", fn := fun _ => fun
  | [d1, d2, d3, d4] => { results := [.lit (.bool false)], args := [d1, d2, d3, d4] }
  | _ => none }
def FnExactSolvencyRateWrongFalsely : Prop := fnExactSolvencyRateRow.holds Try.pinned (OpenSpec.ofChange fnExactSolvencyRateWrong)

/-- 'laws.FnExactMostDeaths': WHATEVER THE INPUT: true; the input reads as it did. -/
def fnExactMostDeathsSpec : ChangeSpec := { name := "fnExactMostDeaths", fn := fun _ => fun
  | [d1, d2, d3] => { results := [.lit (.bool true)], args := [d1, d2, d3] }
  | _ => none }
def fnExactMostDeathsRow : OpenClaim := { program := "ythcnkcoplgdlkaa", sum := "9c9fc5a31f68271530719479bef4933536348bcad349e342bcc1a8aa6b4c5d6a", func := "loop.example/g01025/laws.FnExactMostDeaths", spec := "fnExactMostDeaths", unfollowed := true, recurses := true, named := ["math/bits.divideError", "math/bits.overflowError"], apart := false }
def FnExactMostDeathsSaid : Prop := fnExactMostDeathsRow.holds Try.pinned (OpenSpec.ofChange fnExactMostDeathsSpec)

/-- ITS FALSE NEIGHBOUR: 'it returns false'. Refute it at one input. -/
def fnExactMostDeathsWrong : ChangeSpec := { name := "fnExactMostDeaths", fn := fun _ => fun
  | [d1, d2, d3] => { results := [.lit (.bool false)], args := [d1, d2, d3] }
  | _ => none }
def FnExactMostDeathsWrongFalsely : Prop := fnExactMostDeathsRow.holds Try.pinned (OpenSpec.ofChange fnExactMostDeathsWrong)

/-- 'laws.FnExactWorstScenario': WHATEVER THE INPUT: true; the input reads as it did. -/
def fnExactWorstScenarioSpec : ChangeSpec := { name := "fnExactWorstScenario", fn := fun _ => fun
  | [d1, d2, d3] => { results := [.lit (.bool true)], args := [d1, d2, d3] }
  | _ => none }
def fnExactWorstScenarioRow : OpenClaim := { program := "ythcnkcoplgdlkaa", sum := "9c9fc5a31f68271530719479bef4933536348bcad349e342bcc1a8aa6b4c5d6a", func := "loop.example/g01025/laws.FnExactWorstScenario", spec := "fnExactWorstScenario", unfollowed := true, recurses := true, named := ["math/bits.divideError", "math/bits.overflowError"], apart := false }
def FnExactWorstScenarioSaid : Prop := fnExactWorstScenarioRow.holds Try.pinned (OpenSpec.ofChange fnExactWorstScenarioSpec)

/-- ITS FALSE NEIGHBOUR: 'it returns false'. Refute it at one input. -/
def fnExactWorstScenarioWrong : ChangeSpec := { name := "fnExactWorstScenario", fn := fun _ => fun
  | [d1, d2, d3] => { results := [.lit (.bool false)], args := [d1, d2, d3] }
  | _ => none }
def FnExactWorstScenarioWrongFalsely : Prop := fnExactWorstScenarioRow.holds Try.pinned (OpenSpec.ofChange fnExactWorstScenarioWrong)

/- THE SECOND FORM. 'bulk': how many values and letters a reading holds, each counted each time it is reached (what is shared counts as often as it is met; a slice's spare places count too). A statement '..UptoSaid' is the law's where the arguments, and the package variables that the reading takes, are together of bulk at most 1048576: NARROWER than '..Said'. Prove '..Said' where nothing that the law and all that it calls make is longer than what came in: it says more and counts as full. Else prove '..UptoSaid'. A law counts once. -/
mutual
def uptoBulk {H : Type} : DataW H → Nat
  | .lit (.string bytes) => bytes.length + 1
  | .lit _ => 1
  | .nil => 1
  | .ptr d => uptoBulk d + 1
  | .slice elems spare => uptoBulkAll elems + uptoBulkAll spare + 1
  | .agg parts => uptoBulkAll parts + 1
  | .iface _ d => uptoBulk d + 1
  | .map entries => uptoBulkEntries entries + 1
  | .held _ => 1
def uptoBulkAll {H : Type} : List (DataW H) → Nat
  | [] => 0
  | d :: r => uptoBulk d + uptoBulkAll r
def uptoBulkEntries {H : Type} : List (Lit × DataW H) → Nat
  | [] => 0
  | x :: r => uptoBulkEntry x + uptoBulkEntries r
def uptoBulkEntry {H : Type} : Lit × DataW H → Nat
  | (.string bytes, d) => bytes.length + uptoBulk d + 1
  | (_, d) => uptoBulk d + 1
 end
def uptoSmall : (H : Type) → List (DataW H) → Bool := fun _ ds => decide (uptoBulkAll ds ≤ 1048576)
def OpenSpec.upto (s : _root_.Go.ChangeSpec) : _root_.Go.OpenSpec := { _root_.Go.OpenSpec.ofChange s with cond := some uptoSmall }

/-- 'laws.FnExactChangeBasis', WHERE WHAT IT READS IS OF BULK AT MOST 1048576: true; the input reads as it did. -/
def fnExactChangeBasisUptoRow : OpenClaim := { program := "ythcnkcoplgdlkaa", sum := "9c9fc5a31f68271530719479bef4933536348bcad349e342bcc1a8aa6b4c5d6a", func := "loop.example/g01025/laws.FnExactChangeBasis", spec := "fnExactChangeBasis", apart := false, narrowed := true }
def FnExactChangeBasisUptoSaid : Prop := fnExactChangeBasisUptoRow.holds Try.pinned (OpenSpec.upto fnExactChangeBasisSpec)

/-- 'laws.FnLeaving', WHERE WHAT IT READS IS OF BULK AT MOST 1048576: true; the input reads as it did. -/
def fnLeavingUptoRow : OpenClaim := { program := "ythcnkcoplgdlkaa", sum := "9c9fc5a31f68271530719479bef4933536348bcad349e342bcc1a8aa6b4c5d6a", func := "loop.example/g01025/laws.FnLeaving", spec := "fnLeaving", named := ["math/bits.divideError", "math/bits.overflowError"], apart := false, narrowed := true }
def FnLeavingUptoSaid : Prop := fnLeavingUptoRow.holds Try.pinned (OpenSpec.upto fnLeavingSpec)

/-- 'laws.FnReserveLists', WHERE WHAT IT READS IS OF BULK AT MOST 1048576: true; the input reads as it did. -/
def fnReserveListsUptoRow : OpenClaim := { program := "ythcnkcoplgdlkaa", sum := "9c9fc5a31f68271530719479bef4933536348bcad349e342bcc1a8aa6b4c5d6a", func := "loop.example/g01025/laws.FnReserveLists", spec := "fnReserveLists", named := ["math/bits.divideError", "math/bits.overflowError"], apart := false, narrowed := true }
def FnReserveListsUptoSaid : Prop := fnReserveListsUptoRow.holds Try.pinned (OpenSpec.upto fnReserveListsSpec)

/-- 'laws.FnAgeing', WHERE WHAT IT READS IS OF BULK AT MOST 1048576: true; the input reads as it did. -/
def fnAgeingUptoRow : OpenClaim := { program := "ythcnkcoplgdlkaa", sum := "9c9fc5a31f68271530719479bef4933536348bcad349e342bcc1a8aa6b4c5d6a", func := "loop.example/g01025/laws.FnAgeing", spec := "fnAgeing", unfollowed := true, recurses := true, named := ["math/bits.divideError", "math/bits.overflowError"], apart := false, narrowed := true }
def FnAgeingUptoSaid : Prop := fnAgeingUptoRow.holds Try.pinned (OpenSpec.upto fnAgeingSpec)

/-- 'laws.FnKeptYears', WHERE WHAT IT READS IS OF BULK AT MOST 1048576: true; the input reads as it did. -/
def fnKeptYearsUptoRow : OpenClaim := { program := "ythcnkcoplgdlkaa", sum := "9c9fc5a31f68271530719479bef4933536348bcad349e342bcc1a8aa6b4c5d6a", func := "loop.example/g01025/laws.FnKeptYears", spec := "fnKeptYears", named := ["math/bits.divideError", "math/bits.overflowError"], apart := false, narrowed := true }
def FnKeptYearsUptoSaid : Prop := fnKeptYearsUptoRow.holds Try.pinned (OpenSpec.upto fnKeptYearsSpec)

/-- 'laws.FnAdditions', WHERE WHAT IT READS IS OF BULK AT MOST 1048576: true; the input reads as it did. -/
def fnAdditionsUptoRow : OpenClaim := { program := "ythcnkcoplgdlkaa", sum := "9c9fc5a31f68271530719479bef4933536348bcad349e342bcc1a8aa6b4c5d6a", func := "loop.example/g01025/laws.FnAdditions", spec := "fnAdditions", unfollowed := true, recurses := true, named := ["math/bits.divideError", "math/bits.overflowError"], apart := false, narrowed := true }
def FnAdditionsUptoSaid : Prop := fnAdditionsUptoRow.holds Try.pinned (OpenSpec.upto fnAdditionsSpec)

/-- 'laws.FnExactSolvencyRate', WHERE WHAT IT READS IS OF BULK AT MOST 1048576: true; the input reads as it did. -/
def fnExactSolvencyRateUptoRow : OpenClaim := { program := "ythcnkcoplgdlkaa", sum := "9c9fc5a31f68271530719479bef4933536348bcad349e342bcc1a8aa6b4c5d6a", func := "loop.example/g01025/laws.FnExactSolvencyRate", spec := "fnExactSolvencyRate", unfollowed := true, recurses := true, named := ["math/bits.divideError", "math/bits.overflowError"], apart := false, narrowed := true }
def FnExactSolvencyRateUptoSaid : Prop := fnExactSolvencyRateUptoRow.holds Try.pinned (OpenSpec.upto fnExactSolvencyRateSpec)

/-- 'laws.FnExactMostDeaths', WHERE WHAT IT READS IS OF BULK AT MOST 1048576: true; the input reads as it did. -/
def fnExactMostDeathsUptoRow : OpenClaim := { program := "ythcnkcoplgdlkaa", sum := "9c9fc5a31f68271530719479bef4933536348bcad349e342bcc1a8aa6b4c5d6a", func := "loop.example/g01025/laws.FnExactMostDeaths", spec := "fnExactMostDeaths", unfollowed := true, recurses := true, named := ["math/bits.divideError", "math/bits.overflowError"], apart := false, narrowed := true }
def FnExactMostDeathsUptoSaid : Prop := fnExactMostDeathsUptoRow.holds Try.pinned (OpenSpec.upto fnExactMostDeathsSpec)

/-- 'laws.FnExactWorstScenario', WHERE WHAT IT READS IS OF BULK AT MOST 1048576: true; the input reads as it did. -/
def fnExactWorstScenarioUptoRow : OpenClaim := { program := "ythcnkcoplgdlkaa", sum := "9c9fc5a31f68271530719479bef4933536348bcad349e342bcc1a8aa6b4c5d6a", func := "loop.example/g01025/laws.FnExactWorstScenario", spec := "fnExactWorstScenario", unfollowed := true, recurses := true, named := ["math/bits.divideError", "math/bits.overflowError"], apart := false, narrowed := true }
def FnExactWorstScenarioUptoSaid : Prop := fnExactWorstScenarioUptoRow.holds Try.pinned (OpenSpec.upto fnExactWorstScenarioSpec)

end Rows
end Go.Proofs.Ythcnkcoplgdlkaa
