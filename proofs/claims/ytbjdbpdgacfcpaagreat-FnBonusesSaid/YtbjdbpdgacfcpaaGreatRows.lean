/-
  No cell of these rows narrows 'for every input' (looked for: loops, veiled, ifaces, maps, wideKeys, modest, calm, conditions, laid).
  DERIVED. THE GIVEN ROWS OF THIS SEAT. 5 by the template 'for every input the law returns true; each argument reads behind the call as it read before'; 0 by the template 'total and deterministic' (their statements: YtbjdbpdgacfcpaaGreatTotals.lean).
  GIVEN WITH THE SEED: the statements are not yours to turn. If you find one false, say at which input.
  Laid BY PROGRAM, IN A SANDBOX (cutbox-rows.mjs): the forced cells as the released guide's own fill.sh prints them over the translation 7523e15f5a08457d… (all of the seat's roots in one cut). By AI agents, Wed Nov 11 2026. No macro, syntax, notation, axiom, sorry.
-/
import Derived.Test.YtbjdbpdgacfcpaaGreatChecked
import GoSem.Claim
import GoSem.ClaimJoined
import GoSem.ClaimMapViews
import Derived.JoinedTies
import Derived.KernelRfl
namespace Go.Proofs.YtbjdbpdgacfcpaaGreat
/- THE CELL 'sum', in the pinned program and in every row, IS THE sha256 OF THE DUMP (.gsa) THAT YtbjdbpdgacfcpaaGreatProg.lean LOADS. Nothing in Lean hashes anything: it is a label: what it is worth is what the hold of that sum in a sandbox is worth. -/
noncomputable def Tryz.pinned : Pinned := { name := "ytbjdbpdgacfcpaagreat", sum := "7523e15f5a08457d028b6f5994ca75f13c1ca577046e279f717298af2cc0dd71", checked := Tryz.checked }
namespace Rows
def none {H : Type} : Left H := { results := [], args := [] }

/-- 'laws.FnScenarios': WHATEVER THE INPUT: true; the input reads as it did. -/
def fnScenariosSpec : ChangeSpec := { name := "fnScenarios", fn := fun _ => fun
  | [d] => { results := [.lit (.bool true)], args := [d] }
  | _ => none }
def fnScenariosRow : OpenClaim := { program := "ytbjdbpdgacfcpaagreat", sum := "7523e15f5a08457d028b6f5994ca75f13c1ca577046e279f717298af2cc0dd71", func := "loop.example/g01025/laws.FnScenarios", spec := "fnScenarios", unfollowed := true, recurses := true, named := ["math/bits.divideError", "math/bits.overflowError"], apart := false }
def FnScenariosSaid : Prop := fnScenariosRow.holds Tryz.pinned (OpenSpec.ofChange fnScenariosSpec)

/-- ITS FALSE NEIGHBOUR: 'it returns false'. Refute it at one input. -/
def fnScenariosWrong : ChangeSpec := { name := "fnScenarios", fn := fun _ => fun
  | [d] => { results := [.lit (.bool false)], args := [d] }
  | _ => none }
def FnScenariosWrongFalsely : Prop := fnScenariosRow.holds Tryz.pinned (OpenSpec.ofChange fnScenariosWrong)

/-- 'laws.FnSolvency': WHATEVER THE INPUT: true; the input reads as it did. -/
def fnSolvencySpec : ChangeSpec := { name := "fnSolvency", fn := fun _ => fun
  | [d] => { results := [.lit (.bool true)], args := [d] }
  | _ => none }
def fnSolvencyRow : OpenClaim := { program := "ytbjdbpdgacfcpaagreat", sum := "7523e15f5a08457d028b6f5994ca75f13c1ca577046e279f717298af2cc0dd71", func := "loop.example/g01025/laws.FnSolvency", spec := "fnSolvency", unfollowed := true, recurses := true, named := ["math/bits.divideError", "math/bits.overflowError"], apart := false }
def FnSolvencySaid : Prop := fnSolvencyRow.holds Tryz.pinned (OpenSpec.ofChange fnSolvencySpec)

/-- ITS FALSE NEIGHBOUR: 'it returns false'. Refute it at one input. -/
def fnSolvencyWrong : ChangeSpec := { name := "fnSolvency", fn := fun _ => fun
  | [d] => { results := [.lit (.bool false)], args := [d] }
  | _ => none }
def FnSolvencyWrongFalsely : Prop := fnSolvencyRow.holds Tryz.pinned (OpenSpec.ofChange fnSolvencyWrong)

/-- 'laws.FnValuation': WHATEVER THE INPUT: true; the input reads as it did. -/
def fnValuationSpec : ChangeSpec := { name := "fnValuation", fn := fun _ => fun
  | [d] => { results := [.lit (.bool true)], args := [d] }
  | _ => none }
def fnValuationRow : OpenClaim := { program := "ytbjdbpdgacfcpaagreat", sum := "7523e15f5a08457d028b6f5994ca75f13c1ca577046e279f717298af2cc0dd71", func := "loop.example/g01025/laws.FnValuation", spec := "fnValuation", unfollowed := true, recurses := true, named := ["math/bits.divideError", "math/bits.overflowError"], apart := false }
def FnValuationSaid : Prop := fnValuationRow.holds Tryz.pinned (OpenSpec.ofChange fnValuationSpec)

/-- ITS FALSE NEIGHBOUR: 'it returns false'. Refute it at one input. -/
def fnValuationWrong : ChangeSpec := { name := "fnValuation", fn := fun _ => fun
  | [d] => { results := [.lit (.bool false)], args := [d] }
  | _ => none }
def FnValuationWrongFalsely : Prop := fnValuationRow.holds Tryz.pinned (OpenSpec.ofChange fnValuationWrong)

/-- 'laws.FnExactDivideBonus': WHATEVER THE INPUT: true; the input reads as it did. -/
def fnExactDivideBonusSpec : ChangeSpec := { name := "fnExactDivideBonus", fn := fun _ => fun
  | [d1, d2, d3, d4] => { results := [.lit (.bool true)], args := [d1, d2, d3, d4] }
  | _ => none }
def fnExactDivideBonusRow : OpenClaim := { program := "ytbjdbpdgacfcpaagreat", sum := "7523e15f5a08457d028b6f5994ca75f13c1ca577046e279f717298af2cc0dd71", func := "loop.example/g01025/laws.FnExactDivideBonus", spec := "fnExactDivideBonus", unfollowed := true, recurses := true, named := ["math/bits.divideError", "math/bits.overflowError"], apart := false }
def FnExactDivideBonusSaid : Prop := fnExactDivideBonusRow.holds Tryz.pinned (OpenSpec.ofChange fnExactDivideBonusSpec)

/-- ITS FALSE NEIGHBOUR: 'it returns false'. Refute it at one input. -/
def fnExactDivideBonusWrong : ChangeSpec := { name := "fnExactDivideBonus", fn := fun _ => fun
  | [d1, d2, d3, d4] => { results := [.lit (.bool false)], args := [d1, d2, d3, d4] }
  | _ => none }
def FnExactDivideBonusWrongFalsely : Prop := fnExactDivideBonusRow.holds Tryz.pinned (OpenSpec.ofChange fnExactDivideBonusWrong)

/-- 'laws.FnBonuses': WHATEVER THE INPUT: true; the input reads as it did. -/
def fnBonusesSpec : ChangeSpec := { name := "fnBonuses", fn := fun _ => fun
  | [d] => { results := [.lit (.bool true)], args := [d] }
  | _ => none }
def fnBonusesRow : OpenClaim := { program := "ytbjdbpdgacfcpaagreat", sum := "7523e15f5a08457d028b6f5994ca75f13c1ca577046e279f717298af2cc0dd71", func := "loop.example/g01025/laws.FnBonuses", spec := "fnBonuses", unfollowed := true, recurses := true, named := ["math/bits.divideError", "math/bits.overflowError"], apart := false }
def FnBonusesSaid : Prop := fnBonusesRow.holds Tryz.pinned (OpenSpec.ofChange fnBonusesSpec)

/-- ITS FALSE NEIGHBOUR: 'it returns false'. Refute it at one input. -/
def fnBonusesWrong : ChangeSpec := { name := "fnBonuses", fn := fun _ => fun
  | [d] => { results := [.lit (.bool false)], args := [d] }
  | _ => none }
def FnBonusesWrongFalsely : Prop := fnBonusesRow.holds Tryz.pinned (OpenSpec.ofChange fnBonusesWrong)

/- THE SECOND FORM. 'bulk': how many values and letters a reading holds, each counted each time it is reached (what is shared counts as often as it is met; a slice's spare places count too). A statement '..UptoSaid' is the law's where the arguments, and the package variables that the reading takes, are together of bulk at most 1048576: NARROWER than '..Said'. Prove '..Said' where nothing that the law and all that it calls make is longer than what came in: it says more and counts as full. Else prove '..UptoSaid'. A law counts once. -/
mutual
def uptoBulk {H : Type} : DataW H → Nat
  | .lit (.string bytes) => bytes.length + 1
  | .lit _ => 1
  | .nil => 1
  | .ptr d => uptoBulk d + 1
  | .slice elems spare => uptoBulkAll elems + uptoBulkAll spare + 1
  | .agg parts => uptoBulkAll parts + 1
  | .iface _ d => uptoBulk d + 1
  | .map entries => uptoBulkEntries entries + 1
  | .held _ => 1
def uptoBulkAll {H : Type} : List (DataW H) → Nat
  | [] => 0
  | d :: r => uptoBulk d + uptoBulkAll r
def uptoBulkEntries {H : Type} : List (Lit × DataW H) → Nat
  | [] => 0
  | x :: r => uptoBulkEntry x + uptoBulkEntries r
def uptoBulkEntry {H : Type} : Lit × DataW H → Nat
  | (.string bytes, d) => bytes.length + uptoBulk d + 1
  | (_, d) => uptoBulk d + 1
 end
def uptoSmall : (H : Type) → List (DataW H) → Bool := fun _ ds => decide (uptoBulkAll ds ≤ 1048576)
def OpenSpec.upto (s : _root_.Go.ChangeSpec) : _root_.Go.OpenSpec := { _root_.Go.OpenSpec.ofChange s with cond := some uptoSmall }

/-- 'laws.FnScenarios', WHERE WHAT IT READS IS OF BULK AT MOST 1048576: true; the input reads as it did. -/
def fnScenariosUptoRow : OpenClaim := { program := "ytbjdbpdgacfcpaagreat", sum := "7523e15f5a08457d028b6f5994ca75f13c1ca577046e279f717298af2cc0dd71", func := "loop.example/g01025/laws.FnScenarios", spec := "fnScenarios", unfollowed := true, recurses := true, named := ["math/bits.divideError", "math/bits.overflowError"], apart := false, narrowed := true }
def FnScenariosUptoSaid : Prop := fnScenariosUptoRow.holds Tryz.pinned (OpenSpec.upto fnScenariosSpec)

/-- 'laws.FnSolvency', WHERE WHAT IT READS IS OF BULK AT MOST 1048576: true; the input reads as it did. -/
def fnSolvencyUptoRow : OpenClaim := { program := "ytbjdbpdgacfcpaagreat", sum := "7523e15f5a08457d028b6f5994ca75f13c1ca577046e279f717298af2cc0dd71", func := "loop.example/g01025/laws.FnSolvency", spec := "fnSolvency", unfollowed := true, recurses := true, named := ["math/bits.divideError", "math/bits.overflowError"], apart := false, narrowed := true }
def FnSolvencyUptoSaid : Prop := fnSolvencyUptoRow.holds Tryz.pinned (OpenSpec.upto fnSolvencySpec)

/-- 'laws.FnValuation', WHERE WHAT IT READS IS OF BULK AT MOST 1048576: true; the input reads as it did. -/
def fnValuationUptoRow : OpenClaim := { program := "ytbjdbpdgacfcpaagreat", sum := "7523e15f5a08457d028b6f5994ca75f13c1ca577046e279f717298af2cc0dd71", func := "loop.example/g01025/laws.FnValuation", spec := "fnValuation", unfollowed := true, recurses := true, named := ["math/bits.divideError", "math/bits.overflowError"], apart := false, narrowed := true }
def FnValuationUptoSaid : Prop := fnValuationUptoRow.holds Tryz.pinned (OpenSpec.upto fnValuationSpec)

/-- 'laws.FnExactDivideBonus', WHERE WHAT IT READS IS OF BULK AT MOST 1048576: true; the input reads as it did. -/
def fnExactDivideBonusUptoRow : OpenClaim := { program := "ytbjdbpdgacfcpaagreat", sum := "7523e15f5a08457d028b6f5994ca75f13c1ca577046e279f717298af2cc0dd71", func := "loop.example/g01025/laws.FnExactDivideBonus", spec := "fnExactDivideBonus", unfollowed := true, recurses := true, named := ["math/bits.divideError", "math/bits.overflowError"], apart := false, narrowed := true }
def FnExactDivideBonusUptoSaid : Prop := fnExactDivideBonusUptoRow.holds Tryz.pinned (OpenSpec.upto fnExactDivideBonusSpec)

/-- 'laws.FnBonuses', WHERE WHAT IT READS IS OF BULK AT MOST 1048576: true; the input reads as it did. -/
def fnBonusesUptoRow : OpenClaim := { program := "ytbjdbpdgacfcpaagreat", sum := "7523e15f5a08457d028b6f5994ca75f13c1ca577046e279f717298af2cc0dd71", func := "loop.example/g01025/laws.FnBonuses", spec := "fnBonuses", unfollowed := true, recurses := true, named := ["math/bits.divideError", "math/bits.overflowError"], apart := false, narrowed := true }
def FnBonusesUptoSaid : Prop := fnBonusesUptoRow.holds Tryz.pinned (OpenSpec.upto fnBonusesSpec)

end Rows
end Go.Proofs.YtbjdbpdgacfcpaaGreat
