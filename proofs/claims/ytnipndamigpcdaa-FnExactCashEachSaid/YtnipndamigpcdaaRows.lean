/-
  No cell of these rows narrows 'for every input' (looked for: loops, veiled, ifaces, maps, wideKeys, modest, calm, conditions, laid).
  DERIVED. THE GIVEN ROWS OF THIS SEAT. 5 by the template 'for every input the law returns true; each argument reads behind the call as it read before'; 0 by the template 'total and deterministic' (their statements: YtnipndamigpcdaaTotals.lean).
  GIVEN WITH THE SEED: the statements are not yours to turn. If you find one false, say at which input.
  Laid BY PROGRAM, IN A SANDBOX (cutbox-rows.mjs): the forced cells as the released guide's own fill.sh prints them over the translation 209d59ad86d0867c… (all of the seat's roots in one cut). By AI agents, Wed Nov 11 2026. No macro, syntax, notation, axiom, sorry.
-/
import Derived.Test.YtnipndamigpcdaaChecked
import GoSem.Claim
import GoSem.ClaimJoined
import GoSem.ClaimMapViews
import Derived.JoinedTies
import Derived.KernelRfl
namespace Go.Proofs.Ytnipndamigpcdaa
/- THE CELL 'sum', in the pinned program and in every row, IS THE sha256 OF THE DUMP (.gsa) THAT YtnipndamigpcdaaProg.lean LOADS. Nothing in Lean hashes anything: it is a label: what it is worth is what the hold of that sum in a sandbox is worth. -/
noncomputable def Try.pinned : Pinned := { name := "ytnipndamigpcdaa", sum := "209d59ad86d0867c4a423f932897f669b3df87d0fd313dccf08c8a4c0fb2191f", checked := Try.checked }
namespace Rows
def none {H : Type} : Left H := { results := [], args := [] }

/-- 'laws.FnExactCashEach': WHATEVER THE INPUT: true; the input reads as it did. -/
def fnExactCashEachSpec : ChangeSpec := { name := "fnExactCashEach", fn := fun _ => fun
  | [d1, d2] => { results := [.lit (.bool true)], args := [d1, d2] }
  | _ => none }
def fnExactCashEachRow : OpenClaim := { program := "ytnipndamigpcdaa", sum := "209d59ad86d0867c4a423f932897f669b3df87d0fd313dccf08c8a4c0fb2191f", func := "loop.example/g01025/laws.FnExactCashEach", spec := "fnExactCashEach", apart := false }
def FnExactCashEachSaid : Prop := fnExactCashEachRow.holds Try.pinned (OpenSpec.ofChange fnExactCashEachSpec)

/-- ITS FALSE NEIGHBOUR: 'it returns false'. Refute it at one input. -/
def fnExactCashEachWrong : ChangeSpec := { name := "fnExactCashEach", fn := fun _ => fun
  | [d1, d2] => { results := [.lit (.bool false)], args := [d1, d2] }
  | _ => none }
def FnExactCashEachWrongFalsely : Prop := fnExactCashEachRow.holds Try.pinned (OpenSpec.ofChange fnExactCashEachWrong)

/-- 'laws.FnExactKeptPart': WHATEVER THE INPUT: true; the input reads as it did. -/
def fnExactKeptPartSpec : ChangeSpec := { name := "fnExactKeptPart", fn := fun _ => fun
  | [d1, d2] => { results := [.lit (.bool true)], args := [d1, d2] }
  | _ => none }
def fnExactKeptPartRow : OpenClaim := { program := "ytnipndamigpcdaa", sum := "209d59ad86d0867c4a423f932897f669b3df87d0fd313dccf08c8a4c0fb2191f", func := "loop.example/g01025/laws.FnExactKeptPart", spec := "fnExactKeptPart", apart := false }
def FnExactKeptPartSaid : Prop := fnExactKeptPartRow.holds Try.pinned (OpenSpec.ofChange fnExactKeptPartSpec)

/-- ITS FALSE NEIGHBOUR: 'it returns false'. Refute it at one input. -/
def fnExactKeptPartWrong : ChangeSpec := { name := "fnExactKeptPart", fn := fun _ => fun
  | [d1, d2] => { results := [.lit (.bool false)], args := [d1, d2] }
  | _ => none }
def FnExactKeptPartWrongFalsely : Prop := fnExactKeptPartRow.holds Try.pinned (OpenSpec.ofChange fnExactKeptPartWrong)

/-- 'laws.FnExactAreStatutes': WHATEVER THE INPUT: true; the input reads as it did. -/
def fnExactAreStatutesSpec : ChangeSpec := { name := "fnExactAreStatutes", fn := fun _ => fun
  | [d] => { results := [.lit (.bool true)], args := [d] }
  | _ => none }
def fnExactAreStatutesRow : OpenClaim := { program := "ytnipndamigpcdaa", sum := "209d59ad86d0867c4a423f932897f669b3df87d0fd313dccf08c8a4c0fb2191f", func := "loop.example/g01025/laws.FnExactAreStatutes", spec := "fnExactAreStatutes", apart := false }
def FnExactAreStatutesSaid : Prop := fnExactAreStatutesRow.holds Try.pinned (OpenSpec.ofChange fnExactAreStatutesSpec)

/-- ITS FALSE NEIGHBOUR: 'it returns false'. Refute it at one input. -/
def fnExactAreStatutesWrong : ChangeSpec := { name := "fnExactAreStatutes", fn := fun _ => fun
  | [d] => { results := [.lit (.bool false)], args := [d] }
  | _ => none }
def FnExactAreStatutesWrongFalsely : Prop := fnExactAreStatutesRow.holds Try.pinned (OpenSpec.ofChange fnExactAreStatutesWrong)

/-- 'laws.FnExactDecideCase': WHATEVER THE INPUT: true; the input reads as it did. -/
def fnExactDecideCaseSpec : ChangeSpec := { name := "fnExactDecideCase", fn := fun _ => fun
  | [d1, d2] => { results := [.lit (.bool true)], args := [d1, d2] }
  | _ => none }
def fnExactDecideCaseRow : OpenClaim := { program := "ytnipndamigpcdaa", sum := "209d59ad86d0867c4a423f932897f669b3df87d0fd313dccf08c8a4c0fb2191f", func := "loop.example/g01025/laws.FnExactDecideCase", spec := "fnExactDecideCase", apart := false }
def FnExactDecideCaseSaid : Prop := fnExactDecideCaseRow.holds Try.pinned (OpenSpec.ofChange fnExactDecideCaseSpec)

/-- ITS FALSE NEIGHBOUR: 'it returns false'. Refute it at one input. -/
def fnExactDecideCaseWrong : ChangeSpec := { name := "fnExactDecideCase", fn := fun _ => fun
  | [d1, d2] => { results := [.lit (.bool false)], args := [d1, d2] }
  | _ => none }
def FnExactDecideCaseWrongFalsely : Prop := fnExactDecideCaseRow.holds Try.pinned (OpenSpec.ofChange fnExactDecideCaseWrong)

/-- 'laws.FnExactFirstContradiction': WHATEVER THE INPUT: true; the input reads as it did. -/
def fnExactFirstContradictionSpec : ChangeSpec := { name := "fnExactFirstContradiction", fn := fun _ => fun
  | [d] => { results := [.lit (.bool true)], args := [d] }
  | _ => none }
def fnExactFirstContradictionRow : OpenClaim := { program := "ytnipndamigpcdaa", sum := "209d59ad86d0867c4a423f932897f669b3df87d0fd313dccf08c8a4c0fb2191f", func := "loop.example/g01025/laws.FnExactFirstContradiction", spec := "fnExactFirstContradiction", apart := false }
def FnExactFirstContradictionSaid : Prop := fnExactFirstContradictionRow.holds Try.pinned (OpenSpec.ofChange fnExactFirstContradictionSpec)

/-- ITS FALSE NEIGHBOUR: 'it returns false'. Refute it at one input. -/
def fnExactFirstContradictionWrong : ChangeSpec := { name := "fnExactFirstContradiction", fn := fun _ => fun
  | [d] => { results := [.lit (.bool false)], args := [d] }
  | _ => none }
def FnExactFirstContradictionWrongFalsely : Prop := fnExactFirstContradictionRow.holds Try.pinned (OpenSpec.ofChange fnExactFirstContradictionWrong)

/- THE SECOND FORM. 'bulk': how many values and letters a reading holds, each counted each time it is reached (what is shared counts as often as it is met; a slice's spare places count too). A statement '..UptoSaid' is the law's where the arguments, and the package variables that the reading takes, are together of bulk at most 1048576: NARROWER than '..Said'. Prove '..Said' where nothing that the law and all that it calls make is longer than what came in: it says more and counts as full. Else prove '..UptoSaid'. A law counts once. -/
mutual
def uptoBulk {H : Type} : DataW H → Nat
  | .lit (.string bytes) => bytes.length + 1
  | .lit _ => 1
  | .nil => 1
  | .ptr d => uptoBulk d + 1
  | .slice elems spare => uptoBulkAll elems + uptoBulkAll spare + 1
  | .agg parts => uptoBulkAll parts + 1
  | .iface _ d => uptoBulk d + 1
  | .map entries => uptoBulkEntries entries + 1
  | .held _ => 1
def uptoBulkAll {H : Type} : List (DataW H) → Nat
  | [] => 0
  | d :: r => uptoBulk d + uptoBulkAll r
def uptoBulkEntries {H : Type} : List (Lit × DataW H) → Nat
  | [] => 0
  | x :: r => uptoBulkEntry x + uptoBulkEntries r
def uptoBulkEntry {H : Type} : Lit × DataW H → Nat
  | (.string bytes, d) => bytes.length + uptoBulk d + 1
  | (_, d) => uptoBulk d + 1
 end
def uptoSmall : (H : Type) → List (DataW H) → Bool := fun _ ds => decide (uptoBulkAll ds ≤ 1048576)
def OpenSpec.upto (s : _root_.Go.ChangeSpec) : _root_.Go.OpenSpec := { _root_.Go.OpenSpec.ofChange s with cond := some uptoSmall }

/-- 'laws.FnExactCashEach', WHERE WHAT IT READS IS OF BULK AT MOST 1048576: true; the input reads as it did. -/
def fnExactCashEachUptoRow : OpenClaim := { program := "ytnipndamigpcdaa", sum := "209d59ad86d0867c4a423f932897f669b3df87d0fd313dccf08c8a4c0fb2191f", func := "loop.example/g01025/laws.FnExactCashEach", spec := "fnExactCashEach", apart := false, narrowed := true }
def FnExactCashEachUptoSaid : Prop := fnExactCashEachUptoRow.holds Try.pinned (OpenSpec.upto fnExactCashEachSpec)

/-- 'laws.FnExactKeptPart', WHERE WHAT IT READS IS OF BULK AT MOST 1048576: true; the input reads as it did. -/
def fnExactKeptPartUptoRow : OpenClaim := { program := "ytnipndamigpcdaa", sum := "209d59ad86d0867c4a423f932897f669b3df87d0fd313dccf08c8a4c0fb2191f", func := "loop.example/g01025/laws.FnExactKeptPart", spec := "fnExactKeptPart", apart := false, narrowed := true }
def FnExactKeptPartUptoSaid : Prop := fnExactKeptPartUptoRow.holds Try.pinned (OpenSpec.upto fnExactKeptPartSpec)

/-- 'laws.FnExactAreStatutes', WHERE WHAT IT READS IS OF BULK AT MOST 1048576: true; the input reads as it did. -/
def fnExactAreStatutesUptoRow : OpenClaim := { program := "ytnipndamigpcdaa", sum := "209d59ad86d0867c4a423f932897f669b3df87d0fd313dccf08c8a4c0fb2191f", func := "loop.example/g01025/laws.FnExactAreStatutes", spec := "fnExactAreStatutes", apart := false, narrowed := true }
def FnExactAreStatutesUptoSaid : Prop := fnExactAreStatutesUptoRow.holds Try.pinned (OpenSpec.upto fnExactAreStatutesSpec)

/-- 'laws.FnExactDecideCase', WHERE WHAT IT READS IS OF BULK AT MOST 1048576: true; the input reads as it did. -/
def fnExactDecideCaseUptoRow : OpenClaim := { program := "ytnipndamigpcdaa", sum := "209d59ad86d0867c4a423f932897f669b3df87d0fd313dccf08c8a4c0fb2191f", func := "loop.example/g01025/laws.FnExactDecideCase", spec := "fnExactDecideCase", apart := false, narrowed := true }
def FnExactDecideCaseUptoSaid : Prop := fnExactDecideCaseUptoRow.holds Try.pinned (OpenSpec.upto fnExactDecideCaseSpec)

/-- 'laws.FnExactFirstContradiction', WHERE WHAT IT READS IS OF BULK AT MOST 1048576: true; the input reads as it did. -/
def fnExactFirstContradictionUptoRow : OpenClaim := { program := "ytnipndamigpcdaa", sum := "209d59ad86d0867c4a423f932897f669b3df87d0fd313dccf08c8a4c0fb2191f", func := "loop.example/g01025/laws.FnExactFirstContradiction", spec := "fnExactFirstContradiction", apart := false, narrowed := true }
def FnExactFirstContradictionUptoSaid : Prop := fnExactFirstContradictionUptoRow.holds Try.pinned (OpenSpec.upto fnExactFirstContradictionSpec)

end Rows
end Go.Proofs.Ytnipndamigpcdaa
