/-
  No cell of these rows narrows 'for every input' (looked for: loops, veiled, ifaces, maps, wideKeys, modest, calm, conditions, laid).
  DERIVED. THE GIVEN ROWS OF THIS SEAT. 5 by the template 'for every input the law returns true; each argument reads behind the call as it read before'; 0 by the template 'total and deterministic' (their statements: YtbjdbpdgacfcpaaTotals.lean).
  GIVEN WITH THE SEED: the statements are not yours to turn. If you find one false, say at which input.
  Laid BY PROGRAM, IN A SANDBOX (cutbox-rows.mjs): the forced cells as the released guide's own fill.sh prints them over the translation 8204e119254c226c… (all of the seat's roots in one cut). By AI agents, Wed Nov 11 2026. No macro, syntax, notation, axiom, sorry.
-/
import Derived.Test.YtbjdbpdgacfcpaaChecked
import GoSem.Claim
import GoSem.ClaimJoined
import GoSem.ClaimMapViews
import Derived.JoinedTies
import Derived.KernelRfl
namespace Go.Proofs.Ytbjdbpdgacfcpaa
/- THE CELL 'sum', in the pinned program and in every row, IS THE sha256 OF THE DUMP (.gsa) THAT YtbjdbpdgacfcpaaProg.lean LOADS. Nothing in Lean hashes anything: it is a label: what it is worth is what the hold of that sum in a sandbox is worth. -/
noncomputable def Try.pinned : Pinned := { name := "ytbjdbpdgacfcpaa", sum := "8204e119254c226c864bf36425dac40d27fedb499b606bee355ef5d1dfdfe075", checked := Try.checked }
namespace Rows
def none {H : Type} : Left H := { results := [], args := [] }

/-- 'laws.FnAdditions': WHATEVER THE INPUT: true; the input reads as it did. -/
def fnAdditionsSpec : ChangeSpec := { name := "fnAdditions", fn := fun _ => fun
  | [d] => { results := [.lit (.bool true)], args := [d] }
  | _ => none }
def fnAdditionsRow : OpenClaim := { program := "ytbjdbpdgacfcpaa", sum := "8204e119254c226c864bf36425dac40d27fedb499b606bee355ef5d1dfdfe075", func := "loop.example/g01025/laws.FnAdditions", spec := "fnAdditions", unfollowed := true, recurses := true, named := ["math/bits.divideError", "math/bits.overflowError"], apart := false }
def FnAdditionsSaid : Prop := fnAdditionsRow.holds Try.pinned (OpenSpec.ofChange fnAdditionsSpec)

/-- ITS FALSE NEIGHBOUR: 'it returns false'. Refute it at one input. -/
def fnAdditionsWrong : ChangeSpec := { name := "fnAdditions", fn := fun _ => fun
  | [d] => { results := [.lit (.bool false)], args := [d] }
  | _ => none }
def FnAdditionsWrongFalsely : Prop := fnAdditionsRow.holds Try.pinned (OpenSpec.ofChange fnAdditionsWrong)

/-- 'laws.FnReserveLists': WHATEVER THE INPUT: true; the input reads as it did. -/
def fnReserveListsSpec : ChangeSpec := { name := "fnReserveLists", fn := fun _ => fun
  | [d] => { results := [.lit (.bool true)], args := [d] }
  | _ => none }
def fnReserveListsRow : OpenClaim := { program := "ytbjdbpdgacfcpaa", sum := "8204e119254c226c864bf36425dac40d27fedb499b606bee355ef5d1dfdfe075", func := "loop.example/g01025/laws.FnReserveLists", spec := "fnReserveLists", named := ["math/bits.divideError", "math/bits.overflowError"], apart := false }
def FnReserveListsSaid : Prop := fnReserveListsRow.holds Try.pinned (OpenSpec.ofChange fnReserveListsSpec)

/-- ITS FALSE NEIGHBOUR: 'it returns false'. Refute it at one input. -/
def fnReserveListsWrong : ChangeSpec := { name := "fnReserveLists", fn := fun _ => fun
  | [d] => { results := [.lit (.bool false)], args := [d] }
  | _ => none }
def FnReserveListsWrongFalsely : Prop := fnReserveListsRow.holds Try.pinned (OpenSpec.ofChange fnReserveListsWrong)

/-- 'laws.FnLeaving': WHATEVER THE INPUT: true; the input reads as it did. -/
def fnLeavingSpec : ChangeSpec := { name := "fnLeaving", fn := fun _ => fun
  | [d] => { results := [.lit (.bool true)], args := [d] }
  | _ => none }
def fnLeavingRow : OpenClaim := { program := "ytbjdbpdgacfcpaa", sum := "8204e119254c226c864bf36425dac40d27fedb499b606bee355ef5d1dfdfe075", func := "loop.example/g01025/laws.FnLeaving", spec := "fnLeaving", named := ["math/bits.divideError", "math/bits.overflowError"], apart := false }
def FnLeavingSaid : Prop := fnLeavingRow.holds Try.pinned (OpenSpec.ofChange fnLeavingSpec)

/-- ITS FALSE NEIGHBOUR: 'it returns false'. Refute it at one input. -/
def fnLeavingWrong : ChangeSpec := { name := "fnLeaving", fn := fun _ => fun
  | [d] => { results := [.lit (.bool false)], args := [d] }
  | _ => none }
def FnLeavingWrongFalsely : Prop := fnLeavingRow.holds Try.pinned (OpenSpec.ofChange fnLeavingWrong)

/-- 'laws.FnKeptYears': WHATEVER THE INPUT: true; the input reads as it did. -/
def fnKeptYearsSpec : ChangeSpec := { name := "fnKeptYears", fn := fun _ => fun
  | [d] => { results := [.lit (.bool true)], args := [d] }
  | _ => none }
def fnKeptYearsRow : OpenClaim := { program := "ytbjdbpdgacfcpaa", sum := "8204e119254c226c864bf36425dac40d27fedb499b606bee355ef5d1dfdfe075", func := "loop.example/g01025/laws.FnKeptYears", spec := "fnKeptYears", named := ["math/bits.divideError", "math/bits.overflowError"], apart := false }
def FnKeptYearsSaid : Prop := fnKeptYearsRow.holds Try.pinned (OpenSpec.ofChange fnKeptYearsSpec)

/-- ITS FALSE NEIGHBOUR: 'it returns false'. Refute it at one input. -/
def fnKeptYearsWrong : ChangeSpec := { name := "fnKeptYears", fn := fun _ => fun
  | [d] => { results := [.lit (.bool false)], args := [d] }
  | _ => none }
def FnKeptYearsWrongFalsely : Prop := fnKeptYearsRow.holds Try.pinned (OpenSpec.ofChange fnKeptYearsWrong)

/-- 'laws.FnAgeing': WHATEVER THE INPUT: true; the input reads as it did. -/
def fnAgeingSpec : ChangeSpec := { name := "fnAgeing", fn := fun _ => fun
  | [d] => { results := [.lit (.bool true)], args := [d] }
  | _ => none }
def fnAgeingRow : OpenClaim := { program := "ytbjdbpdgacfcpaa", sum := "8204e119254c226c864bf36425dac40d27fedb499b606bee355ef5d1dfdfe075", func := "loop.example/g01025/laws.FnAgeing", spec := "fnAgeing", unfollowed := true, recurses := true, named := ["math/bits.divideError", "math/bits.overflowError"], apart := false }
def FnAgeingSaid : Prop := fnAgeingRow.holds Try.pinned (OpenSpec.ofChange fnAgeingSpec)

/-- ITS FALSE NEIGHBOUR: 'it returns false'. Refute it at one input. -/
def fnAgeingWrong : ChangeSpec := { name := "fnAgeing", fn := fun _ => fun
  | [d] => { results := [.lit (.bool false)], args := [d] }
  | _ => none }
def FnAgeingWrongFalsely : Prop := fnAgeingRow.holds Try.pinned (OpenSpec.ofChange fnAgeingWrong)

/- THE SECOND FORM. 'bulk': how many values and letters a reading holds, each counted each time it is reached (what is shared counts as often as it is met; a slice's spare places count too). A statement '..UptoSaid' is the law's where the arguments, and the package variables that the reading takes, are together of bulk at most 1048576: NARROWER than '..Said'. Prove '..Said' where nothing that the law and all that it calls make is longer than what came in: it says more and counts as full. Else prove '..UptoSaid'. A law counts once. -/
mutual
def uptoBulk {H : Type} : DataW H → Nat
  | .lit (.string bytes) => bytes.length + 1
  | .lit _ => 1
  | .nil => 1
  | .ptr d => uptoBulk d + 1
  | .slice elems spare => uptoBulkAll elems + uptoBulkAll spare + 1
  | .agg parts => uptoBulkAll parts + 1
  | .iface _ d => uptoBulk d + 1
  | .map entries => uptoBulkEntries entries + 1
  | .held _ => 1
def uptoBulkAll {H : Type} : List (DataW H) → Nat
  | [] => 0
  | d :: r => uptoBulk d + uptoBulkAll r
def uptoBulkEntries {H : Type} : List (Lit × DataW H) → Nat
  | [] => 0
  | x :: r => uptoBulkEntry x + uptoBulkEntries r
def uptoBulkEntry {H : Type} : Lit × DataW H → Nat
  | (.string bytes, d) => bytes.length + uptoBulk d + 1
  | (_, d) => uptoBulk d + 1
 end
def uptoSmall : (H : Type) → List (DataW H) → Bool := fun _ ds => decide (uptoBulkAll ds ≤ 1048576)
def OpenSpec.upto (s : _root_.Go.ChangeSpec) : _root_.Go.OpenSpec := { _root_.Go.OpenSpec.ofChange s with cond := some uptoSmall }

/-- 'laws.FnAdditions', WHERE WHAT IT READS IS OF BULK AT MOST 1048576: true; the input reads as it did. -/
def fnAdditionsUptoRow : OpenClaim := { program := "ytbjdbpdgacfcpaa", sum := "8204e119254c226c864bf36425dac40d27fedb499b606bee355ef5d1dfdfe075", func := "loop.example/g01025/laws.FnAdditions", spec := "fnAdditions", unfollowed := true, recurses := true, named := ["math/bits.divideError", "math/bits.overflowError"], apart := false, narrowed := true }
def FnAdditionsUptoSaid : Prop := fnAdditionsUptoRow.holds Try.pinned (OpenSpec.upto fnAdditionsSpec)

/-- 'laws.FnReserveLists', WHERE WHAT IT READS IS OF BULK AT MOST 1048576: true; the input reads as it did. -/
def fnReserveListsUptoRow : OpenClaim := { program := "ytbjdbpdgacfcpaa", sum := "8204e119254c226c864bf36425dac40d27fedb499b606bee355ef5d1dfdfe075", func := "loop.example/g01025/laws.FnReserveLists", spec := "fnReserveLists", named := ["math/bits.divideError", "math/bits.overflowError"], apart := false, narrowed := true }
def FnReserveListsUptoSaid : Prop := fnReserveListsUptoRow.holds Try.pinned (OpenSpec.upto fnReserveListsSpec)

/-- 'laws.FnLeaving', WHERE WHAT IT READS IS OF BULK AT MOST 1048576: true; the input reads as it did. -/
def fnLeavingUptoRow : OpenClaim := { program := "ytbjdbpdgacfcpaa", sum := "8204e119254c226c864bf36425dac40d27fedb499b606bee355ef5d1dfdfe075", func := "loop.example/g01025/laws.FnLeaving", spec := "fnLeaving", named := ["math/bits.divideError", "math/bits.overflowError"], apart := false, narrowed := true }
def FnLeavingUptoSaid : Prop := fnLeavingUptoRow.holds Try.pinned (OpenSpec.upto fnLeavingSpec)

/-- 'laws.FnKeptYears', WHERE WHAT IT READS IS OF BULK AT MOST 1048576: true; the input reads as it did. -/
def fnKeptYearsUptoRow : OpenClaim := { program := "ytbjdbpdgacfcpaa", sum := "8204e119254c226c864bf36425dac40d27fedb499b606bee355ef5d1dfdfe075", func := "loop.example/g01025/laws.FnKeptYears", spec := "fnKeptYears", named := ["math/bits.divideError", "math/bits.overflowError"], apart := false, narrowed := true }
def FnKeptYearsUptoSaid : Prop := fnKeptYearsUptoRow.holds Try.pinned (OpenSpec.upto fnKeptYearsSpec)

/-- 'laws.FnAgeing', WHERE WHAT IT READS IS OF BULK AT MOST 1048576: true; the input reads as it did. -/
def fnAgeingUptoRow : OpenClaim := { program := "ytbjdbpdgacfcpaa", sum := "8204e119254c226c864bf36425dac40d27fedb499b606bee355ef5d1dfdfe075", func := "loop.example/g01025/laws.FnAgeing", spec := "fnAgeing", unfollowed := true, recurses := true, named := ["math/bits.divideError", "math/bits.overflowError"], apart := false, narrowed := true }
def FnAgeingUptoSaid : Prop := fnAgeingUptoRow.holds Try.pinned (OpenSpec.upto fnAgeingSpec)

end Rows
end Go.Proofs.Ytbjdbpdgacfcpaa
