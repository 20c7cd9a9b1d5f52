/-
  No cell of these rows narrows 'for every input' (looked for: loops, veiled, ifaces, maps, wideKeys, modest, calm, conditions, laid).
  DERIVED. THE GIVEN ROWS OF THIS SEAT. 10 by the template 'for every input the law returns true; each argument reads behind the call as it read before'; 0 by the template 'total and deterministic' (their statements: YtncgngocblapoaaTotals.lean).
  GIVEN WITH THE SEED: the statements are not yours to turn. If you find one false, say at which input.
  Laid BY PROGRAM, IN A SANDBOX (cutbox-rows.mjs): the forced cells as the released guide's own fill.sh prints them over the translation 67df214a55b30d32… (all of the seat's roots in one cut). By AI agents, Wed Nov 11 2026. No macro, syntax, notation, axiom, sorry.
-/
import Derived.Test.YtncgngocblapoaaChecked
import GoSem.Claim
import GoSem.ClaimJoined
import GoSem.ClaimMapViews
import Derived.JoinedTies
import Derived.KernelRfl
namespace Go.Proofs.Ytncgngocblapoaa
/- THE CELL 'sum', in the pinned program and in every row, IS THE sha256 OF THE DUMP (.gsa) THAT YtncgngocblapoaaProg.lean LOADS. Nothing in Lean hashes anything: it is a label: what it is worth is what the hold of that sum in a sandbox is worth. -/
noncomputable def Try.pinned : Pinned := { name := "ytncgngocblapoaa", sum := "67df214a55b30d32f3b2d5566f761fd0d178c5920a7c6c74c458287a01047fa8", checked := Try.checked }
namespace Rows
def none {H : Type} : Left H := { results := [], args := [] }

/-- 'laws.FnExactAreBonds': WHATEVER THE INPUT: true; the input reads as it did. -/
def fnExactAreBondsSpec : ChangeSpec := { name := "fnExactAreBonds", fn := fun _ => fun
  | [d] => { results := [.lit (.bool true)], args := [d] }
  | _ => none }
def fnExactAreBondsRow : OpenClaim := { program := "ytncgngocblapoaa", sum := "67df214a55b30d32f3b2d5566f761fd0d178c5920a7c6c74c458287a01047fa8", func := "loop.example/g01025/laws.FnExactAreBonds", spec := "fnExactAreBonds", unfollowed := true, recurses := true, apart := false }
def FnExactAreBondsSaid : Prop := fnExactAreBondsRow.holds Try.pinned (OpenSpec.ofChange fnExactAreBondsSpec)

/-- ITS FALSE NEIGHBOUR: 'it returns false'. Refute it at one input. -/
def fnExactAreBondsWrong : ChangeSpec := { name := "fnExactAreBonds", fn := fun _ => fun
  | [d] => { results := [.lit (.bool false)], args := [d] }
  | _ => none }
def FnExactAreBondsWrongFalsely : Prop := fnExactAreBondsRow.holds Try.pinned (OpenSpec.ofChange fnExactAreBondsWrong)

/-- 'laws.FnExactFlowOf': WHATEVER THE INPUT: true; the input reads as it did. -/
def fnExactFlowOfSpec : ChangeSpec := { name := "fnExactFlowOf", fn := fun _ => fun
  | [d] => { results := [.lit (.bool true)], args := [d] }
  | _ => none }
def fnExactFlowOfRow : OpenClaim := { program := "ytncgngocblapoaa", sum := "67df214a55b30d32f3b2d5566f761fd0d178c5920a7c6c74c458287a01047fa8", func := "loop.example/g01025/laws.FnExactFlowOf", spec := "fnExactFlowOf", unfollowed := true, recurses := true, apart := false }
def FnExactFlowOfSaid : Prop := fnExactFlowOfRow.holds Try.pinned (OpenSpec.ofChange fnExactFlowOfSpec)

/-- ITS FALSE NEIGHBOUR: 'it returns false'. Refute it at one input. -/
def fnExactFlowOfWrong : ChangeSpec := { name := "fnExactFlowOf", fn := fun _ => fun
  | [d] => { results := [.lit (.bool false)], args := [d] }
  | _ => none }
def FnExactFlowOfWrongFalsely : Prop := fnExactFlowOfRow.holds Try.pinned (OpenSpec.ofChange fnExactFlowOfWrong)

/-- 'laws.FnExactBuildLadder': WHATEVER THE INPUT: true; the input reads as it did. -/
def fnExactBuildLadderSpec : ChangeSpec := { name := "fnExactBuildLadder", fn := fun _ => fun
  | [d1, d2] => { results := [.lit (.bool true)], args := [d1, d2] }
  | _ => none }
def fnExactBuildLadderRow : OpenClaim := { program := "ytncgngocblapoaa", sum := "67df214a55b30d32f3b2d5566f761fd0d178c5920a7c6c74c458287a01047fa8", func := "loop.example/g01025/laws.FnExactBuildLadder", spec := "fnExactBuildLadder", unfollowed := true, recurses := true, apart := false }
def FnExactBuildLadderSaid : Prop := fnExactBuildLadderRow.holds Try.pinned (OpenSpec.ofChange fnExactBuildLadderSpec)

/-- ITS FALSE NEIGHBOUR: 'it returns false'. Refute it at one input. -/
def fnExactBuildLadderWrong : ChangeSpec := { name := "fnExactBuildLadder", fn := fun _ => fun
  | [d1, d2] => { results := [.lit (.bool false)], args := [d1, d2] }
  | _ => none }
def FnExactBuildLadderWrongFalsely : Prop := fnExactBuildLadderRow.holds Try.pinned (OpenSpec.ofChange fnExactBuildLadderWrong)

/-- 'laws.FnExactCashNeeded': WHATEVER THE INPUT: true; the input reads as it did. -/
def fnExactCashNeededSpec : ChangeSpec := { name := "fnExactCashNeeded", fn := fun _ => fun
  | [d1, d2] => { results := [.lit (.bool true)], args := [d1, d2] }
  | _ => none }
def fnExactCashNeededRow : OpenClaim := { program := "ytncgngocblapoaa", sum := "67df214a55b30d32f3b2d5566f761fd0d178c5920a7c6c74c458287a01047fa8", func := "loop.example/g01025/laws.FnExactCashNeeded", spec := "fnExactCashNeeded", unfollowed := true, recurses := true, apart := false }
def FnExactCashNeededSaid : Prop := fnExactCashNeededRow.holds Try.pinned (OpenSpec.ofChange fnExactCashNeededSpec)

/-- ITS FALSE NEIGHBOUR: 'it returns false'. Refute it at one input. -/
def fnExactCashNeededWrong : ChangeSpec := { name := "fnExactCashNeeded", fn := fun _ => fun
  | [d1, d2] => { results := [.lit (.bool false)], args := [d1, d2] }
  | _ => none }
def FnExactCashNeededWrongFalsely : Prop := fnExactCashNeededRow.holds Try.pinned (OpenSpec.ofChange fnExactCashNeededWrong)

/-- 'laws.FnExactDoCover': WHATEVER THE INPUT: true; the input reads as it did. -/
def fnExactDoCoverSpec : ChangeSpec := { name := "fnExactDoCover", fn := fun _ => fun
  | [d1, d2, d3] => { results := [.lit (.bool true)], args := [d1, d2, d3] }
  | _ => none }
def fnExactDoCoverRow : OpenClaim := { program := "ytncgngocblapoaa", sum := "67df214a55b30d32f3b2d5566f761fd0d178c5920a7c6c74c458287a01047fa8", func := "loop.example/g01025/laws.FnExactDoCover", spec := "fnExactDoCover", unfollowed := true, recurses := true, apart := false }
def FnExactDoCoverSaid : Prop := fnExactDoCoverRow.holds Try.pinned (OpenSpec.ofChange fnExactDoCoverSpec)

/-- ITS FALSE NEIGHBOUR: 'it returns false'. Refute it at one input. -/
def fnExactDoCoverWrong : ChangeSpec := { name := "fnExactDoCover", fn := fun _ => fun
  | [d1, d2, d3] => { results := [.lit (.bool false)], args := [d1, d2, d3] }
  | _ => none }
def FnExactDoCoverWrongFalsely : Prop := fnExactDoCoverRow.holds Try.pinned (OpenSpec.ofChange fnExactDoCoverWrong)

/-- 'laws.FnExactKeptMoney': WHATEVER THE INPUT: true; the input reads as it did. -/
def fnExactKeptMoneySpec : ChangeSpec := { name := "fnExactKeptMoney", fn := fun _ => fun
  | [d1, d2, d3] => { results := [.lit (.bool true)], args := [d1, d2, d3] }
  | _ => none }
def fnExactKeptMoneyRow : OpenClaim := { program := "ytncgngocblapoaa", sum := "67df214a55b30d32f3b2d5566f761fd0d178c5920a7c6c74c458287a01047fa8", func := "loop.example/g01025/laws.FnExactKeptMoney", spec := "fnExactKeptMoney", unfollowed := true, recurses := true, apart := false }
def FnExactKeptMoneySaid : Prop := fnExactKeptMoneyRow.holds Try.pinned (OpenSpec.ofChange fnExactKeptMoneySpec)

/-- ITS FALSE NEIGHBOUR: 'it returns false'. Refute it at one input. -/
def fnExactKeptMoneyWrong : ChangeSpec := { name := "fnExactKeptMoney", fn := fun _ => fun
  | [d1, d2, d3] => { results := [.lit (.bool false)], args := [d1, d2, d3] }
  | _ => none }
def FnExactKeptMoneyWrongFalsely : Prop := fnExactKeptMoneyRow.holds Try.pinned (OpenSpec.ofChange fnExactKeptMoneyWrong)

/-- 'laws.FnLadders': WHATEVER THE INPUT: true; the input reads as it did. -/
def fnLaddersSpec : ChangeSpec := { name := "fnLadders", fn := fun _ => fun
  | [d] => { results := [.lit (.bool true)], args := [d] }
  | _ => none }
def fnLaddersRow : OpenClaim := { program := "ytncgngocblapoaa", sum := "67df214a55b30d32f3b2d5566f761fd0d178c5920a7c6c74c458287a01047fa8", func := "loop.example/g01025/laws.FnLadders", spec := "fnLadders", unfollowed := true, recurses := true, apart := false }
def FnLaddersSaid : Prop := fnLaddersRow.holds Try.pinned (OpenSpec.ofChange fnLaddersSpec)

/-- ITS FALSE NEIGHBOUR: 'it returns false'. Refute it at one input. -/
def fnLaddersWrong : ChangeSpec := { name := "fnLadders", fn := fun _ => fun
  | [d] => { results := [.lit (.bool false)], args := [d] }
  | _ => none }
def FnLaddersWrongFalsely : Prop := fnLaddersRow.holds Try.pinned (OpenSpec.ofChange fnLaddersWrong)

/-- 'laws.FnExactMarketValue': WHATEVER THE INPUT: true; the input reads as it did. -/
def fnExactMarketValueSpec : ChangeSpec := { name := "fnExactMarketValue", fn := fun _ => fun
  | [d1, d2] => { results := [.lit (.bool true)], args := [d1, d2] }
  | _ => none }
def fnExactMarketValueRow : OpenClaim := { program := "ytncgngocblapoaa", sum := "67df214a55b30d32f3b2d5566f761fd0d178c5920a7c6c74c458287a01047fa8", func := "loop.example/g01025/laws.FnExactMarketValue", spec := "fnExactMarketValue", unfollowed := true, recurses := true, named := ["math/bits.divideError", "math/bits.overflowError"], apart := false }
def FnExactMarketValueSaid : Prop := fnExactMarketValueRow.holds Try.pinned (OpenSpec.ofChange fnExactMarketValueSpec)

/-- ITS FALSE NEIGHBOUR: 'it returns false'. Refute it at one input. -/
def fnExactMarketValueWrong : ChangeSpec := { name := "fnExactMarketValue", fn := fun _ => fun
  | [d1, d2] => { results := [.lit (.bool false)], args := [d1, d2] }
  | _ => none }
def FnExactMarketValueWrongFalsely : Prop := fnExactMarketValueRow.holds Try.pinned (OpenSpec.ofChange fnExactMarketValueWrong)

/-- 'laws.FnExactMeanTerm': WHATEVER THE INPUT: true; the input reads as it did. -/
def fnExactMeanTermSpec : ChangeSpec := { name := "fnExactMeanTerm", fn := fun _ => fun
  | [d1, d2] => { results := [.lit (.bool true)], args := [d1, d2] }
  | _ => none }
def fnExactMeanTermRow : OpenClaim := { program := "ytncgngocblapoaa", sum := "67df214a55b30d32f3b2d5566f761fd0d178c5920a7c6c74c458287a01047fa8", func := "loop.example/g01025/laws.FnExactMeanTerm", spec := "fnExactMeanTerm", unfollowed := true, recurses := true, named := ["math/bits.divideError", "math/bits.overflowError"], apart := false }
def FnExactMeanTermSaid : Prop := fnExactMeanTermRow.holds Try.pinned (OpenSpec.ofChange fnExactMeanTermSpec)

/-- ITS FALSE NEIGHBOUR: 'it returns false'. Refute it at one input. -/
def fnExactMeanTermWrong : ChangeSpec := { name := "fnExactMeanTerm", fn := fun _ => fun
  | [d1, d2] => { results := [.lit (.bool false)], args := [d1, d2] }
  | _ => none }
def FnExactMeanTermWrongFalsely : Prop := fnExactMeanTermRow.holds Try.pinned (OpenSpec.ofChange fnExactMeanTermWrong)

/-- 'laws.FnBonds': WHATEVER THE INPUT: true; the input reads as it did. -/
def fnBondsSpec : ChangeSpec := { name := "fnBonds", fn := fun _ => fun
  | [d] => { results := [.lit (.bool true)], args := [d] }
  | _ => none }
def fnBondsRow : OpenClaim := { program := "ytncgngocblapoaa", sum := "67df214a55b30d32f3b2d5566f761fd0d178c5920a7c6c74c458287a01047fa8", func := "loop.example/g01025/laws.FnBonds", spec := "fnBonds", unfollowed := true, recurses := true, named := ["math/bits.divideError", "math/bits.overflowError"], apart := false }
def FnBondsSaid : Prop := fnBondsRow.holds Try.pinned (OpenSpec.ofChange fnBondsSpec)

/-- ITS FALSE NEIGHBOUR: 'it returns false'. Refute it at one input. -/
def fnBondsWrong : ChangeSpec := { name := "fnBonds", fn := fun _ => fun
  | [d] => { results := [.lit (.bool false)], args := [d] }
  | _ => none }
def FnBondsWrongFalsely : Prop := fnBondsRow.holds Try.pinned (OpenSpec.ofChange fnBondsWrong)

/- THE SECOND FORM. 'bulk': how many values and letters a reading holds, each counted each time it is reached (what is shared counts as often as it is met; a slice's spare places count too). A statement '..UptoSaid' is the law's where the arguments, and the package variables that the reading takes, are together of bulk at most 1048576: NARROWER than '..Said'. Prove '..Said' where nothing that the law and all that it calls make is longer than what came in: it says more and counts as full. Else prove '..UptoSaid'. A law counts once. -/
mutual
def uptoBulk {H : Type} : DataW H → Nat
  | .lit (.string bytes) => bytes.length + 1
  | .lit _ => 1
  | .nil => 1
  | .ptr d => uptoBulk d + 1
  | .slice elems spare => uptoBulkAll elems + uptoBulkAll spare + 1
  | .agg parts => uptoBulkAll parts + 1
  | .iface _ d => uptoBulk d + 1
  | .map entries => uptoBulkEntries entries + 1
  | .held _ => 1
def uptoBulkAll {H : Type} : List (DataW H) → Nat
  | [] => 0
  | d :: r => uptoBulk d + uptoBulkAll r
def uptoBulkEntries {H : Type} : List (Lit × DataW H) → Nat
  | [] => 0
  | x :: r => uptoBulkEntry x + uptoBulkEntries r
def uptoBulkEntry {H : Type} : Lit × DataW H → Nat
  | (.string bytes, d) => bytes.length + uptoBulk d + 1
  | (_, d) => uptoBulk d + 1
 end
def uptoSmall : (H : Type) → List (DataW H) → Bool := fun _ ds => decide (uptoBulkAll ds ≤ 1048576)
def OpenSpec.upto (s : _root_.Go.ChangeSpec) : _root_.Go.OpenSpec := { _root_.Go.OpenSpec.ofChange s with cond := some uptoSmall }

/-- 'laws.FnExactAreBonds', WHERE WHAT IT READS IS OF BULK AT MOST 1048576: true; the input reads as it did. -/
def fnExactAreBondsUptoRow : OpenClaim := { program := "ytncgngocblapoaa", sum := "67df214a55b30d32f3b2d5566f761fd0d178c5920a7c6c74c458287a01047fa8", func := "loop.example/g01025/laws.FnExactAreBonds", spec := "fnExactAreBonds", unfollowed := true, recurses := true, apart := false, narrowed := true }
def FnExactAreBondsUptoSaid : Prop := fnExactAreBondsUptoRow.holds Try.pinned (OpenSpec.upto fnExactAreBondsSpec)

/-- 'laws.FnExactFlowOf', WHERE WHAT IT READS IS OF BULK AT MOST 1048576: true; the input reads as it did. -/
def fnExactFlowOfUptoRow : OpenClaim := { program := "ytncgngocblapoaa", sum := "67df214a55b30d32f3b2d5566f761fd0d178c5920a7c6c74c458287a01047fa8", func := "loop.example/g01025/laws.FnExactFlowOf", spec := "fnExactFlowOf", unfollowed := true, recurses := true, apart := false, narrowed := true }
def FnExactFlowOfUptoSaid : Prop := fnExactFlowOfUptoRow.holds Try.pinned (OpenSpec.upto fnExactFlowOfSpec)

/-- 'laws.FnExactBuildLadder', WHERE WHAT IT READS IS OF BULK AT MOST 1048576: true; the input reads as it did. -/
def fnExactBuildLadderUptoRow : OpenClaim := { program := "ytncgngocblapoaa", sum := "67df214a55b30d32f3b2d5566f761fd0d178c5920a7c6c74c458287a01047fa8", func := "loop.example/g01025/laws.FnExactBuildLadder", spec := "fnExactBuildLadder", unfollowed := true, recurses := true, apart := false, narrowed := true }
def FnExactBuildLadderUptoSaid : Prop := fnExactBuildLadderUptoRow.holds Try.pinned (OpenSpec.upto fnExactBuildLadderSpec)

/-- 'laws.FnExactCashNeeded', WHERE WHAT IT READS IS OF BULK AT MOST 1048576: true; the input reads as it did. -/
def fnExactCashNeededUptoRow : OpenClaim := { program := "ytncgngocblapoaa", sum := "67df214a55b30d32f3b2d5566f761fd0d178c5920a7c6c74c458287a01047fa8", func := "loop.example/g01025/laws.FnExactCashNeeded", spec := "fnExactCashNeeded", unfollowed := true, recurses := true, apart := false, narrowed := true }
def FnExactCashNeededUptoSaid : Prop := fnExactCashNeededUptoRow.holds Try.pinned (OpenSpec.upto fnExactCashNeededSpec)

/-- 'laws.FnExactDoCover', WHERE WHAT IT READS IS OF BULK AT MOST 1048576: true; the input reads as it did. -/
def fnExactDoCoverUptoRow : OpenClaim := { program := "ytncgngocblapoaa", sum := "67df214a55b30d32f3b2d5566f761fd0d178c5920a7c6c74c458287a01047fa8", func := "loop.example/g01025/laws.FnExactDoCover", spec := "fnExactDoCover", unfollowed := true, recurses := true, apart := false, narrowed := true }
def FnExactDoCoverUptoSaid : Prop := fnExactDoCoverUptoRow.holds Try.pinned (OpenSpec.upto fnExactDoCoverSpec)

/-- 'laws.FnExactKeptMoney', WHERE WHAT IT READS IS OF BULK AT MOST 1048576: true; the input reads as it did. -/
def fnExactKeptMoneyUptoRow : OpenClaim := { program := "ytncgngocblapoaa", sum := "67df214a55b30d32f3b2d5566f761fd0d178c5920a7c6c74c458287a01047fa8", func := "loop.example/g01025/laws.FnExactKeptMoney", spec := "fnExactKeptMoney", unfollowed := true, recurses := true, apart := false, narrowed := true }
def FnExactKeptMoneyUptoSaid : Prop := fnExactKeptMoneyUptoRow.holds Try.pinned (OpenSpec.upto fnExactKeptMoneySpec)

/-- 'laws.FnLadders', WHERE WHAT IT READS IS OF BULK AT MOST 1048576: true; the input reads as it did. -/
def fnLaddersUptoRow : OpenClaim := { program := "ytncgngocblapoaa", sum := "67df214a55b30d32f3b2d5566f761fd0d178c5920a7c6c74c458287a01047fa8", func := "loop.example/g01025/laws.FnLadders", spec := "fnLadders", unfollowed := true, recurses := true, apart := false, narrowed := true }
def FnLaddersUptoSaid : Prop := fnLaddersUptoRow.holds Try.pinned (OpenSpec.upto fnLaddersSpec)

/-- 'laws.FnExactMarketValue', WHERE WHAT IT READS IS OF BULK AT MOST 1048576: true; the input reads as it did. -/
def fnExactMarketValueUptoRow : OpenClaim := { program := "ytncgngocblapoaa", sum := "67df214a55b30d32f3b2d5566f761fd0d178c5920a7c6c74c458287a01047fa8", func := "loop.example/g01025/laws.FnExactMarketValue", spec := "fnExactMarketValue", unfollowed := true, recurses := true, named := ["math/bits.divideError", "math/bits.overflowError"], apart := false, narrowed := true }
def FnExactMarketValueUptoSaid : Prop := fnExactMarketValueUptoRow.holds Try.pinned (OpenSpec.upto fnExactMarketValueSpec)

/-- 'laws.FnExactMeanTerm', WHERE WHAT IT READS IS OF BULK AT MOST 1048576: true; the input reads as it did. -/
def fnExactMeanTermUptoRow : OpenClaim := { program := "ytncgngocblapoaa", sum := "67df214a55b30d32f3b2d5566f761fd0d178c5920a7c6c74c458287a01047fa8", func := "loop.example/g01025/laws.FnExactMeanTerm", spec := "fnExactMeanTerm", unfollowed := true, recurses := true, named := ["math/bits.divideError", "math/bits.overflowError"], apart := false, narrowed := true }
def FnExactMeanTermUptoSaid : Prop := fnExactMeanTermUptoRow.holds Try.pinned (OpenSpec.upto fnExactMeanTermSpec)

/-- 'laws.FnBonds', WHERE WHAT IT READS IS OF BULK AT MOST 1048576: true; the input reads as it did. -/
def fnBondsUptoRow : OpenClaim := { program := "ytncgngocblapoaa", sum := "67df214a55b30d32f3b2d5566f761fd0d178c5920a7c6c74c458287a01047fa8", func := "loop.example/g01025/laws.FnBonds", spec := "fnBonds", unfollowed := true, recurses := true, named := ["math/bits.divideError", "math/bits.overflowError"], apart := false, narrowed := true }
def FnBondsUptoSaid : Prop := fnBondsUptoRow.holds Try.pinned (OpenSpec.upto fnBondsSpec)

end Rows
end Go.Proofs.Ytncgngocblapoaa
