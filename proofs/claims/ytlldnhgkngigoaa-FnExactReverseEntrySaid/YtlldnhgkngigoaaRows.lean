/-
  No cell of these rows narrows 'for every input' (looked for: loops, veiled, ifaces, maps, wideKeys, modest, calm, conditions, laid).
  DERIVED. THE GIVEN ROWS OF THIS SEAT. 7 by the template 'for every input the law returns true; each argument reads behind the call as it read before'; 0 by the template 'total and deterministic' (their statements: YtlldnhgkngigoaaTotals.lean).
  GIVEN WITH THE SEED: the statements are not yours to turn. If you find one false, say at which input.
  Laid BY PROGRAM, IN A SANDBOX (cutbox-rows.mjs): the forced cells as the released guide's own fill.sh prints them over the translation 4d4575e54b222ad6… (all of the seat's roots in one cut). By AI agents, Wed Nov 11 2026. No macro, syntax, notation, axiom, sorry.
-/
import Derived.Test.YtlldnhgkngigoaaChecked
import GoSem.Claim
import GoSem.ClaimJoined
import GoSem.ClaimMapViews
import Derived.JoinedTies
import Derived.KernelRfl
namespace Go.Proofs.Ytlldnhgkngigoaa
/- THE CELL 'sum', in the pinned program and in every row, IS THE sha256 OF THE DUMP (.gsa) THAT YtlldnhgkngigoaaProg.lean LOADS. Nothing in Lean hashes anything: it is a label: what it is worth is what the hold of that sum in a sandbox is worth. -/
noncomputable def Try.pinned : Pinned := { name := "ytlldnhgkngigoaa", sum := "4d4575e54b222ad635f08d88ade5a3e7c426c84ee6b8e57da8059dd43d3ae379", checked := Try.checked }
namespace Rows
def none {H : Type} : Left H := { results := [], args := [] }

/-- 'laws.FnExactIsLedger': WHATEVER THE INPUT: true; the input reads as it did. -/
def fnExactIsLedgerSpec : ChangeSpec := { name := "fnExactIsLedger", fn := fun _ => fun
  | [d] => { results := [.lit (.bool true)], args := [d] }
  | _ => none }
def fnExactIsLedgerRow : OpenClaim := { program := "ytlldnhgkngigoaa", sum := "4d4575e54b222ad635f08d88ade5a3e7c426c84ee6b8e57da8059dd43d3ae379", func := "loop.example/g01025/laws.FnExactIsLedger", spec := "fnExactIsLedger", apart := false }
def FnExactIsLedgerSaid : Prop := fnExactIsLedgerRow.holds Try.pinned (OpenSpec.ofChange fnExactIsLedgerSpec)

/-- ITS FALSE NEIGHBOUR: 'it returns false'. Refute it at one input. -/
def fnExactIsLedgerWrong : ChangeSpec := { name := "fnExactIsLedger", fn := fun _ => fun
  | [d] => { results := [.lit (.bool false)], args := [d] }
  | _ => none }
def FnExactIsLedgerWrongFalsely : Prop := fnExactIsLedgerRow.holds Try.pinned (OpenSpec.ofChange fnExactIsLedgerWrong)

/-- 'laws.FnExactTurnoverOf': WHATEVER THE INPUT: true; the input reads as it did. -/
def fnExactTurnoverOfSpec : ChangeSpec := { name := "fnExactTurnoverOf", fn := fun _ => fun
  | [d1, d2, d3, d4] => { results := [.lit (.bool true)], args := [d1, d2, d3, d4] }
  | _ => none }
def fnExactTurnoverOfRow : OpenClaim := { program := "ytlldnhgkngigoaa", sum := "4d4575e54b222ad635f08d88ade5a3e7c426c84ee6b8e57da8059dd43d3ae379", func := "loop.example/g01025/laws.FnExactTurnoverOf", spec := "fnExactTurnoverOf", apart := false }
def FnExactTurnoverOfSaid : Prop := fnExactTurnoverOfRow.holds Try.pinned (OpenSpec.ofChange fnExactTurnoverOfSpec)

/-- ITS FALSE NEIGHBOUR: 'it returns false'. Refute it at one input. -/
def fnExactTurnoverOfWrong : ChangeSpec := { name := "fnExactTurnoverOf", fn := fun _ => fun
  | [d1, d2, d3, d4] => { results := [.lit (.bool false)], args := [d1, d2, d3, d4] }
  | _ => none }
def FnExactTurnoverOfWrongFalsely : Prop := fnExactTurnoverOfRow.holds Try.pinned (OpenSpec.ofChange fnExactTurnoverOfWrong)

/-- 'laws.FnExactAccountBalance': WHATEVER THE INPUT: true; the input reads as it did. -/
def fnExactAccountBalanceSpec : ChangeSpec := { name := "fnExactAccountBalance", fn := fun _ => fun
  | [d1, d2, d3] => { results := [.lit (.bool true)], args := [d1, d2, d3] }
  | _ => none }
def fnExactAccountBalanceRow : OpenClaim := { program := "ytlldnhgkngigoaa", sum := "4d4575e54b222ad635f08d88ade5a3e7c426c84ee6b8e57da8059dd43d3ae379", func := "loop.example/g01025/laws.FnExactAccountBalance", spec := "fnExactAccountBalance", apart := false }
def FnExactAccountBalanceSaid : Prop := fnExactAccountBalanceRow.holds Try.pinned (OpenSpec.ofChange fnExactAccountBalanceSpec)

/-- ITS FALSE NEIGHBOUR: 'it returns false'. Refute it at one input. -/
def fnExactAccountBalanceWrong : ChangeSpec := { name := "fnExactAccountBalance", fn := fun _ => fun
  | [d1, d2, d3] => { results := [.lit (.bool false)], args := [d1, d2, d3] }
  | _ => none }
def FnExactAccountBalanceWrongFalsely : Prop := fnExactAccountBalanceRow.holds Try.pinned (OpenSpec.ofChange fnExactAccountBalanceWrong)

/-- 'laws.FnExactBookEntry': WHATEVER THE INPUT: true; the input reads as it did. -/
def fnExactBookEntrySpec : ChangeSpec := { name := "fnExactBookEntry", fn := fun _ => fun
  | [d1, d2] => { results := [.lit (.bool true)], args := [d1, d2] }
  | _ => none }
def fnExactBookEntryRow : OpenClaim := { program := "ytlldnhgkngigoaa", sum := "4d4575e54b222ad635f08d88ade5a3e7c426c84ee6b8e57da8059dd43d3ae379", func := "loop.example/g01025/laws.FnExactBookEntry", spec := "fnExactBookEntry", apart := false }
def FnExactBookEntrySaid : Prop := fnExactBookEntryRow.holds Try.pinned (OpenSpec.ofChange fnExactBookEntrySpec)

/-- ITS FALSE NEIGHBOUR: 'it returns false'. Refute it at one input. -/
def fnExactBookEntryWrong : ChangeSpec := { name := "fnExactBookEntry", fn := fun _ => fun
  | [d1, d2] => { results := [.lit (.bool false)], args := [d1, d2] }
  | _ => none }
def FnExactBookEntryWrongFalsely : Prop := fnExactBookEntryRow.holds Try.pinned (OpenSpec.ofChange fnExactBookEntryWrong)

/-- 'laws.FnExactReverseEntry': WHATEVER THE INPUT: true; the input reads as it did. -/
def fnExactReverseEntrySpec : ChangeSpec := { name := "fnExactReverseEntry", fn := fun _ => fun
  | [d1, d2, d3] => { results := [.lit (.bool true)], args := [d1, d2, d3] }
  | _ => none }
def fnExactReverseEntryRow : OpenClaim := { program := "ytlldnhgkngigoaa", sum := "4d4575e54b222ad635f08d88ade5a3e7c426c84ee6b8e57da8059dd43d3ae379", func := "loop.example/g01025/laws.FnExactReverseEntry", spec := "fnExactReverseEntry", apart := false }
def FnExactReverseEntrySaid : Prop := fnExactReverseEntryRow.holds Try.pinned (OpenSpec.ofChange fnExactReverseEntrySpec)

/-- ITS FALSE NEIGHBOUR: 'it returns false'. Refute it at one input. -/
def fnExactReverseEntryWrong : ChangeSpec := { name := "fnExactReverseEntry", fn := fun _ => fun
  | [d1, d2, d3] => { results := [.lit (.bool false)], args := [d1, d2, d3] }
  | _ => none }
def FnExactReverseEntryWrongFalsely : Prop := fnExactReverseEntryRow.holds Try.pinned (OpenSpec.ofChange fnExactReverseEntryWrong)

/-- 'laws.FnExactTrialBalance': WHATEVER THE INPUT: true; the input reads as it did. -/
def fnExactTrialBalanceSpec : ChangeSpec := { name := "fnExactTrialBalance", fn := fun _ => fun
  | [d] => { results := [.lit (.bool true)], args := [d] }
  | _ => none }
def fnExactTrialBalanceRow : OpenClaim := { program := "ytlldnhgkngigoaa", sum := "4d4575e54b222ad635f08d88ade5a3e7c426c84ee6b8e57da8059dd43d3ae379", func := "loop.example/g01025/laws.FnExactTrialBalance", spec := "fnExactTrialBalance", apart := false }
def FnExactTrialBalanceSaid : Prop := fnExactTrialBalanceRow.holds Try.pinned (OpenSpec.ofChange fnExactTrialBalanceSpec)

/-- ITS FALSE NEIGHBOUR: 'it returns false'. Refute it at one input. -/
def fnExactTrialBalanceWrong : ChangeSpec := { name := "fnExactTrialBalance", fn := fun _ => fun
  | [d] => { results := [.lit (.bool false)], args := [d] }
  | _ => none }
def FnExactTrialBalanceWrongFalsely : Prop := fnExactTrialBalanceRow.holds Try.pinned (OpenSpec.ofChange fnExactTrialBalanceWrong)

/-- 'laws.FnLedgers': WHATEVER THE INPUT: true; the input reads as it did. -/
def fnLedgersSpec : ChangeSpec := { name := "fnLedgers", fn := fun _ => fun
  | [d] => { results := [.lit (.bool true)], args := [d] }
  | _ => none }
def fnLedgersRow : OpenClaim := { program := "ytlldnhgkngigoaa", sum := "4d4575e54b222ad635f08d88ade5a3e7c426c84ee6b8e57da8059dd43d3ae379", func := "loop.example/g01025/laws.FnLedgers", spec := "fnLedgers", apart := false }
def FnLedgersSaid : Prop := fnLedgersRow.holds Try.pinned (OpenSpec.ofChange fnLedgersSpec)

/-- ITS FALSE NEIGHBOUR: 'it returns false'. Refute it at one input. -/
def fnLedgersWrong : ChangeSpec := { name := "fnLedgers", fn := fun _ => fun
  | [d] => { results := [.lit (.bool false)], args := [d] }
  | _ => none }
def FnLedgersWrongFalsely : Prop := fnLedgersRow.holds Try.pinned (OpenSpec.ofChange fnLedgersWrong)

/- THE SECOND FORM. 'bulk': how many values and letters a reading holds, each counted each time it is reached (what is shared counts as often as it is met; a slice's spare places count too). A statement '..UptoSaid' is the law's where the arguments, and the package variables that the reading takes, are together of bulk at most 1048576: NARROWER than '..Said'. Prove '..Said' where nothing that the law and all that it calls make is longer than what came in: it says more and counts as full. Else prove '..UptoSaid'. A law counts once. -/
mutual
def uptoBulk {H : Type} : DataW H → Nat
  | .lit (.string bytes) => bytes.length + 1
  | .lit _ => 1
  | .nil => 1
  | .ptr d => uptoBulk d + 1
  | .slice elems spare => uptoBulkAll elems + uptoBulkAll spare + 1
  | .agg parts => uptoBulkAll parts + 1
  | .iface _ d => uptoBulk d + 1
  | .map entries => uptoBulkEntries entries + 1
  | .held _ => 1
def uptoBulkAll {H : Type} : List (DataW H) → Nat
  | [] => 0
  | d :: r => uptoBulk d + uptoBulkAll r
def uptoBulkEntries {H : Type} : List (Lit × DataW H) → Nat
  | [] => 0
  | x :: r => uptoBulkEntry x + uptoBulkEntries r
def uptoBulkEntry {H : Type} : Lit × DataW H → Nat
  | (.string bytes, d) => bytes.length + uptoBulk d + 1
  | (_, d) => uptoBulk d + 1
 end
def uptoSmall : (H : Type) → List (DataW H) → Bool := fun _ ds => decide (uptoBulkAll ds ≤ 1048576)
def OpenSpec.upto (s : _root_.Go.ChangeSpec) : _root_.Go.OpenSpec := { _root_.Go.OpenSpec.ofChange s with cond := some uptoSmall }

/-- 'laws.FnExactIsLedger', WHERE WHAT IT READS IS OF BULK AT MOST 1048576: true; the input reads as it did. -/
def fnExactIsLedgerUptoRow : OpenClaim := { program := "ytlldnhgkngigoaa", sum := "4d4575e54b222ad635f08d88ade5a3e7c426c84ee6b8e57da8059dd43d3ae379", func := "loop.example/g01025/laws.FnExactIsLedger", spec := "fnExactIsLedger", apart := false, narrowed := true }
def FnExactIsLedgerUptoSaid : Prop := fnExactIsLedgerUptoRow.holds Try.pinned (OpenSpec.upto fnExactIsLedgerSpec)

/-- 'laws.FnExactTurnoverOf', WHERE WHAT IT READS IS OF BULK AT MOST 1048576: true; the input reads as it did. -/
def fnExactTurnoverOfUptoRow : OpenClaim := { program := "ytlldnhgkngigoaa", sum := "4d4575e54b222ad635f08d88ade5a3e7c426c84ee6b8e57da8059dd43d3ae379", func := "loop.example/g01025/laws.FnExactTurnoverOf", spec := "fnExactTurnoverOf", apart := false, narrowed := true }
def FnExactTurnoverOfUptoSaid : Prop := fnExactTurnoverOfUptoRow.holds Try.pinned (OpenSpec.upto fnExactTurnoverOfSpec)

/-- 'laws.FnExactAccountBalance', WHERE WHAT IT READS IS OF BULK AT MOST 1048576: true; the input reads as it did. -/
def fnExactAccountBalanceUptoRow : OpenClaim := { program := "ytlldnhgkngigoaa", sum := "4d4575e54b222ad635f08d88ade5a3e7c426c84ee6b8e57da8059dd43d3ae379", func := "loop.example/g01025/laws.FnExactAccountBalance", spec := "fnExactAccountBalance", apart := false, narrowed := true }
def FnExactAccountBalanceUptoSaid : Prop := fnExactAccountBalanceUptoRow.holds Try.pinned (OpenSpec.upto fnExactAccountBalanceSpec)

/-- 'laws.FnExactBookEntry', WHERE WHAT IT READS IS OF BULK AT MOST 1048576: true; the input reads as it did. -/
def fnExactBookEntryUptoRow : OpenClaim := { program := "ytlldnhgkngigoaa", sum := "4d4575e54b222ad635f08d88ade5a3e7c426c84ee6b8e57da8059dd43d3ae379", func := "loop.example/g01025/laws.FnExactBookEntry", spec := "fnExactBookEntry", apart := false, narrowed := true }
def FnExactBookEntryUptoSaid : Prop := fnExactBookEntryUptoRow.holds Try.pinned (OpenSpec.upto fnExactBookEntrySpec)

/-- 'laws.FnExactReverseEntry', WHERE WHAT IT READS IS OF BULK AT MOST 1048576: true; the input reads as it did. -/
def fnExactReverseEntryUptoRow : OpenClaim := { program := "ytlldnhgkngigoaa", sum := "4d4575e54b222ad635f08d88ade5a3e7c426c84ee6b8e57da8059dd43d3ae379", func := "loop.example/g01025/laws.FnExactReverseEntry", spec := "fnExactReverseEntry", apart := false, narrowed := true }
def FnExactReverseEntryUptoSaid : Prop := fnExactReverseEntryUptoRow.holds Try.pinned (OpenSpec.upto fnExactReverseEntrySpec)

/-- 'laws.FnExactTrialBalance', WHERE WHAT IT READS IS OF BULK AT MOST 1048576: true; the input reads as it did. -/
def fnExactTrialBalanceUptoRow : OpenClaim := { program := "ytlldnhgkngigoaa", sum := "4d4575e54b222ad635f08d88ade5a3e7c426c84ee6b8e57da8059dd43d3ae379", func := "loop.example/g01025/laws.FnExactTrialBalance", spec := "fnExactTrialBalance", apart := false, narrowed := true }
def FnExactTrialBalanceUptoSaid : Prop := fnExactTrialBalanceUptoRow.holds Try.pinned (OpenSpec.upto fnExactTrialBalanceSpec)

/-- 'laws.FnLedgers', WHERE WHAT IT READS IS OF BULK AT MOST 1048576: true; the input reads as it did. -/
def fnLedgersUptoRow : OpenClaim := { program := "ytlldnhgkngigoaa", sum := "4d4575e54b222ad635f08d88ade5a3e7c426c84ee6b8e57da8059dd43d3ae379", func := "loop.example/g01025/laws.FnLedgers", spec := "fnLedgers", apart := false, narrowed := true }
def FnLedgersUptoSaid : Prop := fnLedgersUptoRow.holds Try.pinned (OpenSpec.upto fnLedgersSpec)

end Rows
end Go.Proofs.Ytlldnhgkngigoaa
