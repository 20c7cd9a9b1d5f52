/-
  DERIVED. GIVEN WITH THE SEED: THE CARDS: each row of YtkdfdbcpbgganaaGreatDoorRows.lean that lists a variable, with what it lists TIED to the program's text (the seventh form; the later family's looks); each row that meets fmt, with fmt's text TOLD by the authors' own Lean function (tested against real Go, not proved from fmt's source: count such statements apart). THE CARD IS WHAT COUNTS. Prove the row's statement (the work); the ties are given (YtkdfdbcpbgganaaGreatDoorTie.lean); close each card by the builder's one call (the guide's Derived/Test/ToyasCard.lean, 'card_holds'). Laid BY PROGRAM, IN A SANDBOX (cutbox-door.mjs). By AI agents, Wed Nov 11 2026. No macro, syntax, notation, axiom, sorry.
-/
import Derived.Test.YtkdfdbcpbgganaaGreatDoorRows
import GoSem.ClaimSeven
namespace Go.Proofs.YtkdfdbcpbgganaaGreatDoor
namespace Rows

/-- THE TIED CARD OF 'laws.FnSickness'. -/
def fnSicknessCard : Claim7 := { stood := { row := fnSicknessRow, standIns := [], harness := (true, "944769ec104bf636e2495db27d344d7bb4a5a38d0f61a5e30c7b5634e5cf2653"), looks := true }, kinds := [], alts := [], laidByText := true, laidKinds := [.data, .data, .data, .data, .sentinel, .sentinel, .pinned], laidTests := true, laidLooks := .later }
def FnSicknessCardSaid : Prop := Claim7.holds Tryz.pinned (.plain (OpenSpec.ofChange fnSicknessSpec)) fnSicknessCard

/-- THE TIED CARD OF 'laws.FnPolicyTexts'. -/
def fnPolicyTextsCard : Claim7 := { stood := { row := fnPolicyTextsRow, standIns := [], harness := (true, "944769ec104bf636e2495db27d344d7bb4a5a38d0f61a5e30c7b5634e5cf2653"), looks := true }, kinds := [], alts := [], laidByText := true, laidKinds := [.data, .data, .data, .data, .sentinel, .sentinel, .pinned], laidTests := true, laidLooks := .later }
def FnPolicyTextsCardSaid : Prop := Claim7.holds Tryz.pinned (.plain (OpenSpec.ofChange fnPolicyTextsSpec)) fnPolicyTextsCard

/-- THE SECOND FORM's CARD OF 'laws.FnSickness'. -/
def fnSicknessUptoCard : Claim7 := { stood := { row := fnSicknessUptoRow, standIns := [], harness := (true, "944769ec104bf636e2495db27d344d7bb4a5a38d0f61a5e30c7b5634e5cf2653"), looks := true }, kinds := [], alts := [], laidByText := true, laidKinds := [.data, .data, .data, .data, .sentinel, .sentinel, .pinned], laidTests := true, laidLooks := .later }
def FnSicknessUptoCardSaid : Prop := Claim7.holds Tryz.pinned (.plain (OpenSpec.upto fnSicknessSpec)) fnSicknessUptoCard

/-- THE SECOND FORM's CARD OF 'laws.FnPolicyTexts'. -/
def fnPolicyTextsUptoCard : Claim7 := { stood := { row := fnPolicyTextsUptoRow, standIns := [], harness := (true, "944769ec104bf636e2495db27d344d7bb4a5a38d0f61a5e30c7b5634e5cf2653"), looks := true }, kinds := [], alts := [], laidByText := true, laidKinds := [.data, .data, .data, .data, .sentinel, .sentinel, .pinned], laidTests := true, laidLooks := .later }
def FnPolicyTextsUptoCardSaid : Prop := Claim7.holds Tryz.pinned (.plain (OpenSpec.upto fnPolicyTextsSpec)) fnPolicyTextsUptoCard
end Rows
end Go.Proofs.YtkdfdbcpbgganaaGreatDoor
