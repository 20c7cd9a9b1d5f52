/-
  DERIVED. GIVEN WITH THE SEED: THE CARDS: each row of YtnipndamigpcdaaDoorRows.lean that lists a variable, with what it lists TIED to the program's text (the seventh form; the later family's looks); each row that meets fmt, with fmt's text TOLD by the authors' own Lean function (tested against real Go, not proved from fmt's source: count such statements apart). THE CARD IS WHAT COUNTS. Prove the row's statement (the work); the ties are given (YtnipndamigpcdaaDoorTie.lean); close each card by the builder's one call (the guide's Derived/Test/ToyasCard.lean, 'card_holds'). Laid BY PROGRAM, IN A SANDBOX (cutbox-door.mjs). By AI agents, Wed Nov 11 2026. No macro, syntax, notation, axiom, sorry.
-/
import Derived.Test.YtnipndamigpcdaaDoorRows
import GoSem.ClaimSeven
namespace Go.Proofs.YtnipndamigpcdaaDoor
namespace Rows

/-- THE TIED CARD OF 'laws.FnExactAccountName'. -/
def fnExactAccountNameCard : Claim7 := { stood := { row := fnExactAccountNameRow, standIns := [], harness := (true, "74e0c28ebb864f41198631958d4624de5461b005f3e0e5e20ddcf2fb4b4f125b"), looks := false }, kinds := [], alts := [], laidByText := true, laidKinds := [.data], laidTests := true, laidLooks := .later }
def FnExactAccountNameCardSaid : Prop := Claim7.holds Tryd.pinned (.plain (OpenSpec.ofChange fnExactAccountNameSpec)) fnExactAccountNameCard

/-- THE SECOND FORM's CARD OF 'laws.FnExactAccountName'. -/
def fnExactAccountNameUptoCard : Claim7 := { stood := { row := fnExactAccountNameUptoRow, standIns := [], harness := (true, "74e0c28ebb864f41198631958d4624de5461b005f3e0e5e20ddcf2fb4b4f125b"), looks := false }, kinds := [], alts := [], laidByText := true, laidKinds := [.data], laidTests := true, laidLooks := .later }
def FnExactAccountNameUptoCardSaid : Prop := Claim7.holds Tryd.pinned (.plain (OpenSpec.upto fnExactAccountNameSpec)) fnExactAccountNameUptoCard
end Rows
end Go.Proofs.YtnipndamigpcdaaDoor
