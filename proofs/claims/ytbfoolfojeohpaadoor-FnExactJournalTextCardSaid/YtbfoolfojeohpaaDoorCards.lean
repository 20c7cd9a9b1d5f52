/-
  DERIVED. GIVEN WITH THE SEED: THE CARDS: each row of YtbfoolfojeohpaaDoorRows.lean that lists a variable, with what it lists TIED to the program's text (the seventh form; the later family's looks); each row that meets fmt, with fmt's text TOLD by the authors' own Lean function (tested against real Go, not proved from fmt's source: count such statements apart). THE CARD IS WHAT COUNTS. Prove the row's statement (the work); the ties are given (YtbfoolfojeohpaaDoorTie.lean); close each card by the builder's one call (the guide's Derived/Test/ToyasCard.lean, 'card_holds'). Laid BY PROGRAM, IN A SANDBOX (cutbox-door.mjs). By AI agents, Wed Nov 11 2026. No macro, syntax, notation, axiom, sorry.
-/
import Derived.Test.YtbfoolfojeohpaaDoorRows
import GoSem.ClaimSeven
namespace Go.Proofs.YtbfoolfojeohpaaDoor
namespace Rows

/-- THE TIED CARD OF 'laws.FnExactJournalText'. -/
def fnExactJournalTextCard : Claim7 := { stood := { row := fnExactJournalTextRow, standIns := [], harness := (true, "dff788b0ea490bdce52e742b188946aac91362dacdfaac40f220b5a0843a5a6a"), looks := false }, kinds := [], alts := [], laidByText := true, laidKinds := [.data, .data, .data, .data], laidTests := true, laidLooks := .later }
def FnExactJournalTextCardSaid : Prop := Claim7.holds Tryd.pinned (.plain (OpenSpec.ofChange fnExactJournalTextSpec)) fnExactJournalTextCard

/-- THE SECOND FORM's CARD OF 'laws.FnExactJournalText'. -/
def fnExactJournalTextUptoCard : Claim7 := { stood := { row := fnExactJournalTextUptoRow, standIns := [], harness := (true, "dff788b0ea490bdce52e742b188946aac91362dacdfaac40f220b5a0843a5a6a"), looks := false }, kinds := [], alts := [], laidByText := true, laidKinds := [.data, .data, .data, .data], laidTests := true, laidLooks := .later }
def FnExactJournalTextUptoCardSaid : Prop := Claim7.holds Tryd.pinned (.plain (OpenSpec.upto fnExactJournalTextSpec)) fnExactJournalTextUptoCard
end Rows
end Go.Proofs.YtbfoolfojeohpaaDoor
