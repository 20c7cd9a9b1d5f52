/-
  DERIVED. GIVEN WITH THE SEED: THE CARDS: each row of YtlbllonpodckgaaGreatDoorRows.lean that lists a variable, with what it lists TIED to the program's text (the seventh form; the later family's looks); each row that meets fmt, with fmt's text TOLD by the authors' own Lean function (tested against real Go, not proved from fmt's source: count such statements apart). THE CARD IS WHAT COUNTS. Prove the row's statement (the work); the ties are given (YtlbllonpodckgaaGreatDoorTie.lean); close each card by the builder's one call (the guide's Derived/Test/ToyasCard.lean, 'card_holds'). Laid BY PROGRAM, IN A SANDBOX (cutbox-door.mjs). By AI agents, Wed Nov 11 2026. No macro, syntax, notation, axiom, sorry.
-/
import Derived.Test.YtlbllonpodckgaaGreatDoorRows
import GoSem.ClaimSeven
namespace Go.Proofs.YtlbllonpodckgaaGreatDoor
namespace Rows

/-- THE TIED CARD OF 'laws.FnExactRecoverLedger'. -/
def fnExactRecoverLedgerCard : Claim7 := { stood := { row := fnExactRecoverLedgerRow, standIns := [], harness := (true, "bf144f43664a2f14e79e51c0f7b219c72903ddfc02373a925aaa9aba4444d54f"), looks := true }, kinds := [], alts := [], laidByText := true, laidKinds := [.data, .data, .data, .data, .sentinel, .sentinel, .data, .pinned], laidTests := true, laidLooks := .later }
def FnExactRecoverLedgerCardSaid : Prop := Claim7.holds Tryz.pinned (.plain (OpenSpec.ofChange fnExactRecoverLedgerSpec)) fnExactRecoverLedgerCard

/-- THE TIED CARD OF 'laws.FnJournals'. -/
def fnJournalsCard : Claim7 := { stood := { row := fnJournalsRow, standIns := [], harness := (true, "bf144f43664a2f14e79e51c0f7b219c72903ddfc02373a925aaa9aba4444d54f"), looks := true }, kinds := [], alts := [], laidByText := true, laidKinds := [.data, .data, .data, .data, .sentinel, .sentinel, .data, .pinned], laidTests := true, laidLooks := .later }
def FnJournalsCardSaid : Prop := Claim7.holds Tryz.pinned (.plain (OpenSpec.ofChange fnJournalsSpec)) fnJournalsCard

/-- THE TIED CARD OF 'laws.FnSickness'. -/
def fnSicknessCard : Claim7 := { stood := { row := fnSicknessRow, standIns := [], harness := (true, "bf144f43664a2f14e79e51c0f7b219c72903ddfc02373a925aaa9aba4444d54f"), looks := true }, kinds := [], alts := [], laidByText := true, laidKinds := [.data, .data, .data, .data, .sentinel, .sentinel, .pinned], laidTests := true, laidLooks := .later }
def FnSicknessCardSaid : Prop := Claim7.holds Tryz.pinned (.plain (OpenSpec.ofChange fnSicknessSpec)) fnSicknessCard

/-- THE TIED CARD OF 'laws.FnPolicyTexts'. -/
def fnPolicyTextsCard : Claim7 := { stood := { row := fnPolicyTextsRow, standIns := [], harness := (true, "bf144f43664a2f14e79e51c0f7b219c72903ddfc02373a925aaa9aba4444d54f"), looks := true }, kinds := [], alts := [], laidByText := true, laidKinds := [.data, .data, .data, .data, .sentinel, .sentinel, .pinned], laidTests := true, laidLooks := .later }
def FnPolicyTextsCardSaid : Prop := Claim7.holds Tryz.pinned (.plain (OpenSpec.ofChange fnPolicyTextsSpec)) fnPolicyTextsCard

/-- THE TIED CARD OF 'laws.FnLifeTables'. -/
def fnLifeTablesCard : Claim7 := { stood := { row := fnLifeTablesRow, standIns := [], harness := (true, "bf144f43664a2f14e79e51c0f7b219c72903ddfc02373a925aaa9aba4444d54f"), looks := true }, kinds := [], alts := [], laidByText := true, laidKinds := [.data, .data, .data, .data, .sentinel, .sentinel, .pinned], laidTests := true, laidLooks := .later }
def FnLifeTablesCardSaid : Prop := Claim7.holds Tryz.pinned (.plain (OpenSpec.ofChange fnLifeTablesSpec)) fnLifeTablesCard

/-- THE SECOND FORM's CARD OF 'laws.FnExactRecoverLedger'. -/
def fnExactRecoverLedgerUptoCard : Claim7 := { stood := { row := fnExactRecoverLedgerUptoRow, standIns := [], harness := (true, "bf144f43664a2f14e79e51c0f7b219c72903ddfc02373a925aaa9aba4444d54f"), looks := true }, kinds := [], alts := [], laidByText := true, laidKinds := [.data, .data, .data, .data, .sentinel, .sentinel, .data, .pinned], laidTests := true, laidLooks := .later }
def FnExactRecoverLedgerUptoCardSaid : Prop := Claim7.holds Tryz.pinned (.plain (OpenSpec.upto fnExactRecoverLedgerSpec)) fnExactRecoverLedgerUptoCard

/-- THE SECOND FORM's CARD OF 'laws.FnJournals'. -/
def fnJournalsUptoCard : Claim7 := { stood := { row := fnJournalsUptoRow, standIns := [], harness := (true, "bf144f43664a2f14e79e51c0f7b219c72903ddfc02373a925aaa9aba4444d54f"), looks := true }, kinds := [], alts := [], laidByText := true, laidKinds := [.data, .data, .data, .data, .sentinel, .sentinel, .data, .pinned], laidTests := true, laidLooks := .later }
def FnJournalsUptoCardSaid : Prop := Claim7.holds Tryz.pinned (.plain (OpenSpec.upto fnJournalsSpec)) fnJournalsUptoCard

/-- THE SECOND FORM's CARD OF 'laws.FnSickness'. -/
def fnSicknessUptoCard : Claim7 := { stood := { row := fnSicknessUptoRow, standIns := [], harness := (true, "bf144f43664a2f14e79e51c0f7b219c72903ddfc02373a925aaa9aba4444d54f"), looks := true }, kinds := [], alts := [], laidByText := true, laidKinds := [.data, .data, .data, .data, .sentinel, .sentinel, .pinned], laidTests := true, laidLooks := .later }
def FnSicknessUptoCardSaid : Prop := Claim7.holds Tryz.pinned (.plain (OpenSpec.upto fnSicknessSpec)) fnSicknessUptoCard

/-- THE SECOND FORM's CARD OF 'laws.FnPolicyTexts'. -/
def fnPolicyTextsUptoCard : Claim7 := { stood := { row := fnPolicyTextsUptoRow, standIns := [], harness := (true, "bf144f43664a2f14e79e51c0f7b219c72903ddfc02373a925aaa9aba4444d54f"), looks := true }, kinds := [], alts := [], laidByText := true, laidKinds := [.data, .data, .data, .data, .sentinel, .sentinel, .pinned], laidTests := true, laidLooks := .later }
def FnPolicyTextsUptoCardSaid : Prop := Claim7.holds Tryz.pinned (.plain (OpenSpec.upto fnPolicyTextsSpec)) fnPolicyTextsUptoCard

/-- THE SECOND FORM's CARD OF 'laws.FnLifeTables'. -/
def fnLifeTablesUptoCard : Claim7 := { stood := { row := fnLifeTablesUptoRow, standIns := [], harness := (true, "bf144f43664a2f14e79e51c0f7b219c72903ddfc02373a925aaa9aba4444d54f"), looks := true }, kinds := [], alts := [], laidByText := true, laidKinds := [.data, .data, .data, .data, .sentinel, .sentinel, .pinned], laidTests := true, laidLooks := .later }
def FnLifeTablesUptoCardSaid : Prop := Claim7.holds Tryz.pinned (.plain (OpenSpec.upto fnLifeTablesSpec)) fnLifeTablesUptoCard
end Rows
end Go.Proofs.YtlbllonpodckgaaGreatDoor
