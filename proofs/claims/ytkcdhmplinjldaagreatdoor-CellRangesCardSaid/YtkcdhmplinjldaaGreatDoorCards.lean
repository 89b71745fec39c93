/-
  DERIVED. GIVEN WITH THE SEED: THE CARDS: each row of YtkcdhmplinjldaaGreatDoorRows.lean that lists a variable, with what it lists TIED to the program's text (the seventh form; the later family's looks); each row that meets fmt, with fmt's text TOLD by the authors' own Lean function (tested against real Go, not proved from fmt's source: count such statements apart). THE CARD IS WHAT COUNTS. Prove the row's statement (the work); the ties are given (YtkcdhmplinjldaaGreatDoorTie.lean); close each card by the builder's one call (the guide's Derived/Test/ToyasCard.lean, 'card_holds'). Laid BY PROGRAM, IN A SANDBOX (cutbox-door.mjs). By AI agents, Wed Nov 11 2026. No macro, syntax, notation, axiom, sorry.
-/
import Derived.Test.YtkcdhmplinjldaaGreatDoorRows
import GoSem.ClaimSeven
namespace Go.Proofs.YtkcdhmplinjldaaGreatDoor
namespace Rows

/-- THE TIED CARD OF 'dossierlaw7.CellParses'. -/
def cellParsesCard : Claim7 := { stood := { row := cellParsesRow, standIns := [], harness := (true, "00c62cd7766f19fa2abae23fb42cb6ca6f3e0f4871f842132c6e44a30c0f2f9f"), looks := true }, kinds := [], alts := [], laidByText := true, laidKinds := [.data, .data, .data, .data, .sentinel, .sentinel, .listed, .data, .pinned], laidTests := true, laidLooks := .later }
def CellParsesCardSaid : Prop := Claim7.holds Tryz.pinned (.plain (OpenSpec.ofChange cellParsesSpec)) cellParsesCard

/-- THE TIED CARD OF 'dossierlaw7.CellTexts'. -/
def cellTextsCard : Claim7 := { stood := { row := cellTextsRow, standIns := [], harness := (true, "00c62cd7766f19fa2abae23fb42cb6ca6f3e0f4871f842132c6e44a30c0f2f9f"), looks := true }, kinds := [], alts := [], laidByText := true, laidKinds := [.data, .data, .data, .data, .sentinel, .sentinel, .listed, .data, .pinned], laidTests := true, laidLooks := .later }
def CellTextsCardSaid : Prop := Claim7.holds Tryz.pinned (.plain (OpenSpec.ofChange cellTextsSpec)) cellTextsCard

/-- THE TIED CARD OF 'dossierlaw7.CellRanges'. -/
def cellRangesCard : Claim7 := { stood := { row := cellRangesRow, standIns := [], harness := (true, "00c62cd7766f19fa2abae23fb42cb6ca6f3e0f4871f842132c6e44a30c0f2f9f"), looks := true }, kinds := [], alts := [], laidByText := true, laidKinds := [.data, .data, .data, .data, .sentinel, .sentinel, .listed, .data, .pinned], laidTests := true, laidLooks := .later }
def CellRangesCardSaid : Prop := Claim7.holds Tryz.pinned (.plain (OpenSpec.ofChange cellRangesSpec)) cellRangesCard

/-- THE TIED CARD OF 'dossierlaw7.CellRows'. -/
def cellRowsCard : Claim7 := { stood := { row := cellRowsRow, standIns := [], harness := (true, "00c62cd7766f19fa2abae23fb42cb6ca6f3e0f4871f842132c6e44a30c0f2f9f"), looks := true }, kinds := [], alts := [], laidByText := true, laidKinds := [.data, .data, .data, .data, .sentinel, .sentinel, .listed, .data, .pinned], laidTests := true, laidLooks := .later }
def CellRowsCardSaid : Prop := Claim7.holds Tryz.pinned (.plain (OpenSpec.ofChange cellRowsSpec)) cellRowsCard

/-- THE TIED CARD OF 'dossierlaw7.CellMany'. -/
def cellManyCard : Claim7 := { stood := { row := cellManyRow, standIns := [], harness := (true, "00c62cd7766f19fa2abae23fb42cb6ca6f3e0f4871f842132c6e44a30c0f2f9f"), looks := true }, kinds := [], alts := [], laidByText := true, laidKinds := [.data, .data, .data, .data, .sentinel, .sentinel, .listed, .data, .pinned], laidTests := true, laidLooks := .later }
def CellManyCardSaid : Prop := Claim7.holds Tryz.pinned (.plain (OpenSpec.ofChange cellManySpec)) cellManyCard

/-- THE TIED CARD OF 'dossierlaw7.CellNames'. -/
def cellNamesCard : Claim7 := { stood := { row := cellNamesRow, standIns := [], harness := (true, "00c62cd7766f19fa2abae23fb42cb6ca6f3e0f4871f842132c6e44a30c0f2f9f"), looks := true }, kinds := [], alts := [], laidByText := true, laidKinds := [.data, .data, .data, .data, .sentinel, .sentinel, .listed, .data, .pinned], laidTests := true, laidLooks := .later }
def CellNamesCardSaid : Prop := Claim7.holds Tryz.pinned (.plain (OpenSpec.ofChange cellNamesSpec)) cellNamesCard

/-- THE TIED CARD OF 'dossierlaw7.CellMatches'. -/
def cellMatchesCard : Claim7 := { stood := { row := cellMatchesRow, standIns := [], harness := (true, "00c62cd7766f19fa2abae23fb42cb6ca6f3e0f4871f842132c6e44a30c0f2f9f"), looks := true }, kinds := [], alts := [], laidByText := true, laidKinds := [.data, .data, .data, .data, .sentinel, .sentinel, .listed, .data, .pinned], laidTests := true, laidLooks := .later }
def CellMatchesCardSaid : Prop := Claim7.holds Tryz.pinned (.plain (OpenSpec.ofChange cellMatchesSpec)) cellMatchesCard

/-- THE SECOND FORM's CARD OF 'dossierlaw7.CellParses'. -/
def cellParsesUptoCard : Claim7 := { stood := { row := cellParsesUptoRow, standIns := [], harness := (true, "00c62cd7766f19fa2abae23fb42cb6ca6f3e0f4871f842132c6e44a30c0f2f9f"), looks := true }, kinds := [], alts := [], laidByText := true, laidKinds := [.data, .data, .data, .data, .sentinel, .sentinel, .listed, .data, .pinned], laidTests := true, laidLooks := .later }
def CellParsesUptoCardSaid : Prop := Claim7.holds Tryz.pinned (.plain (OpenSpec.upto cellParsesSpec)) cellParsesUptoCard

/-- THE SECOND FORM's CARD OF 'dossierlaw7.CellTexts'. -/
def cellTextsUptoCard : Claim7 := { stood := { row := cellTextsUptoRow, standIns := [], harness := (true, "00c62cd7766f19fa2abae23fb42cb6ca6f3e0f4871f842132c6e44a30c0f2f9f"), looks := true }, kinds := [], alts := [], laidByText := true, laidKinds := [.data, .data, .data, .data, .sentinel, .sentinel, .listed, .data, .pinned], laidTests := true, laidLooks := .later }
def CellTextsUptoCardSaid : Prop := Claim7.holds Tryz.pinned (.plain (OpenSpec.upto cellTextsSpec)) cellTextsUptoCard

/-- THE SECOND FORM's CARD OF 'dossierlaw7.CellRanges'. -/
def cellRangesUptoCard : Claim7 := { stood := { row := cellRangesUptoRow, standIns := [], harness := (true, "00c62cd7766f19fa2abae23fb42cb6ca6f3e0f4871f842132c6e44a30c0f2f9f"), looks := true }, kinds := [], alts := [], laidByText := true, laidKinds := [.data, .data, .data, .data, .sentinel, .sentinel, .listed, .data, .pinned], laidTests := true, laidLooks := .later }
def CellRangesUptoCardSaid : Prop := Claim7.holds Tryz.pinned (.plain (OpenSpec.upto cellRangesSpec)) cellRangesUptoCard

/-- THE SECOND FORM's CARD OF 'dossierlaw7.CellRows'. -/
def cellRowsUptoCard : Claim7 := { stood := { row := cellRowsUptoRow, standIns := [], harness := (true, "00c62cd7766f19fa2abae23fb42cb6ca6f3e0f4871f842132c6e44a30c0f2f9f"), looks := true }, kinds := [], alts := [], laidByText := true, laidKinds := [.data, .data, .data, .data, .sentinel, .sentinel, .listed, .data, .pinned], laidTests := true, laidLooks := .later }
def CellRowsUptoCardSaid : Prop := Claim7.holds Tryz.pinned (.plain (OpenSpec.upto cellRowsSpec)) cellRowsUptoCard

/-- THE SECOND FORM's CARD OF 'dossierlaw7.CellMany'. -/
def cellManyUptoCard : Claim7 := { stood := { row := cellManyUptoRow, standIns := [], harness := (true, "00c62cd7766f19fa2abae23fb42cb6ca6f3e0f4871f842132c6e44a30c0f2f9f"), looks := true }, kinds := [], alts := [], laidByText := true, laidKinds := [.data, .data, .data, .data, .sentinel, .sentinel, .listed, .data, .pinned], laidTests := true, laidLooks := .later }
def CellManyUptoCardSaid : Prop := Claim7.holds Tryz.pinned (.plain (OpenSpec.upto cellManySpec)) cellManyUptoCard

/-- THE SECOND FORM's CARD OF 'dossierlaw7.CellNames'. -/
def cellNamesUptoCard : Claim7 := { stood := { row := cellNamesUptoRow, standIns := [], harness := (true, "00c62cd7766f19fa2abae23fb42cb6ca6f3e0f4871f842132c6e44a30c0f2f9f"), looks := true }, kinds := [], alts := [], laidByText := true, laidKinds := [.data, .data, .data, .data, .sentinel, .sentinel, .listed, .data, .pinned], laidTests := true, laidLooks := .later }
def CellNamesUptoCardSaid : Prop := Claim7.holds Tryz.pinned (.plain (OpenSpec.upto cellNamesSpec)) cellNamesUptoCard

/-- THE SECOND FORM's CARD OF 'dossierlaw7.CellMatches'. -/
def cellMatchesUptoCard : Claim7 := { stood := { row := cellMatchesUptoRow, standIns := [], harness := (true, "00c62cd7766f19fa2abae23fb42cb6ca6f3e0f4871f842132c6e44a30c0f2f9f"), looks := true }, kinds := [], alts := [], laidByText := true, laidKinds := [.data, .data, .data, .data, .sentinel, .sentinel, .listed, .data, .pinned], laidTests := true, laidLooks := .later }
def CellMatchesUptoCardSaid : Prop := Claim7.holds Tryz.pinned (.plain (OpenSpec.upto cellMatchesSpec)) cellMatchesUptoCard
end Rows
end Go.Proofs.YtkcdhmplinjldaaGreatDoor
