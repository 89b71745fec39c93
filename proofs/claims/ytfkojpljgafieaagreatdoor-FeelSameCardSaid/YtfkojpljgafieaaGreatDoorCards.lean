/-
  DERIVED. GIVEN WITH THE SEED: THE CARDS: each row of YtfkojpljgafieaaGreatDoorRows.lean that lists a variable, with what it lists TIED to the program's text (the seventh form; the later family's looks); each row that meets fmt, with fmt's text TOLD by the authors' own Lean function (tested against real Go, not proved from fmt's source: count such statements apart). THE CARD IS WHAT COUNTS. Prove the row's statement (the work); the ties are given (YtfkojpljgafieaaGreatDoorTie.lean); close each card by the builder's one call (the guide's Derived/Test/ToyasCard.lean, 'card_holds'). Laid BY PROGRAM, IN A SANDBOX (cutbox-door.mjs). By AI agents, Wed Nov 11 2026. No macro, syntax, notation, axiom, sorry.
-/
import Derived.Test.YtfkojpljgafieaaGreatDoorRows
import GoSem.ClaimSeven
namespace Go.Proofs.YtfkojpljgafieaaGreatDoor
namespace Rows

/-- THE TIED CARD OF 'dossierlaw4.FeelParses'. -/
def feelParsesCard : Claim7 := { stood := { row := feelParsesRow, standIns := [], harness := (true, "ec6b1e8d7c90f0a0b5089990b7f8131cfd958bef40adde1a6d00dc681f05bbc9"), looks := true }, kinds := [], alts := [], laidByText := true, laidKinds := [.data, .data, .data, .data, .sentinel, .sentinel, .listed, .data, .pinned], laidTests := true, laidLooks := .later }
def FeelParsesCardSaid : Prop := Claim7.holds Tryz.pinned (.plain (OpenSpec.ofChange feelParsesSpec)) feelParsesCard

/-- THE TIED CARD OF 'dossierlaw4.FeelOps'. -/
def feelOpsCard : Claim7 := { stood := { row := feelOpsRow, standIns := [], harness := (true, "ec6b1e8d7c90f0a0b5089990b7f8131cfd958bef40adde1a6d00dc681f05bbc9"), looks := true }, kinds := [], alts := [], laidByText := true, laidKinds := [.data, .data, .data, .data, .sentinel, .sentinel, .listed, .data, .pinned], laidTests := true, laidLooks := .later }
def FeelOpsCardSaid : Prop := Claim7.holds Tryz.pinned (.plain (OpenSpec.ofChange feelOpsSpec)) feelOpsCard

/-- THE TIED CARD OF 'dossierlaw4.FeelDeep'. -/
def feelDeepCard : Claim7 := { stood := { row := feelDeepRow, standIns := [], harness := (true, "ec6b1e8d7c90f0a0b5089990b7f8131cfd958bef40adde1a6d00dc681f05bbc9"), looks := true }, kinds := [], alts := [], laidByText := true, laidKinds := [.data, .data, .data, .data, .sentinel, .sentinel, .listed, .data, .pinned], laidTests := true, laidLooks := .later }
def FeelDeepCardSaid : Prop := Claim7.holds Tryz.pinned (.plain (OpenSpec.ofChange feelDeepSpec)) feelDeepCard

/-- THE TIED CARD OF 'dossierlaw4.FeelEnds'. -/
def feelEndsCard : Claim7 := { stood := { row := feelEndsRow, standIns := [], harness := (true, "ec6b1e8d7c90f0a0b5089990b7f8131cfd958bef40adde1a6d00dc681f05bbc9"), looks := true }, kinds := [], alts := [], laidByText := true, laidKinds := [.data, .data, .data, .data, .sentinel, .sentinel, .listed, .data, .pinned], laidTests := true, laidLooks := .later }
def FeelEndsCardSaid : Prop := Claim7.holds Tryz.pinned (.plain (OpenSpec.ofChange feelEndsSpec)) feelEndsCard

/-- THE TIED CARD OF 'dossierlaw4.FeelCalls'. -/
def feelCallsCard : Claim7 := { stood := { row := feelCallsRow, standIns := [], harness := (true, "ec6b1e8d7c90f0a0b5089990b7f8131cfd958bef40adde1a6d00dc681f05bbc9"), looks := true }, kinds := [], alts := [], laidByText := true, laidKinds := [.data, .data, .data, .data, .sentinel, .sentinel, .listed, .data, .pinned], laidTests := true, laidLooks := .later }
def FeelCallsCardSaid : Prop := Claim7.holds Tryz.pinned (.plain (OpenSpec.ofChange feelCallsSpec)) feelCallsCard

/-- THE TIED CARD OF 'dossierlaw4.FeelIns'. -/
def feelInsCard : Claim7 := { stood := { row := feelInsRow, standIns := [], harness := (true, "ec6b1e8d7c90f0a0b5089990b7f8131cfd958bef40adde1a6d00dc681f05bbc9"), looks := true }, kinds := [], alts := [], laidByText := true, laidKinds := [.data, .data, .data, .data, .sentinel, .sentinel, .listed, .data, .pinned], laidTests := true, laidLooks := .later }
def FeelInsCardSaid : Prop := Claim7.holds Tryz.pinned (.plain (OpenSpec.ofChange feelInsSpec)) feelInsCard

/-- THE TIED CARD OF 'dossierlaw4.FeelTakes'. -/
def feelTakesCard : Claim7 := { stood := { row := feelTakesRow, standIns := [], harness := (true, "ec6b1e8d7c90f0a0b5089990b7f8131cfd958bef40adde1a6d00dc681f05bbc9"), looks := true }, kinds := [], alts := [], laidByText := true, laidKinds := [.data, .data, .data, .data, .sentinel, .sentinel, .listed, .data, .pinned], laidTests := true, laidLooks := .later }
def FeelTakesCardSaid : Prop := Claim7.holds Tryz.pinned (.plain (OpenSpec.ofChange feelTakesSpec)) feelTakesCard

/-- THE TIED CARD OF 'dossierlaw4.FeelSame'. -/
def feelSameCard : Claim7 := { stood := { row := feelSameRow, standIns := [], harness := (true, "ec6b1e8d7c90f0a0b5089990b7f8131cfd958bef40adde1a6d00dc681f05bbc9"), looks := true }, kinds := [], alts := [], laidByText := true, laidKinds := [.data, .data, .data, .data, .sentinel, .sentinel, .listed, .data, .pinned], laidTests := true, laidLooks := .later }
def FeelSameCardSaid : Prop := Claim7.holds Tryz.pinned (.plain (OpenSpec.ofChange feelSameSpec)) feelSameCard

/-- THE SECOND FORM's CARD OF 'dossierlaw4.FeelParses'. -/
def feelParsesUptoCard : Claim7 := { stood := { row := feelParsesUptoRow, standIns := [], harness := (true, "ec6b1e8d7c90f0a0b5089990b7f8131cfd958bef40adde1a6d00dc681f05bbc9"), looks := true }, kinds := [], alts := [], laidByText := true, laidKinds := [.data, .data, .data, .data, .sentinel, .sentinel, .listed, .data, .pinned], laidTests := true, laidLooks := .later }
def FeelParsesUptoCardSaid : Prop := Claim7.holds Tryz.pinned (.plain (OpenSpec.upto feelParsesSpec)) feelParsesUptoCard

/-- THE SECOND FORM's CARD OF 'dossierlaw4.FeelOps'. -/
def feelOpsUptoCard : Claim7 := { stood := { row := feelOpsUptoRow, standIns := [], harness := (true, "ec6b1e8d7c90f0a0b5089990b7f8131cfd958bef40adde1a6d00dc681f05bbc9"), looks := true }, kinds := [], alts := [], laidByText := true, laidKinds := [.data, .data, .data, .data, .sentinel, .sentinel, .listed, .data, .pinned], laidTests := true, laidLooks := .later }
def FeelOpsUptoCardSaid : Prop := Claim7.holds Tryz.pinned (.plain (OpenSpec.upto feelOpsSpec)) feelOpsUptoCard

/-- THE SECOND FORM's CARD OF 'dossierlaw4.FeelDeep'. -/
def feelDeepUptoCard : Claim7 := { stood := { row := feelDeepUptoRow, standIns := [], harness := (true, "ec6b1e8d7c90f0a0b5089990b7f8131cfd958bef40adde1a6d00dc681f05bbc9"), looks := true }, kinds := [], alts := [], laidByText := true, laidKinds := [.data, .data, .data, .data, .sentinel, .sentinel, .listed, .data, .pinned], laidTests := true, laidLooks := .later }
def FeelDeepUptoCardSaid : Prop := Claim7.holds Tryz.pinned (.plain (OpenSpec.upto feelDeepSpec)) feelDeepUptoCard

/-- THE SECOND FORM's CARD OF 'dossierlaw4.FeelEnds'. -/
def feelEndsUptoCard : Claim7 := { stood := { row := feelEndsUptoRow, standIns := [], harness := (true, "ec6b1e8d7c90f0a0b5089990b7f8131cfd958bef40adde1a6d00dc681f05bbc9"), looks := true }, kinds := [], alts := [], laidByText := true, laidKinds := [.data, .data, .data, .data, .sentinel, .sentinel, .listed, .data, .pinned], laidTests := true, laidLooks := .later }
def FeelEndsUptoCardSaid : Prop := Claim7.holds Tryz.pinned (.plain (OpenSpec.upto feelEndsSpec)) feelEndsUptoCard

/-- THE SECOND FORM's CARD OF 'dossierlaw4.FeelCalls'. -/
def feelCallsUptoCard : Claim7 := { stood := { row := feelCallsUptoRow, standIns := [], harness := (true, "ec6b1e8d7c90f0a0b5089990b7f8131cfd958bef40adde1a6d00dc681f05bbc9"), looks := true }, kinds := [], alts := [], laidByText := true, laidKinds := [.data, .data, .data, .data, .sentinel, .sentinel, .listed, .data, .pinned], laidTests := true, laidLooks := .later }
def FeelCallsUptoCardSaid : Prop := Claim7.holds Tryz.pinned (.plain (OpenSpec.upto feelCallsSpec)) feelCallsUptoCard

/-- THE SECOND FORM's CARD OF 'dossierlaw4.FeelIns'. -/
def feelInsUptoCard : Claim7 := { stood := { row := feelInsUptoRow, standIns := [], harness := (true, "ec6b1e8d7c90f0a0b5089990b7f8131cfd958bef40adde1a6d00dc681f05bbc9"), looks := true }, kinds := [], alts := [], laidByText := true, laidKinds := [.data, .data, .data, .data, .sentinel, .sentinel, .listed, .data, .pinned], laidTests := true, laidLooks := .later }
def FeelInsUptoCardSaid : Prop := Claim7.holds Tryz.pinned (.plain (OpenSpec.upto feelInsSpec)) feelInsUptoCard

/-- THE SECOND FORM's CARD OF 'dossierlaw4.FeelTakes'. -/
def feelTakesUptoCard : Claim7 := { stood := { row := feelTakesUptoRow, standIns := [], harness := (true, "ec6b1e8d7c90f0a0b5089990b7f8131cfd958bef40adde1a6d00dc681f05bbc9"), looks := true }, kinds := [], alts := [], laidByText := true, laidKinds := [.data, .data, .data, .data, .sentinel, .sentinel, .listed, .data, .pinned], laidTests := true, laidLooks := .later }
def FeelTakesUptoCardSaid : Prop := Claim7.holds Tryz.pinned (.plain (OpenSpec.upto feelTakesSpec)) feelTakesUptoCard

/-- THE SECOND FORM's CARD OF 'dossierlaw4.FeelSame'. -/
def feelSameUptoCard : Claim7 := { stood := { row := feelSameUptoRow, standIns := [], harness := (true, "ec6b1e8d7c90f0a0b5089990b7f8131cfd958bef40adde1a6d00dc681f05bbc9"), looks := true }, kinds := [], alts := [], laidByText := true, laidKinds := [.data, .data, .data, .data, .sentinel, .sentinel, .listed, .data, .pinned], laidTests := true, laidLooks := .later }
def FeelSameUptoCardSaid : Prop := Claim7.holds Tryz.pinned (.plain (OpenSpec.upto feelSameSpec)) feelSameUptoCard
end Rows
end Go.Proofs.YtfkojpljgafieaaGreatDoor
