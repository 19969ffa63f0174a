/-
  DERIVED. GIVEN WITH THE SEED: THE CARDS: each row of YtaiibchadlaifaaGreatDoorRows.lean that lists a variable, with what it lists TIED to the program's text (the seventh form; the later family's looks); each row that meets fmt, with fmt's text TOLD by the authors' own Lean function (tested against real Go, not proved from fmt's source: count such statements apart). THE CARD IS WHAT COUNTS. Prove the row's statement (the work); the ties are given (YtaiibchadlaifaaGreatDoorTie.lean); close each card by the builder's one call (the guide's Derived/Test/ToyasCard.lean, 'card_holds'). Laid BY PROGRAM, IN A SANDBOX (cutbox-door.mjs). By AI agents, Wed Nov 11 2026. No macro, syntax, notation, axiom, sorry.
-/
import Derived.Test.YtaiibchadlaifaaGreatDoorRows
import GoSem.ClaimSeven
namespace Go.Proofs.YtaiibchadlaifaaGreatDoor
namespace Rows

/-- THE TIED CARD OF 'sizarlaw19.DegreeCheckSpec'. -/
def degreeCheckSpecCard : Claim7 := { stood := { row := degreeCheckSpecRow, standIns := [], harness := (true, "0b35bb3f341c21a8fbd56796dad8b5c12c2b02ebfad0b0a9a18f83705cdb5de6"), looks := true }, kinds := [], alts := [], laidByText := true, laidKinds := [.funcs], laidTests := true, laidLooks := .later }
def DegreeCheckSpecCardSaid : Prop := Claim7.holds Tryz.pinned (.plain (OpenSpec.ofChange degreeCheckSpecSpec)) degreeCheckSpecCard

/-- THE TIED CARD OF 'sizarlaw19.DegreeNetworkSpec'. -/
def degreeNetworkSpecCard : Claim7 := { stood := { row := degreeNetworkSpecRow, standIns := [], harness := (true, "0b35bb3f341c21a8fbd56796dad8b5c12c2b02ebfad0b0a9a18f83705cdb5de6"), looks := true }, kinds := [], alts := [], laidByText := true, laidKinds := [.funcs], laidTests := true, laidLooks := .later }
def DegreeNetworkSpecCardSaid : Prop := Claim7.holds Tryz.pinned (.plain (OpenSpec.ofChange degreeNetworkSpecSpec)) degreeNetworkSpecCard

/-- THE TIED CARD OF 'sizarlaw19.DegreeAuditSpec'. -/
def degreeAuditSpecCard : Claim7 := { stood := { row := degreeAuditSpecRow, standIns := [], harness := (true, "0b35bb3f341c21a8fbd56796dad8b5c12c2b02ebfad0b0a9a18f83705cdb5de6"), looks := true }, kinds := [], alts := [], laidByText := true, laidKinds := [.funcs], laidTests := true, laidLooks := .later }
def DegreeAuditSpecCardSaid : Prop := Claim7.holds Tryz.pinned (.plain (OpenSpec.ofChange degreeAuditSpecSpec)) degreeAuditSpecCard

/-- THE TIED CARD OF 'sizarlaw19.DegreeOfSpec'. -/
def degreeOfSpecCard : Claim7 := { stood := { row := degreeOfSpecRow, standIns := [], harness := (true, "0b35bb3f341c21a8fbd56796dad8b5c12c2b02ebfad0b0a9a18f83705cdb5de6"), looks := true }, kinds := [], alts := [], laidByText := true, laidKinds := [.funcs], laidTests := true, laidLooks := .later }
def DegreeOfSpecCardSaid : Prop := Claim7.holds Tryz.pinned (.plain (OpenSpec.ofChange degreeOfSpecSpec)) degreeOfSpecCard

/-- THE TIED CARD OF 'sizarlaw19.DegreeAssigned'. -/
def degreeAssignedCard : Claim7 := { stood := { row := degreeAssignedRow, standIns := [], harness := (true, "0b35bb3f341c21a8fbd56796dad8b5c12c2b02ebfad0b0a9a18f83705cdb5de6"), looks := true }, kinds := [], alts := [], laidByText := true, laidKinds := [.funcs], laidTests := true, laidLooks := .later }
def DegreeAssignedCardSaid : Prop := Claim7.holds Tryz.pinned (.plain (OpenSpec.ofChange degreeAssignedSpec)) degreeAssignedCard

/-- THE TIED CARD OF 'sizarlaw19.DegreeMore'. -/
def degreeMoreCard : Claim7 := { stood := { row := degreeMoreRow, standIns := [], harness := (true, "0b35bb3f341c21a8fbd56796dad8b5c12c2b02ebfad0b0a9a18f83705cdb5de6"), looks := true }, kinds := [], alts := [], laidByText := true, laidKinds := [.funcs], laidTests := true, laidLooks := .later }
def DegreeMoreCardSaid : Prop := Claim7.holds Tryz.pinned (.plain (OpenSpec.ofChange degreeMoreSpec)) degreeMoreCard

/-- THE TIED CARD OF 'sizarlaw19.DegreeOptimal'. -/
def degreeOptimalCard : Claim7 := { stood := { row := degreeOptimalRow, standIns := [], harness := (true, "0b35bb3f341c21a8fbd56796dad8b5c12c2b02ebfad0b0a9a18f83705cdb5de6"), looks := true }, kinds := [], alts := [], laidByText := true, laidKinds := [.funcs], laidTests := true, laidLooks := .later }
def DegreeOptimalCardSaid : Prop := Claim7.holds Tryz.pinned (.plain (OpenSpec.ofChange degreeOptimalSpec)) degreeOptimalCard

/-- THE TIED CARD OF 'sizarlaw19.DegreePast'. -/
def degreePastCard : Claim7 := { stood := { row := degreePastRow, standIns := [], harness := (true, "0b35bb3f341c21a8fbd56796dad8b5c12c2b02ebfad0b0a9a18f83705cdb5de6"), looks := true }, kinds := [], alts := [], laidByText := true, laidKinds := [.funcs], laidTests := true, laidLooks := .later }
def DegreePastCardSaid : Prop := Claim7.holds Tryz.pinned (.plain (OpenSpec.ofChange degreePastSpec)) degreePastCard

/-- THE SECOND FORM's CARD OF 'sizarlaw19.DegreeCheckSpec'. -/
def degreeCheckSpecUptoCard : Claim7 := { stood := { row := degreeCheckSpecUptoRow, standIns := [], harness := (true, "0b35bb3f341c21a8fbd56796dad8b5c12c2b02ebfad0b0a9a18f83705cdb5de6"), looks := true }, kinds := [], alts := [], laidByText := true, laidKinds := [.funcs], laidTests := true, laidLooks := .later }
def DegreeCheckSpecUptoCardSaid : Prop := Claim7.holds Tryz.pinned (.plain (OpenSpec.upto degreeCheckSpecSpec)) degreeCheckSpecUptoCard

/-- THE SECOND FORM's CARD OF 'sizarlaw19.DegreeNetworkSpec'. -/
def degreeNetworkSpecUptoCard : Claim7 := { stood := { row := degreeNetworkSpecUptoRow, standIns := [], harness := (true, "0b35bb3f341c21a8fbd56796dad8b5c12c2b02ebfad0b0a9a18f83705cdb5de6"), looks := true }, kinds := [], alts := [], laidByText := true, laidKinds := [.funcs], laidTests := true, laidLooks := .later }
def DegreeNetworkSpecUptoCardSaid : Prop := Claim7.holds Tryz.pinned (.plain (OpenSpec.upto degreeNetworkSpecSpec)) degreeNetworkSpecUptoCard

/-- THE SECOND FORM's CARD OF 'sizarlaw19.DegreeAuditSpec'. -/
def degreeAuditSpecUptoCard : Claim7 := { stood := { row := degreeAuditSpecUptoRow, standIns := [], harness := (true, "0b35bb3f341c21a8fbd56796dad8b5c12c2b02ebfad0b0a9a18f83705cdb5de6"), looks := true }, kinds := [], alts := [], laidByText := true, laidKinds := [.funcs], laidTests := true, laidLooks := .later }
def DegreeAuditSpecUptoCardSaid : Prop := Claim7.holds Tryz.pinned (.plain (OpenSpec.upto degreeAuditSpecSpec)) degreeAuditSpecUptoCard

/-- THE SECOND FORM's CARD OF 'sizarlaw19.DegreeOfSpec'. -/
def degreeOfSpecUptoCard : Claim7 := { stood := { row := degreeOfSpecUptoRow, standIns := [], harness := (true, "0b35bb3f341c21a8fbd56796dad8b5c12c2b02ebfad0b0a9a18f83705cdb5de6"), looks := true }, kinds := [], alts := [], laidByText := true, laidKinds := [.funcs], laidTests := true, laidLooks := .later }
def DegreeOfSpecUptoCardSaid : Prop := Claim7.holds Tryz.pinned (.plain (OpenSpec.upto degreeOfSpecSpec)) degreeOfSpecUptoCard

/-- THE SECOND FORM's CARD OF 'sizarlaw19.DegreeAssigned'. -/
def degreeAssignedUptoCard : Claim7 := { stood := { row := degreeAssignedUptoRow, standIns := [], harness := (true, "0b35bb3f341c21a8fbd56796dad8b5c12c2b02ebfad0b0a9a18f83705cdb5de6"), looks := true }, kinds := [], alts := [], laidByText := true, laidKinds := [.funcs], laidTests := true, laidLooks := .later }
def DegreeAssignedUptoCardSaid : Prop := Claim7.holds Tryz.pinned (.plain (OpenSpec.upto degreeAssignedSpec)) degreeAssignedUptoCard

/-- THE SECOND FORM's CARD OF 'sizarlaw19.DegreeMore'. -/
def degreeMoreUptoCard : Claim7 := { stood := { row := degreeMoreUptoRow, standIns := [], harness := (true, "0b35bb3f341c21a8fbd56796dad8b5c12c2b02ebfad0b0a9a18f83705cdb5de6"), looks := true }, kinds := [], alts := [], laidByText := true, laidKinds := [.funcs], laidTests := true, laidLooks := .later }
def DegreeMoreUptoCardSaid : Prop := Claim7.holds Tryz.pinned (.plain (OpenSpec.upto degreeMoreSpec)) degreeMoreUptoCard

/-- THE SECOND FORM's CARD OF 'sizarlaw19.DegreeOptimal'. -/
def degreeOptimalUptoCard : Claim7 := { stood := { row := degreeOptimalUptoRow, standIns := [], harness := (true, "0b35bb3f341c21a8fbd56796dad8b5c12c2b02ebfad0b0a9a18f83705cdb5de6"), looks := true }, kinds := [], alts := [], laidByText := true, laidKinds := [.funcs], laidTests := true, laidLooks := .later }
def DegreeOptimalUptoCardSaid : Prop := Claim7.holds Tryz.pinned (.plain (OpenSpec.upto degreeOptimalSpec)) degreeOptimalUptoCard

/-- THE SECOND FORM's CARD OF 'sizarlaw19.DegreePast'. -/
def degreePastUptoCard : Claim7 := { stood := { row := degreePastUptoRow, standIns := [], harness := (true, "0b35bb3f341c21a8fbd56796dad8b5c12c2b02ebfad0b0a9a18f83705cdb5de6"), looks := true }, kinds := [], alts := [], laidByText := true, laidKinds := [.funcs], laidTests := true, laidLooks := .later }
def DegreePastUptoCardSaid : Prop := Claim7.holds Tryz.pinned (.plain (OpenSpec.upto degreePastSpec)) degreePastUptoCard
end Rows
end Go.Proofs.YtaiibchadlaifaaGreatDoor
