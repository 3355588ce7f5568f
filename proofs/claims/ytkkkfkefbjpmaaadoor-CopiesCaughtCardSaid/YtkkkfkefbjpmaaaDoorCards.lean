/-
  DERIVED. GIVEN WITH THE SEED: THE CARDS: each row of YtkkkfkefbjpmaaaDoorRows.lean that lists a variable, with what it lists TIED to the program's text (the seventh form; the later family's looks); each row that meets fmt, with fmt's text TOLD by the authors' own Lean function (tested against real Go, not proved from fmt's source: count such statements apart). THE CARD IS WHAT COUNTS. Prove the row's statement (the work); the ties are given (YtkkkfkefbjpmaaaDoorTie.lean); close each card by the builder's one call (the guide's Derived/Test/ToyasCard.lean, 'card_holds'). Laid BY PROGRAM, IN A SANDBOX (cutbox-door.mjs). By AI agents, Wed Nov 11 2026. No macro, syntax, notation, axiom, sorry.
-/
import Derived.Test.YtkkkfkefbjpmaaaDoorRows
import GoSem.ClaimSeven
namespace Go.Proofs.YtkkkfkefbjpmaaaDoor
namespace Rows

/-- THE TIED CARD OF 'frankinglaw48.HandoverSpec'. -/
def handoverSpecCard : Claim7 := { stood := { row := handoverSpecRow, standIns := [], harness := (true, "46d55c6f4c59d2d77c89e3825161027ed529b9999b1a43d1eb74e45a19704a28"), looks := true }, kinds := [], alts := [], laidByText := true, laidKinds := [.data, .data], laidTests := true, laidLooks := .later }
def HandoverSpecCardSaid : Prop := Claim7.holds Tryd.pinned (.plain (OpenSpec.ofChange handoverSpecSpec)) handoverSpecCard

/-- THE TIED CARD OF 'frankinglaw48.HandoverRootSpec'. -/
def handoverRootSpecCard : Claim7 := { stood := { row := handoverRootSpecRow, standIns := [], harness := (true, "46d55c6f4c59d2d77c89e3825161027ed529b9999b1a43d1eb74e45a19704a28"), looks := true }, kinds := [], alts := [], laidByText := true, laidKinds := [.data, .data], laidTests := true, laidLooks := .later }
def HandoverRootSpecCardSaid : Prop := Claim7.holds Tryd.pinned (.plain (OpenSpec.ofChange handoverRootSpecSpec)) handoverRootSpecCard

/-- THE TIED CARD OF 'frankinglaw48.HandoverClash'. -/
def handoverClashCard : Claim7 := { stood := { row := handoverClashRow, standIns := [], harness := (true, "46d55c6f4c59d2d77c89e3825161027ed529b9999b1a43d1eb74e45a19704a28"), looks := true }, kinds := [], alts := [], laidByText := true, laidKinds := [.data, .data], laidTests := true, laidLooks := .later }
def HandoverClashCardSaid : Prop := Claim7.holds Tryd.pinned (.plain (OpenSpec.ofChange handoverClashSpec)) handoverClashCard

/-- THE TIED CARD OF 'frankinglaw48.HandoverSigned'. -/
def handoverSignedCard : Claim7 := { stood := { row := handoverSignedRow, standIns := [], harness := (true, "46d55c6f4c59d2d77c89e3825161027ed529b9999b1a43d1eb74e45a19704a28"), looks := true }, kinds := [], alts := [], laidByText := true, laidKinds := [.data, .data], laidTests := true, laidLooks := .later }
def HandoverSignedCardSaid : Prop := Claim7.holds Tryd.pinned (.plain (OpenSpec.ofChange handoverSignedSpec)) handoverSignedCard

/-- THE TIED CARD OF 'frankinglaw48.HandoverProves'. -/
def handoverProvesCard : Claim7 := { stood := { row := handoverProvesRow, standIns := [], harness := (true, "46d55c6f4c59d2d77c89e3825161027ed529b9999b1a43d1eb74e45a19704a28"), looks := true }, kinds := [], alts := [], laidByText := true, laidKinds := [.data, .data], laidTests := true, laidLooks := .later }
def HandoverProvesCardSaid : Prop := Claim7.holds Tryd.pinned (.plain (OpenSpec.ofChange handoverProvesSpec)) handoverProvesCard

/-- THE TIED CARD OF 'frankinglaw51.CopiesSpec'. -/
def copiesSpecCard : Claim7 := { stood := { row := copiesSpecRow, standIns := [], harness := (true, "46d55c6f4c59d2d77c89e3825161027ed529b9999b1a43d1eb74e45a19704a28"), looks := true }, kinds := [], alts := [], laidByText := true, laidKinds := [.data, .data], laidTests := true, laidLooks := .later }
def CopiesSpecCardSaid : Prop := Claim7.holds Tryd.pinned (.plain (OpenSpec.ofChange copiesSpecSpec)) copiesSpecCard

/-- THE TIED CARD OF 'frankinglaw51.CopiesCaught'. -/
def copiesCaughtCard : Claim7 := { stood := { row := copiesCaughtRow, standIns := [], harness := (true, "46d55c6f4c59d2d77c89e3825161027ed529b9999b1a43d1eb74e45a19704a28"), looks := true }, kinds := [], alts := [], laidByText := true, laidKinds := [.data, .data], laidTests := true, laidLooks := .later }
def CopiesCaughtCardSaid : Prop := Claim7.holds Tryd.pinned (.plain (OpenSpec.ofChange copiesCaughtSpec)) copiesCaughtCard

/-- THE TIED CARD OF 'frankinglaw51.CopiesTrusted'. -/
def copiesTrustedCard : Claim7 := { stood := { row := copiesTrustedRow, standIns := [], harness := (true, "46d55c6f4c59d2d77c89e3825161027ed529b9999b1a43d1eb74e45a19704a28"), looks := true }, kinds := [], alts := [], laidByText := true, laidKinds := [.data, .data], laidTests := true, laidLooks := .later }
def CopiesTrustedCardSaid : Prop := Claim7.holds Tryd.pinned (.plain (OpenSpec.ofChange copiesTrustedSpec)) copiesTrustedCard

/-- THE TIED CARD OF 'frankinglaw51.CopiesMore'. -/
def copiesMoreCard : Claim7 := { stood := { row := copiesMoreRow, standIns := [], harness := (true, "46d55c6f4c59d2d77c89e3825161027ed529b9999b1a43d1eb74e45a19704a28"), looks := true }, kinds := [], alts := [], laidByText := true, laidKinds := [.data, .data], laidTests := true, laidLooks := .later }
def CopiesMoreCardSaid : Prop := Claim7.holds Tryd.pinned (.plain (OpenSpec.ofChange copiesMoreSpec)) copiesMoreCard

/-- THE SECOND FORM's CARD OF 'frankinglaw48.HandoverSpec'. -/
def handoverSpecUptoCard : Claim7 := { stood := { row := handoverSpecUptoRow, standIns := [], harness := (true, "46d55c6f4c59d2d77c89e3825161027ed529b9999b1a43d1eb74e45a19704a28"), looks := true }, kinds := [], alts := [], laidByText := true, laidKinds := [.data, .data], laidTests := true, laidLooks := .later }
def HandoverSpecUptoCardSaid : Prop := Claim7.holds Tryd.pinned (.plain (OpenSpec.upto handoverSpecSpec)) handoverSpecUptoCard

/-- THE SECOND FORM's CARD OF 'frankinglaw48.HandoverRootSpec'. -/
def handoverRootSpecUptoCard : Claim7 := { stood := { row := handoverRootSpecUptoRow, standIns := [], harness := (true, "46d55c6f4c59d2d77c89e3825161027ed529b9999b1a43d1eb74e45a19704a28"), looks := true }, kinds := [], alts := [], laidByText := true, laidKinds := [.data, .data], laidTests := true, laidLooks := .later }
def HandoverRootSpecUptoCardSaid : Prop := Claim7.holds Tryd.pinned (.plain (OpenSpec.upto handoverRootSpecSpec)) handoverRootSpecUptoCard

/-- THE SECOND FORM's CARD OF 'frankinglaw48.HandoverClash'. -/
def handoverClashUptoCard : Claim7 := { stood := { row := handoverClashUptoRow, standIns := [], harness := (true, "46d55c6f4c59d2d77c89e3825161027ed529b9999b1a43d1eb74e45a19704a28"), looks := true }, kinds := [], alts := [], laidByText := true, laidKinds := [.data, .data], laidTests := true, laidLooks := .later }
def HandoverClashUptoCardSaid : Prop := Claim7.holds Tryd.pinned (.plain (OpenSpec.upto handoverClashSpec)) handoverClashUptoCard

/-- THE SECOND FORM's CARD OF 'frankinglaw48.HandoverSigned'. -/
def handoverSignedUptoCard : Claim7 := { stood := { row := handoverSignedUptoRow, standIns := [], harness := (true, "46d55c6f4c59d2d77c89e3825161027ed529b9999b1a43d1eb74e45a19704a28"), looks := true }, kinds := [], alts := [], laidByText := true, laidKinds := [.data, .data], laidTests := true, laidLooks := .later }
def HandoverSignedUptoCardSaid : Prop := Claim7.holds Tryd.pinned (.plain (OpenSpec.upto handoverSignedSpec)) handoverSignedUptoCard

/-- THE SECOND FORM's CARD OF 'frankinglaw48.HandoverProves'. -/
def handoverProvesUptoCard : Claim7 := { stood := { row := handoverProvesUptoRow, standIns := [], harness := (true, "46d55c6f4c59d2d77c89e3825161027ed529b9999b1a43d1eb74e45a19704a28"), looks := true }, kinds := [], alts := [], laidByText := true, laidKinds := [.data, .data], laidTests := true, laidLooks := .later }
def HandoverProvesUptoCardSaid : Prop := Claim7.holds Tryd.pinned (.plain (OpenSpec.upto handoverProvesSpec)) handoverProvesUptoCard

/-- THE SECOND FORM's CARD OF 'frankinglaw51.CopiesSpec'. -/
def copiesSpecUptoCard : Claim7 := { stood := { row := copiesSpecUptoRow, standIns := [], harness := (true, "46d55c6f4c59d2d77c89e3825161027ed529b9999b1a43d1eb74e45a19704a28"), looks := true }, kinds := [], alts := [], laidByText := true, laidKinds := [.data, .data], laidTests := true, laidLooks := .later }
def CopiesSpecUptoCardSaid : Prop := Claim7.holds Tryd.pinned (.plain (OpenSpec.upto copiesSpecSpec)) copiesSpecUptoCard

/-- THE SECOND FORM's CARD OF 'frankinglaw51.CopiesCaught'. -/
def copiesCaughtUptoCard : Claim7 := { stood := { row := copiesCaughtUptoRow, standIns := [], harness := (true, "46d55c6f4c59d2d77c89e3825161027ed529b9999b1a43d1eb74e45a19704a28"), looks := true }, kinds := [], alts := [], laidByText := true, laidKinds := [.data, .data], laidTests := true, laidLooks := .later }
def CopiesCaughtUptoCardSaid : Prop := Claim7.holds Tryd.pinned (.plain (OpenSpec.upto copiesCaughtSpec)) copiesCaughtUptoCard

/-- THE SECOND FORM's CARD OF 'frankinglaw51.CopiesTrusted'. -/
def copiesTrustedUptoCard : Claim7 := { stood := { row := copiesTrustedUptoRow, standIns := [], harness := (true, "46d55c6f4c59d2d77c89e3825161027ed529b9999b1a43d1eb74e45a19704a28"), looks := true }, kinds := [], alts := [], laidByText := true, laidKinds := [.data, .data], laidTests := true, laidLooks := .later }
def CopiesTrustedUptoCardSaid : Prop := Claim7.holds Tryd.pinned (.plain (OpenSpec.upto copiesTrustedSpec)) copiesTrustedUptoCard

/-- THE SECOND FORM's CARD OF 'frankinglaw51.CopiesMore'. -/
def copiesMoreUptoCard : Claim7 := { stood := { row := copiesMoreUptoRow, standIns := [], harness := (true, "46d55c6f4c59d2d77c89e3825161027ed529b9999b1a43d1eb74e45a19704a28"), looks := true }, kinds := [], alts := [], laidByText := true, laidKinds := [.data, .data], laidTests := true, laidLooks := .later }
def CopiesMoreUptoCardSaid : Prop := Claim7.holds Tryd.pinned (.plain (OpenSpec.upto copiesMoreSpec)) copiesMoreUptoCard
end Rows
end Go.Proofs.YtkkkfkefbjpmaaaDoor
