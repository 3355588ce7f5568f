/-
  DERIVED. GIVEN WITH THE SEED: THE CARDS: each row of YtcioeedlfbioaaaGreatDoorRows.lean that lists a variable, with what it lists TIED to the program's text (the seventh form; the later family's looks); each row that meets fmt, with fmt's text TOLD by the authors' own Lean function (tested against real Go, not proved from fmt's source: count such statements apart). THE CARD IS WHAT COUNTS. Prove the row's statement (the work); the ties are given (YtcioeedlfbioaaaGreatDoorTie.lean); close each card by the builder's one call (the guide's Derived/Test/ToyasCard.lean, 'card_holds'). Laid BY PROGRAM, IN A SANDBOX (cutbox-door.mjs). By AI agents, Wed Nov 11 2026. No macro, syntax, notation, axiom, sorry.
-/
import Derived.Test.YtcioeedlfbioaaaGreatDoorRows
import GoSem.ClaimSeven
namespace Go.Proofs.YtcioeedlfbioaaaGreatDoor
namespace Rows

/-- THE TIED CARD OF 'frankinglaw37.StampsSpec'. -/
def stampsSpecCard : Claim7 := { stood := { row := stampsSpecRow, standIns := [], harness := (true, "7b73106e7e26b449b660d2d4c9dced2db592599045887c1d9cbeb1c181dc4978"), looks := true }, kinds := [], alts := [], laidByText := true, laidKinds := [.data, .data], laidTests := true, laidLooks := .later }
def StampsSpecCardSaid : Prop := Claim7.holds Tryz.pinned (.plain (OpenSpec.ofChange stampsSpecSpec)) stampsSpecCard

/-- THE TIED CARD OF 'frankinglaw37.StampsSpendSpec'. -/
def stampsSpendSpecCard : Claim7 := { stood := { row := stampsSpendSpecRow, standIns := [], harness := (true, "7b73106e7e26b449b660d2d4c9dced2db592599045887c1d9cbeb1c181dc4978"), looks := true }, kinds := [], alts := [], laidByText := true, laidKinds := [.data, .data], laidTests := true, laidLooks := .later }
def StampsSpendSpecCardSaid : Prop := Claim7.holds Tryz.pinned (.plain (OpenSpec.ofChange stampsSpendSpecSpec)) stampsSpendSpecCard

/-- THE SECOND FORM's CARD OF 'frankinglaw37.StampsSpec'. -/
def stampsSpecUptoCard : Claim7 := { stood := { row := stampsSpecUptoRow, standIns := [], harness := (true, "7b73106e7e26b449b660d2d4c9dced2db592599045887c1d9cbeb1c181dc4978"), looks := true }, kinds := [], alts := [], laidByText := true, laidKinds := [.data, .data], laidTests := true, laidLooks := .later }
def StampsSpecUptoCardSaid : Prop := Claim7.holds Tryz.pinned (.plain (OpenSpec.upto stampsSpecSpec)) stampsSpecUptoCard

/-- THE SECOND FORM's CARD OF 'frankinglaw37.StampsSpendSpec'. -/
def stampsSpendSpecUptoCard : Claim7 := { stood := { row := stampsSpendSpecUptoRow, standIns := [], harness := (true, "7b73106e7e26b449b660d2d4c9dced2db592599045887c1d9cbeb1c181dc4978"), looks := true }, kinds := [], alts := [], laidByText := true, laidKinds := [.data, .data], laidTests := true, laidLooks := .later }
def StampsSpendSpecUptoCardSaid : Prop := Claim7.holds Tryz.pinned (.plain (OpenSpec.upto stampsSpendSpecSpec)) stampsSpendSpecUptoCard
end Rows
end Go.Proofs.YtcioeedlfbioaaaGreatDoor
