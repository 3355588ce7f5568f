/-
  DERIVED. GIVEN WITH THE SEED: THE CARDS: each row of YtemoomfnmiodeaaGreatDoorRows.lean that lists a variable, with what it lists TIED to the program's text (the seventh form; the later family's looks); each row that meets fmt, with fmt's text TOLD by the authors' own Lean function (tested against real Go, not proved from fmt's source: count such statements apart). THE CARD IS WHAT COUNTS. Prove the row's statement (the work); the ties are given (YtemoomfnmiodeaaGreatDoorTie.lean); close each card by the builder's one call (the guide's Derived/Test/ToyasCard.lean, 'card_holds'). Laid BY PROGRAM, IN A SANDBOX (cutbox-door.mjs). By AI agents, Wed Nov 11 2026. No macro, syntax, notation, axiom, sorry.
-/
import Derived.Test.YtemoomfnmiodeaaGreatDoorRows
import GoSem.ClaimSeven
namespace Go.Proofs.YtemoomfnmiodeaaGreatDoor
namespace Rows

/-- THE TIED CARD OF 'frankinglaw45.DeadSpec'. -/
def deadSpecCard : Claim7 := { stood := { row := deadSpecRow, standIns := [], harness := (true, "703bdbdb649f7e2901504ca0f832631afa1a33bf3096b12311603bad13b44363"), looks := false }, kinds := [], alts := [], laidByText := true, laidKinds := [.data, .data], laidTests := true, laidLooks := .later }
def DeadSpecCardSaid : Prop := Claim7.holds Tryz.pinned (.plain (OpenSpec.ofChange deadSpecSpec)) deadSpecCard

/-- THE TIED CARD OF 'frankinglaw45.DeadSendSpec'. -/
def deadSendSpecCard : Claim7 := { stood := { row := deadSendSpecRow, standIns := [], harness := (true, "703bdbdb649f7e2901504ca0f832631afa1a33bf3096b12311603bad13b44363"), looks := false }, kinds := [], alts := [], laidByText := true, laidKinds := [.data, .data], laidTests := true, laidLooks := .later }
def DeadSendSpecCardSaid : Prop := Claim7.holds Tryz.pinned (.plain (OpenSpec.ofChange deadSendSpecSpec)) deadSendSpecCard

/-- THE TIED CARD OF 'frankinglaw45.DeadBurnSpec'. -/
def deadBurnSpecCard : Claim7 := { stood := { row := deadBurnSpecRow, standIns := [], harness := (true, "703bdbdb649f7e2901504ca0f832631afa1a33bf3096b12311603bad13b44363"), looks := false }, kinds := [], alts := [], laidByText := true, laidKinds := [.data, .data], laidTests := true, laidLooks := .later }
def DeadBurnSpecCardSaid : Prop := Claim7.holds Tryz.pinned (.plain (OpenSpec.ofChange deadBurnSpecSpec)) deadBurnSpecCard

/-- THE SECOND FORM's CARD OF 'frankinglaw45.DeadSpec'. -/
def deadSpecUptoCard : Claim7 := { stood := { row := deadSpecUptoRow, standIns := [], harness := (true, "703bdbdb649f7e2901504ca0f832631afa1a33bf3096b12311603bad13b44363"), looks := false }, kinds := [], alts := [], laidByText := true, laidKinds := [.data, .data], laidTests := true, laidLooks := .later }
def DeadSpecUptoCardSaid : Prop := Claim7.holds Tryz.pinned (.plain (OpenSpec.upto deadSpecSpec)) deadSpecUptoCard

/-- THE SECOND FORM's CARD OF 'frankinglaw45.DeadSendSpec'. -/
def deadSendSpecUptoCard : Claim7 := { stood := { row := deadSendSpecUptoRow, standIns := [], harness := (true, "703bdbdb649f7e2901504ca0f832631afa1a33bf3096b12311603bad13b44363"), looks := false }, kinds := [], alts := [], laidByText := true, laidKinds := [.data, .data], laidTests := true, laidLooks := .later }
def DeadSendSpecUptoCardSaid : Prop := Claim7.holds Tryz.pinned (.plain (OpenSpec.upto deadSendSpecSpec)) deadSendSpecUptoCard

/-- THE SECOND FORM's CARD OF 'frankinglaw45.DeadBurnSpec'. -/
def deadBurnSpecUptoCard : Claim7 := { stood := { row := deadBurnSpecUptoRow, standIns := [], harness := (true, "703bdbdb649f7e2901504ca0f832631afa1a33bf3096b12311603bad13b44363"), looks := false }, kinds := [], alts := [], laidByText := true, laidKinds := [.data, .data], laidTests := true, laidLooks := .later }
def DeadBurnSpecUptoCardSaid : Prop := Claim7.holds Tryz.pinned (.plain (OpenSpec.upto deadBurnSpecSpec)) deadBurnSpecUptoCard
end Rows
end Go.Proofs.YtemoomfnmiodeaaGreatDoor
