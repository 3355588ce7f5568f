/-
  DERIVED. GIVEN WITH THE SEED: THE CARDS: each row of YtllbjakfjpjfnaaGreatDoorRows.lean that lists a variable, with what it lists TIED to the program's text (the seventh form; the later family's looks); each row that meets fmt, with fmt's text TOLD by the authors' own Lean function (tested against real Go, not proved from fmt's source: count such statements apart). THE CARD IS WHAT COUNTS. Prove the row's statement (the work); the ties are given (YtllbjakfjpjfnaaGreatDoorTie.lean); close each card by the builder's one call (the guide's Derived/Test/ToyasCard.lean, 'card_holds'). Laid BY PROGRAM, IN A SANDBOX (cutbox-door.mjs). By AI agents, Wed Nov 11 2026. No macro, syntax, notation, axiom, sorry.
-/
import Derived.Test.YtllbjakfjpjfnaaGreatDoorRows
import GoSem.ClaimSeven
namespace Go.Proofs.YtllbjakfjpjfnaaGreatDoor
namespace Rows

/-- THE TIED CARD OF 'frankinglaw57.DefenceSpec'. -/
def defenceSpecCard : Claim7 := { stood := { row := defenceSpecRow, standIns := [], harness := (true, "4b44cfc5b65a45eb5cfa2bc31965cc31e4a1c36541f92ff2f6f049c8919331bd"), looks := true }, kinds := [], alts := [], laidByText := true, laidKinds := [.data, .data], laidTests := true, laidLooks := .later }
def DefenceSpecCardSaid : Prop := Claim7.holds Tryz.pinned (.plain (OpenSpec.ofChange defenceSpecSpec)) defenceSpecCard

/-- THE SECOND FORM's CARD OF 'frankinglaw57.DefenceSpec'. -/
def defenceSpecUptoCard : Claim7 := { stood := { row := defenceSpecUptoRow, standIns := [], harness := (true, "4b44cfc5b65a45eb5cfa2bc31965cc31e4a1c36541f92ff2f6f049c8919331bd"), looks := true }, kinds := [], alts := [], laidByText := true, laidKinds := [.data, .data], laidTests := true, laidLooks := .later }
def DefenceSpecUptoCardSaid : Prop := Claim7.holds Tryz.pinned (.plain (OpenSpec.upto defenceSpecSpec)) defenceSpecUptoCard
end Rows
end Go.Proofs.YtllbjakfjpjfnaaGreatDoor
