/-
  DERIVED. GIVEN WITH THE SEED: THE CARDS: each row of YtemoomfnmiodeaaDoorRows.lean that lists a variable, with what it lists TIED to the program's text (the seventh form; the later family's looks); each row that meets fmt, with fmt's text TOLD by the authors' own Lean function (tested against real Go, not proved from fmt's source: count such statements apart). THE CARD IS WHAT COUNTS. Prove the row's statement (the work); the ties are given (YtemoomfnmiodeaaDoorTie.lean); close each card by the builder's one call (the guide's Derived/Test/ToyasCard.lean, 'card_holds'). Laid BY PROGRAM, IN A SANDBOX (cutbox-door.mjs). By AI agents, Wed Nov 11 2026. No macro, syntax, notation, axiom, sorry.
-/
import Derived.Test.YtemoomfnmiodeaaDoorRows
import GoSem.ClaimSeven
namespace Go.Proofs.YtemoomfnmiodeaaDoor
namespace Rows

/-- THE TIED CARD OF 'frankinglaw45.DeadReturned'. -/
def deadReturnedCard : Claim7 := { stood := { row := deadReturnedRow, standIns := [], harness := (true, "552b926089dd93e0049784df3bc0cbeb05c50f77b9158362150af93777e571ff"), looks := false }, kinds := [], alts := [], laidByText := true, laidKinds := [.data, .data], laidTests := true, laidLooks := .later }
def DeadReturnedCardSaid : Prop := Claim7.holds Tryd.pinned (.plain (OpenSpec.ofChange deadReturnedSpec)) deadReturnedCard

/-- THE TIED CARD OF 'frankinglaw45.DeadBurnt'. -/
def deadBurntCard : Claim7 := { stood := { row := deadBurntRow, standIns := [], harness := (true, "552b926089dd93e0049784df3bc0cbeb05c50f77b9158362150af93777e571ff"), looks := false }, kinds := [], alts := [], laidByText := true, laidKinds := [.data, .data], laidTests := true, laidLooks := .later }
def DeadBurntCardSaid : Prop := Claim7.holds Tryd.pinned (.plain (OpenSpec.ofChange deadBurntSpec)) deadBurntCard

/-- THE TIED CARD OF 'frankinglaw45.DeadOrder'. -/
def deadOrderCard : Claim7 := { stood := { row := deadOrderRow, standIns := [], harness := (true, "552b926089dd93e0049784df3bc0cbeb05c50f77b9158362150af93777e571ff"), looks := false }, kinds := [], alts := [], laidByText := true, laidKinds := [.data, .data], laidTests := true, laidLooks := .later }
def DeadOrderCardSaid : Prop := Claim7.holds Tryd.pinned (.plain (OpenSpec.ofChange deadOrderSpec)) deadOrderCard

/-- THE SECOND FORM's CARD OF 'frankinglaw45.DeadReturned'. -/
def deadReturnedUptoCard : Claim7 := { stood := { row := deadReturnedUptoRow, standIns := [], harness := (true, "552b926089dd93e0049784df3bc0cbeb05c50f77b9158362150af93777e571ff"), looks := false }, kinds := [], alts := [], laidByText := true, laidKinds := [.data, .data], laidTests := true, laidLooks := .later }
def DeadReturnedUptoCardSaid : Prop := Claim7.holds Tryd.pinned (.plain (OpenSpec.upto deadReturnedSpec)) deadReturnedUptoCard

/-- THE SECOND FORM's CARD OF 'frankinglaw45.DeadBurnt'. -/
def deadBurntUptoCard : Claim7 := { stood := { row := deadBurntUptoRow, standIns := [], harness := (true, "552b926089dd93e0049784df3bc0cbeb05c50f77b9158362150af93777e571ff"), looks := false }, kinds := [], alts := [], laidByText := true, laidKinds := [.data, .data], laidTests := true, laidLooks := .later }
def DeadBurntUptoCardSaid : Prop := Claim7.holds Tryd.pinned (.plain (OpenSpec.upto deadBurntSpec)) deadBurntUptoCard

/-- THE SECOND FORM's CARD OF 'frankinglaw45.DeadOrder'. -/
def deadOrderUptoCard : Claim7 := { stood := { row := deadOrderUptoRow, standIns := [], harness := (true, "552b926089dd93e0049784df3bc0cbeb05c50f77b9158362150af93777e571ff"), looks := false }, kinds := [], alts := [], laidByText := true, laidKinds := [.data, .data], laidTests := true, laidLooks := .later }
def DeadOrderUptoCardSaid : Prop := Claim7.holds Tryd.pinned (.plain (OpenSpec.upto deadOrderSpec)) deadOrderUptoCard
end Rows
end Go.Proofs.YtemoomfnmiodeaaDoor
