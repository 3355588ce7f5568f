/-
  DERIVED. GIVEN WITH THE SEED: THE CARDS: each row of YtllbjakfjpjfnaaDoorRows.lean that lists a variable, with what it lists TIED to the program's text (the seventh form; the later family's looks); each row that meets fmt, with fmt's text TOLD by the authors' own Lean function (tested against real Go, not proved from fmt's source: count such statements apart). THE CARD IS WHAT COUNTS. Prove the row's statement (the work); the ties are given (YtllbjakfjpjfnaaDoorTie.lean); close each card by the builder's one call (the guide's Derived/Test/ToyasCard.lean, 'card_holds'). Laid BY PROGRAM, IN A SANDBOX (cutbox-door.mjs). By AI agents, Wed Nov 11 2026. No macro, syntax, notation, axiom, sorry.
-/
import Derived.Test.YtllbjakfjpjfnaaDoorRows
import GoSem.ClaimSeven
namespace Go.Proofs.YtllbjakfjpjfnaaDoor
namespace Rows

/-- THE TIED CARD OF 'frankinglaw57.DefenceOnce'. -/
def defenceOnceCard : Claim7 := { stood := { row := defenceOnceRow, standIns := [], harness := (true, "2ba9dc564424ba59e7ca376cafc4c923004d3e93f97007e2c6814604855400a5"), looks := true }, kinds := [], alts := [], laidByText := true, laidKinds := [.data, .data], laidTests := true, laidLooks := .later }
def DefenceOnceCardSaid : Prop := Claim7.holds Tryd.pinned (.plain (OpenSpec.ofChange defenceOnceSpec)) defenceOnceCard

/-- THE TIED CARD OF 'frankinglaw57.DefenceOld'. -/
def defenceOldCard : Claim7 := { stood := { row := defenceOldRow, standIns := [], harness := (true, "2ba9dc564424ba59e7ca376cafc4c923004d3e93f97007e2c6814604855400a5"), looks := true }, kinds := [], alts := [], laidByText := true, laidKinds := [.data, .data], laidTests := true, laidLooks := .later }
def DefenceOldCardSaid : Prop := Claim7.holds Tryd.pinned (.plain (OpenSpec.ofChange defenceOldSpec)) defenceOldCard

/-- THE TIED CARD OF 'frankinglaw57.DefenceOrder'. -/
def defenceOrderCard : Claim7 := { stood := { row := defenceOrderRow, standIns := [], harness := (true, "2ba9dc564424ba59e7ca376cafc4c923004d3e93f97007e2c6814604855400a5"), looks := true }, kinds := [], alts := [], laidByText := true, laidKinds := [.data, .data], laidTests := true, laidLooks := .later }
def DefenceOrderCardSaid : Prop := Claim7.holds Tryd.pinned (.plain (OpenSpec.ofChange defenceOrderSpec)) defenceOrderCard

/-- THE SECOND FORM's CARD OF 'frankinglaw57.DefenceOnce'. -/
def defenceOnceUptoCard : Claim7 := { stood := { row := defenceOnceUptoRow, standIns := [], harness := (true, "2ba9dc564424ba59e7ca376cafc4c923004d3e93f97007e2c6814604855400a5"), looks := true }, kinds := [], alts := [], laidByText := true, laidKinds := [.data, .data], laidTests := true, laidLooks := .later }
def DefenceOnceUptoCardSaid : Prop := Claim7.holds Tryd.pinned (.plain (OpenSpec.upto defenceOnceSpec)) defenceOnceUptoCard

/-- THE SECOND FORM's CARD OF 'frankinglaw57.DefenceOld'. -/
def defenceOldUptoCard : Claim7 := { stood := { row := defenceOldUptoRow, standIns := [], harness := (true, "2ba9dc564424ba59e7ca376cafc4c923004d3e93f97007e2c6814604855400a5"), looks := true }, kinds := [], alts := [], laidByText := true, laidKinds := [.data, .data], laidTests := true, laidLooks := .later }
def DefenceOldUptoCardSaid : Prop := Claim7.holds Tryd.pinned (.plain (OpenSpec.upto defenceOldSpec)) defenceOldUptoCard

/-- THE SECOND FORM's CARD OF 'frankinglaw57.DefenceOrder'. -/
def defenceOrderUptoCard : Claim7 := { stood := { row := defenceOrderUptoRow, standIns := [], harness := (true, "2ba9dc564424ba59e7ca376cafc4c923004d3e93f97007e2c6814604855400a5"), looks := true }, kinds := [], alts := [], laidByText := true, laidKinds := [.data, .data], laidTests := true, laidLooks := .later }
def DefenceOrderUptoCardSaid : Prop := Claim7.holds Tryd.pinned (.plain (OpenSpec.upto defenceOrderSpec)) defenceOrderUptoCard
end Rows
end Go.Proofs.YtllbjakfjpjfnaaDoor
