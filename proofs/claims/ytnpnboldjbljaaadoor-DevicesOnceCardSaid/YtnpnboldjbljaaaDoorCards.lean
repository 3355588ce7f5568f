/-
  DERIVED. GIVEN WITH THE SEED: THE CARDS: each row of YtnpnboldjbljaaaDoorRows.lean that lists a variable, with what it lists TIED to the program's text (the seventh form; the later family's looks); each row that meets fmt, with fmt's text TOLD by the authors' own Lean function (tested against real Go, not proved from fmt's source: count such statements apart). THE CARD IS WHAT COUNTS. Prove the row's statement (the work); the ties are given (YtnpnboldjbljaaaDoorTie.lean); close each card by the builder's one call (the guide's Derived/Test/ToyasCard.lean, 'card_holds'). Laid BY PROGRAM, IN A SANDBOX (cutbox-door.mjs). By AI agents, Wed Nov 11 2026. No macro, syntax, notation, axiom, sorry.
-/
import Derived.Test.YtnpnboldjbljaaaDoorRows
import GoSem.ClaimSeven
namespace Go.Proofs.YtnpnboldjbljaaaDoor
namespace Rows

/-- THE TIED CARD OF 'frankinglaw44.DevicesSpec'. -/
def devicesSpecCard : Claim7 := { stood := { row := devicesSpecRow, standIns := [], harness := (true, "579b0d414f2f82ae8028b726ca8da603bdf559894a1283ded3fec453bcd52451"), looks := false }, kinds := [], alts := [], laidByText := true, laidKinds := [.data, .data], laidTests := true, laidLooks := .later }
def DevicesSpecCardSaid : Prop := Claim7.holds Tryd.pinned (.plain (OpenSpec.ofChange devicesSpecSpec)) devicesSpecCard

/-- THE TIED CARD OF 'frankinglaw44.DevicesMergeSpec'. -/
def devicesMergeSpecCard : Claim7 := { stood := { row := devicesMergeSpecRow, standIns := [], harness := (true, "579b0d414f2f82ae8028b726ca8da603bdf559894a1283ded3fec453bcd52451"), looks := false }, kinds := [], alts := [], laidByText := true, laidKinds := [.data, .data], laidTests := true, laidLooks := .later }
def DevicesMergeSpecCardSaid : Prop := Claim7.holds Tryd.pinned (.plain (OpenSpec.ofChange devicesMergeSpecSpec)) devicesMergeSpecCard

/-- THE TIED CARD OF 'frankinglaw44.DevicesTakeSpec'. -/
def devicesTakeSpecCard : Claim7 := { stood := { row := devicesTakeSpecRow, standIns := [], harness := (true, "579b0d414f2f82ae8028b726ca8da603bdf559894a1283ded3fec453bcd52451"), looks := false }, kinds := [], alts := [], laidByText := true, laidKinds := [.data, .data], laidTests := true, laidLooks := .later }
def DevicesTakeSpecCardSaid : Prop := Claim7.holds Tryd.pinned (.plain (OpenSpec.ofChange devicesTakeSpecSpec)) devicesTakeSpecCard

/-- THE TIED CARD OF 'frankinglaw44.DevicesOnce'. -/
def devicesOnceCard : Claim7 := { stood := { row := devicesOnceRow, standIns := [], harness := (true, "579b0d414f2f82ae8028b726ca8da603bdf559894a1283ded3fec453bcd52451"), looks := false }, kinds := [], alts := [], laidByText := true, laidKinds := [.data, .data], laidTests := true, laidLooks := .later }
def DevicesOnceCardSaid : Prop := Claim7.holds Tryd.pinned (.plain (OpenSpec.ofChange devicesOnceSpec)) devicesOnceCard

/-- THE TIED CARD OF 'frankinglaw44.DevicesMerged'. -/
def devicesMergedCard : Claim7 := { stood := { row := devicesMergedRow, standIns := [], harness := (true, "579b0d414f2f82ae8028b726ca8da603bdf559894a1283ded3fec453bcd52451"), looks := false }, kinds := [], alts := [], laidByText := true, laidKinds := [.data, .data], laidTests := true, laidLooks := .later }
def DevicesMergedCardSaid : Prop := Claim7.holds Tryd.pinned (.plain (OpenSpec.ofChange devicesMergedSpec)) devicesMergedCard

/-- THE TIED CARD OF 'frankinglaw44.DevicesOwed'. -/
def devicesOwedCard : Claim7 := { stood := { row := devicesOwedRow, standIns := [], harness := (true, "579b0d414f2f82ae8028b726ca8da603bdf559894a1283ded3fec453bcd52451"), looks := false }, kinds := [], alts := [], laidByText := true, laidKinds := [.data, .data], laidTests := true, laidLooks := .later }
def DevicesOwedCardSaid : Prop := Claim7.holds Tryd.pinned (.plain (OpenSpec.ofChange devicesOwedSpec)) devicesOwedCard

/-- THE SECOND FORM's CARD OF 'frankinglaw44.DevicesSpec'. -/
def devicesSpecUptoCard : Claim7 := { stood := { row := devicesSpecUptoRow, standIns := [], harness := (true, "579b0d414f2f82ae8028b726ca8da603bdf559894a1283ded3fec453bcd52451"), looks := false }, kinds := [], alts := [], laidByText := true, laidKinds := [.data, .data], laidTests := true, laidLooks := .later }
def DevicesSpecUptoCardSaid : Prop := Claim7.holds Tryd.pinned (.plain (OpenSpec.upto devicesSpecSpec)) devicesSpecUptoCard

/-- THE SECOND FORM's CARD OF 'frankinglaw44.DevicesMergeSpec'. -/
def devicesMergeSpecUptoCard : Claim7 := { stood := { row := devicesMergeSpecUptoRow, standIns := [], harness := (true, "579b0d414f2f82ae8028b726ca8da603bdf559894a1283ded3fec453bcd52451"), looks := false }, kinds := [], alts := [], laidByText := true, laidKinds := [.data, .data], laidTests := true, laidLooks := .later }
def DevicesMergeSpecUptoCardSaid : Prop := Claim7.holds Tryd.pinned (.plain (OpenSpec.upto devicesMergeSpecSpec)) devicesMergeSpecUptoCard

/-- THE SECOND FORM's CARD OF 'frankinglaw44.DevicesTakeSpec'. -/
def devicesTakeSpecUptoCard : Claim7 := { stood := { row := devicesTakeSpecUptoRow, standIns := [], harness := (true, "579b0d414f2f82ae8028b726ca8da603bdf559894a1283ded3fec453bcd52451"), looks := false }, kinds := [], alts := [], laidByText := true, laidKinds := [.data, .data], laidTests := true, laidLooks := .later }
def DevicesTakeSpecUptoCardSaid : Prop := Claim7.holds Tryd.pinned (.plain (OpenSpec.upto devicesTakeSpecSpec)) devicesTakeSpecUptoCard

/-- THE SECOND FORM's CARD OF 'frankinglaw44.DevicesOnce'. -/
def devicesOnceUptoCard : Claim7 := { stood := { row := devicesOnceUptoRow, standIns := [], harness := (true, "579b0d414f2f82ae8028b726ca8da603bdf559894a1283ded3fec453bcd52451"), looks := false }, kinds := [], alts := [], laidByText := true, laidKinds := [.data, .data], laidTests := true, laidLooks := .later }
def DevicesOnceUptoCardSaid : Prop := Claim7.holds Tryd.pinned (.plain (OpenSpec.upto devicesOnceSpec)) devicesOnceUptoCard

/-- THE SECOND FORM's CARD OF 'frankinglaw44.DevicesMerged'. -/
def devicesMergedUptoCard : Claim7 := { stood := { row := devicesMergedUptoRow, standIns := [], harness := (true, "579b0d414f2f82ae8028b726ca8da603bdf559894a1283ded3fec453bcd52451"), looks := false }, kinds := [], alts := [], laidByText := true, laidKinds := [.data, .data], laidTests := true, laidLooks := .later }
def DevicesMergedUptoCardSaid : Prop := Claim7.holds Tryd.pinned (.plain (OpenSpec.upto devicesMergedSpec)) devicesMergedUptoCard

/-- THE SECOND FORM's CARD OF 'frankinglaw44.DevicesOwed'. -/
def devicesOwedUptoCard : Claim7 := { stood := { row := devicesOwedUptoRow, standIns := [], harness := (true, "579b0d414f2f82ae8028b726ca8da603bdf559894a1283ded3fec453bcd52451"), looks := false }, kinds := [], alts := [], laidByText := true, laidKinds := [.data, .data], laidTests := true, laidLooks := .later }
def DevicesOwedUptoCardSaid : Prop := Claim7.holds Tryd.pinned (.plain (OpenSpec.upto devicesOwedSpec)) devicesOwedUptoCard
end Rows
end Go.Proofs.YtnpnboldjbljaaaDoor
