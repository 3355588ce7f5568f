/-
  DERIVED. GIVEN WITH THE SEED: THE CARDS: each row of YtcioeedlfbioaaaDoorRows.lean that lists a variable, with what it lists TIED to the program's text (the seventh form; the later family's looks); each row that meets fmt, with fmt's text TOLD by the authors' own Lean function (tested against real Go, not proved from fmt's source: count such statements apart). THE CARD IS WHAT COUNTS. Prove the row's statement (the work); the ties are given (YtcioeedlfbioaaaDoorTie.lean); close each card by the builder's one call (the guide's Derived/Test/ToyasCard.lean, 'card_holds'). Laid BY PROGRAM, IN A SANDBOX (cutbox-door.mjs). By AI agents, Wed Nov 11 2026. No macro, syntax, notation, axiom, sorry.
-/
import Derived.Test.YtcioeedlfbioaaaDoorRows
import GoSem.ClaimSeven
namespace Go.Proofs.YtcioeedlfbioaaaDoor
namespace Rows

/-- THE TIED CARD OF 'frankinglaw16.OnetimeSpec'. -/
def onetimeSpecCard : Claim7 := { stood := { row := onetimeSpecRow, standIns := [], harness := (true, "75f6a540e99331f1d23e50a3c6329e1e74fa453d24bb6fd6108529c7a1bd2964"), looks := true }, kinds := [], alts := [], laidByText := true, laidKinds := [.data, .data], laidTests := true, laidLooks := .later }
def OnetimeSpecCardSaid : Prop := Claim7.holds Tryd.pinned (.plain (OpenSpec.ofChange onetimeSpecSpec)) onetimeSpecCard

/-- THE TIED CARD OF 'frankinglaw16.OnetimeUseSpec'. -/
def onetimeUseSpecCard : Claim7 := { stood := { row := onetimeUseSpecRow, standIns := [], harness := (true, "75f6a540e99331f1d23e50a3c6329e1e74fa453d24bb6fd6108529c7a1bd2964"), looks := true }, kinds := [], alts := [], laidByText := true, laidKinds := [.data, .data], laidTests := true, laidLooks := .later }
def OnetimeUseSpecCardSaid : Prop := Claim7.holds Tryd.pinned (.plain (OpenSpec.ofChange onetimeUseSpecSpec)) onetimeUseSpecCard

/-- THE TIED CARD OF 'frankinglaw16.OnetimeHidden'. -/
def onetimeHiddenCard : Claim7 := { stood := { row := onetimeHiddenRow, standIns := [], harness := (true, "75f6a540e99331f1d23e50a3c6329e1e74fa453d24bb6fd6108529c7a1bd2964"), looks := true }, kinds := [], alts := [], laidByText := true, laidKinds := [.data, .data], laidTests := true, laidLooks := .later }
def OnetimeHiddenCardSaid : Prop := Claim7.holds Tryd.pinned (.plain (OpenSpec.ofChange onetimeHiddenSpec)) onetimeHiddenCard

/-- THE TIED CARD OF 'frankinglaw16.OnetimeSpent'. -/
def onetimeSpentCard : Claim7 := { stood := { row := onetimeSpentRow, standIns := [], harness := (true, "75f6a540e99331f1d23e50a3c6329e1e74fa453d24bb6fd6108529c7a1bd2964"), looks := true }, kinds := [], alts := [], laidByText := true, laidKinds := [.data, .data], laidTests := true, laidLooks := .later }
def OnetimeSpentCardSaid : Prop := Claim7.holds Tryd.pinned (.plain (OpenSpec.ofChange onetimeSpentSpec)) onetimeSpentCard

/-- THE TIED CARD OF 'frankinglaw16.OnetimeBound'. -/
def onetimeBoundCard : Claim7 := { stood := { row := onetimeBoundRow, standIns := [], harness := (true, "75f6a540e99331f1d23e50a3c6329e1e74fa453d24bb6fd6108529c7a1bd2964"), looks := true }, kinds := [], alts := [], laidByText := true, laidKinds := [.data, .data], laidTests := true, laidLooks := .later }
def OnetimeBoundCardSaid : Prop := Claim7.holds Tryd.pinned (.plain (OpenSpec.ofChange onetimeBoundSpec)) onetimeBoundCard

/-- THE TIED CARD OF 'frankinglaw16.OnetimeReads'. -/
def onetimeReadsCard : Claim7 := { stood := { row := onetimeReadsRow, standIns := [], harness := (true, "75f6a540e99331f1d23e50a3c6329e1e74fa453d24bb6fd6108529c7a1bd2964"), looks := true }, kinds := [], alts := [], laidByText := true, laidKinds := [.data, .data], laidTests := true, laidLooks := .later }
def OnetimeReadsCardSaid : Prop := Claim7.holds Tryd.pinned (.plain (OpenSpec.ofChange onetimeReadsSpec)) onetimeReadsCard

/-- THE TIED CARD OF 'frankinglaw37.StampsIssued'. -/
def stampsIssuedCard : Claim7 := { stood := { row := stampsIssuedRow, standIns := [], harness := (true, "75f6a540e99331f1d23e50a3c6329e1e74fa453d24bb6fd6108529c7a1bd2964"), looks := true }, kinds := [], alts := [], laidByText := true, laidKinds := [.data, .data], laidTests := true, laidLooks := .later }
def StampsIssuedCardSaid : Prop := Claim7.holds Tryd.pinned (.plain (OpenSpec.ofChange stampsIssuedSpec)) stampsIssuedCard

/-- THE TIED CARD OF 'frankinglaw37.StampsOnce'. -/
def stampsOnceCard : Claim7 := { stood := { row := stampsOnceRow, standIns := [], harness := (true, "75f6a540e99331f1d23e50a3c6329e1e74fa453d24bb6fd6108529c7a1bd2964"), looks := true }, kinds := [], alts := [], laidByText := true, laidKinds := [.data, .data], laidTests := true, laidLooks := .later }
def StampsOnceCardSaid : Prop := Claim7.holds Tryd.pinned (.plain (OpenSpec.ofChange stampsOnceSpec)) stampsOnceCard

/-- THE TIED CARD OF 'frankinglaw37.StampsUnseen'. -/
def stampsUnseenCard : Claim7 := { stood := { row := stampsUnseenRow, standIns := [], harness := (true, "75f6a540e99331f1d23e50a3c6329e1e74fa453d24bb6fd6108529c7a1bd2964"), looks := true }, kinds := [], alts := [], laidByText := true, laidKinds := [.data, .data], laidTests := true, laidLooks := .later }
def StampsUnseenCardSaid : Prop := Claim7.holds Tryd.pinned (.plain (OpenSpec.ofChange stampsUnseenSpec)) stampsUnseenCard

/-- THE SECOND FORM's CARD OF 'frankinglaw16.OnetimeSpec'. -/
def onetimeSpecUptoCard : Claim7 := { stood := { row := onetimeSpecUptoRow, standIns := [], harness := (true, "75f6a540e99331f1d23e50a3c6329e1e74fa453d24bb6fd6108529c7a1bd2964"), looks := true }, kinds := [], alts := [], laidByText := true, laidKinds := [.data, .data], laidTests := true, laidLooks := .later }
def OnetimeSpecUptoCardSaid : Prop := Claim7.holds Tryd.pinned (.plain (OpenSpec.upto onetimeSpecSpec)) onetimeSpecUptoCard

/-- THE SECOND FORM's CARD OF 'frankinglaw16.OnetimeUseSpec'. -/
def onetimeUseSpecUptoCard : Claim7 := { stood := { row := onetimeUseSpecUptoRow, standIns := [], harness := (true, "75f6a540e99331f1d23e50a3c6329e1e74fa453d24bb6fd6108529c7a1bd2964"), looks := true }, kinds := [], alts := [], laidByText := true, laidKinds := [.data, .data], laidTests := true, laidLooks := .later }
def OnetimeUseSpecUptoCardSaid : Prop := Claim7.holds Tryd.pinned (.plain (OpenSpec.upto onetimeUseSpecSpec)) onetimeUseSpecUptoCard

/-- THE SECOND FORM's CARD OF 'frankinglaw16.OnetimeHidden'. -/
def onetimeHiddenUptoCard : Claim7 := { stood := { row := onetimeHiddenUptoRow, standIns := [], harness := (true, "75f6a540e99331f1d23e50a3c6329e1e74fa453d24bb6fd6108529c7a1bd2964"), looks := true }, kinds := [], alts := [], laidByText := true, laidKinds := [.data, .data], laidTests := true, laidLooks := .later }
def OnetimeHiddenUptoCardSaid : Prop := Claim7.holds Tryd.pinned (.plain (OpenSpec.upto onetimeHiddenSpec)) onetimeHiddenUptoCard

/-- THE SECOND FORM's CARD OF 'frankinglaw16.OnetimeSpent'. -/
def onetimeSpentUptoCard : Claim7 := { stood := { row := onetimeSpentUptoRow, standIns := [], harness := (true, "75f6a540e99331f1d23e50a3c6329e1e74fa453d24bb6fd6108529c7a1bd2964"), looks := true }, kinds := [], alts := [], laidByText := true, laidKinds := [.data, .data], laidTests := true, laidLooks := .later }
def OnetimeSpentUptoCardSaid : Prop := Claim7.holds Tryd.pinned (.plain (OpenSpec.upto onetimeSpentSpec)) onetimeSpentUptoCard

/-- THE SECOND FORM's CARD OF 'frankinglaw16.OnetimeBound'. -/
def onetimeBoundUptoCard : Claim7 := { stood := { row := onetimeBoundUptoRow, standIns := [], harness := (true, "75f6a540e99331f1d23e50a3c6329e1e74fa453d24bb6fd6108529c7a1bd2964"), looks := true }, kinds := [], alts := [], laidByText := true, laidKinds := [.data, .data], laidTests := true, laidLooks := .later }
def OnetimeBoundUptoCardSaid : Prop := Claim7.holds Tryd.pinned (.plain (OpenSpec.upto onetimeBoundSpec)) onetimeBoundUptoCard

/-- THE SECOND FORM's CARD OF 'frankinglaw16.OnetimeReads'. -/
def onetimeReadsUptoCard : Claim7 := { stood := { row := onetimeReadsUptoRow, standIns := [], harness := (true, "75f6a540e99331f1d23e50a3c6329e1e74fa453d24bb6fd6108529c7a1bd2964"), looks := true }, kinds := [], alts := [], laidByText := true, laidKinds := [.data, .data], laidTests := true, laidLooks := .later }
def OnetimeReadsUptoCardSaid : Prop := Claim7.holds Tryd.pinned (.plain (OpenSpec.upto onetimeReadsSpec)) onetimeReadsUptoCard

/-- THE SECOND FORM's CARD OF 'frankinglaw37.StampsIssued'. -/
def stampsIssuedUptoCard : Claim7 := { stood := { row := stampsIssuedUptoRow, standIns := [], harness := (true, "75f6a540e99331f1d23e50a3c6329e1e74fa453d24bb6fd6108529c7a1bd2964"), looks := true }, kinds := [], alts := [], laidByText := true, laidKinds := [.data, .data], laidTests := true, laidLooks := .later }
def StampsIssuedUptoCardSaid : Prop := Claim7.holds Tryd.pinned (.plain (OpenSpec.upto stampsIssuedSpec)) stampsIssuedUptoCard

/-- THE SECOND FORM's CARD OF 'frankinglaw37.StampsOnce'. -/
def stampsOnceUptoCard : Claim7 := { stood := { row := stampsOnceUptoRow, standIns := [], harness := (true, "75f6a540e99331f1d23e50a3c6329e1e74fa453d24bb6fd6108529c7a1bd2964"), looks := true }, kinds := [], alts := [], laidByText := true, laidKinds := [.data, .data], laidTests := true, laidLooks := .later }
def StampsOnceUptoCardSaid : Prop := Claim7.holds Tryd.pinned (.plain (OpenSpec.upto stampsOnceSpec)) stampsOnceUptoCard

/-- THE SECOND FORM's CARD OF 'frankinglaw37.StampsUnseen'. -/
def stampsUnseenUptoCard : Claim7 := { stood := { row := stampsUnseenUptoRow, standIns := [], harness := (true, "75f6a540e99331f1d23e50a3c6329e1e74fa453d24bb6fd6108529c7a1bd2964"), looks := true }, kinds := [], alts := [], laidByText := true, laidKinds := [.data, .data], laidTests := true, laidLooks := .later }
def StampsUnseenUptoCardSaid : Prop := Claim7.holds Tryd.pinned (.plain (OpenSpec.upto stampsUnseenSpec)) stampsUnseenUptoCard
end Rows
end Go.Proofs.YtcioeedlfbioaaaDoor
