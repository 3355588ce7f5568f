/-
  DERIVED. GIVEN WITH THE SEED: THE CARDS: each row of YtbifjlejelcicaaDoorRows.lean that lists a variable, with what it lists TIED to the program's text (the seventh form; the later family's looks); each row that meets fmt, with fmt's text TOLD by the authors' own Lean function (tested against real Go, not proved from fmt's source: count such statements apart). THE CARD IS WHAT COUNTS. Prove the row's statement (the work); the ties are given (YtbifjlejelcicaaDoorTie.lean); close each card by the builder's one call (the guide's Derived/Test/ToyasCard.lean, 'card_holds'). Laid BY PROGRAM, IN A SANDBOX (cutbox-door.mjs). By AI agents, Wed Nov 11 2026. No macro, syntax, notation, axiom, sorry.
-/
import Derived.Test.YtbifjlejelcicaaDoorRows
import GoSem.ClaimSeven
namespace Go.Proofs.YtbifjlejelcicaaDoor
namespace Rows

/-- THE TIED CARD OF 'frankinglaw11.SignSpec'. -/
def signSpecCard : Claim7 := { stood := { row := signSpecRow, standIns := [], harness := (true, "f40d385477b60dabb4f720fa9a705feb011be46ab5fdc0a956e43603c2d24652"), looks := true }, kinds := [], alts := [], laidByText := true, laidKinds := [.data, .data], laidTests := true, laidLooks := .later }
def SignSpecCardSaid : Prop := Claim7.holds Tryd.pinned (.plain (OpenSpec.ofChange signSpecSpec)) signSpecCard

/-- THE TIED CARD OF 'frankinglaw11.SignRight'. -/
def signRightCard : Claim7 := { stood := { row := signRightRow, standIns := [], harness := (true, "f40d385477b60dabb4f720fa9a705feb011be46ab5fdc0a956e43603c2d24652"), looks := true }, kinds := [], alts := [], laidByText := true, laidKinds := [.data, .data], laidTests := true, laidLooks := .later }
def SignRightCardSaid : Prop := Claim7.holds Tryd.pinned (.plain (OpenSpec.ofChange signRightSpec)) signRightCard

/-- THE TIED CARD OF 'frankinglaw11.SignMeans'. -/
def signMeansCard : Claim7 := { stood := { row := signMeansRow, standIns := [], harness := (true, "f40d385477b60dabb4f720fa9a705feb011be46ab5fdc0a956e43603c2d24652"), looks := true }, kinds := [], alts := [], laidByText := true, laidKinds := [.data, .data], laidTests := true, laidLooks := .later }
def SignMeansCardSaid : Prop := Claim7.holds Tryd.pinned (.plain (OpenSpec.ofChange signMeansSpec)) signMeansCard

/-- THE TIED CARD OF 'frankinglaw11.SignTwice'. -/
def signTwiceCard : Claim7 := { stood := { row := signTwiceRow, standIns := [], harness := (true, "f40d385477b60dabb4f720fa9a705feb011be46ab5fdc0a956e43603c2d24652"), looks := true }, kinds := [], alts := [], laidByText := true, laidKinds := [.data, .data], laidTests := true, laidLooks := .later }
def SignTwiceCardSaid : Prop := Claim7.holds Tryd.pinned (.plain (OpenSpec.ofChange signTwiceSpec)) signTwiceCard

/-- THE TIED CARD OF 'frankinglaw15.BlindSpec'. -/
def blindSpecCard : Claim7 := { stood := { row := blindSpecRow, standIns := [], harness := (true, "f40d385477b60dabb4f720fa9a705feb011be46ab5fdc0a956e43603c2d24652"), looks := true }, kinds := [], alts := [], laidByText := true, laidKinds := [.data, .data], laidTests := true, laidLooks := .later }
def BlindSpecCardSaid : Prop := Claim7.holds Tryd.pinned (.plain (OpenSpec.ofChange blindSpecSpec)) blindSpecCard

/-- THE TIED CARD OF 'frankinglaw15.BlindFinishSpec'. -/
def blindFinishSpecCard : Claim7 := { stood := { row := blindFinishSpecRow, standIns := [], harness := (true, "f40d385477b60dabb4f720fa9a705feb011be46ab5fdc0a956e43603c2d24652"), looks := true }, kinds := [], alts := [], laidByText := true, laidKinds := [.data, .data], laidTests := true, laidLooks := .later }
def BlindFinishSpecCardSaid : Prop := Claim7.holds Tryd.pinned (.plain (OpenSpec.ofChange blindFinishSpecSpec)) blindFinishSpecCard

/-- THE TIED CARD OF 'frankinglaw15.BlindRight'. -/
def blindRightCard : Claim7 := { stood := { row := blindRightRow, standIns := [], harness := (true, "f40d385477b60dabb4f720fa9a705feb011be46ab5fdc0a956e43603c2d24652"), looks := true }, kinds := [], alts := [], laidByText := true, laidKinds := [.data, .data], laidTests := true, laidLooks := .later }
def BlindRightCardSaid : Prop := Claim7.holds Tryd.pinned (.plain (OpenSpec.ofChange blindRightSpec)) blindRightCard

/-- THE TIED CARD OF 'frankinglaw15.BlindAny'. -/
def blindAnyCard : Claim7 := { stood := { row := blindAnyRow, standIns := [], harness := (true, "f40d385477b60dabb4f720fa9a705feb011be46ab5fdc0a956e43603c2d24652"), looks := true }, kinds := [], alts := [], laidByText := true, laidKinds := [.data, .data], laidTests := true, laidLooks := .later }
def BlindAnyCardSaid : Prop := Claim7.holds Tryd.pinned (.plain (OpenSpec.ofChange blindAnySpec)) blindAnyCard

/-- THE TIED CARD OF 'frankinglaw15.BlindFinished'. -/
def blindFinishedCard : Claim7 := { stood := { row := blindFinishedRow, standIns := [], harness := (true, "f40d385477b60dabb4f720fa9a705feb011be46ab5fdc0a956e43603c2d24652"), looks := true }, kinds := [], alts := [], laidByText := true, laidKinds := [.data, .data], laidTests := true, laidLooks := .later }
def BlindFinishedCardSaid : Prop := Claim7.holds Tryd.pinned (.plain (OpenSpec.ofChange blindFinishedSpec)) blindFinishedCard

/-- THE TIED CARD OF 'frankinglaw15.BlindModulo'. -/
def blindModuloCard : Claim7 := { stood := { row := blindModuloRow, standIns := [], harness := (true, "f40d385477b60dabb4f720fa9a705feb011be46ab5fdc0a956e43603c2d24652"), looks := true }, kinds := [], alts := [], laidByText := true, laidKinds := [.data, .data], laidTests := true, laidLooks := .later }
def BlindModuloCardSaid : Prop := Claim7.holds Tryd.pinned (.plain (OpenSpec.ofChange blindModuloSpec)) blindModuloCard

/-- THE SECOND FORM's CARD OF 'frankinglaw11.SignSpec'. -/
def signSpecUptoCard : Claim7 := { stood := { row := signSpecUptoRow, standIns := [], harness := (true, "f40d385477b60dabb4f720fa9a705feb011be46ab5fdc0a956e43603c2d24652"), looks := true }, kinds := [], alts := [], laidByText := true, laidKinds := [.data, .data], laidTests := true, laidLooks := .later }
def SignSpecUptoCardSaid : Prop := Claim7.holds Tryd.pinned (.plain (OpenSpec.upto signSpecSpec)) signSpecUptoCard

/-- THE SECOND FORM's CARD OF 'frankinglaw11.SignRight'. -/
def signRightUptoCard : Claim7 := { stood := { row := signRightUptoRow, standIns := [], harness := (true, "f40d385477b60dabb4f720fa9a705feb011be46ab5fdc0a956e43603c2d24652"), looks := true }, kinds := [], alts := [], laidByText := true, laidKinds := [.data, .data], laidTests := true, laidLooks := .later }
def SignRightUptoCardSaid : Prop := Claim7.holds Tryd.pinned (.plain (OpenSpec.upto signRightSpec)) signRightUptoCard

/-- THE SECOND FORM's CARD OF 'frankinglaw11.SignMeans'. -/
def signMeansUptoCard : Claim7 := { stood := { row := signMeansUptoRow, standIns := [], harness := (true, "f40d385477b60dabb4f720fa9a705feb011be46ab5fdc0a956e43603c2d24652"), looks := true }, kinds := [], alts := [], laidByText := true, laidKinds := [.data, .data], laidTests := true, laidLooks := .later }
def SignMeansUptoCardSaid : Prop := Claim7.holds Tryd.pinned (.plain (OpenSpec.upto signMeansSpec)) signMeansUptoCard

/-- THE SECOND FORM's CARD OF 'frankinglaw11.SignTwice'. -/
def signTwiceUptoCard : Claim7 := { stood := { row := signTwiceUptoRow, standIns := [], harness := (true, "f40d385477b60dabb4f720fa9a705feb011be46ab5fdc0a956e43603c2d24652"), looks := true }, kinds := [], alts := [], laidByText := true, laidKinds := [.data, .data], laidTests := true, laidLooks := .later }
def SignTwiceUptoCardSaid : Prop := Claim7.holds Tryd.pinned (.plain (OpenSpec.upto signTwiceSpec)) signTwiceUptoCard

/-- THE SECOND FORM's CARD OF 'frankinglaw15.BlindSpec'. -/
def blindSpecUptoCard : Claim7 := { stood := { row := blindSpecUptoRow, standIns := [], harness := (true, "f40d385477b60dabb4f720fa9a705feb011be46ab5fdc0a956e43603c2d24652"), looks := true }, kinds := [], alts := [], laidByText := true, laidKinds := [.data, .data], laidTests := true, laidLooks := .later }
def BlindSpecUptoCardSaid : Prop := Claim7.holds Tryd.pinned (.plain (OpenSpec.upto blindSpecSpec)) blindSpecUptoCard

/-- THE SECOND FORM's CARD OF 'frankinglaw15.BlindFinishSpec'. -/
def blindFinishSpecUptoCard : Claim7 := { stood := { row := blindFinishSpecUptoRow, standIns := [], harness := (true, "f40d385477b60dabb4f720fa9a705feb011be46ab5fdc0a956e43603c2d24652"), looks := true }, kinds := [], alts := [], laidByText := true, laidKinds := [.data, .data], laidTests := true, laidLooks := .later }
def BlindFinishSpecUptoCardSaid : Prop := Claim7.holds Tryd.pinned (.plain (OpenSpec.upto blindFinishSpecSpec)) blindFinishSpecUptoCard

/-- THE SECOND FORM's CARD OF 'frankinglaw15.BlindRight'. -/
def blindRightUptoCard : Claim7 := { stood := { row := blindRightUptoRow, standIns := [], harness := (true, "f40d385477b60dabb4f720fa9a705feb011be46ab5fdc0a956e43603c2d24652"), looks := true }, kinds := [], alts := [], laidByText := true, laidKinds := [.data, .data], laidTests := true, laidLooks := .later }
def BlindRightUptoCardSaid : Prop := Claim7.holds Tryd.pinned (.plain (OpenSpec.upto blindRightSpec)) blindRightUptoCard

/-- THE SECOND FORM's CARD OF 'frankinglaw15.BlindAny'. -/
def blindAnyUptoCard : Claim7 := { stood := { row := blindAnyUptoRow, standIns := [], harness := (true, "f40d385477b60dabb4f720fa9a705feb011be46ab5fdc0a956e43603c2d24652"), looks := true }, kinds := [], alts := [], laidByText := true, laidKinds := [.data, .data], laidTests := true, laidLooks := .later }
def BlindAnyUptoCardSaid : Prop := Claim7.holds Tryd.pinned (.plain (OpenSpec.upto blindAnySpec)) blindAnyUptoCard

/-- THE SECOND FORM's CARD OF 'frankinglaw15.BlindFinished'. -/
def blindFinishedUptoCard : Claim7 := { stood := { row := blindFinishedUptoRow, standIns := [], harness := (true, "f40d385477b60dabb4f720fa9a705feb011be46ab5fdc0a956e43603c2d24652"), looks := true }, kinds := [], alts := [], laidByText := true, laidKinds := [.data, .data], laidTests := true, laidLooks := .later }
def BlindFinishedUptoCardSaid : Prop := Claim7.holds Tryd.pinned (.plain (OpenSpec.upto blindFinishedSpec)) blindFinishedUptoCard

/-- THE SECOND FORM's CARD OF 'frankinglaw15.BlindModulo'. -/
def blindModuloUptoCard : Claim7 := { stood := { row := blindModuloUptoRow, standIns := [], harness := (true, "f40d385477b60dabb4f720fa9a705feb011be46ab5fdc0a956e43603c2d24652"), looks := true }, kinds := [], alts := [], laidByText := true, laidKinds := [.data, .data], laidTests := true, laidLooks := .later }
def BlindModuloUptoCardSaid : Prop := Claim7.holds Tryd.pinned (.plain (OpenSpec.upto blindModuloSpec)) blindModuloUptoCard
end Rows
end Go.Proofs.YtbifjlejelcicaaDoor
