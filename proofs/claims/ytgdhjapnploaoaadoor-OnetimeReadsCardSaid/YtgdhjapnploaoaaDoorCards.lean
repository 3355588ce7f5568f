/-
  DERIVED. GIVEN WITH THE SEED: THE CARDS: each row of YtgdhjapnploaoaaDoorRows.lean that lists a variable, with what it lists TIED to the program's text (the seventh form; the later family's looks); each row that meets fmt, with fmt's text TOLD by the authors' own Lean function (tested against real Go, not proved from fmt's source: count such statements apart). THE CARD IS WHAT COUNTS. Prove the row's statement (the work); the ties are given (YtgdhjapnploaoaaDoorTie.lean); close each card by the builder's one call (the guide's Derived/Test/ToyasCard.lean, 'card_holds'). Laid BY PROGRAM, IN A SANDBOX (cutbox-door.mjs). By AI agents, Wed Nov 11 2026. No macro, syntax, notation, axiom, sorry.
-/
import Derived.Test.YtgdhjapnploaoaaDoorRows
import GoSem.ClaimSeven
namespace Go.Proofs.YtgdhjapnploaoaaDoor
namespace Rows

/-- THE TIED CARD OF 'frankinglaw43.ReceiptsSpec'. -/
def receiptsSpecCard : Claim7 := { stood := { row := receiptsSpecRow, standIns := [], harness := (true, "e14a62a6e8332631e440482e32e8b7c6a5f18e4f2192878e113fb307e0c41619"), looks := true }, kinds := [], alts := [], laidByText := true, laidKinds := [.data, .data], laidTests := true, laidLooks := .later }
def ReceiptsSpecCardSaid : Prop := Claim7.holds Tryd.pinned (.plain (OpenSpec.ofChange receiptsSpecSpec)) receiptsSpecCard

/-- THE TIED CARD OF 'frankinglaw43.ReceiptsCheckSpec'. -/
def receiptsCheckSpecCard : Claim7 := { stood := { row := receiptsCheckSpecRow, standIns := [], harness := (true, "e14a62a6e8332631e440482e32e8b7c6a5f18e4f2192878e113fb307e0c41619"), looks := true }, kinds := [], alts := [], laidByText := true, laidKinds := [.data, .data], laidTests := true, laidLooks := .later }
def ReceiptsCheckSpecCardSaid : Prop := Claim7.holds Tryd.pinned (.plain (OpenSpec.ofChange receiptsCheckSpecSpec)) receiptsCheckSpecCard

/-- THE TIED CARD OF 'frankinglaw43.ReceiptsMeans'. -/
def receiptsMeansCard : Claim7 := { stood := { row := receiptsMeansRow, standIns := [], harness := (true, "e14a62a6e8332631e440482e32e8b7c6a5f18e4f2192878e113fb307e0c41619"), looks := true }, kinds := [], alts := [], laidByText := true, laidKinds := [.data, .data], laidTests := true, laidLooks := .later }
def ReceiptsMeansCardSaid : Prop := Claim7.holds Tryd.pinned (.plain (OpenSpec.ofChange receiptsMeansSpec)) receiptsMeansCard

/-- THE TIED CARD OF 'frankinglaw43.ReceiptsLike'. -/
def receiptsLikeCard : Claim7 := { stood := { row := receiptsLikeRow, standIns := [], harness := (true, "e14a62a6e8332631e440482e32e8b7c6a5f18e4f2192878e113fb307e0c41619"), looks := true }, kinds := [], alts := [], laidByText := true, laidKinds := [.data, .data], laidTests := true, laidLooks := .later }
def ReceiptsLikeCardSaid : Prop := Claim7.holds Tryd.pinned (.plain (OpenSpec.ofChange receiptsLikeSpec)) receiptsLikeCard

/-- THE TIED CARD OF 'frankinglaw43.ReceiptsBack'. -/
def receiptsBackCard : Claim7 := { stood := { row := receiptsBackRow, standIns := [], harness := (true, "e14a62a6e8332631e440482e32e8b7c6a5f18e4f2192878e113fb307e0c41619"), looks := true }, kinds := [], alts := [], laidByText := true, laidKinds := [.data, .data], laidTests := true, laidLooks := .later }
def ReceiptsBackCardSaid : Prop := Claim7.holds Tryd.pinned (.plain (OpenSpec.ofChange receiptsBackSpec)) receiptsBackCard

/-- THE TIED CARD OF 'frankinglaw16.OnetimeReads'. -/
def onetimeReadsCard : Claim7 := { stood := { row := onetimeReadsRow, standIns := [], harness := (true, "e14a62a6e8332631e440482e32e8b7c6a5f18e4f2192878e113fb307e0c41619"), looks := true }, kinds := [], alts := [], laidByText := true, laidKinds := [.data, .data], laidTests := true, laidLooks := .later }
def OnetimeReadsCardSaid : Prop := Claim7.holds Tryd.pinned (.plain (OpenSpec.ofChange onetimeReadsSpec)) onetimeReadsCard

/-- THE SECOND FORM's CARD OF 'frankinglaw43.ReceiptsSpec'. -/
def receiptsSpecUptoCard : Claim7 := { stood := { row := receiptsSpecUptoRow, standIns := [], harness := (true, "e14a62a6e8332631e440482e32e8b7c6a5f18e4f2192878e113fb307e0c41619"), looks := true }, kinds := [], alts := [], laidByText := true, laidKinds := [.data, .data], laidTests := true, laidLooks := .later }
def ReceiptsSpecUptoCardSaid : Prop := Claim7.holds Tryd.pinned (.plain (OpenSpec.upto receiptsSpecSpec)) receiptsSpecUptoCard

/-- THE SECOND FORM's CARD OF 'frankinglaw43.ReceiptsCheckSpec'. -/
def receiptsCheckSpecUptoCard : Claim7 := { stood := { row := receiptsCheckSpecUptoRow, standIns := [], harness := (true, "e14a62a6e8332631e440482e32e8b7c6a5f18e4f2192878e113fb307e0c41619"), looks := true }, kinds := [], alts := [], laidByText := true, laidKinds := [.data, .data], laidTests := true, laidLooks := .later }
def ReceiptsCheckSpecUptoCardSaid : Prop := Claim7.holds Tryd.pinned (.plain (OpenSpec.upto receiptsCheckSpecSpec)) receiptsCheckSpecUptoCard

/-- THE SECOND FORM's CARD OF 'frankinglaw43.ReceiptsMeans'. -/
def receiptsMeansUptoCard : Claim7 := { stood := { row := receiptsMeansUptoRow, standIns := [], harness := (true, "e14a62a6e8332631e440482e32e8b7c6a5f18e4f2192878e113fb307e0c41619"), looks := true }, kinds := [], alts := [], laidByText := true, laidKinds := [.data, .data], laidTests := true, laidLooks := .later }
def ReceiptsMeansUptoCardSaid : Prop := Claim7.holds Tryd.pinned (.plain (OpenSpec.upto receiptsMeansSpec)) receiptsMeansUptoCard

/-- THE SECOND FORM's CARD OF 'frankinglaw43.ReceiptsLike'. -/
def receiptsLikeUptoCard : Claim7 := { stood := { row := receiptsLikeUptoRow, standIns := [], harness := (true, "e14a62a6e8332631e440482e32e8b7c6a5f18e4f2192878e113fb307e0c41619"), looks := true }, kinds := [], alts := [], laidByText := true, laidKinds := [.data, .data], laidTests := true, laidLooks := .later }
def ReceiptsLikeUptoCardSaid : Prop := Claim7.holds Tryd.pinned (.plain (OpenSpec.upto receiptsLikeSpec)) receiptsLikeUptoCard

/-- THE SECOND FORM's CARD OF 'frankinglaw43.ReceiptsBack'. -/
def receiptsBackUptoCard : Claim7 := { stood := { row := receiptsBackUptoRow, standIns := [], harness := (true, "e14a62a6e8332631e440482e32e8b7c6a5f18e4f2192878e113fb307e0c41619"), looks := true }, kinds := [], alts := [], laidByText := true, laidKinds := [.data, .data], laidTests := true, laidLooks := .later }
def ReceiptsBackUptoCardSaid : Prop := Claim7.holds Tryd.pinned (.plain (OpenSpec.upto receiptsBackSpec)) receiptsBackUptoCard

/-- THE SECOND FORM's CARD OF 'frankinglaw16.OnetimeReads'. -/
def onetimeReadsUptoCard : Claim7 := { stood := { row := onetimeReadsUptoRow, standIns := [], harness := (true, "e14a62a6e8332631e440482e32e8b7c6a5f18e4f2192878e113fb307e0c41619"), looks := true }, kinds := [], alts := [], laidByText := true, laidKinds := [.data, .data], laidTests := true, laidLooks := .later }
def OnetimeReadsUptoCardSaid : Prop := Claim7.holds Tryd.pinned (.plain (OpenSpec.upto onetimeReadsSpec)) onetimeReadsUptoCard
end Rows
end Go.Proofs.YtgdhjapnploaoaaDoor
