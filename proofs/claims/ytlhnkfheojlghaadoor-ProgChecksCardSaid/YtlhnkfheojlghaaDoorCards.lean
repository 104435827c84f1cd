/-
  DERIVED. GIVEN WITH THE SEED: THE CARDS: each row of YtlhnkfheojlghaaDoorRows.lean that lists a variable, with what it lists TIED to the program's text (the seventh form; the later family's looks); each row that meets fmt, with fmt's text TOLD by the authors' own Lean function (tested against real Go, not proved from fmt's source: count such statements apart). THE CARD IS WHAT COUNTS. Prove the row's statement (the work); the ties are given (YtlhnkfheojlghaaDoorTie.lean); close each card by the builder's one call (the guide's Derived/Test/ToyasCard.lean, 'card_holds'). Laid BY PROGRAM, IN A SANDBOX (cutbox-door.mjs). By AI agents, Wed Nov 11 2026. No macro, syntax, notation, axiom, sorry.
-/
import Derived.Test.YtlhnkfheojlghaaDoorRows
import GoSem.ClaimSeven
namespace Go.Proofs.YtlhnkfheojlghaaDoor
namespace Rows

/-- THE TIED CARD OF 'minstrellaw13.ProgChecks'. -/
def progChecksCard : Claim7 := { stood := { row := progChecksRow, standIns := [], harness := (true, "69c9aced60f386b7526454d5f7619f28d55d1ffdc33c673cc203571de2f626e4"), looks := false }, kinds := [], alts := [], laidByText := true, laidKinds := [.data, .data, .data, .data], laidTests := true, laidLooks := .later }
def ProgChecksCardSaid : Prop := Claim7.holds Tryd.pinned (.plain (OpenSpec.ofChange progChecksSpec)) progChecksCard

/-- THE TIED CARD OF 'minstrellaw13.ProgStays'. -/
def progStaysCard : Claim7 := { stood := { row := progStaysRow, standIns := [], harness := (true, "69c9aced60f386b7526454d5f7619f28d55d1ffdc33c673cc203571de2f626e4"), looks := false }, kinds := [], alts := [], laidByText := true, laidKinds := [.data, .data, .data, .data], laidTests := true, laidLooks := .later }
def ProgStaysCardSaid : Prop := Claim7.holds Tryd.pinned (.plain (OpenSpec.ofChange progStaysSpec)) progStaysCard

/-- THE TIED CARD OF 'minstrellaw13.ProgOrders'. -/
def progOrdersCard : Claim7 := { stood := { row := progOrdersRow, standIns := [], harness := (true, "69c9aced60f386b7526454d5f7619f28d55d1ffdc33c673cc203571de2f626e4"), looks := false }, kinds := [], alts := [], laidByText := true, laidKinds := [.data, .data, .data, .data], laidTests := true, laidLooks := .later }
def ProgOrdersCardSaid : Prop := Claim7.holds Tryd.pinned (.plain (OpenSpec.ofChange progOrdersSpec)) progOrdersCard

/-- THE TIED CARD OF 'minstrellaw13.ProgFlat'. -/
def progFlatCard : Claim7 := { stood := { row := progFlatRow, standIns := [], harness := (true, "69c9aced60f386b7526454d5f7619f28d55d1ffdc33c673cc203571de2f626e4"), looks := false }, kinds := [], alts := [], laidByText := true, laidKinds := [.data, .data, .data, .data], laidTests := true, laidLooks := .later }
def ProgFlatCardSaid : Prop := Claim7.holds Tryd.pinned (.plain (OpenSpec.ofChange progFlatSpec)) progFlatCard

/-- THE TIED CARD OF 'minstrellaw13.ProgReads'. -/
def progReadsCard : Claim7 := { stood := { row := progReadsRow, standIns := [], harness := (true, "69c9aced60f386b7526454d5f7619f28d55d1ffdc33c673cc203571de2f626e4"), looks := false }, kinds := [], alts := [], laidByText := true, laidKinds := [.data, .data, .data, .data], laidTests := true, laidLooks := .later }
def ProgReadsCardSaid : Prop := Claim7.holds Tryd.pinned (.plain (OpenSpec.ofChange progReadsSpec)) progReadsCard

/-- THE SECOND FORM's CARD OF 'minstrellaw13.ProgChecks'. -/
def progChecksUptoCard : Claim7 := { stood := { row := progChecksUptoRow, standIns := [], harness := (true, "69c9aced60f386b7526454d5f7619f28d55d1ffdc33c673cc203571de2f626e4"), looks := false }, kinds := [], alts := [], laidByText := true, laidKinds := [.data, .data, .data, .data], laidTests := true, laidLooks := .later }
def ProgChecksUptoCardSaid : Prop := Claim7.holds Tryd.pinned (.plain (OpenSpec.upto progChecksSpec)) progChecksUptoCard

/-- THE SECOND FORM's CARD OF 'minstrellaw13.ProgStays'. -/
def progStaysUptoCard : Claim7 := { stood := { row := progStaysUptoRow, standIns := [], harness := (true, "69c9aced60f386b7526454d5f7619f28d55d1ffdc33c673cc203571de2f626e4"), looks := false }, kinds := [], alts := [], laidByText := true, laidKinds := [.data, .data, .data, .data], laidTests := true, laidLooks := .later }
def ProgStaysUptoCardSaid : Prop := Claim7.holds Tryd.pinned (.plain (OpenSpec.upto progStaysSpec)) progStaysUptoCard

/-- THE SECOND FORM's CARD OF 'minstrellaw13.ProgOrders'. -/
def progOrdersUptoCard : Claim7 := { stood := { row := progOrdersUptoRow, standIns := [], harness := (true, "69c9aced60f386b7526454d5f7619f28d55d1ffdc33c673cc203571de2f626e4"), looks := false }, kinds := [], alts := [], laidByText := true, laidKinds := [.data, .data, .data, .data], laidTests := true, laidLooks := .later }
def ProgOrdersUptoCardSaid : Prop := Claim7.holds Tryd.pinned (.plain (OpenSpec.upto progOrdersSpec)) progOrdersUptoCard

/-- THE SECOND FORM's CARD OF 'minstrellaw13.ProgFlat'. -/
def progFlatUptoCard : Claim7 := { stood := { row := progFlatUptoRow, standIns := [], harness := (true, "69c9aced60f386b7526454d5f7619f28d55d1ffdc33c673cc203571de2f626e4"), looks := false }, kinds := [], alts := [], laidByText := true, laidKinds := [.data, .data, .data, .data], laidTests := true, laidLooks := .later }
def ProgFlatUptoCardSaid : Prop := Claim7.holds Tryd.pinned (.plain (OpenSpec.upto progFlatSpec)) progFlatUptoCard

/-- THE SECOND FORM's CARD OF 'minstrellaw13.ProgReads'. -/
def progReadsUptoCard : Claim7 := { stood := { row := progReadsUptoRow, standIns := [], harness := (true, "69c9aced60f386b7526454d5f7619f28d55d1ffdc33c673cc203571de2f626e4"), looks := false }, kinds := [], alts := [], laidByText := true, laidKinds := [.data, .data, .data, .data], laidTests := true, laidLooks := .later }
def ProgReadsUptoCardSaid : Prop := Claim7.holds Tryd.pinned (.plain (OpenSpec.upto progReadsSpec)) progReadsUptoCard
end Rows
end Go.Proofs.YtlhnkfheojlghaaDoor
