/-
  DERIVED. GIVEN WITH THE SEED: THE CARDS: each row of YtlkaffbgekbcfaaDoorRows.lean that lists a variable, with what it lists TIED to the program's text (the seventh form; the later family's looks); each row that meets fmt, with fmt's text TOLD by the authors' own Lean function (tested against real Go, not proved from fmt's source: count such statements apart). THE CARD IS WHAT COUNTS. Prove the row's statement (the work); the ties are given (YtlkaffbgekbcfaaDoorTie.lean); close each card by the builder's one call (the guide's Derived/Test/ToyasCard.lean, 'card_holds'). Laid BY PROGRAM, IN A SANDBOX (cutbox-door.mjs). By AI agents, Wed Nov 11 2026. No macro, syntax, notation, axiom, sorry.
-/
import Derived.Test.YtlkaffbgekbcfaaDoorRows
import GoSem.ClaimSeven
namespace Go.Proofs.YtlkaffbgekbcfaaDoor
namespace Rows

/-- THE TIED CARD OF 'minstrellaw19.SnapSaves'. -/
def snapSavesCard : Claim7 := { stood := { row := snapSavesRow, standIns := [], harness := (true, "3f44122120276ca5b81773aae58e4553affd980cfc2e2a8a4cdf5b045eaf9c58"), looks := true }, kinds := [], alts := [], laidByText := true, laidKinds := [.data], laidTests := true, laidLooks := .later }
def SnapSavesCardSaid : Prop := Claim7.holds Tryd.pinned (.plain (OpenSpec.ofChange snapSavesSpec)) snapSavesCard

/-- THE TIED CARD OF 'minstrellaw19.SnapLoads'. -/
def snapLoadsCard : Claim7 := { stood := { row := snapLoadsRow, standIns := [], harness := (true, "3f44122120276ca5b81773aae58e4553affd980cfc2e2a8a4cdf5b045eaf9c58"), looks := true }, kinds := [], alts := [], laidByText := true, laidKinds := [.data], laidTests := true, laidLooks := .later }
def SnapLoadsCardSaid : Prop := Claim7.holds Tryd.pinned (.plain (OpenSpec.ofChange snapLoadsSpec)) snapLoadsCard

/-- THE TIED CARD OF 'minstrellaw19.SnapWhole'. -/
def snapWholeCard : Claim7 := { stood := { row := snapWholeRow, standIns := [], harness := (true, "3f44122120276ca5b81773aae58e4553affd980cfc2e2a8a4cdf5b045eaf9c58"), looks := true }, kinds := [], alts := [], laidByText := true, laidKinds := [.data], laidTests := true, laidLooks := .later }
def SnapWholeCardSaid : Prop := Claim7.holds Tryd.pinned (.plain (OpenSpec.ofChange snapWholeSpec)) snapWholeCard

/-- THE TIED CARD OF 'minstrellaw19.SnapEntries'. -/
def snapEntriesCard : Claim7 := { stood := { row := snapEntriesRow, standIns := [], harness := (true, "3f44122120276ca5b81773aae58e4553affd980cfc2e2a8a4cdf5b045eaf9c58"), looks := true }, kinds := [], alts := [], laidByText := true, laidKinds := [.data], laidTests := true, laidLooks := .later }
def SnapEntriesCardSaid : Prop := Claim7.holds Tryd.pinned (.plain (OpenSpec.ofChange snapEntriesSpec)) snapEntriesCard

/-- THE SECOND FORM's CARD OF 'minstrellaw19.SnapSaves'. -/
def snapSavesUptoCard : Claim7 := { stood := { row := snapSavesUptoRow, standIns := [], harness := (true, "3f44122120276ca5b81773aae58e4553affd980cfc2e2a8a4cdf5b045eaf9c58"), looks := true }, kinds := [], alts := [], laidByText := true, laidKinds := [.data], laidTests := true, laidLooks := .later }
def SnapSavesUptoCardSaid : Prop := Claim7.holds Tryd.pinned (.plain (OpenSpec.upto snapSavesSpec)) snapSavesUptoCard

/-- THE SECOND FORM's CARD OF 'minstrellaw19.SnapLoads'. -/
def snapLoadsUptoCard : Claim7 := { stood := { row := snapLoadsUptoRow, standIns := [], harness := (true, "3f44122120276ca5b81773aae58e4553affd980cfc2e2a8a4cdf5b045eaf9c58"), looks := true }, kinds := [], alts := [], laidByText := true, laidKinds := [.data], laidTests := true, laidLooks := .later }
def SnapLoadsUptoCardSaid : Prop := Claim7.holds Tryd.pinned (.plain (OpenSpec.upto snapLoadsSpec)) snapLoadsUptoCard

/-- THE SECOND FORM's CARD OF 'minstrellaw19.SnapWhole'. -/
def snapWholeUptoCard : Claim7 := { stood := { row := snapWholeUptoRow, standIns := [], harness := (true, "3f44122120276ca5b81773aae58e4553affd980cfc2e2a8a4cdf5b045eaf9c58"), looks := true }, kinds := [], alts := [], laidByText := true, laidKinds := [.data], laidTests := true, laidLooks := .later }
def SnapWholeUptoCardSaid : Prop := Claim7.holds Tryd.pinned (.plain (OpenSpec.upto snapWholeSpec)) snapWholeUptoCard

/-- THE SECOND FORM's CARD OF 'minstrellaw19.SnapEntries'. -/
def snapEntriesUptoCard : Claim7 := { stood := { row := snapEntriesUptoRow, standIns := [], harness := (true, "3f44122120276ca5b81773aae58e4553affd980cfc2e2a8a4cdf5b045eaf9c58"), looks := true }, kinds := [], alts := [], laidByText := true, laidKinds := [.data], laidTests := true, laidLooks := .later }
def SnapEntriesUptoCardSaid : Prop := Claim7.holds Tryd.pinned (.plain (OpenSpec.upto snapEntriesSpec)) snapEntriesUptoCard
end Rows
end Go.Proofs.YtlkaffbgekbcfaaDoor
