/-
  DERIVED. GIVEN WITH THE SEED: THE CARDS: each row of YtflcanpajgpghaaDoorRows.lean that lists a variable, with what it lists TIED to the program's text (the seventh form; the later family's looks); each row that meets fmt, with fmt's text TOLD by the authors' own Lean function (tested against real Go, not proved from fmt's source: count such statements apart). THE CARD IS WHAT COUNTS. Prove the row's statement (the work); the ties are given (YtflcanpajgpghaaDoorTie.lean); close each card by the builder's one call (the guide's Derived/Test/ToyasCard.lean, 'card_holds'). Laid BY PROGRAM, IN A SANDBOX (cutbox-door.mjs). By AI agents, Wed Nov 11 2026. No macro, syntax, notation, axiom, sorry.
-/
import Derived.Test.YtflcanpajgpghaaDoorRows
import GoSem.ClaimSeven
namespace Go.Proofs.YtflcanpajgpghaaDoor
namespace Rows

/-- THE TIED CARD OF 'minstrellaw05.DecBack'. -/
def decBackCard : Claim7 := { stood := { row := decBackRow, standIns := [], harness := (true, "d732b9baaadbf80dfa702af99193c43ca8671486d5fb9b98b30302235a956925"), looks := false }, kinds := [], alts := [], laidByText := true, laidKinds := [.data, .data, .data, .data, .pinned], laidTests := true, laidLooks := .later }
def DecBackCardSaid : Prop := Claim7.holds Tryd.pinned (.plain (OpenSpec.ofChange decBackSpec)) decBackCard

/-- THE TIED CARD OF 'minstrellaw05.DecNoughts'. -/
def decNoughtsCard : Claim7 := { stood := { row := decNoughtsRow, standIns := [], harness := (true, "d732b9baaadbf80dfa702af99193c43ca8671486d5fb9b98b30302235a956925"), looks := false }, kinds := [], alts := [], laidByText := true, laidKinds := [.data, .data, .data, .data, .pinned], laidTests := true, laidLooks := .later }
def DecNoughtsCardSaid : Prop := Claim7.holds Tryd.pinned (.plain (OpenSpec.ofChange decNoughtsSpec)) decNoughtsCard

/-- THE TIED CARD OF 'minstrellaw05.DecRises'. -/
def decRisesCard : Claim7 := { stood := { row := decRisesRow, standIns := [], harness := (true, "d732b9baaadbf80dfa702af99193c43ca8671486d5fb9b98b30302235a956925"), looks := false }, kinds := [], alts := [], laidByText := true, laidKinds := [.data, .data, .data, .data, .pinned], laidTests := true, laidLooks := .later }
def DecRisesCardSaid : Prop := Claim7.holds Tryd.pinned (.plain (OpenSpec.ofChange decRisesSpec)) decRisesCard

/-- THE SECOND FORM's CARD OF 'minstrellaw05.DecBack'. -/
def decBackUptoCard : Claim7 := { stood := { row := decBackUptoRow, standIns := [], harness := (true, "d732b9baaadbf80dfa702af99193c43ca8671486d5fb9b98b30302235a956925"), looks := false }, kinds := [], alts := [], laidByText := true, laidKinds := [.data, .data, .data, .data, .pinned], laidTests := true, laidLooks := .later }
def DecBackUptoCardSaid : Prop := Claim7.holds Tryd.pinned (.plain (OpenSpec.upto decBackSpec)) decBackUptoCard

/-- THE SECOND FORM's CARD OF 'minstrellaw05.DecNoughts'. -/
def decNoughtsUptoCard : Claim7 := { stood := { row := decNoughtsUptoRow, standIns := [], harness := (true, "d732b9baaadbf80dfa702af99193c43ca8671486d5fb9b98b30302235a956925"), looks := false }, kinds := [], alts := [], laidByText := true, laidKinds := [.data, .data, .data, .data, .pinned], laidTests := true, laidLooks := .later }
def DecNoughtsUptoCardSaid : Prop := Claim7.holds Tryd.pinned (.plain (OpenSpec.upto decNoughtsSpec)) decNoughtsUptoCard

/-- THE SECOND FORM's CARD OF 'minstrellaw05.DecRises'. -/
def decRisesUptoCard : Claim7 := { stood := { row := decRisesUptoRow, standIns := [], harness := (true, "d732b9baaadbf80dfa702af99193c43ca8671486d5fb9b98b30302235a956925"), looks := false }, kinds := [], alts := [], laidByText := true, laidKinds := [.data, .data, .data, .data, .pinned], laidTests := true, laidLooks := .later }
def DecRisesUptoCardSaid : Prop := Claim7.holds Tryd.pinned (.plain (OpenSpec.upto decRisesSpec)) decRisesUptoCard
end Rows
end Go.Proofs.YtflcanpajgpghaaDoor
