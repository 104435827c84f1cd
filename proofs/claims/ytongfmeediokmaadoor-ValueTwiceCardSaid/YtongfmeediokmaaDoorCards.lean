/-
  DERIVED. GIVEN WITH THE SEED: THE CARDS: each row of YtongfmeediokmaaDoorRows.lean that lists a variable, with what it lists TIED to the program's text (the seventh form; the later family's looks); each row that meets fmt, with fmt's text TOLD by the authors' own Lean function (tested against real Go, not proved from fmt's source: count such statements apart). THE CARD IS WHAT COUNTS. Prove the row's statement (the work); the ties are given (YtongfmeediokmaaDoorTie.lean); close each card by the builder's one call (the guide's Derived/Test/ToyasCard.lean, 'card_holds'). Laid BY PROGRAM, IN A SANDBOX (cutbox-door.mjs). By AI agents, Wed Nov 11 2026. No macro, syntax, notation, axiom, sorry.
-/
import Derived.Test.YtongfmeediokmaaDoorRows
import GoSem.ClaimSeven
namespace Go.Proofs.YtongfmeediokmaaDoor
namespace Rows

/-- THE TIED CARD OF 'minstrellaw08.ValueGroups'. -/
def valueGroupsCard : Claim7 := { stood := { row := valueGroupsRow, standIns := [], harness := (true, "3e407f12f3b6eeb4915599ca81ef4d83339837788c79062ac542553d784cf3a1"), looks := false }, kinds := [], alts := [], laidByText := true, laidKinds := [.data], laidTests := true, laidLooks := .later }
def ValueGroupsCardSaid : Prop := Claim7.holds Tryd.pinned (.plain (OpenSpec.ofChange valueGroupsSpec)) valueGroupsCard

/-- THE TIED CARD OF 'minstrellaw08.ValueSame'. -/
def valueSameCard : Claim7 := { stood := { row := valueSameRow, standIns := [], harness := (true, "3e407f12f3b6eeb4915599ca81ef4d83339837788c79062ac542553d784cf3a1"), looks := false }, kinds := [], alts := [], laidByText := true, laidKinds := [.data], laidTests := true, laidLooks := .later }
def ValueSameCardSaid : Prop := Claim7.holds Tryd.pinned (.plain (OpenSpec.ofChange valueSameSpec)) valueSameCard

/-- THE TIED CARD OF 'minstrellaw08.ValueTwice'. -/
def valueTwiceCard : Claim7 := { stood := { row := valueTwiceRow, standIns := [], harness := (true, "3e407f12f3b6eeb4915599ca81ef4d83339837788c79062ac542553d784cf3a1"), looks := false }, kinds := [], alts := [], laidByText := true, laidKinds := [.data], laidTests := true, laidLooks := .later }
def ValueTwiceCardSaid : Prop := Claim7.holds Tryd.pinned (.plain (OpenSpec.ofChange valueTwiceSpec)) valueTwiceCard

/-- THE SECOND FORM's CARD OF 'minstrellaw08.ValueGroups'. -/
def valueGroupsUptoCard : Claim7 := { stood := { row := valueGroupsUptoRow, standIns := [], harness := (true, "3e407f12f3b6eeb4915599ca81ef4d83339837788c79062ac542553d784cf3a1"), looks := false }, kinds := [], alts := [], laidByText := true, laidKinds := [.data], laidTests := true, laidLooks := .later }
def ValueGroupsUptoCardSaid : Prop := Claim7.holds Tryd.pinned (.plain (OpenSpec.upto valueGroupsSpec)) valueGroupsUptoCard

/-- THE SECOND FORM's CARD OF 'minstrellaw08.ValueSame'. -/
def valueSameUptoCard : Claim7 := { stood := { row := valueSameUptoRow, standIns := [], harness := (true, "3e407f12f3b6eeb4915599ca81ef4d83339837788c79062ac542553d784cf3a1"), looks := false }, kinds := [], alts := [], laidByText := true, laidKinds := [.data], laidTests := true, laidLooks := .later }
def ValueSameUptoCardSaid : Prop := Claim7.holds Tryd.pinned (.plain (OpenSpec.upto valueSameSpec)) valueSameUptoCard

/-- THE SECOND FORM's CARD OF 'minstrellaw08.ValueTwice'. -/
def valueTwiceUptoCard : Claim7 := { stood := { row := valueTwiceUptoRow, standIns := [], harness := (true, "3e407f12f3b6eeb4915599ca81ef4d83339837788c79062ac542553d784cf3a1"), looks := false }, kinds := [], alts := [], laidByText := true, laidKinds := [.data], laidTests := true, laidLooks := .later }
def ValueTwiceUptoCardSaid : Prop := Claim7.holds Tryd.pinned (.plain (OpenSpec.upto valueTwiceSpec)) valueTwiceUptoCard
end Rows
end Go.Proofs.YtongfmeediokmaaDoor
