/-
  No cell of these rows narrows 'for every input' (looked for: loops, veiled, ifaces, maps, wideKeys, modest, calm, conditions, laid).
  DERIVED. THE GIVEN ROWS OF THIS SEAT. 6 by the template 'for every input the law returns true; each argument reads behind the call as it read before'; 0 by the template 'total and deterministic' (their statements: YthjbdkgbibidkaaTotals.lean).
  GIVEN WITH THE SEED: the statements are not yours to turn. If you find one false, say at which input.
  Laid BY PROGRAM, IN A SANDBOX (cutbox-rows.mjs): the forced cells as the released guide's own fill.sh prints them over the translation cc6f5a00d435df1d… (all of the seat's roots in one cut). By AI agents, Wed Nov 11 2026. No macro, syntax, notation, axiom, sorry.
-/
import Derived.Test.YthjbdkgbibidkaaChecked
import GoSem.Claim
import GoSem.ClaimJoined
import GoSem.ClaimMapViews
import Derived.JoinedTies
import Derived.KernelRfl
namespace Go.Proofs.Ythjbdkgbibidkaa
/- THE CELL 'sum', in the pinned program and in every row, IS THE sha256 OF THE DUMP (.gsa) THAT YthjbdkgbibidkaaProg.lean LOADS. Nothing in Lean hashes anything: it is a label: what it is worth is what the hold of that sum in a sandbox is worth. -/
noncomputable def Try.pinned : Pinned := { name := "ythjbdkgbibidkaa", sum := "cc6f5a00d435df1d325b6fb0a707ecdf21b9edb118967f4335b9fa087183db4b", checked := Try.checked }
namespace Rows
def none {H : Type} : Left H := { results := [], args := [] }

/-- 'minstrellaw15.TextFinds': WHATEVER THE INPUT: true; the input reads as it did. -/
def textFindsSpec : ChangeSpec := { name := "textFinds", fn := fun _ => fun
  | [d1, d2, d3] => { results := [.lit (.bool true)], args := [d1, d2, d3] }
  | _ => none }
def textFindsRow : OpenClaim := { program := "ythjbdkgbibidkaa", sum := "cc6f5a00d435df1d325b6fb0a707ecdf21b9edb118967f4335b9fa087183db4b", func := "minstrel/minstrellaw15.TextFinds", spec := "textFinds", inPlace := ["internal/bytealg.IndexByteString", "internal/bytealg.IndexString"], named := ["internal/bytealg.MaxLen"], apart := false }
def TextFindsSaid : Prop := textFindsRow.holds Try.pinned (OpenSpec.ofChange textFindsSpec)

/-- ITS FALSE NEIGHBOUR: 'it returns false'. Refute it at one input. -/
def textFindsWrong : ChangeSpec := { name := "textFinds", fn := fun _ => fun
  | [d1, d2, d3] => { results := [.lit (.bool false)], args := [d1, d2, d3] }
  | _ => none }
def TextFindsWrongFalsely : Prop := textFindsRow.holds Try.pinned (OpenSpec.ofChange textFindsWrong)

/-- 'minstrellaw15.TextCuts': WHATEVER THE INPUT: true; the input reads as it did. -/
def textCutsSpec : ChangeSpec := { name := "textCuts", fn := fun _ => fun
  | [d1, d2] => { results := [.lit (.bool true)], args := [d1, d2] }
  | _ => none }
def textCutsRow : OpenClaim := { program := "ythjbdkgbibidkaa", sum := "cc6f5a00d435df1d325b6fb0a707ecdf21b9edb118967f4335b9fa087183db4b", func := "minstrel/minstrellaw15.TextCuts", spec := "textCuts", inPlace := ["internal/bytealg.IndexByteString", "internal/bytealg.IndexString"], named := ["internal/bytealg.MaxLen"], apart := false }
def TextCutsSaid : Prop := textCutsRow.holds Try.pinned (OpenSpec.ofChange textCutsSpec)

/-- ITS FALSE NEIGHBOUR: 'it returns false'. Refute it at one input. -/
def textCutsWrong : ChangeSpec := { name := "textCuts", fn := fun _ => fun
  | [d1, d2] => { results := [.lit (.bool false)], args := [d1, d2] }
  | _ => none }
def TextCutsWrongFalsely : Prop := textCutsRow.holds Try.pinned (OpenSpec.ofChange textCutsWrong)

/-- 'minstrellaw15.TextParts': WHATEVER THE INPUT: true; the input reads as it did. -/
def textPartsSpec : ChangeSpec := { name := "textParts", fn := fun _ => fun
  | [d1, d2, d3] => { results := [.lit (.bool true)], args := [d1, d2, d3] }
  | _ => none }
def textPartsRow : OpenClaim := { program := "ythjbdkgbibidkaa", sum := "cc6f5a00d435df1d325b6fb0a707ecdf21b9edb118967f4335b9fa087183db4b", func := "minstrel/minstrellaw15.TextParts", spec := "textParts", inPlace := ["internal/bytealg.IndexByteString", "internal/bytealg.IndexString"], named := ["internal/bytealg.MaxLen"], apart := false }
def TextPartsSaid : Prop := textPartsRow.holds Try.pinned (OpenSpec.ofChange textPartsSpec)

/-- ITS FALSE NEIGHBOUR: 'it returns false'. Refute it at one input. -/
def textPartsWrong : ChangeSpec := { name := "textParts", fn := fun _ => fun
  | [d1, d2, d3] => { results := [.lit (.bool false)], args := [d1, d2, d3] }
  | _ => none }
def TextPartsWrongFalsely : Prop := textPartsRow.holds Try.pinned (OpenSpec.ofChange textPartsWrong)

/-- 'minstrellaw15.TextOrders': WHATEVER THE INPUT: true; the input reads as it did. -/
def textOrdersSpec : ChangeSpec := { name := "textOrders", fn := fun _ => fun
  | [d1, d2, d3] => { results := [.lit (.bool true)], args := [d1, d2, d3] }
  | _ => none }
def textOrdersRow : OpenClaim := { program := "ythjbdkgbibidkaa", sum := "cc6f5a00d435df1d325b6fb0a707ecdf21b9edb118967f4335b9fa087183db4b", func := "minstrel/minstrellaw15.TextOrders", spec := "textOrders", inPlace := ["internal/bytealg.IndexByteString", "internal/bytealg.IndexString"], named := ["internal/bytealg.MaxLen"], apart := false }
def TextOrdersSaid : Prop := textOrdersRow.holds Try.pinned (OpenSpec.ofChange textOrdersSpec)

/-- ITS FALSE NEIGHBOUR: 'it returns false'. Refute it at one input. -/
def textOrdersWrong : ChangeSpec := { name := "textOrders", fn := fun _ => fun
  | [d1, d2, d3] => { results := [.lit (.bool false)], args := [d1, d2, d3] }
  | _ => none }
def TextOrdersWrongFalsely : Prop := textOrdersRow.holds Try.pinned (OpenSpec.ofChange textOrdersWrong)

/-- 'minstrellaw15.TextReps': WHATEVER THE INPUT: true; the input reads as it did. -/
def textRepsSpec : ChangeSpec := { name := "textReps", fn := fun _ => fun
  | [d1, d2, d3] => { results := [.lit (.bool true)], args := [d1, d2, d3] }
  | _ => none }
def textRepsRow : OpenClaim := { program := "ythjbdkgbibidkaa", sum := "cc6f5a00d435df1d325b6fb0a707ecdf21b9edb118967f4335b9fa087183db4b", func := "minstrel/minstrellaw15.TextReps", spec := "textReps", inPlace := ["internal/abi.NoEscape", "internal/bytealg.MakeNoZero", "internal/bytealg.IndexByteString", "internal/bytealg.IndexString"], named := ["internal/bytealg.MaxLen"], apart := false }
def TextRepsSaid : Prop := textRepsRow.holds Try.pinned (OpenSpec.ofChange textRepsSpec)

/-- ITS FALSE NEIGHBOUR: 'it returns false'. Refute it at one input. -/
def textRepsWrong : ChangeSpec := { name := "textReps", fn := fun _ => fun
  | [d1, d2, d3] => { results := [.lit (.bool false)], args := [d1, d2, d3] }
  | _ => none }
def TextRepsWrongFalsely : Prop := textRepsRow.holds Try.pinned (OpenSpec.ofChange textRepsWrong)

/-- 'minstrellaw15.TextMakes': WHATEVER THE INPUT: true; the input reads as it did. -/
def textMakesSpec : ChangeSpec := { name := "textMakes", fn := fun _ => fun
  | [d1, d2, d3] => { results := [.lit (.bool true)], args := [d1, d2, d3] }
  | _ => none }
def textMakesRow : OpenClaim := { program := "ythjbdkgbibidkaa", sum := "cc6f5a00d435df1d325b6fb0a707ecdf21b9edb118967f4335b9fa087183db4b", func := "minstrel/minstrellaw15.TextMakes", spec := "textMakes", inPlace := ["internal/abi.NoEscape", "internal/bytealg.MakeNoZero", "internal/bytealg.IndexByteString", "internal/bytealg.IndexString"], named := ["internal/bytealg.MaxLen"], apart := false }
def TextMakesSaid : Prop := textMakesRow.holds Try.pinned (OpenSpec.ofChange textMakesSpec)

/-- ITS FALSE NEIGHBOUR: 'it returns false'. Refute it at one input. -/
def textMakesWrong : ChangeSpec := { name := "textMakes", fn := fun _ => fun
  | [d1, d2, d3] => { results := [.lit (.bool false)], args := [d1, d2, d3] }
  | _ => none }
def TextMakesWrongFalsely : Prop := textMakesRow.holds Try.pinned (OpenSpec.ofChange textMakesWrong)

/- THE SECOND FORM. 'bulk': how many values and letters a reading holds, each counted each time it is reached (what is shared counts as often as it is met; a slice's spare places count too). A statement '..UptoSaid' is the law's where the arguments, and the package variables that the reading takes, are together of bulk at most 1048576: NARROWER than '..Said'. Prove '..Said' where nothing that the law and all that it calls make is longer than what came in: it says more and counts as full. Else prove '..UptoSaid'. A law counts once. -/
mutual
def uptoBulk {H : Type} : DataW H → Nat
  | .lit (.string bytes) => bytes.length + 1
  | .lit _ => 1
  | .nil => 1
  | .ptr d => uptoBulk d + 1
  | .slice elems spare => uptoBulkAll elems + uptoBulkAll spare + 1
  | .agg parts => uptoBulkAll parts + 1
  | .iface _ d => uptoBulk d + 1
  | .map entries => uptoBulkEntries entries + 1
  | .held _ => 1
def uptoBulkAll {H : Type} : List (DataW H) → Nat
  | [] => 0
  | d :: r => uptoBulk d + uptoBulkAll r
def uptoBulkEntries {H : Type} : List (Lit × DataW H) → Nat
  | [] => 0
  | x :: r => uptoBulkEntry x + uptoBulkEntries r
def uptoBulkEntry {H : Type} : Lit × DataW H → Nat
  | (.string bytes, d) => bytes.length + uptoBulk d + 1
  | (_, d) => uptoBulk d + 1
 end
def uptoSmall : (H : Type) → List (DataW H) → Bool := fun _ ds => decide (uptoBulkAll ds ≤ 1048576)
def OpenSpec.upto (s : _root_.Go.ChangeSpec) : _root_.Go.OpenSpec := { _root_.Go.OpenSpec.ofChange s with cond := some uptoSmall }

/-- 'minstrellaw15.TextFinds', WHERE WHAT IT READS IS OF BULK AT MOST 1048576: true; the input reads as it did. -/
def textFindsUptoRow : OpenClaim := { program := "ythjbdkgbibidkaa", sum := "cc6f5a00d435df1d325b6fb0a707ecdf21b9edb118967f4335b9fa087183db4b", func := "minstrel/minstrellaw15.TextFinds", spec := "textFinds", inPlace := ["internal/bytealg.IndexByteString", "internal/bytealg.IndexString"], named := ["internal/bytealg.MaxLen"], apart := false, narrowed := true }
def TextFindsUptoSaid : Prop := textFindsUptoRow.holds Try.pinned (OpenSpec.upto textFindsSpec)

/-- 'minstrellaw15.TextCuts', WHERE WHAT IT READS IS OF BULK AT MOST 1048576: true; the input reads as it did. -/
def textCutsUptoRow : OpenClaim := { program := "ythjbdkgbibidkaa", sum := "cc6f5a00d435df1d325b6fb0a707ecdf21b9edb118967f4335b9fa087183db4b", func := "minstrel/minstrellaw15.TextCuts", spec := "textCuts", inPlace := ["internal/bytealg.IndexByteString", "internal/bytealg.IndexString"], named := ["internal/bytealg.MaxLen"], apart := false, narrowed := true }
def TextCutsUptoSaid : Prop := textCutsUptoRow.holds Try.pinned (OpenSpec.upto textCutsSpec)

/-- 'minstrellaw15.TextParts', WHERE WHAT IT READS IS OF BULK AT MOST 1048576: true; the input reads as it did. -/
def textPartsUptoRow : OpenClaim := { program := "ythjbdkgbibidkaa", sum := "cc6f5a00d435df1d325b6fb0a707ecdf21b9edb118967f4335b9fa087183db4b", func := "minstrel/minstrellaw15.TextParts", spec := "textParts", inPlace := ["internal/bytealg.IndexByteString", "internal/bytealg.IndexString"], named := ["internal/bytealg.MaxLen"], apart := false, narrowed := true }
def TextPartsUptoSaid : Prop := textPartsUptoRow.holds Try.pinned (OpenSpec.upto textPartsSpec)

/-- 'minstrellaw15.TextOrders', WHERE WHAT IT READS IS OF BULK AT MOST 1048576: true; the input reads as it did. -/
def textOrdersUptoRow : OpenClaim := { program := "ythjbdkgbibidkaa", sum := "cc6f5a00d435df1d325b6fb0a707ecdf21b9edb118967f4335b9fa087183db4b", func := "minstrel/minstrellaw15.TextOrders", spec := "textOrders", inPlace := ["internal/bytealg.IndexByteString", "internal/bytealg.IndexString"], named := ["internal/bytealg.MaxLen"], apart := false, narrowed := true }
def TextOrdersUptoSaid : Prop := textOrdersUptoRow.holds Try.pinned (OpenSpec.upto textOrdersSpec)

/-- 'minstrellaw15.TextReps', WHERE WHAT IT READS IS OF BULK AT MOST 1048576: true; the input reads as it did. -/
def textRepsUptoRow : OpenClaim := { program := "ythjbdkgbibidkaa", sum := "cc6f5a00d435df1d325b6fb0a707ecdf21b9edb118967f4335b9fa087183db4b", func := "minstrel/minstrellaw15.TextReps", spec := "textReps", inPlace := ["internal/abi.NoEscape", "internal/bytealg.MakeNoZero", "internal/bytealg.IndexByteString", "internal/bytealg.IndexString"], named := ["internal/bytealg.MaxLen"], apart := false, narrowed := true }
def TextRepsUptoSaid : Prop := textRepsUptoRow.holds Try.pinned (OpenSpec.upto textRepsSpec)

/-- 'minstrellaw15.TextMakes', WHERE WHAT IT READS IS OF BULK AT MOST 1048576: true; the input reads as it did. -/
def textMakesUptoRow : OpenClaim := { program := "ythjbdkgbibidkaa", sum := "cc6f5a00d435df1d325b6fb0a707ecdf21b9edb118967f4335b9fa087183db4b", func := "minstrel/minstrellaw15.TextMakes", spec := "textMakes", inPlace := ["internal/abi.NoEscape", "internal/bytealg.MakeNoZero", "internal/bytealg.IndexByteString", "internal/bytealg.IndexString"], named := ["internal/bytealg.MaxLen"], apart := false, narrowed := true }
def TextMakesUptoSaid : Prop := textMakesUptoRow.holds Try.pinned (OpenSpec.upto textMakesSpec)

end Rows
end Go.Proofs.Ythjbdkgbibidkaa
