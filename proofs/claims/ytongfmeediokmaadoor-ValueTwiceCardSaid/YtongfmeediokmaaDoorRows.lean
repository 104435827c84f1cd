/-
  NARROWER THAN 'FOR EVERY INPUT', by the rows' own cells (each row's printed sentence says how): ValueGroups: laid · ValueSame: laid · ValueTwice: laid.
  DERIVED. THE GIVEN ROWS OF THIS SEAT. 3 by the template 'for every input the law returns true; each argument reads behind the call as it read before'; 0 by the template 'total and deterministic' (their statements: YtongfmeediokmaaDoorTotals.lean).
  GIVEN WITH THE SEED: the statements are not yours to turn. If you find one false, say at which input.
  Laid BY PROGRAM, IN A SANDBOX (cutbox-rows.mjs): the forced cells as the released guide's own fill.sh prints them over the translation 1a7829758110ae08… (all of the seat's roots in one cut). By AI agents, Wed Nov 11 2026. No macro, syntax, notation, axiom, sorry.
-/
import Derived.Test.YtongfmeediokmaaDoorChecked
import GoSem.Claim
import GoSem.ClaimJoined
import GoSem.ClaimMapViews
import Derived.JoinedTies
import Derived.KernelRfl
namespace Go.Proofs.YtongfmeediokmaaDoor
/- THE CELL 'sum', in the pinned program and in every row, IS THE sha256 OF THE DUMP (.gsa) THAT YtongfmeediokmaaDoorProg.lean LOADS. Nothing in Lean hashes anything: it is a label: what it is worth is what the hold of that sum in a sandbox is worth. -/
noncomputable def Tryd.pinned : Pinned := { name := "ytongfmeediokmaadoor", sum := "1a7829758110ae08908f1aa4e678a9dc6c6a1601fd684c094e7d17bb91478f92", checked := Tryd.checked }
namespace Rows
def none {H : Type} : Left H := { results := [], args := [] }

/- WHAT THE LISTED PACKAGE-LEVEL VARIABLES READ AS WHEN THE CALL BEGINS. Each datum BY PROGRAM (the guide's laid-datum.mjs) off the statement by which the dump's own 'gosem.cut.vars' lays the variable. In a bare row this is a premise. The card (YtongfmeediokmaaDoorCards.lean) ties it to the program's text. -/
def laid_minstrel_value_names {H : Type} : DataW H := .agg [.lit (.string [110, 105, 108]), .lit (.string [98, 111, 111, 108, 101, 97, 110]), .lit (.string [98, 111, 111, 108, 101, 97, 110]), .lit (.string [110, 117, 109, 98, 101, 114]), .lit (.string [115, 116, 114, 105, 110, 103]), .lit (.string [116, 97, 98, 108, 101]), .lit (.string [102, 117, 110, 99, 116, 105, 111, 110]), .lit (.string [116, 104, 114, 101, 97, 100]), .lit (.string [102, 117, 110, 99, 116, 105, 111, 110])]

/-- 'minstrellaw08.ValueGroups': WHATEVER THE INPUT: true; the input reads as it did. -/
def valueGroupsSpec : ChangeSpec := { name := "valueGroups", fn := fun _ => fun
  | [d1, d2, d3] => { results := [.lit (.bool true)], args := [d1, d2, d3] }
  | _ => none }
def valueGroupsRow : OpenClaim := { program := "ytongfmeediokmaadoor", sum := "1a7829758110ae08908f1aa4e678a9dc6c6a1601fd684c094e7d17bb91478f92", func := "minstrel/minstrellaw08.ValueGroups", spec := "valueGroups", inPlace := ["math.Float64frombits"], named := ["minstrel/value.names"], apart := false, laid := [("minstrel/value.names", laid_minstrel_value_names)] }
def ValueGroupsSaid : Prop := valueGroupsRow.holds Tryd.pinned (OpenSpec.ofChange valueGroupsSpec)

/-- ITS FALSE NEIGHBOUR: 'it returns false'. Refute it at one input. -/
def valueGroupsWrong : ChangeSpec := { name := "valueGroups", fn := fun _ => fun
  | [d1, d2, d3] => { results := [.lit (.bool false)], args := [d1, d2, d3] }
  | _ => none }
def ValueGroupsWrongFalsely : Prop := valueGroupsRow.holds Tryd.pinned (OpenSpec.ofChange valueGroupsWrong)

/-- 'minstrellaw08.ValueSame': WHATEVER THE INPUT: true; the input reads as it did. -/
def valueSameSpec : ChangeSpec := { name := "valueSame", fn := fun _ => fun
  | [d1, d2] => { results := [.lit (.bool true)], args := [d1, d2] }
  | _ => none }
def valueSameRow : OpenClaim := { program := "ytongfmeediokmaadoor", sum := "1a7829758110ae08908f1aa4e678a9dc6c6a1601fd684c094e7d17bb91478f92", func := "minstrel/minstrellaw08.ValueSame", spec := "valueSame", inPlace := ["math.Float64frombits"], named := ["minstrel/value.names"], apart := false, laid := [("minstrel/value.names", laid_minstrel_value_names)] }
def ValueSameSaid : Prop := valueSameRow.holds Tryd.pinned (OpenSpec.ofChange valueSameSpec)

/-- ITS FALSE NEIGHBOUR: 'it returns false'. Refute it at one input. -/
def valueSameWrong : ChangeSpec := { name := "valueSame", fn := fun _ => fun
  | [d1, d2] => { results := [.lit (.bool false)], args := [d1, d2] }
  | _ => none }
def ValueSameWrongFalsely : Prop := valueSameRow.holds Tryd.pinned (OpenSpec.ofChange valueSameWrong)

/-- 'minstrellaw08.ValueTwice': WHATEVER THE INPUT: true; the input reads as it did. -/
def valueTwiceSpec : ChangeSpec := { name := "valueTwice", fn := fun _ => fun
  | [d] => { results := [.lit (.bool true)], args := [d] }
  | _ => none }
def valueTwiceRow : OpenClaim := { program := "ytongfmeediokmaadoor", sum := "1a7829758110ae08908f1aa4e678a9dc6c6a1601fd684c094e7d17bb91478f92", func := "minstrel/minstrellaw08.ValueTwice", spec := "valueTwice", inPlace := ["math.Float64frombits"], named := ["minstrel/value.names"], apart := false, laid := [("minstrel/value.names", laid_minstrel_value_names)] }
def ValueTwiceSaid : Prop := valueTwiceRow.holds Tryd.pinned (OpenSpec.ofChange valueTwiceSpec)

/-- ITS FALSE NEIGHBOUR: 'it returns false'. Refute it at one input. -/
def valueTwiceWrong : ChangeSpec := { name := "valueTwice", fn := fun _ => fun
  | [d] => { results := [.lit (.bool false)], args := [d] }
  | _ => none }
def ValueTwiceWrongFalsely : Prop := valueTwiceRow.holds Tryd.pinned (OpenSpec.ofChange valueTwiceWrong)

/- THE SECOND FORM. 'bulk': how many values and letters a reading holds, each counted each time it is reached (what is shared counts as often as it is met; a slice's spare places count too). A statement '..UptoSaid' is the law's where the arguments, and the package variables that the reading takes, are together of bulk at most 1048576: NARROWER than '..Said'. Prove '..Said' where nothing that the law and all that it calls make is longer than what came in: it says more and counts as full. Else prove '..UptoSaid'. A law counts once. -/
mutual
def uptoBulk {H : Type} : DataW H → Nat
  | .lit (.string bytes) => bytes.length + 1
  | .lit _ => 1
  | .nil => 1
  | .ptr d => uptoBulk d + 1
  | .slice elems spare => uptoBulkAll elems + uptoBulkAll spare + 1
  | .agg parts => uptoBulkAll parts + 1
  | .iface _ d => uptoBulk d + 1
  | .map entries => uptoBulkEntries entries + 1
  | .held _ => 1
def uptoBulkAll {H : Type} : List (DataW H) → Nat
  | [] => 0
  | d :: r => uptoBulk d + uptoBulkAll r
def uptoBulkEntries {H : Type} : List (Lit × DataW H) → Nat
  | [] => 0
  | x :: r => uptoBulkEntry x + uptoBulkEntries r
def uptoBulkEntry {H : Type} : Lit × DataW H → Nat
  | (.string bytes, d) => bytes.length + uptoBulk d + 1
  | (_, d) => uptoBulk d + 1
 end
def uptoSmall : (H : Type) → List (DataW H) → Bool := fun _ ds => decide (uptoBulkAll ds ≤ 1048576)
def OpenSpec.upto (s : _root_.Go.ChangeSpec) : _root_.Go.OpenSpec := { _root_.Go.OpenSpec.ofChange s with cond := some uptoSmall }

/-- 'minstrellaw08.ValueGroups', WHERE WHAT IT READS IS OF BULK AT MOST 1048576: true; the input reads as it did. -/
def valueGroupsUptoRow : OpenClaim := { program := "ytongfmeediokmaadoor", sum := "1a7829758110ae08908f1aa4e678a9dc6c6a1601fd684c094e7d17bb91478f92", func := "minstrel/minstrellaw08.ValueGroups", spec := "valueGroups", inPlace := ["math.Float64frombits"], named := ["minstrel/value.names"], apart := false, laid := [("minstrel/value.names", laid_minstrel_value_names)], narrowed := true }
def ValueGroupsUptoSaid : Prop := valueGroupsUptoRow.holds Tryd.pinned (OpenSpec.upto valueGroupsSpec)

/-- 'minstrellaw08.ValueSame', WHERE WHAT IT READS IS OF BULK AT MOST 1048576: true; the input reads as it did. -/
def valueSameUptoRow : OpenClaim := { program := "ytongfmeediokmaadoor", sum := "1a7829758110ae08908f1aa4e678a9dc6c6a1601fd684c094e7d17bb91478f92", func := "minstrel/minstrellaw08.ValueSame", spec := "valueSame", inPlace := ["math.Float64frombits"], named := ["minstrel/value.names"], apart := false, laid := [("minstrel/value.names", laid_minstrel_value_names)], narrowed := true }
def ValueSameUptoSaid : Prop := valueSameUptoRow.holds Tryd.pinned (OpenSpec.upto valueSameSpec)

/-- 'minstrellaw08.ValueTwice', WHERE WHAT IT READS IS OF BULK AT MOST 1048576: true; the input reads as it did. -/
def valueTwiceUptoRow : OpenClaim := { program := "ytongfmeediokmaadoor", sum := "1a7829758110ae08908f1aa4e678a9dc6c6a1601fd684c094e7d17bb91478f92", func := "minstrel/minstrellaw08.ValueTwice", spec := "valueTwice", inPlace := ["math.Float64frombits"], named := ["minstrel/value.names"], apart := false, laid := [("minstrel/value.names", laid_minstrel_value_names)], narrowed := true }
def ValueTwiceUptoSaid : Prop := valueTwiceUptoRow.holds Tryd.pinned (OpenSpec.upto valueTwiceSpec)

end Rows
end Go.Proofs.YtongfmeediokmaaDoor
