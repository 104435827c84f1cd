/-
  NARROWER THAN 'FOR EVERY INPUT', by the rows' own cells (each row's printed sentence says how): SnapSaves: loops, laid · SnapLoads: laid · SnapWhole: loops, laid · SnapEntries: loops, laid.
  DERIVED. THE GIVEN ROWS OF THIS SEAT. 4 by the template 'for every input the law returns true; each argument reads behind the call as it read before'; 0 by the template 'total and deterministic' (their statements: YtlkaffbgekbcfaaDoorTotals.lean).
  GIVEN WITH THE SEED: the statements are not yours to turn. If you find one false, say at which input.
  Laid BY PROGRAM, IN A SANDBOX (cutbox-rows.mjs): the forced cells as the released guide's own fill.sh prints them over the translation d0eae34790fa3844… (all of the seat's roots in one cut). By AI agents, Wed Nov 11 2026. No macro, syntax, notation, axiom, sorry.
-/
import Derived.Test.YtlkaffbgekbcfaaDoorChecked
import GoSem.Claim
import GoSem.ClaimJoined
import GoSem.ClaimMapViews
import Derived.JoinedTies
import Derived.KernelRfl
namespace Go.Proofs.YtlkaffbgekbcfaaDoor
/- THE CELL 'sum', in the pinned program and in every row, IS THE sha256 OF THE DUMP (.gsa) THAT YtlkaffbgekbcfaaDoorProg.lean LOADS. Nothing in Lean hashes anything: it is a label: what it is worth is what the hold of that sum in a sandbox is worth. -/
noncomputable def Tryd.pinned : Pinned := { name := "ytlkaffbgekbcfaadoor", sum := "d0eae34790fa3844ae3b0e958000f80eaf42975a36309fc1680400ab74cd371f", checked := Tryd.checked }
namespace Rows
def none {H : Type} : Left H := { results := [], args := [] }

/- WHAT THE LISTED PACKAGE-LEVEL VARIABLES READ AS WHEN THE CALL BEGINS. Each datum BY PROGRAM (the guide's laid-datum.mjs) off the statement by which the dump's own 'gosem.cut.vars' lays the variable. In a bare row this is a premise. The card (YtlkaffbgekbcfaaDoorCards.lean) ties it to the program's text. -/
def laid_minstrel_frame_quarter {H : Type} : DataW H := .agg [.lit (.int .u32 0), .lit (.int .u32 498536548), .lit (.int .u32 997073096), .lit (.int .u32 651767980), .lit (.int .u32 1994146192), .lit (.int .u32 1802195444), .lit (.int .u32 1303535960), .lit (.int .u32 1342533948), .lit (.int .u32 3988292384), .lit (.int .u32 4027552580), .lit (.int .u32 3604390888), .lit (.int .u32 3412177804), .lit (.int .u32 2607071920), .lit (.int .u32 2262029012), .lit (.int .u32 2685067896), .lit (.int .u32 3183342108)]

/-- 'minstrellaw19.SnapSaves': WHATEVER THE INPUT: true; the input reads as it did. -/
def snapSavesSpec : ChangeSpec := { name := "snapSaves", fn := fun _ => fun
  | [d] => { results := [.lit (.bool true)], args := [d] }
  | _ => none }
def snapSavesRow : OpenClaim := { program := "ytlkaffbgekbcfaadoor", sum := "d0eae34790fa3844ae3b0e958000f80eaf42975a36309fc1680400ab74cd371f", func := "minstrel/minstrellaw19.SnapSaves", spec := "snapSaves", recurses := true, named := ["minstrel/frame.quarter"], loops := true, apart := false, laid := [("minstrel/frame.quarter", laid_minstrel_frame_quarter)] }
def SnapSavesSaid : Prop := snapSavesRow.holds Tryd.pinned (OpenSpec.ofChange snapSavesSpec)

/-- ITS FALSE NEIGHBOUR: 'it returns false'. Refute it at one input. -/
def snapSavesWrong : ChangeSpec := { name := "snapSaves", fn := fun _ => fun
  | [d] => { results := [.lit (.bool false)], args := [d] }
  | _ => none }
def SnapSavesWrongFalsely : Prop := snapSavesRow.holds Tryd.pinned (OpenSpec.ofChange snapSavesWrong)

/-- 'minstrellaw19.SnapLoads': WHATEVER THE INPUT: true; the input reads as it did. -/
def snapLoadsSpec : ChangeSpec := { name := "snapLoads", fn := fun _ => fun
  | [d] => { results := [.lit (.bool true)], args := [d] }
  | _ => none }
def snapLoadsRow : OpenClaim := { program := "ytlkaffbgekbcfaadoor", sum := "d0eae34790fa3844ae3b0e958000f80eaf42975a36309fc1680400ab74cd371f", func := "minstrel/minstrellaw19.SnapLoads", spec := "snapLoads", recurses := true, named := ["minstrel/frame.quarter"], apart := false, laid := [("minstrel/frame.quarter", laid_minstrel_frame_quarter)] }
def SnapLoadsSaid : Prop := snapLoadsRow.holds Tryd.pinned (OpenSpec.ofChange snapLoadsSpec)

/-- ITS FALSE NEIGHBOUR: 'it returns false'. Refute it at one input. -/
def snapLoadsWrong : ChangeSpec := { name := "snapLoads", fn := fun _ => fun
  | [d] => { results := [.lit (.bool false)], args := [d] }
  | _ => none }
def SnapLoadsWrongFalsely : Prop := snapLoadsRow.holds Tryd.pinned (OpenSpec.ofChange snapLoadsWrong)

/-- 'minstrellaw19.SnapWhole': WHATEVER THE INPUT: true; the input reads as it did. -/
def snapWholeSpec : ChangeSpec := { name := "snapWhole", fn := fun _ => fun
  | [d1, d2] => { results := [.lit (.bool true)], args := [d1, d2] }
  | _ => none }
def snapWholeRow : OpenClaim := { program := "ytlkaffbgekbcfaadoor", sum := "d0eae34790fa3844ae3b0e958000f80eaf42975a36309fc1680400ab74cd371f", func := "minstrel/minstrellaw19.SnapWhole", spec := "snapWhole", recurses := true, named := ["minstrel/frame.quarter"], loops := true, apart := false, laid := [("minstrel/frame.quarter", laid_minstrel_frame_quarter)] }
def SnapWholeSaid : Prop := snapWholeRow.holds Tryd.pinned (OpenSpec.ofChange snapWholeSpec)

/-- ITS FALSE NEIGHBOUR: 'it returns false'. Refute it at one input. -/
def snapWholeWrong : ChangeSpec := { name := "snapWhole", fn := fun _ => fun
  | [d1, d2] => { results := [.lit (.bool false)], args := [d1, d2] }
  | _ => none }
def SnapWholeWrongFalsely : Prop := snapWholeRow.holds Tryd.pinned (OpenSpec.ofChange snapWholeWrong)

/-- 'minstrellaw19.SnapEntries': WHATEVER THE INPUT: true; the input reads as it did. -/
def snapEntriesSpec : ChangeSpec := { name := "snapEntries", fn := fun _ => fun
  | [d1, d2] => { results := [.lit (.bool true)], args := [d1, d2] }
  | _ => none }
def snapEntriesRow : OpenClaim := { program := "ytlkaffbgekbcfaadoor", sum := "d0eae34790fa3844ae3b0e958000f80eaf42975a36309fc1680400ab74cd371f", func := "minstrel/minstrellaw19.SnapEntries", spec := "snapEntries", recurses := true, named := ["minstrel/frame.quarter"], loops := true, apart := false, laid := [("minstrel/frame.quarter", laid_minstrel_frame_quarter)] }
def SnapEntriesSaid : Prop := snapEntriesRow.holds Tryd.pinned (OpenSpec.ofChange snapEntriesSpec)

/-- ITS FALSE NEIGHBOUR: 'it returns false'. Refute it at one input. -/
def snapEntriesWrong : ChangeSpec := { name := "snapEntries", fn := fun _ => fun
  | [d1, d2] => { results := [.lit (.bool false)], args := [d1, d2] }
  | _ => none }
def SnapEntriesWrongFalsely : Prop := snapEntriesRow.holds Tryd.pinned (OpenSpec.ofChange snapEntriesWrong)

/- THE SECOND FORM. 'bulk': how many values and letters a reading holds, each counted each time it is reached (what is shared counts as often as it is met; a slice's spare places count too). A statement '..UptoSaid' is the law's where the arguments, and the package variables that the reading takes, are together of bulk at most 1048576: NARROWER than '..Said'. Prove '..Said' where nothing that the law and all that it calls make is longer than what came in: it says more and counts as full. Else prove '..UptoSaid'. A law counts once. -/
mutual
def uptoBulk {H : Type} : DataW H → Nat
  | .lit (.string bytes) => bytes.length + 1
  | .lit _ => 1
  | .nil => 1
  | .ptr d => uptoBulk d + 1
  | .slice elems spare => uptoBulkAll elems + uptoBulkAll spare + 1
  | .agg parts => uptoBulkAll parts + 1
  | .iface _ d => uptoBulk d + 1
  | .map entries => uptoBulkEntries entries + 1
  | .held _ => 1
def uptoBulkAll {H : Type} : List (DataW H) → Nat
  | [] => 0
  | d :: r => uptoBulk d + uptoBulkAll r
def uptoBulkEntries {H : Type} : List (Lit × DataW H) → Nat
  | [] => 0
  | x :: r => uptoBulkEntry x + uptoBulkEntries r
def uptoBulkEntry {H : Type} : Lit × DataW H → Nat
  | (.string bytes, d) => bytes.length + uptoBulk d + 1
  | (_, d) => uptoBulk d + 1
 end
def uptoSmall : (H : Type) → List (DataW H) → Bool := fun _ ds => decide (uptoBulkAll ds ≤ 1048576)
def OpenSpec.upto (s : _root_.Go.ChangeSpec) : _root_.Go.OpenSpec := { _root_.Go.OpenSpec.ofChange s with cond := some uptoSmall }

/-- 'minstrellaw19.SnapSaves', WHERE WHAT IT READS IS OF BULK AT MOST 1048576: true; the input reads as it did. -/
def snapSavesUptoRow : OpenClaim := { program := "ytlkaffbgekbcfaadoor", sum := "d0eae34790fa3844ae3b0e958000f80eaf42975a36309fc1680400ab74cd371f", func := "minstrel/minstrellaw19.SnapSaves", spec := "snapSaves", recurses := true, named := ["minstrel/frame.quarter"], loops := true, apart := false, laid := [("minstrel/frame.quarter", laid_minstrel_frame_quarter)], narrowed := true }
def SnapSavesUptoSaid : Prop := snapSavesUptoRow.holds Tryd.pinned (OpenSpec.upto snapSavesSpec)

/-- 'minstrellaw19.SnapLoads', WHERE WHAT IT READS IS OF BULK AT MOST 1048576: true; the input reads as it did. -/
def snapLoadsUptoRow : OpenClaim := { program := "ytlkaffbgekbcfaadoor", sum := "d0eae34790fa3844ae3b0e958000f80eaf42975a36309fc1680400ab74cd371f", func := "minstrel/minstrellaw19.SnapLoads", spec := "snapLoads", recurses := true, named := ["minstrel/frame.quarter"], apart := false, laid := [("minstrel/frame.quarter", laid_minstrel_frame_quarter)], narrowed := true }
def SnapLoadsUptoSaid : Prop := snapLoadsUptoRow.holds Tryd.pinned (OpenSpec.upto snapLoadsSpec)

/-- 'minstrellaw19.SnapWhole', WHERE WHAT IT READS IS OF BULK AT MOST 1048576: true; the input reads as it did. -/
def snapWholeUptoRow : OpenClaim := { program := "ytlkaffbgekbcfaadoor", sum := "d0eae34790fa3844ae3b0e958000f80eaf42975a36309fc1680400ab74cd371f", func := "minstrel/minstrellaw19.SnapWhole", spec := "snapWhole", recurses := true, named := ["minstrel/frame.quarter"], loops := true, apart := false, laid := [("minstrel/frame.quarter", laid_minstrel_frame_quarter)], narrowed := true }
def SnapWholeUptoSaid : Prop := snapWholeUptoRow.holds Tryd.pinned (OpenSpec.upto snapWholeSpec)

/-- 'minstrellaw19.SnapEntries', WHERE WHAT IT READS IS OF BULK AT MOST 1048576: true; the input reads as it did. -/
def snapEntriesUptoRow : OpenClaim := { program := "ytlkaffbgekbcfaadoor", sum := "d0eae34790fa3844ae3b0e958000f80eaf42975a36309fc1680400ab74cd371f", func := "minstrel/minstrellaw19.SnapEntries", spec := "snapEntries", recurses := true, named := ["minstrel/frame.quarter"], loops := true, apart := false, laid := [("minstrel/frame.quarter", laid_minstrel_frame_quarter)], narrowed := true }
def SnapEntriesUptoSaid : Prop := snapEntriesUptoRow.holds Tryd.pinned (OpenSpec.upto snapEntriesSpec)

end Rows
end Go.Proofs.YtlkaffbgekbcfaaDoor
