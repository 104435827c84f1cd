/-
  NARROWER THAN 'FOR EVERY INPUT', by the rows' own cells (each row's printed sentence says how): ProgChecks: loops, laid · ProgStays: loops, laid · ProgOrders: laid · ProgFlat: loops, laid · ProgReads: loops, laid.
  DERIVED. THE GIVEN ROWS OF THIS SEAT. 5 by the template 'for every input the law returns true; each argument reads behind the call as it read before'; 0 by the template 'total and deterministic' (their statements: YtlhnkfheojlghaaDoorTotals.lean).
  GIVEN WITH THE SEED: the statements are not yours to turn. If you find one false, say at which input.
  Laid BY PROGRAM, IN A SANDBOX (cutbox-rows.mjs): the forced cells as the released guide's own fill.sh prints them over the translation 778d202e833de7bd… (all of the seat's roots in one cut). By AI agents, Wed Nov 11 2026. No macro, syntax, notation, axiom, sorry.
-/
import Derived.Test.YtlhnkfheojlghaaDoorChecked
import GoSem.Claim
import GoSem.ClaimJoined
import GoSem.ClaimMapViews
import Derived.JoinedTies
import Derived.KernelRfl
namespace Go.Proofs.YtlhnkfheojlghaaDoor
/- THE CELL 'sum', in the pinned program and in every row, IS THE sha256 OF THE DUMP (.gsa) THAT YtlhnkfheojlghaaDoorProg.lean LOADS. Nothing in Lean hashes anything: it is a label: what it is worth is what the hold of that sum in a sandbox is worth. -/
noncomputable def Tryd.pinned : Pinned := { name := "ytlhnkfheojlghaadoor", sum := "778d202e833de7bdffd0f7343202280e445b805ce9f35cf7389c850ce12490c0", checked := Tryd.checked }
namespace Rows
def none {H : Type} : Left H := { results := [], args := [] }

/- WHAT THE LISTED PACKAGE-LEVEL VARIABLES READ AS WHEN THE CALL BEGINS. Each datum BY PROGRAM (the guide's laid-datum.mjs) off the statement by which the dump's own 'gosem.cut.vars' lays the variable. In a bare row this is a premise. The card (YtlhnkfheojlghaaDoorCards.lean) ties it to the program's text. -/
def laid_math_bits_deBruijn32tab {H : Type} : DataW H := .agg [.lit (.int .u8 0), .lit (.int .u8 1), .lit (.int .u8 28), .lit (.int .u8 2), .lit (.int .u8 29), .lit (.int .u8 14), .lit (.int .u8 24), .lit (.int .u8 3), .lit (.int .u8 30), .lit (.int .u8 22), .lit (.int .u8 20), .lit (.int .u8 15), .lit (.int .u8 25), .lit (.int .u8 17), .lit (.int .u8 4), .lit (.int .u8 8), .lit (.int .u8 31), .lit (.int .u8 27), .lit (.int .u8 13), .lit (.int .u8 23), .lit (.int .u8 21), .lit (.int .u8 19), .lit (.int .u8 16), .lit (.int .u8 7), .lit (.int .u8 26), .lit (.int .u8 12), .lit (.int .u8 18), .lit (.int .u8 6), .lit (.int .u8 11), .lit (.int .u8 5), .lit (.int .u8 10), .lit (.int .u8 9)]
def laid_math_bits_deBruijn64tab {H : Type} : DataW H := .agg [.lit (.int .u8 0), .lit (.int .u8 1), .lit (.int .u8 56), .lit (.int .u8 2), .lit (.int .u8 57), .lit (.int .u8 49), .lit (.int .u8 28), .lit (.int .u8 3), .lit (.int .u8 61), .lit (.int .u8 58), .lit (.int .u8 42), .lit (.int .u8 50), .lit (.int .u8 38), .lit (.int .u8 29), .lit (.int .u8 17), .lit (.int .u8 4), .lit (.int .u8 62), .lit (.int .u8 47), .lit (.int .u8 59), .lit (.int .u8 36), .lit (.int .u8 45), .lit (.int .u8 43), .lit (.int .u8 51), .lit (.int .u8 22), .lit (.int .u8 53), .lit (.int .u8 39), .lit (.int .u8 33), .lit (.int .u8 30), .lit (.int .u8 24), .lit (.int .u8 18), .lit (.int .u8 12), .lit (.int .u8 5), .lit (.int .u8 63), .lit (.int .u8 55), .lit (.int .u8 48), .lit (.int .u8 27), .lit (.int .u8 60), .lit (.int .u8 41), .lit (.int .u8 37), .lit (.int .u8 16), .lit (.int .u8 46), .lit (.int .u8 35), .lit (.int .u8 44), .lit (.int .u8 21), .lit (.int .u8 52), .lit (.int .u8 32), .lit (.int .u8 23), .lit (.int .u8 11), .lit (.int .u8 54), .lit (.int .u8 26), .lit (.int .u8 40), .lit (.int .u8 15), .lit (.int .u8 34), .lit (.int .u8 20), .lit (.int .u8 31), .lit (.int .u8 10), .lit (.int .u8 25), .lit (.int .u8 14), .lit (.int .u8 19), .lit (.int .u8 9), .lit (.int .u8 13), .lit (.int .u8 8), .lit (.int .u8 7), .lit (.int .u8 6)]
def laid_internal_strconv_uint64pow10 {H : Type} : DataW H := .agg [.lit (.int .u64 1), .lit (.int .u64 10), .lit (.int .u64 100), .lit (.int .u64 1000), .lit (.int .u64 10000), .lit (.int .u64 100000), .lit (.int .u64 1000000), .lit (.int .u64 10000000), .lit (.int .u64 100000000), .lit (.int .u64 1000000000), .lit (.int .u64 10000000000), .lit (.int .u64 100000000000), .lit (.int .u64 1000000000000), .lit (.int .u64 10000000000000), .lit (.int .u64 100000000000000), .lit (.int .u64 1000000000000000), .lit (.int .u64 10000000000000000), .lit (.int .u64 100000000000000000), .lit (.int .u64 1000000000000000000), .lit (.int .u64 10000000000000000000)]
def laid_minstrel_prog_orders {H : Type} : DataW H := .agg [.agg [.lit (.string [99, 111, 110, 115, 116]), .lit (.string [82, 75]), .lit (.int .i64 1)], .agg [.lit (.string [109, 111, 118, 101]), .lit (.string [82, 82]), .lit (.int .i64 1)], .agg [.lit (.string [115, 104, 105, 102, 116]), .lit (.string [82, 82]), .lit (.int .i64 0)], .agg [.lit (.string [99, 108, 101, 97, 114]), .lit (.string [82]), .lit (.int .i64 0)], .agg [.lit (.string [110, 101, 119, 98, 111, 120]), .lit (.string [82, 82]), .lit (.int .i64 0)], .agg [.lit (.string [103, 101, 116, 98, 111, 120]), .lit (.string [82, 82]), .lit (.int .i64 1)], .agg [.lit (.string [115, 101, 116, 98, 111, 120]), .lit (.string [82, 82]), .lit (.int .i64 1)], .agg [.lit (.string [103, 101, 116, 117, 112]), .lit (.string [82, 85]), .lit (.int .i64 1)], .agg [.lit (.string [115, 101, 116, 117, 112]), .lit (.string [85, 82]), .lit (.int .i64 1)], .agg [.lit (.string [103, 101, 116, 103, 108, 111, 98, 97, 108]), .lit (.string [82, 75]), .lit (.int .i64 1)], .agg [.lit (.string [115, 101, 116, 103, 108, 111, 98, 97, 108]), .lit (.string [75, 82]), .lit (.int .i64 1)], .agg [.lit (.string [105, 110, 100, 101, 120]), .lit (.string [82, 82, 82]), .lit (.int .i64 1)], .agg [.lit (.string [115, 101, 116, 105, 110, 100, 101, 120]), .lit (.string [82, 82, 82]), .lit (.int .i64 1)], .agg [.lit (.string [109, 97, 107, 101]), .lit (.string [82]), .lit (.int .i64 1)], .agg [.lit (.string [110, 111, 116]), .lit (.string [82, 82]), .lit (.int .i64 1)], .agg [.lit (.string [110, 101, 103]), .lit (.string [82, 82]), .lit (.int .i64 1)], .agg [.lit (.string [108, 101, 110]), .lit (.string [82, 82]), .lit (.int .i64 1)], .agg [.lit (.string [97, 100, 100]), .lit (.string [82, 82, 82]), .lit (.int .i64 1)], .agg [.lit (.string [115, 117, 98]), .lit (.string [82, 82, 82]), .lit (.int .i64 1)], .agg [.lit (.string [109, 117, 108]), .lit (.string [82, 82, 82]), .lit (.int .i64 1)], .agg [.lit (.string [100, 105, 118]), .lit (.string [82, 82, 82]), .lit (.int .i64 1)], .agg [.lit (.string [109, 111, 100]), .lit (.string [82, 82, 82]), .lit (.int .i64 1)], .agg [.lit (.string [99, 111, 110, 99, 97, 116]), .lit (.string [82, 82, 82]), .lit (.int .i64 1)], .agg [.lit (.string [101, 113]), .lit (.string [82, 82, 82]), .lit (.int .i64 1)], .agg [.lit (.string [110, 101]), .lit (.string [82, 82, 82]), .lit (.int .i64 1)], .agg [.lit (.string [108, 116]), .lit (.string [82, 82, 82]), .lit (.int .i64 1)], .agg [.lit (.string [108, 101]), .lit (.string [82, 82, 82]), .lit (.int .i64 1)], .agg [.lit (.string [103, 116]), .lit (.string [82, 82, 82]), .lit (.int .i64 1)], .agg [.lit (.string [103, 101]), .lit (.string [82, 82, 82]), .lit (.int .i64 1)], .agg [.lit (.string [106, 117, 109, 112]), .lit (.string [79]), .lit (.int .i64 0)], .agg [.lit (.string [106, 117, 109, 112, 105, 102]), .lit (.string [82, 79]), .lit (.int .i64 0)], .agg [.lit (.string [106, 117, 109, 112, 110, 111, 116]), .lit (.string [82, 79]), .lit (.int .i64 0)], .agg [.lit (.string [99, 97, 108, 108]), .lit (.string [82, 78]), .lit (.int .i64 1)], .agg [.lit (.string [114, 101, 116, 117, 114, 110]), .lit (.string [82]), .lit (.int .i64 1)], .agg [.lit (.string [101, 110, 100]), .lit (.string []), .lit (.int .i64 0)], .agg [.lit (.string [99, 108, 111, 115, 117, 114, 101]), .lit (.string [82, 80]), .lit (.int .i64 1)], .agg [.lit (.string [102, 111, 114, 99, 104, 101, 99, 107]), .lit (.string [82, 79]), .lit (.int .i64 1)], .agg [.lit (.string [102, 111, 114, 115, 116, 101, 112]), .lit (.string [82, 79]), .lit (.int .i64 1)]]

/-- 'minstrellaw13.ProgChecks': WHATEVER THE INPUT: true; the input reads as it did. -/
def progChecksSpec : ChangeSpec := { name := "progChecks", fn := fun _ => fun
  | [d] => { results := [.lit (.bool true)], args := [d] }
  | _ => none }
def progChecksRow : OpenClaim := { program := "ytlhnkfheojlghaadoor", sum := "778d202e833de7bdffd0f7343202280e445b805ce9f35cf7389c850ce12490c0", func := "minstrel/minstrellaw13.ProgChecks", spec := "progChecks", inPlace := ["math.Float64frombits", "internal/abi.NoEscape"], unfollowed := true, recurses := true, named := ["minstrel/prog.orders", "internal/strconv.uint64pow10", "math/bits.deBruijn32tab", "math/bits.deBruijn64tab"], loops := true, apart := false, laid := [("math/bits.deBruijn32tab", laid_math_bits_deBruijn32tab), ("math/bits.deBruijn64tab", laid_math_bits_deBruijn64tab), ("internal/strconv.uint64pow10", laid_internal_strconv_uint64pow10), ("minstrel/prog.orders", laid_minstrel_prog_orders)] }
def ProgChecksSaid : Prop := progChecksRow.holds Tryd.pinned (OpenSpec.ofChange progChecksSpec)

/-- ITS FALSE NEIGHBOUR: 'it returns false'. Refute it at one input. -/
def progChecksWrong : ChangeSpec := { name := "progChecks", fn := fun _ => fun
  | [d] => { results := [.lit (.bool false)], args := [d] }
  | _ => none }
def ProgChecksWrongFalsely : Prop := progChecksRow.holds Tryd.pinned (OpenSpec.ofChange progChecksWrong)

/-- 'minstrellaw13.ProgStays': WHATEVER THE INPUT: true; the input reads as it did. -/
def progStaysSpec : ChangeSpec := { name := "progStays", fn := fun _ => fun
  | [d] => { results := [.lit (.bool true)], args := [d] }
  | _ => none }
def progStaysRow : OpenClaim := { program := "ytlhnkfheojlghaadoor", sum := "778d202e833de7bdffd0f7343202280e445b805ce9f35cf7389c850ce12490c0", func := "minstrel/minstrellaw13.ProgStays", spec := "progStays", inPlace := ["math.Float64frombits", "internal/abi.NoEscape"], unfollowed := true, recurses := true, named := ["minstrel/prog.orders", "internal/strconv.uint64pow10", "math/bits.deBruijn32tab", "math/bits.deBruijn64tab"], loops := true, apart := false, laid := [("math/bits.deBruijn32tab", laid_math_bits_deBruijn32tab), ("math/bits.deBruijn64tab", laid_math_bits_deBruijn64tab), ("internal/strconv.uint64pow10", laid_internal_strconv_uint64pow10), ("minstrel/prog.orders", laid_minstrel_prog_orders)] }
def ProgStaysSaid : Prop := progStaysRow.holds Tryd.pinned (OpenSpec.ofChange progStaysSpec)

/-- ITS FALSE NEIGHBOUR: 'it returns false'. Refute it at one input. -/
def progStaysWrong : ChangeSpec := { name := "progStays", fn := fun _ => fun
  | [d] => { results := [.lit (.bool false)], args := [d] }
  | _ => none }
def ProgStaysWrongFalsely : Prop := progStaysRow.holds Tryd.pinned (OpenSpec.ofChange progStaysWrong)

/-- 'minstrellaw13.ProgOrders': WHATEVER THE INPUT: true; the input reads as it did. -/
def progOrdersSpec : ChangeSpec := { name := "progOrders", fn := fun _ => fun
  | [d] => { results := [.lit (.bool true)], args := [d] }
  | _ => none }
def progOrdersRow : OpenClaim := { program := "ytlhnkfheojlghaadoor", sum := "778d202e833de7bdffd0f7343202280e445b805ce9f35cf7389c850ce12490c0", func := "minstrel/minstrellaw13.ProgOrders", spec := "progOrders", inPlace := ["math.Float64frombits", "internal/abi.NoEscape"], unfollowed := true, recurses := true, named := ["minstrel/prog.orders", "internal/strconv.uint64pow10", "math/bits.deBruijn32tab", "math/bits.deBruijn64tab"], apart := false, laid := [("math/bits.deBruijn32tab", laid_math_bits_deBruijn32tab), ("math/bits.deBruijn64tab", laid_math_bits_deBruijn64tab), ("internal/strconv.uint64pow10", laid_internal_strconv_uint64pow10), ("minstrel/prog.orders", laid_minstrel_prog_orders)] }
def ProgOrdersSaid : Prop := progOrdersRow.holds Tryd.pinned (OpenSpec.ofChange progOrdersSpec)

/-- ITS FALSE NEIGHBOUR: 'it returns false'. Refute it at one input. -/
def progOrdersWrong : ChangeSpec := { name := "progOrders", fn := fun _ => fun
  | [d] => { results := [.lit (.bool false)], args := [d] }
  | _ => none }
def ProgOrdersWrongFalsely : Prop := progOrdersRow.holds Tryd.pinned (OpenSpec.ofChange progOrdersWrong)

/-- 'minstrellaw13.ProgFlat': WHATEVER THE INPUT: true; the input reads as it did. -/
def progFlatSpec : ChangeSpec := { name := "progFlat", fn := fun _ => fun
  | [d] => { results := [.lit (.bool true)], args := [d] }
  | _ => none }
def progFlatRow : OpenClaim := { program := "ytlhnkfheojlghaadoor", sum := "778d202e833de7bdffd0f7343202280e445b805ce9f35cf7389c850ce12490c0", func := "minstrel/minstrellaw13.ProgFlat", spec := "progFlat", inPlace := ["math.Float64frombits", "internal/abi.NoEscape"], unfollowed := true, recurses := true, named := ["minstrel/prog.orders", "internal/strconv.uint64pow10", "math/bits.deBruijn32tab", "math/bits.deBruijn64tab"], loops := true, apart := false, laid := [("math/bits.deBruijn32tab", laid_math_bits_deBruijn32tab), ("math/bits.deBruijn64tab", laid_math_bits_deBruijn64tab), ("internal/strconv.uint64pow10", laid_internal_strconv_uint64pow10), ("minstrel/prog.orders", laid_minstrel_prog_orders)] }
def ProgFlatSaid : Prop := progFlatRow.holds Tryd.pinned (OpenSpec.ofChange progFlatSpec)

/-- ITS FALSE NEIGHBOUR: 'it returns false'. Refute it at one input. -/
def progFlatWrong : ChangeSpec := { name := "progFlat", fn := fun _ => fun
  | [d] => { results := [.lit (.bool false)], args := [d] }
  | _ => none }
def ProgFlatWrongFalsely : Prop := progFlatRow.holds Tryd.pinned (OpenSpec.ofChange progFlatWrong)

/-- 'minstrellaw13.ProgReads': WHATEVER THE INPUT: true; the input reads as it did. -/
def progReadsSpec : ChangeSpec := { name := "progReads", fn := fun _ => fun
  | [d] => { results := [.lit (.bool true)], args := [d] }
  | _ => none }
def progReadsRow : OpenClaim := { program := "ytlhnkfheojlghaadoor", sum := "778d202e833de7bdffd0f7343202280e445b805ce9f35cf7389c850ce12490c0", func := "minstrel/minstrellaw13.ProgReads", spec := "progReads", inPlace := ["math.Float64frombits", "internal/abi.NoEscape"], unfollowed := true, recurses := true, named := ["minstrel/prog.orders", "internal/strconv.uint64pow10", "math/bits.deBruijn32tab", "math/bits.deBruijn64tab"], loops := true, apart := false, laid := [("math/bits.deBruijn32tab", laid_math_bits_deBruijn32tab), ("math/bits.deBruijn64tab", laid_math_bits_deBruijn64tab), ("internal/strconv.uint64pow10", laid_internal_strconv_uint64pow10), ("minstrel/prog.orders", laid_minstrel_prog_orders)] }
def ProgReadsSaid : Prop := progReadsRow.holds Tryd.pinned (OpenSpec.ofChange progReadsSpec)

/-- ITS FALSE NEIGHBOUR: 'it returns false'. Refute it at one input. -/
def progReadsWrong : ChangeSpec := { name := "progReads", fn := fun _ => fun
  | [d] => { results := [.lit (.bool false)], args := [d] }
  | _ => none }
def ProgReadsWrongFalsely : Prop := progReadsRow.holds Tryd.pinned (OpenSpec.ofChange progReadsWrong)

/- THE SECOND FORM. 'bulk': how many values and letters a reading holds, each counted each time it is reached (what is shared counts as often as it is met; a slice's spare places count too). A statement '..UptoSaid' is the law's where the arguments, and the package variables that the reading takes, are together of bulk at most 1048576: NARROWER than '..Said'. Prove '..Said' where nothing that the law and all that it calls make is longer than what came in: it says more and counts as full. Else prove '..UptoSaid'. A law counts once. -/
mutual
def uptoBulk {H : Type} : DataW H → Nat
  | .lit (.string bytes) => bytes.length + 1
  | .lit _ => 1
  | .nil => 1
  | .ptr d => uptoBulk d + 1
  | .slice elems spare => uptoBulkAll elems + uptoBulkAll spare + 1
  | .agg parts => uptoBulkAll parts + 1
  | .iface _ d => uptoBulk d + 1
  | .map entries => uptoBulkEntries entries + 1
  | .held _ => 1
def uptoBulkAll {H : Type} : List (DataW H) → Nat
  | [] => 0
  | d :: r => uptoBulk d + uptoBulkAll r
def uptoBulkEntries {H : Type} : List (Lit × DataW H) → Nat
  | [] => 0
  | x :: r => uptoBulkEntry x + uptoBulkEntries r
def uptoBulkEntry {H : Type} : Lit × DataW H → Nat
  | (.string bytes, d) => bytes.length + uptoBulk d + 1
  | (_, d) => uptoBulk d + 1
 end
def uptoSmall : (H : Type) → List (DataW H) → Bool := fun _ ds => decide (uptoBulkAll ds ≤ 1048576)
def OpenSpec.upto (s : _root_.Go.ChangeSpec) : _root_.Go.OpenSpec := { _root_.Go.OpenSpec.ofChange s with cond := some uptoSmall }

/-- 'minstrellaw13.ProgChecks', WHERE WHAT IT READS IS OF BULK AT MOST 1048576: true; the input reads as it did. -/
def progChecksUptoRow : OpenClaim := { program := "ytlhnkfheojlghaadoor", sum := "778d202e833de7bdffd0f7343202280e445b805ce9f35cf7389c850ce12490c0", func := "minstrel/minstrellaw13.ProgChecks", spec := "progChecks", inPlace := ["math.Float64frombits", "internal/abi.NoEscape"], unfollowed := true, recurses := true, named := ["minstrel/prog.orders", "internal/strconv.uint64pow10", "math/bits.deBruijn32tab", "math/bits.deBruijn64tab"], loops := true, apart := false, laid := [("math/bits.deBruijn32tab", laid_math_bits_deBruijn32tab), ("math/bits.deBruijn64tab", laid_math_bits_deBruijn64tab), ("internal/strconv.uint64pow10", laid_internal_strconv_uint64pow10), ("minstrel/prog.orders", laid_minstrel_prog_orders)], narrowed := true }
def ProgChecksUptoSaid : Prop := progChecksUptoRow.holds Tryd.pinned (OpenSpec.upto progChecksSpec)

/-- 'minstrellaw13.ProgStays', WHERE WHAT IT READS IS OF BULK AT MOST 1048576: true; the input reads as it did. -/
def progStaysUptoRow : OpenClaim := { program := "ytlhnkfheojlghaadoor", sum := "778d202e833de7bdffd0f7343202280e445b805ce9f35cf7389c850ce12490c0", func := "minstrel/minstrellaw13.ProgStays", spec := "progStays", inPlace := ["math.Float64frombits", "internal/abi.NoEscape"], unfollowed := true, recurses := true, named := ["minstrel/prog.orders", "internal/strconv.uint64pow10", "math/bits.deBruijn32tab", "math/bits.deBruijn64tab"], loops := true, apart := false, laid := [("math/bits.deBruijn32tab", laid_math_bits_deBruijn32tab), ("math/bits.deBruijn64tab", laid_math_bits_deBruijn64tab), ("internal/strconv.uint64pow10", laid_internal_strconv_uint64pow10), ("minstrel/prog.orders", laid_minstrel_prog_orders)], narrowed := true }
def ProgStaysUptoSaid : Prop := progStaysUptoRow.holds Tryd.pinned (OpenSpec.upto progStaysSpec)

/-- 'minstrellaw13.ProgOrders', WHERE WHAT IT READS IS OF BULK AT MOST 1048576: true; the input reads as it did. -/
def progOrdersUptoRow : OpenClaim := { program := "ytlhnkfheojlghaadoor", sum := "778d202e833de7bdffd0f7343202280e445b805ce9f35cf7389c850ce12490c0", func := "minstrel/minstrellaw13.ProgOrders", spec := "progOrders", inPlace := ["math.Float64frombits", "internal/abi.NoEscape"], unfollowed := true, recurses := true, named := ["minstrel/prog.orders", "internal/strconv.uint64pow10", "math/bits.deBruijn32tab", "math/bits.deBruijn64tab"], apart := false, laid := [("math/bits.deBruijn32tab", laid_math_bits_deBruijn32tab), ("math/bits.deBruijn64tab", laid_math_bits_deBruijn64tab), ("internal/strconv.uint64pow10", laid_internal_strconv_uint64pow10), ("minstrel/prog.orders", laid_minstrel_prog_orders)], narrowed := true }
def ProgOrdersUptoSaid : Prop := progOrdersUptoRow.holds Tryd.pinned (OpenSpec.upto progOrdersSpec)

/-- 'minstrellaw13.ProgFlat', WHERE WHAT IT READS IS OF BULK AT MOST 1048576: true; the input reads as it did. -/
def progFlatUptoRow : OpenClaim := { program := "ytlhnkfheojlghaadoor", sum := "778d202e833de7bdffd0f7343202280e445b805ce9f35cf7389c850ce12490c0", func := "minstrel/minstrellaw13.ProgFlat", spec := "progFlat", inPlace := ["math.Float64frombits", "internal/abi.NoEscape"], unfollowed := true, recurses := true, named := ["minstrel/prog.orders", "internal/strconv.uint64pow10", "math/bits.deBruijn32tab", "math/bits.deBruijn64tab"], loops := true, apart := false, laid := [("math/bits.deBruijn32tab", laid_math_bits_deBruijn32tab), ("math/bits.deBruijn64tab", laid_math_bits_deBruijn64tab), ("internal/strconv.uint64pow10", laid_internal_strconv_uint64pow10), ("minstrel/prog.orders", laid_minstrel_prog_orders)], narrowed := true }
def ProgFlatUptoSaid : Prop := progFlatUptoRow.holds Tryd.pinned (OpenSpec.upto progFlatSpec)

/-- 'minstrellaw13.ProgReads', WHERE WHAT IT READS IS OF BULK AT MOST 1048576: true; the input reads as it did. -/
def progReadsUptoRow : OpenClaim := { program := "ytlhnkfheojlghaadoor", sum := "778d202e833de7bdffd0f7343202280e445b805ce9f35cf7389c850ce12490c0", func := "minstrel/minstrellaw13.ProgReads", spec := "progReads", inPlace := ["math.Float64frombits", "internal/abi.NoEscape"], unfollowed := true, recurses := true, named := ["minstrel/prog.orders", "internal/strconv.uint64pow10", "math/bits.deBruijn32tab", "math/bits.deBruijn64tab"], loops := true, apart := false, laid := [("math/bits.deBruijn32tab", laid_math_bits_deBruijn32tab), ("math/bits.deBruijn64tab", laid_math_bits_deBruijn64tab), ("internal/strconv.uint64pow10", laid_internal_strconv_uint64pow10), ("minstrel/prog.orders", laid_minstrel_prog_orders)], narrowed := true }
def ProgReadsUptoSaid : Prop := progReadsUptoRow.holds Tryd.pinned (OpenSpec.upto progReadsSpec)

end Rows
end Go.Proofs.YtlhnkfheojlghaaDoor
