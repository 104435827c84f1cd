-- Written by a program of this claim's session, out of the translation.
import Derived.Test.YthjbdkgbibidkaaProg
import Derived.Below
import Derived.Deep.Draws
import Derived.Deep.AppendLies
import Derived.Maps.AppendAt
import Derived.OwnWalk
import Derived.Laws.BytesArg
import Derived.Laws.MakeOwn
import Derived.Laws.OwnMore
import Derived.Deep.OwnRows
import Derived.Tactics
import Derived.Lib.ConvBytes
import Derived.Laws.Slices
import Derived.WalkKit
import Derived.KernelRfl
import Derived.RowKit3
import Derived.Deep.LoopGhost
import Derived.Deep.QuietTactic
import Derived.BigQuiet
import Derived.WideLaws
import Derived.Deep.DeepCutAuto
import Derived.Deep.CutBlock
import Derived.Deep.RegionHeld3
import Derived.Laws.Rows
import Derived.Lib.AppendStr
import Derived.ArgAppend
import Derived.Laws.IdiomCopy
import Derived.OrdersHeld
import Derived.Laws.BitsLemmas
import Derived.RowKit
import Derived.Test.YthjbdkgbibidkaaWWords
import Derived.Test.YthjbdkgbibidkaaWLast
import Derived.Test.YthjbdkgbibidkaaWTab
import Derived.Test.YthjbdkgbibidkaaWFour
import Derived.Test.YthjbdkgbibidkaaWQPut
import Derived.Test.YthjbdkgbibidkaaWApart
import Derived.Test.YthjbdkgbibidkaaWArr
import Derived.Test.YthjbdkgbibidkaaWZeros
import Derived.Test.YthjbdkgbibidkaaWFoot
import Derived.Test.YthjbdkgbibidkaaWKept
import Derived.Test.YthjbdkgbibidkaaWShare
import Derived.Test.YthjbdkgbibidkaaWN
import Derived.Test.YthjbdkgbibidkaaWFootNe
import Derived.Test.YthjbdkgbibidkaaWAt
import Derived.Test.YthjbdkgbibidkaaWEqStruct
import Derived.Test.YthjbdkgbibidkaaWRepsOne
import Derived.Test.YthjbdkgbibidkaaWInv
import Derived.Test.YthjbdkgbibidkaaWInvWords
import Derived.Test.YthjbdkgbibidkaaWGuard
import Derived.Test.YthjbdkgbibidkaaWNEv
import Derived.Test.YthjbdkgbibidkaaWMore
import Derived.Test.YthjbdkgbibidkaaPr2
import Derived.Test.YthjbdkgbibidkaaRepeat
namespace Go.Proofs.Ythjbdkgbibidkaa.Ps
open Go.RowKit Go.Proofs.YthjbdkgbibidkaaW.PrintWords Go.Proofs.YthjbdkgbibidkaaW.PrintLast Go.Proofs.YthjbdkgbibidkaaW.PrintMore Go.Proofs.Ythjbdkgbibidkaa.Pr
attribute [local go_sem] max2_int min2_int max_two min_two max_three min_three max_four min_four   -- for this text's walks alone
set_option linter.unusedVariables false
set_option linter.unusedSimpArgs false



def errW : Option Int → Value
  | none => .nilIface
  | some c => .iface 0 (.int .i64 c)
theorem errW_none : errW none = .nilIface := rfl
theorem errW_some (c : Int) : errW (some c) = .iface 0 (.int .i64 c) := rfl

-- the values' own types

end Go.Proofs.Ythjbdkgbibidkaa.Ps
