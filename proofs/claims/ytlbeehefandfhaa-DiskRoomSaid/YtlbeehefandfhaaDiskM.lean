/- disk.New: a contract of its call. -/
import Derived.Test.YtlbeehefandfhaaProg
import Derived.Below
import Derived.Deep.Draws
import Derived.Deep.AppendLies
import Derived.Maps.AppendAt
import Derived.OwnWalk
import Derived.Laws.BytesArg
import Derived.Laws.MakeOwn
import Derived.Laws.OwnMore
import Derived.Deep.OwnRows
import Derived.Tactics
import Derived.Lib.ConvBytes
import Derived.Laws.Slices
import Derived.WalkKit
import Derived.KernelRfl
import Derived.RowKit3
import Derived.Deep.LoopGhost
import Derived.Deep.QuietTactic
import Derived.BigQuiet
import Derived.WideLaws
import Derived.Deep.DeepCutAuto
import Derived.Deep.CutBlock
import Derived.Deep.RegionHeld3
import Derived.Laws.Rows
import Derived.Lib.AppendStr
import Derived.ArgAppend
import Derived.Laws.IdiomCopy
import Derived.OrdersHeld
import Derived.Laws.BitsLemmas
import Derived.RowKit
import Derived.Test.YtlbeehefandfhaaWWords
import Derived.Test.YtlbeehefandfhaaWLast
import Derived.Test.YtlbeehefandfhaaWTab
import Derived.Test.YtlbeehefandfhaaWFour
import Derived.Test.YtlbeehefandfhaaWQPut
import Derived.Test.YtlbeehefandfhaaWApart
import Derived.Test.YtlbeehefandfhaaWArr
import Derived.Test.YtlbeehefandfhaaWZeros
import Derived.Test.YtlbeehefandfhaaWFoot
import Derived.Test.YtlbeehefandfhaaWKept
import Derived.Test.YtlbeehefandfhaaWShare
import Derived.Test.YtlbeehefandfhaaWN
import Derived.Test.YtlbeehefandfhaaWFootNe
import Derived.Test.YtlbeehefandfhaaWAt
import Derived.Test.YtlbeehefandfhaaWEqStruct
import Derived.Test.YtlbeehefandfhaaWRepsOne
import Derived.Test.YtlbeehefandfhaaWInv
import Derived.Test.YtlbeehefandfhaaWInvWords
import Derived.Test.YtlbeehefandfhaaWGuard
import Derived.Test.YtlbeehefandfhaaWNEv
import Derived.Test.YtlbeehefandfhaaWMore
import Derived.Test.YtlbeehefandfhaaDiskL
import Derived.Lib.SlBytesConst
namespace Go.Proofs.Ytlbeehefandfhaa.Pr
open Go.RowKit Go.Maps Go.Sort Go.Proofs.YtlbeehefandfhaaW.PrintWords Go.Proofs.YtlbeehefandfhaaW.PrintLast Go.Proofs.YtlbeehefandfhaaW.PrintMore
set_option linter.unusedVariables false
set_option linter.unusedSimpArgs false
/-- What New leaves. -/
structure NewDone (w : World) (size : Int) (w' : World) (s : DiskM) : Prop where
  disk : DiskIs w' w.heap.size s
  good : Good s
  abs : s.abs = ⟨[], size, -1, false⟩
  below : Below w.heap.size w w'
theorem new_disk (w : World) (size : Int) (h0 : 0 ≤ size) (h1 : size ≤ 67108864) :
    NewDone w size ((w.alloc (.map #[] 0)).alloc (.cells #[.map (some w.heap.size), .int .i64 size, .int .i64 0, .int .i64 (-1), .bool false] 58)) ⟨w.heap.size + 1, w.heap.size, [], size, 0, -1, false⟩ := by
  refine ⟨⟨by show w.heap.size ≤ w.heap.size + 1; omega, Nat.le_refl _, ?_, ?_, (fun f hf => by cases hf), List.Pairwise.nil⟩, ⟨⟨h0, h1, h0, (fun f hf => by cases hf), (by show (-1 : Int) ≤ -1; omega), (by show (-1 : Int) ≤ 9223372036854775807; omega), (fun f hf => by cases hf), List.Pairwise.nil⟩, rfl⟩, rfl, ?_⟩
  · have := heap_alloc_new (w.alloc (.map #[] 0)) (.cells #[.map (some w.heap.size), .int .i64 size, .int .i64 0, .int .i64 (-1), .bool false] 58)
    rw [show (w.alloc (.map #[] 0)).heap.size = w.heap.size + 1 by simp] at this
    exact this
  · exact (World.ownsMap_made w Try.prog 9 ptrE).alloc _
  · exact ((Below.refl _ w).alloc (Nat.le_refl _) _).alloc (by simp) _
theorem new_calls (w : World) (size : Int) (h0 : 0 ≤ size) (h1 : size ≤ 67108864) :
    Calls Try.prog 7 #[.int .i64 size] w fun e w' => ∃ s, e = .returned (.tuple #[.pointer (some ⟨s.d, 0, none⟩), .int .i64 0]) ∧ NewDone w size w' s := by
  have hmm := @run_makeMap Try.prog
  have hd1 : ¬ size < 0 := by omega
  have hd2 : ¬ 67108864 < size := by omega
  have HN := Aside0.mk (new_disk w size h0 h1)
  go_enter Try.func7, Try.ntmps7
  go_wp2
  go_ret2
  exact ⟨_, rfl, HN.out⟩
theorem new_refused (w : World) (size : Int) (h : size < 0 ∨ 67108864 < size) :
    Calls Try.prog 7 #[.int .i64 size] w fun e w' => e = .returned (.tuple #[.pointer none, .int .i64 1]) ∧ w = w' := by
  by_cases hd1 : size < 0
  · clear h
    go_enter Try.func7, Try.ntmps7
    go_wp2
    go_ret2
    exact ⟨rfl, rfl⟩
  · have hd2 : 67108864 < size := by omega
    clear h
    go_enter Try.func7, Try.ntmps7
    go_wp2
    go_ret2
    exact ⟨rfl, rfl⟩
end Go.Proofs.Ytlbeehefandfhaa.Pr
