/- Cuts of slices that are read: what xs[i:j], xs[:j], xs[i:] come to. -/
import Derived.Test.YtjcaieecafggiaaDoorProg
import Derived.Below
import Derived.Deep.Draws
import Derived.Deep.AppendLies
import Derived.Maps.AppendAt
import Derived.OwnWalk
import Derived.Laws.BytesArg
import Derived.Laws.MakeOwn
import Derived.Laws.OwnMore
import Derived.Deep.OwnRows
import Derived.Tactics
import Derived.Lib.ConvBytes
import Derived.Laws.Slices
import Derived.WalkKit
import Derived.KernelRfl
import Derived.RowKit3
import Derived.Deep.LoopGhost
import Derived.Deep.QuietTactic
import Derived.BigQuiet
import Derived.WideLaws
import Derived.Deep.DeepCutAuto
import Derived.Deep.CutBlock
import Derived.Deep.RegionHeld3
import Derived.Laws.Rows
import Derived.Lib.AppendStr
import Derived.ArgAppend
import Derived.Laws.IdiomCopy
import Derived.OrdersHeld
import Derived.Laws.BitsLemmas
import Derived.RowKit
import Derived.Test.YtjcaieecafggiaaDoorWWords
import Derived.Test.YtjcaieecafggiaaDoorWLast
import Derived.Test.YtjcaieecafggiaaDoorWTab
import Derived.Test.YtjcaieecafggiaaDoorWFour
import Derived.Test.YtjcaieecafggiaaDoorWQPut
import Derived.Test.YtjcaieecafggiaaDoorWApart
import Derived.Test.YtjcaieecafggiaaDoorWArr
import Derived.Test.YtjcaieecafggiaaDoorWZeros
import Derived.Test.YtjcaieecafggiaaDoorWFoot
import Derived.Test.YtjcaieecafggiaaDoorWKept
import Derived.Test.YtjcaieecafggiaaDoorWShare
import Derived.Test.YtjcaieecafggiaaDoorWN
import Derived.Test.YtjcaieecafggiaaDoorWFootNe
import Derived.Test.YtjcaieecafggiaaDoorWAt
import Derived.Test.YtjcaieecafggiaaDoorWEqStruct
import Derived.Test.YtjcaieecafggiaaDoorWRepsOne
import Derived.Test.YtjcaieecafggiaaDoorWInv
import Derived.Test.YtjcaieecafggiaaDoorWInvWords
import Derived.Test.YtjcaieecafggiaaDoorWGuard
import Derived.Test.YtjcaieecafggiaaDoorWNEv
import Derived.Test.YtjcaieecafggiaaDoorWMore
namespace Go.Proofs.YtjcaieecafggiaaDoor.Pr
open Go.RowKit Go.Proofs.YtjcaieecafggiaaDoorW.PrintWords Go.Proofs.YtjcaieecafggiaaDoorW.PrintLast Go.Proofs.YtjcaieecafggiaaDoorW.PrintMore
set_option linter.unusedVariables false
set_option linter.unusedSimpArgs false
section
variable {P : Program} {α : Type} {d : Kd α} (t e : TypeId) {i : TypeInfo} (ht : P.underlying t = some (.slice e)) (hi : P.info? e = some i) (hsz : i.size = d.sz) (A : Option Addr) (c : Nat) (xs : List α) (hc : xs.length ≤ c)
include ht hi hsz hc
theorem cut_lh (lo hi' : Int) (h0 : 0 ≤ lo) (h1 : lo ≤ hi') (h2 : hi' ≤ xs.length) : ∃ (A' : Option Addr) (c' : Nat) (y : List α), Aside0 (y = (xs.take hi'.toNat).drop lo.toNat) ∧
    (∀ W : World, (Instr.slice t (.slice A xs.length c) (some (.int .i64 lo)) (some (.int .i64 hi')) none).run P W = .ok (.slice A' y.length c') W) ∧ y.length ≤ c' ∧ ∀ w, d.C w A xs.length xs → d.C w A' y.length y := by
  have hel : P.elem t = e := by simp [Program.elem, ht]
  have hu : P.underlying t = some (.slice (P.elem t)) := by rw [hel]; exact ht
  have hl : ((xs.take hi'.toNat).drop lo.toNat).length = (hi' - lo).toNat := by simp; omega
  refine ⟨if c = lo.toNat then A else A.map (·.add (lo.toNat * d.sz)), c - lo.toNat, _, ⟨rfl⟩, fun W => ?_, by rw [hl]; omega, fun w h => ?_⟩
  · rw [run_slice_lh W t A xs.length c hu .i64 .i64 lo hi' h0 h1 (by omega), hel]
    simp only [sizeOf, typeInfo, hi, hsz, sliced, Result.andThen, hl, Sem.run_bind]
    simp [sizeOf, typeInfo, hi, hsz, sliced, Result.andThen]
    omega
  · have h3 := Kd.C_take h (m := hi'.toNat) (by omega)
    exact Kd.C_drop (c := c) h3 (by simp; omega) (by simp; omega)
theorem cut_h (hi' : Int) (h1 : 0 ≤ hi') (h2 : hi' ≤ xs.length) : ∃ (y : List α), Aside0 (y = xs.take hi'.toNat) ∧
    (∀ W : World, (Instr.slice t (.slice A xs.length c) none (some (.int .i64 hi')) none).run P W = .ok (.slice A y.length c) W) ∧ y.length ≤ c ∧ ∀ w, d.C w A xs.length xs → d.C w A y.length y := by
  have hel : P.elem t = e := by simp [Program.elem, ht]
  have hu : P.underlying t = some (.slice (P.elem t)) := by rw [hel]; exact ht
  have hl : (xs.take hi'.toNat).length = hi'.toNat := by simp; omega
  refine ⟨_, ⟨rfl⟩, fun W => ?_, by rw [hl]; omega, fun w h => Kd.C_take h (by omega)⟩
  rw [run_slice_h W t A xs.length c hu .i64 hi' h1 (by omega), hel]
  simp [sizeOf, typeInfo, hi, hsz, sliced, Result.andThen, hl]
  cases A <;> simp [Addr.add]
theorem cut_l (lo : Int) (h0 : 0 ≤ lo) (h1 : lo ≤ xs.length) : ∃ (A' : Option Addr) (c' : Nat) (y : List α), Aside0 (y = xs.drop lo.toNat) ∧
    (∀ W : World, (Instr.slice t (.slice A xs.length c) (some (.int .i64 lo)) none none).run P W = .ok (.slice A' y.length c') W) ∧ y.length ≤ c' ∧ ∀ w, d.C w A xs.length xs → d.C w A' y.length y := by
  have hel : P.elem t = e := by simp [Program.elem, ht]
  have hu : P.underlying t = some (.slice (P.elem t)) := by rw [hel]; exact ht
  have hl : (xs.drop lo.toNat).length = xs.length - lo.toNat := by simp
  refine ⟨if c = lo.toNat then A else A.map (·.add (lo.toNat * d.sz)), c - lo.toNat, _, ⟨rfl⟩, fun W => ?_, by rw [hl]; omega, fun w h => Kd.C_drop (c := c) h (by omega) hc⟩
  rw [run_slice_l W t A xs.length c hu .i64 lo h0 h1, hel]
  simp [sizeOf, typeInfo, hi, hsz, sliced, Result.andThen]
end
end Go.Proofs.YtjcaieecafggiaaDoor.Pr
