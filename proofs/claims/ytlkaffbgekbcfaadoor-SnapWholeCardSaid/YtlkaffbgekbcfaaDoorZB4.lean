/- A part of the proof of the law that RowSnapWhole shows: lemmas, and contracts of the calls that it reaches. -/
import Derived.Test.YtlkaffbgekbcfaaDoorProg
import Derived.Below
import Derived.Deep.Draws
import Derived.Deep.AppendLies
import Derived.Maps.AppendAt
import Derived.OwnWalk
import Derived.Laws.BytesArg
import Derived.Laws.MakeOwn
import Derived.Laws.OwnMore
import Derived.Deep.OwnRows
import Derived.Tactics
import Derived.Lib.ConvBytes
import Derived.Laws.Slices
import Derived.WalkKit
import Derived.KernelRfl
import Derived.RowKit3
import Derived.Deep.LoopGhost
import Derived.Deep.QuietTactic
import Derived.BigQuiet
import Derived.WideLaws
import Derived.Deep.DeepCutAuto
import Derived.Deep.CutBlock
import Derived.Deep.RegionHeld3
import Derived.Laws.Rows
import Derived.Lib.AppendStr
import Derived.ArgAppend
import Derived.Laws.IdiomCopy
import Derived.OrdersHeld
import Derived.Laws.BitsLemmas
import Derived.RowKit
import Derived.Test.YtlkaffbgekbcfaaDoorZB0
import Derived.Test.YtlkaffbgekbcfaaDoorZB1
import Derived.Test.YtlkaffbgekbcfaaDoorZB3
import Derived.Laws.BitsAllLaws
import Derived.Deep.RegionWith
import Derived.Test.YtlkaffbgekbcfaaDoorZB2
section
namespace Go.Proofs.YtlkaffbgekbcfaaDoor.Pr
open Go.RowKit Go.Proofs.YtlkaffbgekbcfaaDoorW.PrintWords Go.Proofs.YtlkaffbgekbcfaaDoorW.PrintLast Go.Proofs.YtlkaffbgekbcfaaDoorW.PrintMore
attribute [local go_sem] max2_int min2_int max_two min_two max_three min_three max_four min_four
set_option linter.unusedVariables false
set_option linter.unusedSimpArgs false
mutual
def minstrelref07_put.j0 : Nat → List Int → Int → Bool → Int → Int → ByteArray → List (S26) → Option (List Int × Int)
 | 0, _, _, _, _, _, _, _ => none
 | k + 1, x0, x2, x18, x272000, x272001, x272002, x272003 => if x18 = true then (some (([] : List Int), 1)) else (if x272000 = 2 then (minstrelref07_put.j1 k x0 x2 (decide (x2 ≥ 64)) x272000 x272001 x272002 x272003) else (minstrelref07_put.j1 k x0 x2 false x272000 x272001 x272002 x272003))
def minstrelref07_put.j1 : Nat → List Int → Int → Bool → Int → Int → ByteArray → List (S26) → Option (List Int × Int)
 | 0, _, _, _, _, _, _, _ => none
 | k + 1, x0, x2, x25, x272000, x272001, x272002, x272003 => if x25 = true then (some (([] : List Int), 2)) else (if x0.length < 140737488355328 then ((some (x0 ++ [(x272000) % 256] : List Int)).bind fun y272 => (if x272000 = 0 then ((minstrelref07_bytes.f k x272001 8).bind fun t275 => (if y272.length + t275.length < 140737488355328 then (minstrelref07_put.j2 k (y272 ++ t275) x2 x272000 x272001 x272002 x272003) else (none))) else (minstrelref07_put.j2 k y272 x2 x272000 x272001 x272002 x272003))) else (none))
def minstrelref07_put.j2 : Nat → List Int → Int → Int → Int → ByteArray → List (S26) → Option (List Int × Int)
 | 0, _, _, _, _, _, _ => none
 | k + 1, x0, x2, x272000, x272001, x272002, x272003 => if x272000 = 1 then ((minstrelref07_bytes.f k (IntKind.u64.wrap ((x272002.size : Int))) 4).bind fun t281 => (if x0.length + t281.length < 140737488355328 then ((some (x0 ++ t281 : List Int)).bind fun y284 => (if (wrap64 ((y284.length : Int) + (x272002.size : Int))) > 1048576 then (some (([] : List Int), 2)) else (if y284.length + x272002.size < 140737488355328 then (minstrelref07_put.j3 k (y284 ++ bytesOf x272002) x2 x272000 x272001 x272002 x272003) else (none)))) else (none))) else (minstrelref07_put.j3 k x0 x2 x272000 x272001 x272002 x272003)
def minstrelref07_put.j3 : Nat → List Int → Int → Int → Int → ByteArray → List (S26) → Option (List Int × Int)
 | 0, _, _, _, _, _, _ => none
 | k + 1, x0, x2, x272000, x272001, x272002, x272003 => if x272000 = 2 then ((minstrelref07_bytes.f k (IntKind.u64.wrap ((x272003.length : Int))) 4).bind fun t290 => (if x0.length + t290.length < 140737488355328 then (if (x272003.length : Int) > 1048576 then (some (([] : List Int), 2)) else (minstrelref07_put.j4 k (x0 ++ t290) x2 x272000 x272001 x272002 x272003)) else (none))) else (minstrelref07_put.j4 k x0 x2 x272000 x272001 x272002 x272003)
def minstrelref07_put.j4 : Nat → List Int → Int → Int → Int → ByteArray → List (S26) → Option (List Int × Int)
 | 0, _, _, _, _, _, _ => none
 | k + 1, x0, x2, x272000, x272001, x272002, x272003 => if (x0.length : Int) > 1048576 then (some (([] : List Int), 2)) else (minstrelref07_put.l0 k x0 x2 0 x272000 x272001 x272002 x272003)
def minstrelref07_put.l0 : Nat → List Int → Int → Int → Int → Int → ByteArray → List (S26) → Option (List Int × Int)
 | 0, _, _, _, _, _, _, _ => none
 | k + 1, x0, x2, x8, x272000, x272001, x272002, x272003 => if x272000 = 2 then (minstrelref07_put.j6 k x0 x2 x8 (decide (x8 < (x272003.length : Int))) x272000 x272001 x272002 x272003) else (minstrelref07_put.j6 k x0 x2 x8 false x272000 x272001 x272002 x272003)
def minstrelref07_put.j6 : Nat → List Int → Int → Int → Bool → Int → Int → ByteArray → List (S26) → Option (List Int × Int)
 | 0, _, _, _, _, _, _, _, _ => none
 | k + 1, x0, x2, x8, x87, x272000, x272001, x272002, x272003 => if x87 = true then (if 0 ≤ x8 then (if x8 < (x272003.length : Int) then ((minstrelref07_put.f k x0 ((rd_T26 x272003 x8).f0) ((rd_T26 x272003 x8).f1) ((rd_T26 x272003 x8).f2) ((rd_T26 x272003 x8).f3) (wrap64 (x2 + 1))).bind fun bt297 => (if bt297.2 = 0 then (minstrelref07_put.l0 k bt297.1 x2 (wrap64 (x8 + 1)) x272000 x272001 x272002 x272003) else (some (([] : List Int), bt297.2)))) else (none)) else (none)) else (some (x0, 0))
def minstrelref07_put.f : Nat → List Int → Int → Int → ByteArray → List (S26) → Int → Option (List Int × Int)
 | 0, _, _, _, _, _, _ => none
 | k + 1, l0, a1_0, a1_1, a1_2, l1_3, a2 => if a1_0 < 0 then (minstrelref07_put.j0 k l0 a2 true a1_0 a1_1 a1_2 l1_3) else (minstrelref07_put.j0 k l0 a2 (decide (a1_0 > 2)) a1_0 a1_1 a1_2 l1_3)
end
theorem minstrelref07_put.mono_l : ∀ k, (∀ y0 y1 y2 y3 y4 y5, LeO (minstrelref07_put.f k y0 y1 y2 y3 y4 y5) (minstrelref07_put.f (k + 1) y0 y1 y2 y3 y4 y5)) ∧ (∀ y0 y1 y2 y3 y4 y5 y6, LeO (minstrelref07_put.j0 k y0 y1 y2 y3 y4 y5 y6) (minstrelref07_put.j0 (k + 1) y0 y1 y2 y3 y4 y5 y6)) ∧ (∀ y0 y1 y2 y3 y4 y5 y6, LeO (minstrelref07_put.j1 k y0 y1 y2 y3 y4 y5 y6) (minstrelref07_put.j1 (k + 1) y0 y1 y2 y3 y4 y5 y6)) ∧ (∀ y0 y1 y2 y3 y4 y5, LeO (minstrelref07_put.j2 k y0 y1 y2 y3 y4 y5) (minstrelref07_put.j2 (k + 1) y0 y1 y2 y3 y4 y5)) ∧ (∀ y0 y1 y2 y3 y4 y5, LeO (minstrelref07_put.j3 k y0 y1 y2 y3 y4 y5) (minstrelref07_put.j3 (k + 1) y0 y1 y2 y3 y4 y5)) ∧ (∀ y0 y1 y2 y3 y4 y5, LeO (minstrelref07_put.j4 k y0 y1 y2 y3 y4 y5) (minstrelref07_put.j4 (k + 1) y0 y1 y2 y3 y4 y5)) ∧ (∀ y0 y1 y2 y3 y4 y5 y6, LeO (minstrelref07_put.l0 k y0 y1 y2 y3 y4 y5 y6) (minstrelref07_put.l0 (k + 1) y0 y1 y2 y3 y4 y5 y6)) ∧ (∀ y0 y1 y2 y3 y4 y5 y6 y7, LeO (minstrelref07_put.j6 k y0 y1 y2 y3 y4 y5 y6 y7) (minstrelref07_put.j6 (k + 1) y0 y1 y2 y3 y4 y5 y6 y7))
 | 0 => ⟨fun _ _ _ _ _ _ r h => by simp [minstrelref07_put.f] at h, fun _ _ _ _ _ _ _ r h => by simp [minstrelref07_put.j0] at h, fun _ _ _ _ _ _ _ r h => by simp [minstrelref07_put.j1] at h, fun _ _ _ _ _ _ r h => by simp [minstrelref07_put.j2] at h, fun _ _ _ _ _ _ r h => by simp [minstrelref07_put.j3] at h, fun _ _ _ _ _ _ r h => by simp [minstrelref07_put.j4] at h, fun _ _ _ _ _ _ _ r h => by simp [minstrelref07_put.l0] at h, fun _ _ _ _ _ _ _ _ r h => by simp [minstrelref07_put.j6] at h⟩
 | k + 1 => by
  obtain ⟨ih0, ih1, ih2, ih3, ih4, ih5, ih6, ih7⟩ := minstrelref07_put.mono_l k
  refine ⟨?_, ?_, ?_, ?_, ?_, ?_, ?_, ?_⟩
  ·intro y0 y1 y2 y3 y4 y5
   unfold minstrelref07_put.f
   repeat' first
   | (with_reducible exact ih0 _ _ _ _ _ _)
   | (with_reducible exact ih1 _ _ _ _ _ _ _)
   | (with_reducible exact ih2 _ _ _ _ _ _ _)
   | (with_reducible exact ih3 _ _ _ _ _ _)
   | (with_reducible exact ih4 _ _ _ _ _ _)
   | (with_reducible exact ih5 _ _ _ _ _ _)
   | (with_reducible exact ih6 _ _ _ _ _ _ _)
   | (with_reducible exact ih7 _ _ _ _ _ _ _ _)
   | (with_reducible exact minstrelref07_bytes.mono _ _ _)
   | (with_reducible exact LeO.refl _)
   | (with_reducible exact LeO.none _)
   | (with_reducible refine LeO.ite ?_ ?_)
   | (with_reducible refine LeO.bind ?_ (fun _ => ?_))
   | exact ih0 _ _ _ _ _ _
   | exact ih1 _ _ _ _ _ _ _
   | exact ih2 _ _ _ _ _ _ _
   | exact ih3 _ _ _ _ _ _
   | exact ih4 _ _ _ _ _ _
   | exact ih5 _ _ _ _ _ _
   | exact ih6 _ _ _ _ _ _ _
   | exact ih7 _ _ _ _ _ _ _ _
   | exact minstrelref07_bytes.mono _ _ _
   | exact LeO.none _
   | refine LeO.ite ?_ ?_
   | refine LeO.bind ?_ (fun _ => ?_)
  ·intro y0 y1 y2 y3 y4 y5 y6
   unfold minstrelref07_put.j0
   repeat' first
   | (with_reducible exact ih0 _ _ _ _ _ _)
   | (with_reducible exact ih1 _ _ _ _ _ _ _)
   | (with_reducible exact ih2 _ _ _ _ _ _ _)
   | (with_reducible exact ih3 _ _ _ _ _ _)
   | (with_reducible exact ih4 _ _ _ _ _ _)
   | (with_reducible exact ih5 _ _ _ _ _ _)
   | (with_reducible exact ih6 _ _ _ _ _ _ _)
   | (with_reducible exact ih7 _ _ _ _ _ _ _ _)
   | (with_reducible exact minstrelref07_bytes.mono _ _ _)
   | (with_reducible exact LeO.refl _)
   | (with_reducible exact LeO.none _)
   | (with_reducible refine LeO.ite ?_ ?_)
   | (with_reducible refine LeO.bind ?_ (fun _ => ?_))
   | exact ih0 _ _ _ _ _ _
   | exact ih1 _ _ _ _ _ _ _
   | exact ih2 _ _ _ _ _ _ _
   | exact ih3 _ _ _ _ _ _
   | exact ih4 _ _ _ _ _ _
   | exact ih5 _ _ _ _ _ _
   | exact ih6 _ _ _ _ _ _ _
   | exact ih7 _ _ _ _ _ _ _ _
   | exact minstrelref07_bytes.mono _ _ _
   | exact LeO.none _
   | refine LeO.ite ?_ ?_
   | refine LeO.bind ?_ (fun _ => ?_)
  ·intro y0 y1 y2 y3 y4 y5 y6
   unfold minstrelref07_put.j1
   repeat' first
   | (with_reducible exact ih0 _ _ _ _ _ _)
   | (with_reducible exact ih1 _ _ _ _ _ _ _)
   | (with_reducible exact ih2 _ _ _ _ _ _ _)
   | (with_reducible exact ih3 _ _ _ _ _ _)
   | (with_reducible exact ih4 _ _ _ _ _ _)
   | (with_reducible exact ih5 _ _ _ _ _ _)
   | (with_reducible exact ih6 _ _ _ _ _ _ _)
   | (with_reducible exact ih7 _ _ _ _ _ _ _ _)
   | (with_reducible exact minstrelref07_bytes.mono _ _ _)
   | (with_reducible exact LeO.refl _)
   | (with_reducible exact LeO.none _)
   | (with_reducible refine LeO.ite ?_ ?_)
   | (with_reducible refine LeO.bind ?_ (fun _ => ?_))
   | exact ih0 _ _ _ _ _ _
   | exact ih1 _ _ _ _ _ _ _
   | exact ih2 _ _ _ _ _ _ _
   | exact ih3 _ _ _ _ _ _
   | exact ih4 _ _ _ _ _ _
   | exact ih5 _ _ _ _ _ _
   | exact ih6 _ _ _ _ _ _ _
   | exact ih7 _ _ _ _ _ _ _ _
   | exact minstrelref07_bytes.mono _ _ _
   | exact LeO.none _
   | refine LeO.ite ?_ ?_
   | refine LeO.bind ?_ (fun _ => ?_)
  ·intro y0 y1 y2 y3 y4 y5
   unfold minstrelref07_put.j2
   repeat' first
   | (with_reducible exact ih0 _ _ _ _ _ _)
   | (with_reducible exact ih1 _ _ _ _ _ _ _)
   | (with_reducible exact ih2 _ _ _ _ _ _ _)
   | (with_reducible exact ih3 _ _ _ _ _ _)
   | (with_reducible exact ih4 _ _ _ _ _ _)
   | (with_reducible exact ih5 _ _ _ _ _ _)
   | (with_reducible exact ih6 _ _ _ _ _ _ _)
   | (with_reducible exact ih7 _ _ _ _ _ _ _ _)
   | (with_reducible exact minstrelref07_bytes.mono _ _ _)
   | (with_reducible exact LeO.refl _)
   | (with_reducible exact LeO.none _)
   | (with_reducible refine LeO.ite ?_ ?_)
   | (with_reducible refine LeO.bind ?_ (fun _ => ?_))
   | exact ih0 _ _ _ _ _ _
   | exact ih1 _ _ _ _ _ _ _
   | exact ih2 _ _ _ _ _ _ _
   | exact ih3 _ _ _ _ _ _
   | exact ih4 _ _ _ _ _ _
   | exact ih5 _ _ _ _ _ _
   | exact ih6 _ _ _ _ _ _ _
   | exact ih7 _ _ _ _ _ _ _ _
   | exact minstrelref07_bytes.mono _ _ _
   | exact LeO.none _
   | refine LeO.ite ?_ ?_
   | refine LeO.bind ?_ (fun _ => ?_)
  ·intro y0 y1 y2 y3 y4 y5
   unfold minstrelref07_put.j3
   repeat' first
   | (with_reducible exact ih0 _ _ _ _ _ _)
   | (with_reducible exact ih1 _ _ _ _ _ _ _)
   | (with_reducible exact ih2 _ _ _ _ _ _ _)
   | (with_reducible exact ih3 _ _ _ _ _ _)
   | (with_reducible exact ih4 _ _ _ _ _ _)
   | (with_reducible exact ih5 _ _ _ _ _ _)
   | (with_reducible exact ih6 _ _ _ _ _ _ _)
   | (with_reducible exact ih7 _ _ _ _ _ _ _ _)
   | (with_reducible exact minstrelref07_bytes.mono _ _ _)
   | (with_reducible exact LeO.refl _)
   | (with_reducible exact LeO.none _)
   | (with_reducible refine LeO.ite ?_ ?_)
   | (with_reducible refine LeO.bind ?_ (fun _ => ?_))
   | exact ih0 _ _ _ _ _ _
   | exact ih1 _ _ _ _ _ _ _
   | exact ih2 _ _ _ _ _ _ _
   | exact ih3 _ _ _ _ _ _
   | exact ih4 _ _ _ _ _ _
   | exact ih5 _ _ _ _ _ _
   | exact ih6 _ _ _ _ _ _ _
   | exact ih7 _ _ _ _ _ _ _ _
   | exact minstrelref07_bytes.mono _ _ _
   | exact LeO.none _
   | refine LeO.ite ?_ ?_
   | refine LeO.bind ?_ (fun _ => ?_)
  ·intro y0 y1 y2 y3 y4 y5
   unfold minstrelref07_put.j4
   repeat' first
   | (with_reducible exact ih0 _ _ _ _ _ _)
   | (with_reducible exact ih1 _ _ _ _ _ _ _)
   | (with_reducible exact ih2 _ _ _ _ _ _ _)
   | (with_reducible exact ih3 _ _ _ _ _ _)
   | (with_reducible exact ih4 _ _ _ _ _ _)
   | (with_reducible exact ih5 _ _ _ _ _ _)
   | (with_reducible exact ih6 _ _ _ _ _ _ _)
   | (with_reducible exact ih7 _ _ _ _ _ _ _ _)
   | (with_reducible exact minstrelref07_bytes.mono _ _ _)
   | (with_reducible exact LeO.refl _)
   | (with_reducible exact LeO.none _)
   | (with_reducible refine LeO.ite ?_ ?_)
   | (with_reducible refine LeO.bind ?_ (fun _ => ?_))
   | exact ih0 _ _ _ _ _ _
   | exact ih1 _ _ _ _ _ _ _
   | exact ih2 _ _ _ _ _ _ _
   | exact ih3 _ _ _ _ _ _
   | exact ih4 _ _ _ _ _ _
   | exact ih5 _ _ _ _ _ _
   | exact ih6 _ _ _ _ _ _ _
   | exact ih7 _ _ _ _ _ _ _ _
   | exact minstrelref07_bytes.mono _ _ _
   | exact LeO.none _
   | refine LeO.ite ?_ ?_
   | refine LeO.bind ?_ (fun _ => ?_)
  ·intro y0 y1 y2 y3 y4 y5 y6
   unfold minstrelref07_put.l0
   repeat' first
   | (with_reducible exact ih0 _ _ _ _ _ _)
   | (with_reducible exact ih1 _ _ _ _ _ _ _)
   | (with_reducible exact ih2 _ _ _ _ _ _ _)
   | (with_reducible exact ih3 _ _ _ _ _ _)
   | (with_reducible exact ih4 _ _ _ _ _ _)
   | (with_reducible exact ih5 _ _ _ _ _ _)
   | (with_reducible exact ih6 _ _ _ _ _ _ _)
   | (with_reducible exact ih7 _ _ _ _ _ _ _ _)
   | (with_reducible exact minstrelref07_bytes.mono _ _ _)
   | (with_reducible exact LeO.refl _)
   | (with_reducible exact LeO.none _)
   | (with_reducible refine LeO.ite ?_ ?_)
   | (with_reducible refine LeO.bind ?_ (fun _ => ?_))
   | exact ih0 _ _ _ _ _ _
   | exact ih1 _ _ _ _ _ _ _
   | exact ih2 _ _ _ _ _ _ _
   | exact ih3 _ _ _ _ _ _
   | exact ih4 _ _ _ _ _ _
   | exact ih5 _ _ _ _ _ _
   | exact ih6 _ _ _ _ _ _ _
   | exact ih7 _ _ _ _ _ _ _ _
   | exact minstrelref07_bytes.mono _ _ _
   | exact LeO.none _
   | refine LeO.ite ?_ ?_
   | refine LeO.bind ?_ (fun _ => ?_)
  ·intro y0 y1 y2 y3 y4 y5 y6 y7
   unfold minstrelref07_put.j6
   repeat' first
   | (with_reducible exact ih0 _ _ _ _ _ _)
   | (with_reducible exact ih1 _ _ _ _ _ _ _)
   | (with_reducible exact ih2 _ _ _ _ _ _ _)
   | (with_reducible exact ih3 _ _ _ _ _ _)
   | (with_reducible exact ih4 _ _ _ _ _ _)
   | (with_reducible exact ih5 _ _ _ _ _ _)
   | (with_reducible exact ih6 _ _ _ _ _ _ _)
   | (with_reducible exact ih7 _ _ _ _ _ _ _ _)
   | (with_reducible exact minstrelref07_bytes.mono _ _ _)
   | (with_reducible exact LeO.refl _)
   | (with_reducible exact LeO.none _)
   | (with_reducible refine LeO.ite ?_ ?_)
   | (with_reducible refine LeO.bind ?_ (fun _ => ?_))
   | exact ih0 _ _ _ _ _ _
   | exact ih1 _ _ _ _ _ _ _
   | exact ih2 _ _ _ _ _ _ _
   | exact ih3 _ _ _ _ _ _
   | exact ih4 _ _ _ _ _ _
   | exact ih5 _ _ _ _ _ _
   | exact ih6 _ _ _ _ _ _ _
   | exact ih7 _ _ _ _ _ _ _ _
   | exact minstrelref07_bytes.mono _ _ _
   | exact LeO.none _
   | refine LeO.ite ?_ ?_
   | refine LeO.bind ?_ (fun _ => ?_)
theorem minstrelref07_put.mono : ∀ a0 a1 a2 a3 a4 a5 k, LeO (minstrelref07_put.f k a0 a1 a2 a3 a4 a5) (minstrelref07_put.f (k + 1) a0 a1 a2 a3 a4 a5) := by
 intro a0 a1 a2 a3 a4 a5 k
 obtain ⟨ih0, ih1, ih2, ih3, ih4, ih5, ih6, ih7⟩ := minstrelref07_put.mono_l k
 exact ih0 a0 a1 a2 a3 a4 a5
set_option maxHeartbeats 8000000 in
set_option maxRecDepth 100000 in
theorem minstrelref07_put.calls (k : Nat) : ∀ (P0_ : Nat → Prop) (u9000_ : Value) (l0 : List Int) (a1_0 : Int) (a1_1 : Int) (a1_2 : ByteArray) (A1_3 : Option Addr) (c1_3 : Nat) (l1_3 : List (S26)) (a2 : Int) (r1 : List Int) (r2 : Int) (w0 w : World) (hB : Below w0.heap.size w0 w) (ho0 : Kd.R (Kd.int .u8) 5 w w0.heap.size P0_ u9000_ l0) (hr1_3 : Kd.C k26 w0 A1_3 l1_3.length l1_3) (hc1_3 : l1_3.length ≤ c1_3) (h : minstrelref07_put.f k l0 a1_0 a1_1 a1_2 l1_3 a2 = some (r1, r2)),
  Calls Tryd.prog 51 #[u9000_, .agg #[.int .i64 a1_0, .int .u64 a1_1, .string a1_2, .slice A1_3 l1_3.length c1_3], .int .i64 a2] w fun e w' => ∃ v0_ : Value, e = .returned (.tuple #[v0_, .int .i64 r2]) ∧ Kd.R (Kd.int .u8) 5 w' w0.heap.size (fun k_ => (P0_ k_ ∨ w.heap.size ≤ k_)) v0_ r1 ∧ Below w0.heap.size w0 w' ∧ Kept w w' (fun k_ => P0_ k_) := by
 induction k using Nat.strongRecOn with
 | _ k ih =>
 intro P0_ u9000_ l0 a1_0 a1_1 a1_2 A1_3 c1_3 l1_3 a2 r1 r2 w0 w hB ho0 hr1_3 hc1_3 h
 cases k with
 | zero => exact absurd h (by simp [minstrelref07_put.f])
 | succ k =>
 simp only [minstrelref07_put.f] at h
 have hu26 := Tryd.underlying26
 have HO0 := Aside0.mk (show Kd.R (Kd.int .u8) 5 w w0.heap.size (fun k_ => (P0_ k_ ∨ w.heap.size ≤ k_)) u9000_ l0 from Kd.R_mono ho0 (fun k_ hk => (.inl hk)))
 have HR1_3 := Aside0.mk hr1_3
 have HC1_3 := Aside0.mk hc1_3
 clear hr1_3 hc1_3
 have HK := Aside0.mk (Kept.refl w (fun k_ => P0_ k_))
 have HW0 := Aside0.mk hB.size
 have HB := Aside0.mk hB
 clear hB
 have H : (if a1_0 < 0 then (minstrelref07_put.j0 k l0 a2 true a1_0 a1_1 a1_2 l1_3) else (minstrelref07_put.j0 k l0 a2 (decide (a1_0 > 2)) a1_0 a1_1 a1_2 l1_3)) = some (r1, r2) := h
 clear h
 have HC4 := Aside0.mk H
 clear H
 go_enter Tryd.func51, Tryd.ntmps51
 go_upto_region 1 with (first | ((with_reducible refine gate_dst (N := 4) rfl ?_); (try (refine gate_guard (by rfl) ?_; dsimp only)); refine box_event ?hg (N := 4) ?hd (cs := #[.int .i64 a1_0, .int .u64 a1_1, .string a1_2, .slice A1_3 l1_3.length c1_3]) (t := 26) ?hr ?_; (case hd => rfl); (case hg => rfl); (case hr => first | (go_simp; done) | (go_simp; rfl)); intro gb271 hg w5 hbox hb; have n0_ := Aside0.mk (Kd.R_below (pR HO0.out) hb); have n1_ := Aside0.mk (Kept.below (S := (fun k_ => P0_ k_)) (by repeat (first | (with_reducible first | exact HK.out | apply Kept.alloc | apply Kept.drewN | apply Kept.drew) | exact HK.out)) hb); have n2_ := Aside0.mk (below_step pB hb); have n3_ := Aside0.mk (hbox); have n4_ := Aside0.mk ((by rw [hg]; exact (by first | exact HK.out.1 | exact (show Kept w _ (fun k_ => P0_ k_) from by repeat (first | (with_reducible first | exact HK.out | apply Kept.alloc | apply Kept.drewN | apply Kept.drew) | exact HK.out)).1) : w.heap.size ≤ gb271)); have n5_ := Aside0.mk ((by rw [hg]; exact (below_size pB) : w0.heap.size ≤ gb271)); clear HO0; clear HK; clear HB; have HO0 := n0_; have HK := n1_; have HB := n2_; have BK271 := n3_; have GW271 := n4_; have GE271 := n5_; clear n0_ n1_ n2_ n3_ n4_ n5_; clear hb hbox hg))
 (try simp only [Act.put, List.setIfInBounds_toArray, List.set_cons_zero, List.set_cons_succ])
 go_cut [18] (fun v18 wc => ∃ (kq : Nat) (x18_3 : Bool), v18 = .bool x18_3 ∧ Aside0 (minstrelref07_put.j0 kq l0 a2 x18_3 a1_0 a1_1 a1_2 l1_3 = some (r1, r2)) ∧ Aside0 (kq ≤ k) ∧ Aside0 (Kd.R (Kd.int .u8) 5 wc w0.heap.size (fun k_ => (P0_ k_ ∨ w.heap.size ≤ k_)) u9000_ l0) ∧ Aside0 (wc.heap[gb271]? = some (.cells #[.int .i64 a1_0, .int .u64 a1_1, .string a1_2, (.slice A1_3 l1_3.length c1_3)] 26 (0, 0))) ∧ Aside0 (Kept w wc (fun k_ => P0_ k_)) ∧ Aside0 (Below w0.heap.size w0 wc))
 case first =>
  have H := HC4.out
  clear HC4
  by_cases c6 : a1_0 < 0
  ·rw [if_pos c6] at H
   have c6b0 : decide (a1_0 < 0) = true := decide_eq_true c6
   clear c6
   (first | rw [c6b0] | (simp only [i64_w, i32_w]; rw [c6b0]) | rw [c6b1] | (simp only [i64_w, i32_w]; rw [c6b1]) | skip)
   have H' := Aside0.mk H
   clear H
   obtain ⟨hcz7_0, hcz7_1, hcz7_2, hcz7_3, hfz7_0, hfz7_1, hfz7_2, hfz7_3⟩ := cf4 BK271.out
   go_wp2
   go_meet
   case rel => exact ⟨_, (true), (by first | rfl | (simp; done) | (simp [*]; done)), H', ⟨by first | omega | exact Nat.le_refl _⟩, ⟨by (with_reducible repeat (first | apply Kd.R_alloc | apply Kd.R_drewN | apply Kd.R_drew)); exact HO0.out⟩, ⟨by (with_reducible repeat (first | refine blk_drewN ?_ _ | refine blk_drew ?_ | refine blk_alloc ?_ _)); exact BK271.out⟩, ⟨by repeat (first | (with_reducible first | exact HK.out | apply Kept.alloc | apply Kept.drewN | apply Kept.drew | refine Kept.setCell ?_ (.inr GW271.out) _) | exact HK.out)⟩, ⟨pB⟩⟩
  ·rw [if_neg c6] at H
   have c6b0 : decide (a1_0 < 0) = false := decide_eq_false c6
   clear c6
   (first | rw [c6b0] | (simp only [i64_w, i32_w]; rw [c6b0]) | rw [c6b1] | (simp only [i64_w, i32_w]; rw [c6b1]) | skip)
   have H' := Aside0.mk H
   clear H
   obtain ⟨hcz8_0, hcz8_1, hcz8_2, hcz8_3, hfz8_0, hfz8_1, hfz8_2, hfz8_3⟩ := cf4 BK271.out
   go_wp2
   go_meet
   case rel => exact ⟨_, (decide (a1_0 > 2)), (by first | rfl | (simp; done) | (simp [*]; done)), H', ⟨by first | omega | exact Nat.le_refl _⟩, ⟨by (with_reducible repeat (first | apply Kd.R_alloc | apply Kd.R_drewN | apply Kd.R_drew)); exact HO0.out⟩, ⟨by (with_reducible repeat (first | refine blk_drewN ?_ _ | refine blk_drew ?_ | refine blk_alloc ?_ _)); exact BK271.out⟩, ⟨by repeat (first | (with_reducible first | exact HK.out | apply Kept.alloc | apply Kept.drewN | apply Kept.drew | refine Kept.setCell ?_ (.inr GW271.out) _) | exact HK.out)⟩, ⟨pB⟩⟩
 case rest =>
  clear HC4
  try clear c1
  try clear p2
  try clear c5
  try clear c6
  try clear c6b0
  try clear c6b1
  try clear hcz7_0 hcz7_1 hcz7_2 hcz7_3 hcz8_0 hcz8_1 hcz8_2 hcz8_3 hfz7_0 hfz7_1 hfz7_2 hfz7_3 hfz8_0 hfz8_1 hfz8_2 hfz8_3
  obtain ⟨kq, x18_3, rfl, HA, HJ3, HO_0, BK271, HK, HB⟩ := hcut
  cases kq with
  | zero => exact absurd HA.out (by simp [minstrelref07_put.j0])
  | succ kj3 =>
   have H := HA.out
   clear HA
   simp only [minstrelref07_put.j0] at H
   by_cases c9 : x18_3 = true
   ·subst c9
    have H1 : (some (([] : List Int), 1)) = some (r1, r2) := by rw [if_pos rfl] at H; exact H
    clear H
    have H := H1
    clear H1
    simp only [Option.some.injEq, Prod.mk.injEq] at H
    obtain ⟨rfl, rfl⟩ := H
    go_wp2
    go_ret2
    exact ⟨_, pE, pZ, pB, by repeat (first | (with_reducible first | exact HK.out | apply Kept.alloc | apply Kept.drewN | apply Kept.drew | refine Kept.setCell ?_ (.inr GW271.out) _) | exact HK.out)⟩
   ·replace c9 := Bool.eq_false_iff.mpr c9
    subst c9
    have H1 : (if a1_0 = 2 then (minstrelref07_put.j1 kj3 l0 a2 (decide (a2 ≥ 64)) a1_0 a1_1 a1_2 l1_3) else (minstrelref07_put.j1 kj3 l0 a2 false a1_0 a1_1 a1_2 l1_3)) = some (r1, r2) := by rw [if_neg (show ¬ (false = true) by decide)] at H; exact H
    clear H
    have H := H1
    clear H1
    have HC10 := Aside0.mk H
    clear H
    go_upto_region 3 with (fail)
    go_cut [25] (fun v25 wc => ∃ (kq : Nat) (x25_9 : Bool), v25 = .bool x25_9 ∧ Aside0 (minstrelref07_put.j1 kq l0 a2 x25_9 a1_0 a1_1 a1_2 l1_3 = some (r1, r2)) ∧ Aside0 (kq ≤ kj3) ∧ Aside0 (Kd.R (Kd.int .u8) 5 wc w0.heap.size (fun k_ => (P0_ k_ ∨ w.heap.size ≤ k_)) u9000_ l0) ∧ Aside0 (wc.heap[gb271]? = some (.cells #[.int .i64 a1_0, .int .u64 a1_1, .string a1_2, (.slice A1_3 l1_3.length c1_3)] 26 (0, 0))) ∧ Aside0 (Kept w wc (fun k_ => P0_ k_)) ∧ Aside0 (Below w0.heap.size w0 wc))
    case first =>
     have H := HC10.out
     clear HC10
     by_cases c11 : a1_0 = 2
     ·rw [if_pos c11] at H
      have c11b0 : (a1_0 == 2) = true := beq_iff_eq.mpr c11
      have c11b1 : (a1_0 != 2) = false := bne_eq_false_iff_eq.mpr c11
      clear c11
      (first | rw [c11b0] | (simp only [i64_w, i32_w]; rw [c11b0]) | rw [c11b1] | (simp only [i64_w, i32_w]; rw [c11b1]) | skip)
      have H' := Aside0.mk H
      clear H
      obtain ⟨hcz12_0, hcz12_1, hcz12_2, hcz12_3, hfz12_0, hfz12_1, hfz12_2, hfz12_3⟩ := cf4 BK271.out
      go_wp2
      go_meet
      case rel => exact ⟨_, (decide (a2 ≥ 64)), (by first | rfl | (simp; done) | (simp [*]; done)), H', ⟨by have := HJ3.out; first | omega | exact Nat.le_refl _⟩, ⟨by (with_reducible repeat (first | apply Kd.R_alloc | apply Kd.R_drewN | apply Kd.R_drew)); exact HO_0.out⟩, ⟨by (with_reducible repeat (first | refine blk_drewN ?_ _ | refine blk_drew ?_ | refine blk_alloc ?_ _)); exact BK271.out⟩, ⟨by repeat (first | (with_reducible first | exact HK.out | apply Kept.alloc | apply Kept.drewN | apply Kept.drew | refine Kept.setCell ?_ (.inr GW271.out) _) | exact HK.out)⟩, ⟨pB⟩⟩
     ·rw [if_neg c11] at H
      have c11b0 : (a1_0 == 2) = false := beq_eq_false_iff_ne.mpr c11
      have c11b1 : (a1_0 != 2) = true := bne_iff_ne.mpr c11
      (first | rw [c11b0] | (simp only [i64_w, i32_w]; rw [c11b0]) | rw [c11b1] | (simp only [i64_w, i32_w]; rw [c11b1]) | skip)
      have H' := Aside0.mk H
      clear H
      obtain ⟨hcz13_0, hcz13_1, hcz13_2, hcz13_3, hfz13_0, hfz13_1, hfz13_2, hfz13_3⟩ := cf4 BK271.out
      go_wp2
      go_meet
      case rel => exact ⟨_, (false), (by first | rfl | (simp; done) | (simp [*]; done)), H', ⟨by have := HJ3.out; first | omega | exact Nat.le_refl _⟩, ⟨by (with_reducible repeat (first | apply Kd.R_alloc | apply Kd.R_drewN | apply Kd.R_drew)); exact HO_0.out⟩, ⟨by (with_reducible repeat (first | refine blk_drewN ?_ _ | refine blk_drew ?_ | refine blk_alloc ?_ _)); exact BK271.out⟩, ⟨by repeat (first | (with_reducible first | exact HK.out | apply Kept.alloc | apply Kept.drewN | apply Kept.drew | refine Kept.setCell ?_ (.inr GW271.out) _) | exact HK.out)⟩, ⟨pB⟩⟩
    case rest =>
     clear HC10
     try clear c1
     try clear p2
     try clear c5
     try clear c6
     try clear c6b0
     try clear c6b1
     try clear c9
     try clear c11
     try clear c11b0
     try clear c11b1
     try clear hcz12_0 hcz12_1 hcz12_2 hcz12_3 hcz13_0 hcz13_1 hcz13_2 hcz13_3 hcz7_0 hcz7_1 hcz7_2 hcz7_3 hcz8_0 hcz8_1 hcz8_2 hcz8_3 hfz12_0 hfz12_1 hfz12_2 hfz12_3 hfz13_0 hfz13_1 hfz13_2 hfz13_3 hfz7_0 hfz7_1 hfz7_2 hfz7_3 hfz8_0 hfz8_1 hfz8_2 hfz8_3
     try clear p2
     obtain ⟨kq, x25_9, rfl, HA, HJ9, HO_0, BK271, HK, HB⟩ := hcut
     cases kq with
     | zero => exact absurd HA.out (by simp [minstrelref07_put.j1])
     | succ kj9 =>
      have H := HA.out
      clear HA
      simp only [minstrelref07_put.j1] at H
      by_cases c14 : x25_9 = true
      ·subst c14
       have H1 : (some (([] : List Int), 2)) = some (r1, r2) := by rw [if_pos rfl] at H; exact H
       clear H
       have H := H1
       clear H1
       simp only [Option.some.injEq, Prod.mk.injEq] at H
       obtain ⟨rfl, rfl⟩ := H
       go_wp2
       go_ret2
       exact ⟨_, pE, pZ, pB, by repeat (first | (with_reducible first | exact HK.out | apply Kept.alloc | apply Kept.drewN | apply Kept.drew | refine Kept.setCell ?_ (.inr GW271.out) _) | exact HK.out)⟩
      ·replace c14 := Bool.eq_false_iff.mpr c14
       subst c14
       have H1 : (if l0.length < 140737488355328 then ((some (l0 ++ [(a1_0) % 256] : List Int)).bind fun y272 => (if a1_0 = 0 then ((minstrelref07_bytes.f kj9 a1_1 8).bind fun t275 => (if y272.length + t275.length < 140737488355328 then (minstrelref07_put.j2 kj9 (y272 ++ t275) a2 a1_0 a1_1 a1_2 l1_3) else (none))) else (minstrelref07_put.j2 kj9 y272 a2 a1_0 a1_1 a1_2 l1_3))) else (none)) = some (r1, r2) := by rw [if_neg (show ¬ (false = true) by decide)] at H; exact H
       clear H
       have H := H1
       clear H1
       by_cases c15 : l0.length < 140737488355328
       ·rw [if_pos c15] at H
        have LMc15 := Aside0.mk c15
        clear c15
        obtain ⟨y272, hy272⟩ : ∃ y_ : List Int, y_ = (l0 ++ [(a1_0) % 256]) := ⟨_, rfl⟩
        replace H : (if a1_0 = 0 then ((minstrelref07_bytes.f kj9 a1_1 8).bind fun t275 => (if y272.length + t275.length < 140737488355328 then (minstrelref07_put.j2 kj9 (y272 ++ t275) a2 a1_0 a1_1 a1_2 l1_3) else (none))) else (minstrelref07_put.j2 kj9 y272 a2 a1_0 a1_1 a1_2 l1_3)) = some (r1, r2) := by first | (rw [hy272]; with_reducible exact H) | (have H2_ := (Option.bind_some _ _).symm.trans H; rw [hy272]; with_reducible exact H2_) | (have H2_ := (Option.bind_some _ _).symm.trans H; with_reducible exact H2_) | with_reducible exact H | (rw [hy272]; exact H) | exact H
        have Ny272 := Aside0.mk hy272
        clear hy272
        have HC16 := Aside0.mk H
        clear H
        obtain ⟨hcz17_0, hcz17_1, hcz17_2, hcz17_3, hfz17_0, hfz17_1, hfz17_2, hfz17_3⟩ := cf4 BK271.out
        go_upto_if 34 with (first | ((with_reducible refine gate_builtin (b := .append) (xs := #[.tmp 26, .tmp 30]) rfl ?_); (try (refine gate_guard (by rfl) ?_; dsimp only)); at_builtin; refine Kd.R_append (Kd.int .u8) (w0 := w0) w0.heap.size rfl (.tmp 26) (.tmp 30) 31 5 (.int .u8 0) 1 rfl Tryd.underlying31 info5 rfl (by decide) (by omega) u9000_ l0 ((a1_0) % 256) [.int .u8 ((a1_0) % 256)] (fun k_ => (P0_ k_ ∨ w.heap.size ≤ k_)) (fun _ => False) rfl rfl ?aP (fun _ hk => hk.elim) ?aF ?aO ?aB ?aS ?aL ?_; (case aP => exact rfl); (case aB => exact pB); (case aF => exact (fun k_ hk => (.inr (Nat.le_trans (by first | exact HK.out.1 | exact (show Kept w _ (fun k_ => P0_ k_) from by repeat (first | (with_reducible first | exact HK.out | apply Kept.alloc | apply Kept.drewN | apply Kept.drew | refine Kept.setCell ?_ (.inr GW271.out) _) | exact HK.out)).1) hk)))); (case aO => exact (pR HO_0.out)); (case aS => exact (below_size pB)); (case aL => have := LMc15.out; omega); intro v273 w18 ho hb hg hat; rw [← Ny272.out] at ho; have n0_ := Aside0.mk (blk_grown (g := gb271) (o := .cells #[.int .i64 a1_0, .int .u64 a1_1, .string a1_2, .slice A1_3 l1_3.length c1_3] 26 (0, 0)) (pK BK271.out) hg (pX HO_0.out BK271.out)); have n1_ := Aside0.mk (hb); have n2_ := Aside0.mk (Kept.of_grown (S := (fun k_ => P0_ k_)) hg (by repeat (first | (with_reducible first | exact HK.out | apply Kept.alloc | apply Kept.drewN | apply Kept.drew | refine Kept.setCell ?_ (.inr GW271.out) _) | exact HK.out)) (fun k_ e_ => (HO_0.out.1 k_ e_))); have n3_ := Aside0.mk (ho); clear BK271; clear HB; clear HK; clear HO_0; have BK271 := n0_; have HB := n1_; have HK := n2_; have HO274 := n3_; clear n0_ n1_ n2_ n3_; clear ho hb hg hat; obtain ⟨hcz19_0, hcz19_1, hcz19_2, hcz19_3, hfz19_0, hfz19_1, hfz19_2, hfz19_3⟩ := cf4 BK271.out))
        (try simp only [Act.put, List.setIfInBounds_toArray, List.set_cons_zero, List.set_cons_succ])
        go_cut [0] (fun v0 wc => ∃ (kq : Nat) (x0_15 : List Int), Aside0 (minstrelref07_put.j2 kq x0_15 a2 a1_0 a1_1 a1_2 l1_3 = some (r1, r2)) ∧ Aside0 (kq ≤ kj9) ∧ Aside0 (Kd.R (Kd.int .u8) 5 wc w0.heap.size (fun k_ => (P0_ k_ ∨ w.heap.size ≤ k_)) v0 x0_15) ∧ Aside0 (wc.heap[gb271]? = some (.cells #[.int .i64 a1_0, .int .u64 a1_1, .string a1_2, (.slice A1_3 l1_3.length c1_3)] 26 (0, 0))) ∧ Aside0 (Kept w wc (fun k_ => P0_ k_)) ∧ Aside0 (Below w0.heap.size w0 wc))
        case first =>
         have H := HC16.out
         clear HC16
         by_cases c20 : a1_0 = 0
         ·rw [if_pos c20] at H
          have c20b0 : (a1_0 == 0) = true := beq_iff_eq.mpr c20
          have c20b1 : (a1_0 != 0) = false := bne_eq_false_iff_eq.mpr c20
          clear c20
          (first | rw [c20b0] | (simp only [i64_w, i32_w]; rw [c20b0]) | rw [c20b1] | (simp only [i64_w, i32_w]; rw [c20b1]) | skip)
          replace H := Option.bind_eq_some_iff.mp H
          obtain ⟨t275, A210, H⟩ := H
          replace H : (if y272.length + t275.length < 140737488355328 then (minstrelref07_put.j2 kj9 (y272 ++ t275) a2 a1_0 a1_1 a1_2 l1_3) else (none)) = some (r1, r2) := H
          have A21 := Aside0.mk A210
          clear A210
          by_cases c22 : y272.length + t275.length < 140737488355328
          ·rw [if_pos c22] at H
           have LMc22 := Aside0.mk c22
           clear c22
           obtain ⟨y278, hy278⟩ : ∃ y_ : List Int, y_ = (y272 ++ t275) := ⟨_, rfl⟩
           replace H : (minstrelref07_put.j2 kj9 y278 a2 a1_0 a1_1 a1_2 l1_3) = some (r1, r2) := by first | (rw [hy278]; with_reducible exact H) | (have H2_ := (Option.bind_some _ _).symm.trans H; rw [hy278]; with_reducible exact H2_) | (have H2_ := (Option.bind_some _ _).symm.trans H; with_reducible exact H2_) | with_reducible exact H | (rw [hy278]; exact H) | exact H
           have Ny278 := Aside0.mk hy278
           clear hy278
           have H' := Aside0.mk H
           clear H
           obtain ⟨hcz23_0, hcz23_1, hcz23_2, hcz23_3, hfz23_0, hfz23_1, hfz23_2, hfz23_3⟩ := cf4 BK271.out
           go_wp2_with (first | ((with_reducible refine gate_callee (f := 61) rfl ?_); refine goesL_ (some 38) rfl rfl Tryd.func61 (by kernel_rfl) rfl #[.int .u64 a1_1, .int .i64 8] rfl pM ?_; (with_reducible refine (minstrelref07_bytes.calls kj9 a1_1 8 t275 _ A21.out).mono ?_); rintro e w24 ⟨v276, rfl, ho0, hb⟩; refine ⟨_, rfl, ?_⟩; have n0_ := Aside0.mk (Kd.R_elder' (pR HO274.out) (Kd.R_base ho0) hb); have n1_ := Aside0.mk (Kd.R_lower (Kd.R_new' (Kd.R_newM (M := fun k_ => (P0_ k_ ∨ w.heap.size ≤ k_)) ho0 (by first | exact HK.out.1 | exact (show Kept w _ (fun k_ => P0_ k_) from by repeat (first | (with_reducible first | exact HK.out | apply Kept.alloc | apply Kept.drewN | apply Kept.drew | refine Kept.setCell ?_ (.inr GW271.out) _) | exact HK.out)).1) (fun k_ h_ => .inr h_)) (Kd.R_lt (pR HO274.out))) (below_size pB)); have n2_ := Aside0.mk (pkb BK271.out hb); have n3_ := Aside0.mk (Kept.below (S := (fun k_ => P0_ k_)) (by repeat (first | (with_reducible first | exact HK.out | apply Kept.alloc | apply Kept.drewN | apply Kept.drew | refine Kept.setCell ?_ (.inr GW271.out) _) | exact HK.out)) hb); have n4_ := Aside0.mk (below_step pB hb); clear HO274; clear BK271; clear HK; clear HB; have HO274 := n0_; have HO277 := n1_; have BK271 := n2_; have HK := n3_; have HB := n4_; clear n0_ n1_ n2_ n3_ n4_; (try clear hb); (try clear hb2); (try clear hk); (try clear hi); (try clear ho0); obtain ⟨Ao26, co26, eo26⟩ := Kd.R_slice HO277.out; subst eo26) | ((with_reducible refine gate_builtin (b := .append) (xs := #[.tmp 35, .tmp 38]) rfl ?_); (try (refine gate_guard (by rfl) ?_; dsimp only)); at_builtin; refine Kd.R_append_rows (Kd.int .u8) (w0 := w0) w0.heap.size rfl (.tmp 35) (.tmp 38) 31 5 (.int .u8 0) 1 rfl Tryd.underlying31 info5 rfl (by decide) (by omega) v273 y272 t275 _ _ _ (fun k_ => (P0_ k_ ∨ w.heap.size ≤ k_) ∧ some k_ ≠ (.slice Ao26 t275.length co26 : Value).ownBlock) (fun _ => False) rfl rfl ?aO ?aR (fun _ _ h => h) (fun _ h => h.elim) ?aF ?aB ?aS ?aL ?_; (case aR => repeat (first | exact (Kd.R_reads' HO277.out).2.2 | (with_reducible refine Kd.C_alloc ?_ _) | (with_reducible refine Kd.C_drewN ?_ _) | (with_reducible refine Kd.C_drew ?_))); (case aB => exact pB); (case aF => exact (fun k_ hk => ⟨(.inr (Nat.le_trans (by first | exact HK.out.1 | exact (show Kept w _ (fun k_ => P0_ k_) from by repeat (first | (with_reducible first | exact HK.out | apply Kept.alloc | apply Kept.drewN | apply Kept.drew | refine Kept.setCell ?_ (.inr GW271.out) _) | exact HK.out)).1) hk)), Kd.fresh' (Kd.R_lt (pR HO277.out)) k_ hk⟩)); (case aO => exact (pR HO274.out)); (case aS => exact (below_size pB)); (case aL => have := LMc22.out; omega); intro v279 w25 ho hb hg hat; rw [← Ny278.out] at ho; have n0_ := Aside0.mk (blk_grown (g := gb271) (o := .cells #[.int .i64 a1_0, .int .u64 a1_1, .string a1_2, .slice A1_3 l1_3.length c1_3] 26 (0, 0)) (pK BK271.out) hg (pX HO274.out BK271.out)); have n1_ := Aside0.mk (Kd.R_after (ok := (fun k_ => (P0_ k_ ∨ w.heap.size ≤ k_))) (by (with_reducible repeat (first | apply Kd.R_alloc | apply Kd.R_drewN | apply Kd.R_drew)); exact Kd.R_mono HO277.out (fun _ hk => ⟨hk.1.1, hk.2⟩)) hg hat); have n2_ := Aside0.mk (hb); have n3_ := Aside0.mk (Kept.of_grown (S := (fun k_ => P0_ k_)) hg (by repeat (first | (with_reducible first | exact HK.out | apply Kept.alloc | apply Kept.drewN | apply Kept.drew | refine Kept.setCell ?_ (.inr GW271.out) _) | exact HK.out)) (fun k_ e_ => (HO274.out.1 k_ e_).1)); have n4_ := Aside0.mk (ho); clear BK271; clear HO277; clear HB; clear HK; clear HO274; have BK271 := n0_; have HO277 := n1_; have HB := n2_; have HK := n3_; have HO280 := n4_; clear n0_ n1_ n2_ n3_ n4_; clear ho hb hg hat))
           go_meet
           case rel => exact ⟨_, (y278), H', ⟨by have := HJ3.out; have := HJ9.out; first | omega | exact Nat.le_refl _⟩, ⟨by (with_reducible repeat (first | apply Kd.R_alloc | apply Kd.R_drewN | apply Kd.R_drew)); exact Kd.R_mono HO280.out (fun _ hk => hk.1)⟩, ⟨by (with_reducible repeat (first | refine blk_drewN ?_ _ | refine blk_drew ?_ | refine blk_alloc ?_ _)); exact BK271.out⟩, ⟨by repeat (first | (with_reducible first | exact HK.out | apply Kept.alloc | apply Kept.drewN | apply Kept.drew | refine Kept.setCell ?_ (.inr GW271.out) _) | exact HK.out)⟩, ⟨pB⟩⟩
          ·rw [if_neg c22] at H
           exact absurd H (by simp)
         ·rw [if_neg c20] at H
          have c20b0 : (a1_0 == 0) = false := beq_eq_false_iff_ne.mpr c20
          have c20b1 : (a1_0 != 0) = true := bne_iff_ne.mpr c20
          (first | rw [c20b0] | (simp only [i64_w, i32_w]; rw [c20b0]) | rw [c20b1] | (simp only [i64_w, i32_w]; rw [c20b1]) | skip)
          have H' := Aside0.mk H
          clear H
          go_wp2
          go_meet
          case rel => exact ⟨_, (y272), H', ⟨by have := HJ3.out; have := HJ9.out; first | omega | exact Nat.le_refl _⟩, ⟨by (with_reducible repeat (first | apply Kd.R_alloc | apply Kd.R_drewN | apply Kd.R_drew)); exact HO274.out⟩, ⟨by (with_reducible repeat (first | refine blk_drewN ?_ _ | refine blk_drew ?_ | refine blk_alloc ?_ _)); exact BK271.out⟩, ⟨by repeat (first | (with_reducible first | exact HK.out | apply Kept.alloc | apply Kept.drewN | apply Kept.drew | refine Kept.setCell ?_ (.inr GW271.out) _) | exact HK.out)⟩, ⟨pB⟩⟩
        case rest =>
         clear HC16
         try clear c1
         try clear c2
         try clear p2
         try clear c5
         try clear c6
         try clear c6b0
         try clear c6b1
         try clear c9
         try clear c11
         try clear c11b0
         try clear c11b1
         try clear c14
         try clear c15
         try clear c20
         try clear c20b0
         try clear c20b1
         try clear c22
         try clear hcz12_0 hcz12_1 hcz12_2 hcz12_3 hcz13_0 hcz13_1 hcz13_2 hcz13_3 hcz17_0 hcz17_1 hcz17_2 hcz17_3 hcz19_0 hcz19_1 hcz19_2 hcz19_3 hcz23_0 hcz23_1 hcz23_2 hcz23_3 hcz7_0 hcz7_1 hcz7_2 hcz7_3 hcz8_0 hcz8_1 hcz8_2 hcz8_3 hfz12_0 hfz12_1 hfz12_2 hfz12_3 hfz13_0 hfz13_1 hfz13_2 hfz13_3 hfz17_0 hfz17_1 hfz17_2 hfz17_3 hfz19_0 hfz19_1 hfz19_2 hfz19_3 hfz23_0 hfz23_1 hfz23_2 hfz23_3 hfz7_0 hfz7_1 hfz7_2 hfz7_3 hfz8_0 hfz8_1 hfz8_2 hfz8_3
         try clear p2
         obtain ⟨kq, x0_15, HA, HJ15, HO_0, BK271, HK, HB⟩ := hcut
         cases kq with
         | zero => exact absurd HA.out (by simp [minstrelref07_put.j2])
         | succ kj15 =>
          have H := HA.out
          clear HA
          simp only [minstrelref07_put.j2] at H
          have HC27 := Aside0.mk H
          clear H
          obtain ⟨hcz28_0, hcz28_1, hcz28_2, hcz28_3, hfz28_0, hfz28_1, hfz28_2, hfz28_3⟩ := cf4 BK271.out
          go_upto_if 42 with (fail)
          go_cut [0] (fun v0 wc => ∃ (kq : Nat) (x0_26 : List Int), Aside0 (minstrelref07_put.j3 kq x0_26 a2 a1_0 a1_1 a1_2 l1_3 = some (r1, r2)) ∧ Aside0 (kq ≤ kj15) ∧ Aside0 (Kd.R (Kd.int .u8) 5 wc w0.heap.size (fun k_ => (P0_ k_ ∨ w.heap.size ≤ k_)) v0 x0_26) ∧ Aside0 (wc.heap[gb271]? = some (.cells #[.int .i64 a1_0, .int .u64 a1_1, .string a1_2, (.slice A1_3 l1_3.length c1_3)] 26 (0, 0))) ∧ Aside0 (Kept w wc (fun k_ => P0_ k_)) ∧ Aside0 (Below w0.heap.size w0 wc))
          case first =>
           have H := HC27.out
           clear HC27
           by_cases c29 : a1_0 = 1
           ·rw [if_pos c29] at H
            have c29b0 : (a1_0 == 1) = true := beq_iff_eq.mpr c29
            have c29b1 : (a1_0 != 1) = false := bne_eq_false_iff_eq.mpr c29
            clear c29
            (first | rw [c29b0] | (simp only [i64_w, i32_w]; rw [c29b0]) | rw [c29b1] | (simp only [i64_w, i32_w]; rw [c29b1]) | skip)
            replace H := Option.bind_eq_some_iff.mp H
            obtain ⟨t281, A300, H⟩ := H
            replace H : (if x0_15.length + t281.length < 140737488355328 then ((some (x0_15 ++ t281 : List Int)).bind fun y284 => (if (wrap64 ((y284.length : Int) + (a1_2.size : Int))) > 1048576 then (some (([] : List Int), 2)) else (if y284.length + a1_2.size < 140737488355328 then (minstrelref07_put.j3 kj15 (y284 ++ bytesOf a1_2) a2 a1_0 a1_1 a1_2 l1_3) else (none)))) else (none)) = some (r1, r2) := H
            have A30 := Aside0.mk A300
            clear A300
            by_cases c31 : x0_15.length + t281.length < 140737488355328
            ·rw [if_pos c31] at H
             have LMc31 := Aside0.mk c31
             clear c31
             obtain ⟨y284, hy284⟩ : ∃ y_ : List Int, y_ = (x0_15 ++ t281) := ⟨_, rfl⟩
             replace H : (if (wrap64 ((y284.length : Int) + (a1_2.size : Int))) > 1048576 then (some (([] : List Int), 2)) else (if y284.length + a1_2.size < 140737488355328 then (minstrelref07_put.j3 kj15 (y284 ++ bytesOf a1_2) a2 a1_0 a1_1 a1_2 l1_3) else (none))) = some (r1, r2) := by first | (rw [hy284]; with_reducible exact H) | (have H2_ := (Option.bind_some _ _).symm.trans H; rw [hy284]; with_reducible exact H2_) | (have H2_ := (Option.bind_some _ _).symm.trans H; with_reducible exact H2_) | with_reducible exact H | (rw [hy284]; exact H) | exact H
             have Ny284 := Aside0.mk hy284
             clear hy284
             by_cases c32 : (wrap64 ((y284.length : Int) + (a1_2.size : Int))) > 1048576
             ·rw [if_pos c32] at H
              have c32b0 : decide (1048576 < (wrap64 ((y284.length : Int) + (a1_2.size : Int)))) = true := decide_eq_true c32
              clear c32
              simp only [Option.some.injEq, Prod.mk.injEq] at H
              obtain ⟨rfl, rfl⟩ := H
              obtain ⟨hcz33_0, hcz33_1, hcz33_2, hcz33_3, hfz33_0, hfz33_1, hfz33_2, hfz33_3⟩ := cf4 BK271.out
              go_wp2_with (first | ((with_reducible refine gate_callee (f := 61) rfl ?_); refine goesL_ (some 48) rfl rfl Tryd.func61 (by kernel_rfl) rfl #[.int .u64 (IntKind.u64.wrap ((a1_2.size : Int))), .int .i64 4] rfl pM ?_; (with_reducible refine (minstrelref07_bytes.calls kj15 (IntKind.u64.wrap ((a1_2.size : Int))) 4 t281 _ A30.out).mono ?_); rintro e w34 ⟨v282, rfl, ho0, hb⟩; refine ⟨_, rfl, ?_⟩; have n0_ := Aside0.mk (Kd.R_elder' (pR HO_0.out) (Kd.R_base ho0) hb); have n1_ := Aside0.mk (Kd.R_lower (Kd.R_new' (Kd.R_newM (M := fun k_ => (P0_ k_ ∨ w.heap.size ≤ k_)) ho0 (by first | exact HK.out.1 | exact (show Kept w _ (fun k_ => P0_ k_) from by repeat (first | (with_reducible first | exact HK.out | apply Kept.alloc | apply Kept.drewN | apply Kept.drew | refine Kept.setCell ?_ (.inr GW271.out) _) | exact HK.out)).1) (fun k_ h_ => .inr h_)) (Kd.R_lt (pR HO_0.out))) (below_size pB)); have n2_ := Aside0.mk (pkb BK271.out hb); have n3_ := Aside0.mk (Kept.below (S := (fun k_ => P0_ k_)) (by repeat (first | (with_reducible first | exact HK.out | apply Kept.alloc | apply Kept.drewN | apply Kept.drew | refine Kept.setCell ?_ (.inr GW271.out) _) | exact HK.out)) hb); have n4_ := Aside0.mk (below_step pB hb); clear HO_0; clear BK271; clear HK; clear HB; have HO_0 := n0_; have HO283 := n1_; have BK271 := n2_; have HK := n3_; have HB := n4_; clear n0_ n1_ n2_ n3_ n4_; (try clear hb); (try clear hb2); (try clear hk); (try clear hi); (try clear ho0); obtain ⟨Ao36, co36, eo36⟩ := Kd.R_slice HO283.out; subst eo36) | ((with_reducible refine gate_builtin (b := .append) (xs := #[.tmp 43, .tmp 48]) rfl ?_); (try (refine gate_guard (by rfl) ?_; dsimp only)); at_builtin; refine Kd.R_append_rows (Kd.int .u8) (w0 := w0) w0.heap.size rfl (.tmp 43) (.tmp 48) 31 5 (.int .u8 0) 1 rfl Tryd.underlying31 info5 rfl (by decide) (by omega) u0 x0_15 t281 _ _ _ (fun k_ => (P0_ k_ ∨ w.heap.size ≤ k_) ∧ some k_ ≠ (.slice Ao36 t281.length co36 : Value).ownBlock) (fun _ => False) rfl rfl ?aO ?aR (fun _ _ h => h) (fun _ h => h.elim) ?aF ?aB ?aS ?aL ?_; (case aR => repeat (first | exact (Kd.R_reads' HO283.out).2.2 | (with_reducible refine Kd.C_alloc ?_ _) | (with_reducible refine Kd.C_drewN ?_ _) | (with_reducible refine Kd.C_drew ?_))); (case aB => exact pB); (case aF => exact (fun k_ hk => ⟨(.inr (Nat.le_trans (by first | exact HK.out.1 | exact (show Kept w _ (fun k_ => P0_ k_) from by repeat (first | (with_reducible first | exact HK.out | apply Kept.alloc | apply Kept.drewN | apply Kept.drew | refine Kept.setCell ?_ (.inr GW271.out) _) | exact HK.out)).1) hk)), Kd.fresh' (Kd.R_lt (pR HO283.out)) k_ hk⟩)); (case aO => exact (pR HO_0.out)); (case aS => exact (below_size pB)); (case aL => have := LMc31.out; omega); intro v285 w35 ho hb hg hat; rw [← Ny284.out] at ho; have n0_ := Aside0.mk (blk_grown (g := gb271) (o := .cells #[.int .i64 a1_0, .int .u64 a1_1, .string a1_2, .slice A1_3 l1_3.length c1_3] 26 (0, 0)) (pK BK271.out) hg (pX HO_0.out BK271.out)); have n1_ := Aside0.mk (Kd.R_after (ok := (fun k_ => (P0_ k_ ∨ w.heap.size ≤ k_))) (by (with_reducible repeat (first | apply Kd.R_alloc | apply Kd.R_drewN | apply Kd.R_drew)); exact Kd.R_mono HO283.out (fun _ hk => ⟨hk.1.1, hk.2⟩)) hg hat); have n2_ := Aside0.mk (hb); have n3_ := Aside0.mk (Kept.of_grown (S := (fun k_ => P0_ k_)) hg (by repeat (first | (with_reducible first | exact HK.out | apply Kept.alloc | apply Kept.drewN | apply Kept.drew | refine Kept.setCell ?_ (.inr GW271.out) _) | exact HK.out)) (fun k_ e_ => (HO_0.out.1 k_ e_).1)); have n4_ := Aside0.mk (ho); clear BK271; clear HO283; clear HB; clear HK; clear HO_0; have BK271 := n0_; have HO283 := n1_; have HB := n2_; have HK := n3_; have HO286 := n4_; clear n0_ n1_ n2_ n3_ n4_; clear ho hb hg hat; obtain ⟨Ao37, co37, eo37⟩ := Kd.R_slice HO286.out; subst eo37; obtain ⟨hcz38_0, hcz38_1, hcz38_2, hcz38_3, hfz38_0, hfz38_1, hfz38_2, hfz38_3⟩ := cf4 BK271.out))
              go_ret2
              exact ⟨_, pE, pZ, pB, by repeat (first | (with_reducible first | exact HK.out | apply Kept.alloc | apply Kept.drewN | apply Kept.drew | refine Kept.setCell ?_ (.inr GW271.out) _) | exact HK.out)⟩
             ·rw [if_neg c32] at H
              have c32b0 : decide (1048576 < (wrap64 ((y284.length : Int) + (a1_2.size : Int)))) = false := decide_eq_false c32
              clear c32
              by_cases c39 : y284.length + a1_2.size < 140737488355328
              ·rw [if_pos c39] at H
               have LMc39 := Aside0.mk c39
               clear c39
               obtain ⟨y287, hy287⟩ : ∃ y_ : List Int, y_ = (y284 ++ bytesOf a1_2) := ⟨_, rfl⟩
               replace H : (minstrelref07_put.j3 kj15 y287 a2 a1_0 a1_1 a1_2 l1_3) = some (r1, r2) := by first | (rw [hy287]; with_reducible exact H) | (have H2_ := (Option.bind_some _ _).symm.trans H; rw [hy287]; with_reducible exact H2_) | (have H2_ := (Option.bind_some _ _).symm.trans H; with_reducible exact H2_) | with_reducible exact H | (rw [hy287]; exact H) | exact H
               have Ny287 := Aside0.mk hy287
               clear hy287
               have H' := Aside0.mk H
               clear H
               obtain ⟨hcz40_0, hcz40_1, hcz40_2, hcz40_3, hfz40_0, hfz40_1, hfz40_2, hfz40_3⟩ := cf4 BK271.out
               go_wp2_with (first | ((with_reducible refine gate_callee (f := 61) rfl ?_); refine goesL_ (some 48) rfl rfl Tryd.func61 (by kernel_rfl) rfl #[.int .u64 (IntKind.u64.wrap ((a1_2.size : Int))), .int .i64 4] rfl pM ?_; (with_reducible refine (minstrelref07_bytes.calls kj15 (IntKind.u64.wrap ((a1_2.size : Int))) 4 t281 _ A30.out).mono ?_); rintro e w41 ⟨v282, rfl, ho0, hb⟩; refine ⟨_, rfl, ?_⟩; have n0_ := Aside0.mk (Kd.R_elder' (pR HO_0.out) (Kd.R_base ho0) hb); have n1_ := Aside0.mk (Kd.R_lower (Kd.R_new' (Kd.R_newM (M := fun k_ => (P0_ k_ ∨ w.heap.size ≤ k_)) ho0 (by first | exact HK.out.1 | exact (show Kept w _ (fun k_ => P0_ k_) from by repeat (first | (with_reducible first | exact HK.out | apply Kept.alloc | apply Kept.drewN | apply Kept.drew | refine Kept.setCell ?_ (.inr GW271.out) _) | exact HK.out)).1) (fun k_ h_ => .inr h_)) (Kd.R_lt (pR HO_0.out))) (below_size pB)); have n2_ := Aside0.mk (pkb BK271.out hb); have n3_ := Aside0.mk (Kept.below (S := (fun k_ => P0_ k_)) (by repeat (first | (with_reducible first | exact HK.out | apply Kept.alloc | apply Kept.drewN | apply Kept.drew | refine Kept.setCell ?_ (.inr GW271.out) _) | exact HK.out)) hb); have n4_ := Aside0.mk (below_step pB hb); clear HO_0; clear BK271; clear HK; clear HB; have HO_0 := n0_; have HO283 := n1_; have BK271 := n2_; have HK := n3_; have HB := n4_; clear n0_ n1_ n2_ n3_ n4_; (try clear hb); (try clear hb2); (try clear hk); (try clear hi); (try clear ho0); obtain ⟨Ao43, co43, eo43⟩ := Kd.R_slice HO283.out; subst eo43) | ((with_reducible refine gate_builtin (b := .append) (xs := #[.tmp 43, .tmp 48]) rfl ?_); (try (refine gate_guard (by rfl) ?_; dsimp only)); at_builtin; refine Kd.R_append_rows (Kd.int .u8) (w0 := w0) w0.heap.size rfl (.tmp 43) (.tmp 48) 31 5 (.int .u8 0) 1 rfl Tryd.underlying31 info5 rfl (by decide) (by omega) u0 x0_15 t281 _ _ _ (fun k_ => (P0_ k_ ∨ w.heap.size ≤ k_) ∧ some k_ ≠ (.slice Ao43 t281.length co43 : Value).ownBlock) (fun _ => False) rfl rfl ?aO ?aR (fun _ _ h => h) (fun _ h => h.elim) ?aF ?aB ?aS ?aL ?_; (case aR => repeat (first | exact (Kd.R_reads' HO283.out).2.2 | (with_reducible refine Kd.C_alloc ?_ _) | (with_reducible refine Kd.C_drewN ?_ _) | (with_reducible refine Kd.C_drew ?_))); (case aB => exact pB); (case aF => exact (fun k_ hk => ⟨(.inr (Nat.le_trans (by first | exact HK.out.1 | exact (show Kept w _ (fun k_ => P0_ k_) from by repeat (first | (with_reducible first | exact HK.out | apply Kept.alloc | apply Kept.drewN | apply Kept.drew | refine Kept.setCell ?_ (.inr GW271.out) _) | exact HK.out)).1) hk)), Kd.fresh' (Kd.R_lt (pR HO283.out)) k_ hk⟩)); (case aO => exact (pR HO_0.out)); (case aS => exact (below_size pB)); (case aL => have := LMc31.out; omega); intro v285 w42 ho hb hg hat; rw [← Ny284.out] at ho; have n0_ := Aside0.mk (blk_grown (g := gb271) (o := .cells #[.int .i64 a1_0, .int .u64 a1_1, .string a1_2, .slice A1_3 l1_3.length c1_3] 26 (0, 0)) (pK BK271.out) hg (pX HO_0.out BK271.out)); have n1_ := Aside0.mk (Kd.R_after (ok := (fun k_ => (P0_ k_ ∨ w.heap.size ≤ k_))) (by (with_reducible repeat (first | apply Kd.R_alloc | apply Kd.R_drewN | apply Kd.R_drew)); exact Kd.R_mono HO283.out (fun _ hk => ⟨hk.1.1, hk.2⟩)) hg hat); have n2_ := Aside0.mk (hb); have n3_ := Aside0.mk (Kept.of_grown (S := (fun k_ => P0_ k_)) hg (by repeat (first | (with_reducible first | exact HK.out | apply Kept.alloc | apply Kept.drewN | apply Kept.drew | refine Kept.setCell ?_ (.inr GW271.out) _) | exact HK.out)) (fun k_ e_ => (HO_0.out.1 k_ e_).1)); have n4_ := Aside0.mk (ho); clear BK271; clear HO283; clear HB; clear HK; clear HO_0; have BK271 := n0_; have HO283 := n1_; have HB := n2_; have HK := n3_; have HO286 := n4_; clear n0_ n1_ n2_ n3_ n4_; clear ho hb hg hat; obtain ⟨Ao44, co44, eo44⟩ := Kd.R_slice HO286.out; subst eo44; obtain ⟨hcz45_0, hcz45_1, hcz45_2, hcz45_3, hfz45_0, hfz45_1, hfz45_2, hfz45_3⟩ := cf4 BK271.out) | (at_builtin; refine R_append_str (w0 := w0) w0.heap.size rfl (.tmp 57) _ 31 9 5 rfl Tryd.underlying31 Tryd.underlying9 info5 (.slice Ao44 y284.length co44) y284 a1_2 (fun k_ => (P0_ k_ ∨ w.heap.size ≤ k_) ∧ some k_ ≠ (.slice Ao43 t281.length co43 : Value).ownBlock) rfl rfl ?aF ?aO ?aB ?aS ?aL ?_; (case aB => exact pB); (case aF => exact (fun k_ hk => ⟨(.inr (Nat.le_trans (by first | exact HK.out.1 | exact (show Kept w _ (fun k_ => P0_ k_) from by repeat (first | (with_reducible first | exact HK.out | apply Kept.alloc | apply Kept.drewN | apply Kept.drew | refine Kept.setCell ?_ (.inr GW271.out) _) | exact HK.out)).1) hk)), Kd.fresh' (Kd.R_lt (pR HO283.out)) k_ hk⟩)); (case aO => exact (pR HO286.out)); (case aS => exact (below_size pB)); (case aL => have := LMc39.out; omega); intro v288 w46 ho hb hg hat; rw [← Ny287.out] at ho; change Kd.R (Kd.int .u8) 5 w46 w0.heap.size (fun k_ => (P0_ k_ ∨ w.heap.size ≤ k_) ∧ some k_ ≠ (.slice Ao43 t281.length co43 : Value).ownBlock) v288 y287 at ho; have n0_ := Aside0.mk (blk_grown (g := gb271) (o := .cells #[.int .i64 a1_0, .int .u64 a1_1, .string a1_2, .slice A1_3 l1_3.length c1_3] 26 (0, 0)) (pK BK271.out) hg (pX HO286.out BK271.out)); have n1_ := Aside0.mk (Kd.R_after (ok := (fun k_ => (P0_ k_ ∨ w.heap.size ≤ k_))) (pR HO283.out) hg hat); have n2_ := Aside0.mk (hb); have n3_ := Aside0.mk (Kept.of_grown (S := (fun k_ => P0_ k_)) hg (by repeat (first | (with_reducible first | exact HK.out | apply Kept.alloc | apply Kept.drewN | apply Kept.drew | refine Kept.setCell ?_ (.inr GW271.out) _) | exact HK.out)) (fun k_ e_ => (HO286.out.1 k_ e_).1)); have n4_ := Aside0.mk (ho); clear BK271; clear HO283; clear HB; clear HK; clear HO286; have BK271 := n0_; have HO283 := n1_; have HB := n2_; have HK := n3_; have HO289 := n4_; clear n0_ n1_ n2_ n3_ n4_; clear ho hb hg hat))
               go_meet
               case rel => exact ⟨_, (y287), H', ⟨by have := HJ3.out; have := HJ9.out; have := HJ15.out; first | omega | exact Nat.le_refl _⟩, ⟨by (with_reducible repeat (first | apply Kd.R_alloc | apply Kd.R_drewN | apply Kd.R_drew)); exact Kd.R_mono HO289.out (fun _ hk => hk.1)⟩, ⟨by (with_reducible repeat (first | refine blk_drewN ?_ _ | refine blk_drew ?_ | refine blk_alloc ?_ _)); exact BK271.out⟩, ⟨by repeat (first | (with_reducible first | exact HK.out | apply Kept.alloc | apply Kept.drewN | apply Kept.drew | refine Kept.setCell ?_ (.inr GW271.out) _) | exact HK.out)⟩, ⟨pB⟩⟩
              ·rw [if_neg c39] at H
               exact absurd H (by simp)
            ·rw [if_neg c31] at H
             exact absurd H (by simp)
           ·rw [if_neg c29] at H
            have c29b0 : (a1_0 == 1) = false := beq_eq_false_iff_ne.mpr c29
            have c29b1 : (a1_0 != 1) = true := bne_iff_ne.mpr c29
            (first | rw [c29b0] | (simp only [i64_w, i32_w]; rw [c29b0]) | rw [c29b1] | (simp only [i64_w, i32_w]; rw [c29b1]) | skip)
            have H' := Aside0.mk H
            clear H
            go_wp2
            go_meet
            case rel => exact ⟨_, (x0_15), H', ⟨by have := HJ3.out; have := HJ9.out; have := HJ15.out; first | omega | exact Nat.le_refl _⟩, ⟨by (with_reducible repeat (first | apply Kd.R_alloc | apply Kd.R_drewN | apply Kd.R_drew)); exact HO_0.out⟩, ⟨by (with_reducible repeat (first | refine blk_drewN ?_ _ | refine blk_drew ?_ | refine blk_alloc ?_ _)); exact BK271.out⟩, ⟨by repeat (first | (with_reducible first | exact HK.out | apply Kept.alloc | apply Kept.drewN | apply Kept.drew | refine Kept.setCell ?_ (.inr GW271.out) _) | exact HK.out)⟩, ⟨pB⟩⟩
          case rest =>
           clear HC27
           try clear c1
           try clear c2
           try clear p2
           try clear c3
           try clear c5
           try clear c6
           try clear c6b0
           try clear c6b1
           try clear p6
           try clear c9
           try clear c11
           try clear c11b0
           try clear c11b1
           try clear c14
           try clear c15
           try clear c20
           try clear c20b0
           try clear c20b1
           try clear c22
           try clear c29
           try clear c29b0
           try clear c29b1
           try clear c31
           try clear c32
           try clear c32b0
           try clear c39
           try clear hcz12_0 hcz12_1 hcz12_2 hcz12_3 hcz13_0 hcz13_1 hcz13_2 hcz13_3 hcz17_0 hcz17_1 hcz17_2 hcz17_3 hcz19_0 hcz19_1 hcz19_2 hcz19_3 hcz23_0 hcz23_1 hcz23_2 hcz23_3 hcz28_0 hcz28_1 hcz28_2 hcz28_3 hcz33_0 hcz33_1 hcz33_2 hcz33_3 hcz38_0 hcz38_1 hcz38_2 hcz38_3 hcz40_0 hcz40_1 hcz40_2 hcz40_3 hcz45_0 hcz45_1 hcz45_2 hcz45_3 hcz7_0 hcz7_1 hcz7_2 hcz7_3 hcz8_0 hcz8_1 hcz8_2 hcz8_3 hfz12_0 hfz12_1 hfz12_2 hfz12_3 hfz13_0 hfz13_1 hfz13_2 hfz13_3 hfz17_0 hfz17_1 hfz17_2 hfz17_3 hfz19_0 hfz19_1 hfz19_2 hfz19_3 hfz23_0 hfz23_1 hfz23_2 hfz23_3 hfz28_0 hfz28_1 hfz28_2 hfz28_3 hfz33_0 hfz33_1 hfz33_2 hfz33_3 hfz38_0 hfz38_1 hfz38_2 hfz38_3 hfz40_0 hfz40_1 hfz40_2 hfz40_3 hfz45_0 hfz45_1 hfz45_2 hfz45_3 hfz7_0 hfz7_1 hfz7_2 hfz7_3 hfz8_0 hfz8_1 hfz8_2 hfz8_3
           try clear p2
           obtain ⟨kq, x0_26, HA, HJ26, HO_0, BK271, HK, HB⟩ := hcut
           cases kq with
           | zero => exact absurd HA.out (by simp [minstrelref07_put.j3])
           | succ kj26 =>
            have H := HA.out
            clear HA
            simp only [minstrelref07_put.j3] at H
            have HC47 := Aside0.mk H
            clear H
            obtain ⟨hcz48_0, hcz48_1, hcz48_2, hcz48_3, hfz48_0, hfz48_1, hfz48_2, hfz48_3⟩ := cf4 BK271.out
            go_upto_if 63 with (fail)
            go_cut [0] (fun v0 wc => ∃ (kq : Nat) (x0_46 : List Int), Aside0 (minstrelref07_put.j4 kq x0_46 a2 a1_0 a1_1 a1_2 l1_3 = some (r1, r2)) ∧ Aside0 (kq ≤ kj26) ∧ Aside0 (Kd.R (Kd.int .u8) 5 wc w0.heap.size (fun k_ => (P0_ k_ ∨ w.heap.size ≤ k_)) v0 x0_46) ∧ Aside0 (wc.heap[gb271]? = some (.cells #[.int .i64 a1_0, .int .u64 a1_1, .string a1_2, (.slice A1_3 l1_3.length c1_3)] 26 (0, 0))) ∧ Aside0 (Kept w wc (fun k_ => P0_ k_)) ∧ Aside0 (Below w0.heap.size w0 wc))
            case first =>
             have H := HC47.out
             clear HC47
             by_cases c49 : a1_0 = 2
             ·rw [if_pos c49] at H
              have c49b0 : (a1_0 == 2) = true := beq_iff_eq.mpr c49
              have c49b1 : (a1_0 != 2) = false := bne_eq_false_iff_eq.mpr c49
              clear c49
              (first | rw [c49b0] | (simp only [i64_w, i32_w]; rw [c49b0]) | rw [c49b1] | (simp only [i64_w, i32_w]; rw [c49b1]) | skip)
              replace H := Option.bind_eq_some_iff.mp H
              obtain ⟨t290, A500, H⟩ := H
              replace H : (if x0_26.length + t290.length < 140737488355328 then (if (l1_3.length : Int) > 1048576 then (some (([] : List Int), 2)) else (minstrelref07_put.j4 kj26 (x0_26 ++ t290) a2 a1_0 a1_1 a1_2 l1_3)) else (none)) = some (r1, r2) := H
              have A50 := Aside0.mk A500
              clear A500
              by_cases c51 : x0_26.length + t290.length < 140737488355328
              ·rw [if_pos c51] at H
               have LMc51 := Aside0.mk c51
               clear c51
               obtain ⟨y293, hy293⟩ : ∃ y_ : List Int, y_ = (x0_26 ++ t290) := ⟨_, rfl⟩
               replace H : (if (l1_3.length : Int) > 1048576 then (some (([] : List Int), 2)) else (minstrelref07_put.j4 kj26 y293 a2 a1_0 a1_1 a1_2 l1_3)) = some (r1, r2) := by first | (rw [hy293]; with_reducible exact H) | (have H2_ := (Option.bind_some _ _).symm.trans H; rw [hy293]; with_reducible exact H2_) | (have H2_ := (Option.bind_some _ _).symm.trans H; with_reducible exact H2_) | with_reducible exact H | (rw [hy293]; exact H) | exact H
               have Ny293 := Aside0.mk hy293
               clear hy293
               by_cases c52 : (l1_3.length : Int) > 1048576
               ·rw [if_pos c52] at H
                have c52b0 : decide (1048576 < (l1_3.length : Int)) = true := decide_eq_true c52
                have c52b1 : decide (1048576 < l1_3.length) = true := decide_eq_true (by omega)
                clear c52
                simp only [Option.some.injEq, Prod.mk.injEq] at H
                obtain ⟨rfl, rfl⟩ := H
                obtain ⟨hcz53_0, hcz53_1, hcz53_2, hcz53_3, hfz53_0, hfz53_1, hfz53_2, hfz53_3⟩ := cf4 BK271.out
                go_wp2_with (first | ((with_reducible refine gate_callee (f := 61) rfl ?_); refine goesL_ (some 69) rfl rfl Tryd.func61 (by kernel_rfl) rfl #[.int .u64 (IntKind.u64.wrap ((l1_3.length : Int))), .int .i64 4] rfl pM ?_; (with_reducible refine (minstrelref07_bytes.calls kj26 (IntKind.u64.wrap ((l1_3.length : Int))) 4 t290 _ A50.out).mono ?_); rintro e w54 ⟨v291, rfl, ho0, hb⟩; refine ⟨_, rfl, ?_⟩; have n0_ := Aside0.mk (Kd.R_elder' (pR HO_0.out) (Kd.R_base ho0) hb); have n1_ := Aside0.mk (Kd.R_lower (Kd.R_new' (Kd.R_newM (M := fun k_ => (P0_ k_ ∨ w.heap.size ≤ k_)) ho0 (by first | exact HK.out.1 | exact (show Kept w _ (fun k_ => P0_ k_) from by repeat (first | (with_reducible first | exact HK.out | apply Kept.alloc | apply Kept.drewN | apply Kept.drew | refine Kept.setCell ?_ (.inr GW271.out) _) | exact HK.out)).1) (fun k_ h_ => .inr h_)) (Kd.R_lt (pR HO_0.out))) (below_size pB)); have n2_ := Aside0.mk (pkb BK271.out hb); have n3_ := Aside0.mk (Kept.below (S := (fun k_ => P0_ k_)) (by repeat (first | (with_reducible first | exact HK.out | apply Kept.alloc | apply Kept.drewN | apply Kept.drew | refine Kept.setCell ?_ (.inr GW271.out) _) | exact HK.out)) hb); have n4_ := Aside0.mk (below_step pB hb); clear HO_0; clear BK271; clear HK; clear HB; have HO_0 := n0_; have HO292 := n1_; have BK271 := n2_; have HK := n3_; have HB := n4_; clear n0_ n1_ n2_ n3_ n4_; (try clear hb); (try clear hb2); (try clear hk); (try clear hi); (try clear ho0); obtain ⟨Ao56, co56, eo56⟩ := Kd.R_slice HO292.out; subst eo56) | ((with_reducible refine gate_builtin (b := .append) (xs := #[.tmp 64, .tmp 69]) rfl ?_); (try (refine gate_guard (by rfl) ?_; dsimp only)); at_builtin; refine Kd.R_append_rows (Kd.int .u8) (w0 := w0) w0.heap.size rfl (.tmp 64) (.tmp 69) 31 5 (.int .u8 0) 1 rfl Tryd.underlying31 info5 rfl (by decide) (by omega) u0 x0_26 t290 _ _ _ (fun k_ => (P0_ k_ ∨ w.heap.size ≤ k_) ∧ some k_ ≠ (.slice Ao56 t290.length co56 : Value).ownBlock) (fun _ => False) rfl rfl ?aO ?aR (fun _ _ h => h) (fun _ h => h.elim) ?aF ?aB ?aS ?aL ?_; (case aR => repeat (first | exact (Kd.R_reads' HO292.out).2.2 | (with_reducible refine Kd.C_alloc ?_ _) | (with_reducible refine Kd.C_drewN ?_ _) | (with_reducible refine Kd.C_drew ?_))); (case aB => exact pB); (case aF => exact (fun k_ hk => ⟨(.inr (Nat.le_trans (by first | exact HK.out.1 | exact (show Kept w _ (fun k_ => P0_ k_) from by repeat (first | (with_reducible first | exact HK.out | apply Kept.alloc | apply Kept.drewN | apply Kept.drew | refine Kept.setCell ?_ (.inr GW271.out) _) | exact HK.out)).1) hk)), Kd.fresh' (Kd.R_lt (pR HO292.out)) k_ hk⟩)); (case aO => exact (pR HO_0.out)); (case aS => exact (below_size pB)); (case aL => have := LMc51.out; omega); intro v294 w55 ho hb hg hat; rw [← Ny293.out] at ho; have n0_ := Aside0.mk (blk_grown (g := gb271) (o := .cells #[.int .i64 a1_0, .int .u64 a1_1, .string a1_2, .slice A1_3 l1_3.length c1_3] 26 (0, 0)) (pK BK271.out) hg (pX HO_0.out BK271.out)); have n1_ := Aside0.mk (Kd.R_after (ok := (fun k_ => (P0_ k_ ∨ w.heap.size ≤ k_))) (by (with_reducible repeat (first | apply Kd.R_alloc | apply Kd.R_drewN | apply Kd.R_drew)); exact Kd.R_mono HO292.out (fun _ hk => ⟨hk.1.1, hk.2⟩)) hg hat); have n2_ := Aside0.mk (hb); have n3_ := Aside0.mk (Kept.of_grown (S := (fun k_ => P0_ k_)) hg (by repeat (first | (with_reducible first | exact HK.out | apply Kept.alloc | apply Kept.drewN | apply Kept.drew | refine Kept.setCell ?_ (.inr GW271.out) _) | exact HK.out)) (fun k_ e_ => (HO_0.out.1 k_ e_).1)); have n4_ := Aside0.mk (ho); clear BK271; clear HO292; clear HB; clear HK; clear HO_0; have BK271 := n0_; have HO292 := n1_; have HB := n2_; have HK := n3_; have HO295 := n4_; clear n0_ n1_ n2_ n3_ n4_; clear ho hb hg hat; obtain ⟨hcz57_0, hcz57_1, hcz57_2, hcz57_3, hfz57_0, hfz57_1, hfz57_2, hfz57_3⟩ := cf4 BK271.out))
                go_ret2
                exact ⟨_, pE, pZ, pB, by repeat (first | (with_reducible first | exact HK.out | apply Kept.alloc | apply Kept.drewN | apply Kept.drew | refine Kept.setCell ?_ (.inr GW271.out) _) | exact HK.out)⟩
               ·rw [if_neg c52] at H
                have c52b0 : decide (1048576 < (l1_3.length : Int)) = false := decide_eq_false c52
                have c52b1 : decide (1048576 < l1_3.length) = false := decide_eq_false (by omega)
                clear c52
                have H' := Aside0.mk H
                clear H
                obtain ⟨hcz58_0, hcz58_1, hcz58_2, hcz58_3, hfz58_0, hfz58_1, hfz58_2, hfz58_3⟩ := cf4 BK271.out
                go_wp2_with (first | ((with_reducible refine gate_callee (f := 61) rfl ?_); refine goesL_ (some 69) rfl rfl Tryd.func61 (by kernel_rfl) rfl #[.int .u64 (IntKind.u64.wrap ((l1_3.length : Int))), .int .i64 4] rfl pM ?_; (with_reducible refine (minstrelref07_bytes.calls kj26 (IntKind.u64.wrap ((l1_3.length : Int))) 4 t290 _ A50.out).mono ?_); rintro e w59 ⟨v291, rfl, ho0, hb⟩; refine ⟨_, rfl, ?_⟩; have n0_ := Aside0.mk (Kd.R_elder' (pR HO_0.out) (Kd.R_base ho0) hb); have n1_ := Aside0.mk (Kd.R_lower (Kd.R_new' (Kd.R_newM (M := fun k_ => (P0_ k_ ∨ w.heap.size ≤ k_)) ho0 (by first | exact HK.out.1 | exact (show Kept w _ (fun k_ => P0_ k_) from by repeat (first | (with_reducible first | exact HK.out | apply Kept.alloc | apply Kept.drewN | apply Kept.drew | refine Kept.setCell ?_ (.inr GW271.out) _) | exact HK.out)).1) (fun k_ h_ => .inr h_)) (Kd.R_lt (pR HO_0.out))) (below_size pB)); have n2_ := Aside0.mk (pkb BK271.out hb); have n3_ := Aside0.mk (Kept.below (S := (fun k_ => P0_ k_)) (by repeat (first | (with_reducible first | exact HK.out | apply Kept.alloc | apply Kept.drewN | apply Kept.drew | refine Kept.setCell ?_ (.inr GW271.out) _) | exact HK.out)) hb); have n4_ := Aside0.mk (below_step pB hb); clear HO_0; clear BK271; clear HK; clear HB; have HO_0 := n0_; have HO292 := n1_; have BK271 := n2_; have HK := n3_; have HB := n4_; clear n0_ n1_ n2_ n3_ n4_; (try clear hb); (try clear hb2); (try clear hk); (try clear hi); (try clear ho0); obtain ⟨Ao61, co61, eo61⟩ := Kd.R_slice HO292.out; subst eo61) | ((with_reducible refine gate_builtin (b := .append) (xs := #[.tmp 64, .tmp 69]) rfl ?_); (try (refine gate_guard (by rfl) ?_; dsimp only)); at_builtin; refine Kd.R_append_rows (Kd.int .u8) (w0 := w0) w0.heap.size rfl (.tmp 64) (.tmp 69) 31 5 (.int .u8 0) 1 rfl Tryd.underlying31 info5 rfl (by decide) (by omega) u0 x0_26 t290 _ _ _ (fun k_ => (P0_ k_ ∨ w.heap.size ≤ k_) ∧ some k_ ≠ (.slice Ao61 t290.length co61 : Value).ownBlock) (fun _ => False) rfl rfl ?aO ?aR (fun _ _ h => h) (fun _ h => h.elim) ?aF ?aB ?aS ?aL ?_; (case aR => repeat (first | exact (Kd.R_reads' HO292.out).2.2 | (with_reducible refine Kd.C_alloc ?_ _) | (with_reducible refine Kd.C_drewN ?_ _) | (with_reducible refine Kd.C_drew ?_))); (case aB => exact pB); (case aF => exact (fun k_ hk => ⟨(.inr (Nat.le_trans (by first | exact HK.out.1 | exact (show Kept w _ (fun k_ => P0_ k_) from by repeat (first | (with_reducible first | exact HK.out | apply Kept.alloc | apply Kept.drewN | apply Kept.drew | refine Kept.setCell ?_ (.inr GW271.out) _) | exact HK.out)).1) hk)), Kd.fresh' (Kd.R_lt (pR HO292.out)) k_ hk⟩)); (case aO => exact (pR HO_0.out)); (case aS => exact (below_size pB)); (case aL => have := LMc51.out; omega); intro v294 w60 ho hb hg hat; rw [← Ny293.out] at ho; have n0_ := Aside0.mk (blk_grown (g := gb271) (o := .cells #[.int .i64 a1_0, .int .u64 a1_1, .string a1_2, .slice A1_3 l1_3.length c1_3] 26 (0, 0)) (pK BK271.out) hg (pX HO_0.out BK271.out)); have n1_ := Aside0.mk (Kd.R_after (ok := (fun k_ => (P0_ k_ ∨ w.heap.size ≤ k_))) (by (with_reducible repeat (first | apply Kd.R_alloc | apply Kd.R_drewN | apply Kd.R_drew)); exact Kd.R_mono HO292.out (fun _ hk => ⟨hk.1.1, hk.2⟩)) hg hat); have n2_ := Aside0.mk (hb); have n3_ := Aside0.mk (Kept.of_grown (S := (fun k_ => P0_ k_)) hg (by repeat (first | (with_reducible first | exact HK.out | apply Kept.alloc | apply Kept.drewN | apply Kept.drew | refine Kept.setCell ?_ (.inr GW271.out) _) | exact HK.out)) (fun k_ e_ => (HO_0.out.1 k_ e_).1)); have n4_ := Aside0.mk (ho); clear BK271; clear HO292; clear HB; clear HK; clear HO_0; have BK271 := n0_; have HO292 := n1_; have HB := n2_; have HK := n3_; have HO295 := n4_; clear n0_ n1_ n2_ n3_ n4_; clear ho hb hg hat; obtain ⟨hcz62_0, hcz62_1, hcz62_2, hcz62_3, hfz62_0, hfz62_1, hfz62_2, hfz62_3⟩ := cf4 BK271.out))
                go_meet
                case rel => exact ⟨_, (y293), H', ⟨by have := HJ3.out; have := HJ9.out; have := HJ15.out; have := HJ26.out; first | omega | exact Nat.le_refl _⟩, ⟨by (with_reducible repeat (first | apply Kd.R_alloc | apply Kd.R_drewN | apply Kd.R_drew)); exact Kd.R_mono HO295.out (fun _ hk => hk.1)⟩, ⟨by (with_reducible repeat (first | refine blk_drewN ?_ _ | refine blk_drew ?_ | refine blk_alloc ?_ _)); exact BK271.out⟩, ⟨by repeat (first | (with_reducible first | exact HK.out | apply Kept.alloc | apply Kept.drewN | apply Kept.drew | refine Kept.setCell ?_ (.inr GW271.out) _) | exact HK.out)⟩, ⟨pB⟩⟩
              ·rw [if_neg c51] at H
               exact absurd H (by simp)
             ·rw [if_neg c49] at H
              have c49b0 : (a1_0 == 2) = false := beq_eq_false_iff_ne.mpr c49
              have c49b1 : (a1_0 != 2) = true := bne_iff_ne.mpr c49
              (first | rw [c49b0] | (simp only [i64_w, i32_w]; rw [c49b0]) | rw [c49b1] | (simp only [i64_w, i32_w]; rw [c49b1]) | skip)
              have H' := Aside0.mk H
              clear H
              go_wp2
              go_meet
              case rel => exact ⟨_, (x0_26), H', ⟨by have := HJ3.out; have := HJ9.out; have := HJ15.out; have := HJ26.out; first | omega | exact Nat.le_refl _⟩, ⟨by (with_reducible repeat (first | apply Kd.R_alloc | apply Kd.R_drewN | apply Kd.R_drew)); exact HO_0.out⟩, ⟨by (with_reducible repeat (first | refine blk_drewN ?_ _ | refine blk_drew ?_ | refine blk_alloc ?_ _)); exact BK271.out⟩, ⟨by repeat (first | (with_reducible first | exact HK.out | apply Kept.alloc | apply Kept.drewN | apply Kept.drew | refine Kept.setCell ?_ (.inr GW271.out) _) | exact HK.out)⟩, ⟨pB⟩⟩
            case rest =>
             clear HC47
             try clear c1
             try clear c2
             try clear p2
             try clear c3
             try clear c4
             try clear c5
             try clear c6
             try clear c6b0
             try clear c6b1
             try clear p6
             try clear c9
             try clear c11
             try clear c11b0
             try clear c11b1
             try clear c14
             try clear c15
             try clear c20
             try clear c20b0
             try clear c20b1
             try clear c22
             try clear c29
             try clear c29b0
             try clear c29b1
             try clear c31
             try clear c32
             try clear c32b0
             try clear c39
             try clear c49
             try clear c49b0
             try clear c49b1
             try clear c51
             try clear c52
             try clear c52b0
             try clear c52b1
             try clear c61
             try clear hcz12_0 hcz12_1 hcz12_2 hcz12_3 hcz13_0 hcz13_1 hcz13_2 hcz13_3 hcz17_0 hcz17_1 hcz17_2 hcz17_3 hcz19_0 hcz19_1 hcz19_2 hcz19_3 hcz23_0 hcz23_1 hcz23_2 hcz23_3 hcz28_0 hcz28_1 hcz28_2 hcz28_3 hcz33_0 hcz33_1 hcz33_2 hcz33_3 hcz38_0 hcz38_1 hcz38_2 hcz38_3 hcz40_0 hcz40_1 hcz40_2 hcz40_3 hcz45_0 hcz45_1 hcz45_2 hcz45_3 hcz48_0 hcz48_1 hcz48_2 hcz48_3 hcz53_0 hcz53_1 hcz53_2 hcz53_3 hcz57_0 hcz57_1 hcz57_2 hcz57_3 hcz58_0 hcz58_1 hcz58_2 hcz58_3 hcz62_0 hcz62_1 hcz62_2 hcz62_3 hcz7_0 hcz7_1 hcz7_2 hcz7_3 hcz8_0 hcz8_1 hcz8_2 hcz8_3 hfz12_0 hfz12_1 hfz12_2 hfz12_3 hfz13_0 hfz13_1 hfz13_2 hfz13_3 hfz17_0 hfz17_1 hfz17_2 hfz17_3 hfz19_0 hfz19_1 hfz19_2 hfz19_3 hfz23_0 hfz23_1 hfz23_2 hfz23_3 hfz28_0 hfz28_1 hfz28_2 hfz28_3 hfz33_0 hfz33_1 hfz33_2 hfz33_3 hfz38_0 hfz38_1 hfz38_2 hfz38_3 hfz40_0 hfz40_1 hfz40_2 hfz40_3 hfz45_0 hfz45_1 hfz45_2 hfz45_3 hfz48_0 hfz48_1 hfz48_2 hfz48_3 hfz53_0 hfz53_1 hfz53_2 hfz53_3 hfz57_0 hfz57_1 hfz57_2 hfz57_3 hfz58_0 hfz58_1 hfz58_2 hfz58_3 hfz62_0 hfz62_1 hfz62_2 hfz62_3 hfz7_0 hfz7_1 hfz7_2 hfz7_3 hfz8_0 hfz8_1 hfz8_2 hfz8_3
             try clear p2
             try clear p6
             obtain ⟨kq, x0_46, HA, HJ46, HO_0, BK271, HK, HB⟩ := hcut
             cases kq with
             | zero => exact absurd HA.out (by simp [minstrelref07_put.j4])
             | succ kj46 =>
              have H := HA.out
              clear HA
              simp only [minstrelref07_put.j4] at H
              by_cases c63 : (x0_46.length : Int) > 1048576
              ·rw [if_pos c63] at H
               have c63b0 : decide (1048576 < (x0_46.length : Int)) = true := decide_eq_true c63
               have c63b1 : decide (1048576 < x0_46.length) = true := decide_eq_true (by omega)
               clear c63
               simp only [Option.some.injEq, Prod.mk.injEq] at H
               obtain ⟨rfl, rfl⟩ := H
               obtain ⟨Ao64, co64, eo64⟩ := Kd.R_slice HO_0.out
               subst eo64
               go_wp2
               go_ret2
               exact ⟨_, pE, pZ, pB, by repeat (first | (with_reducible first | exact HK.out | apply Kept.alloc | apply Kept.drewN | apply Kept.drew | refine Kept.setCell ?_ (.inr GW271.out) _) | exact HK.out)⟩
              ·rw [if_neg c63] at H
               have c63b0 : decide (1048576 < (x0_46.length : Int)) = false := decide_eq_false c63
               have c63b1 : decide (1048576 < x0_46.length) = false := decide_eq_false (by omega)
               clear c63
               have H' := Aside0.mk H
               clear H
               obtain ⟨Ao65, co65, eo65⟩ := Kd.R_slice HO_0.out
               subst eo65
               go_wp2
               go_loopg [0, 8] kj46 (fun kq v0 v8 w' => ∃ (x0_6 : List Int) (x8_6 : Int), v8 = .int .i64 x8_6 ∧ Aside0 (minstrelref07_put.l0 kq x0_6 a2 x8_6 a1_0 a1_1 a1_2 l1_3 = some (r1, r2)) ∧ Aside0 (kq ≤ kj46) ∧ Aside0 (Kd.R (Kd.int .u8) 5 w' w0.heap.size (fun k_ => (P0_ k_ ∨ w.heap.size ≤ k_)) v0 x0_6) ∧ Aside0 (w'.heap[gb271]? = some (.cells #[.int .i64 a1_0, .int .u64 a1_1, .string a1_2, (.slice A1_3 l1_3.length c1_3)] 26 (0, 0))) ∧ Aside0 (Kept w w' (fun k_ => P0_ k_)) ∧ Aside0 (Below w0.heap.size w0 w'))
               case atStart => exact ⟨(x0_46), (0), (by first | rfl | (simp; done) | (simp [*]; done)), H', ⟨Nat.le_refl _⟩, ⟨by (with_reducible repeat (first | apply Kd.R_alloc | apply Kd.R_drewN | apply Kd.R_drew)); exact HO_0.out⟩, ⟨by (with_reducible repeat (first | refine blk_drewN ?_ _ | refine blk_drew ?_ | refine blk_alloc ?_ _)); exact BK271.out⟩, ⟨by repeat (first | (with_reducible first | exact HK.out | apply Kept.alloc | apply Kept.drewN | apply Kept.drew | refine Kept.setCell ?_ (.inr GW271.out) _) | exact HK.out)⟩, ⟨pB⟩⟩
               case round =>
                clear H'
                try clear c1
                try clear c2
                try clear p2
                try clear c3
                try clear c4
                try clear c5
                try clear c6
                try clear c6b0
                try clear c6b1
                try clear p6
                try clear c9
                try clear c11
                try clear c11b0
                try clear c11b1
                try clear c14
                try clear c15
                try clear c20
                try clear c20b0
                try clear c20b1
                try clear c22
                try clear c29
                try clear c29b0
                try clear c29b1
                try clear c31
                try clear c32
                try clear c32b0
                try clear c39
                try clear c49
                try clear c49b0
                try clear c49b1
                try clear c51
                try clear c52
                try clear c52b0
                try clear c52b1
                try clear c61
                try clear c63
                try clear c63b0
                try clear c63b1
                try clear p64
                try clear hcz12_0 hcz12_1 hcz12_2 hcz12_3 hcz13_0 hcz13_1 hcz13_2 hcz13_3 hcz17_0 hcz17_1 hcz17_2 hcz17_3 hcz19_0 hcz19_1 hcz19_2 hcz19_3 hcz23_0 hcz23_1 hcz23_2 hcz23_3 hcz28_0 hcz28_1 hcz28_2 hcz28_3 hcz33_0 hcz33_1 hcz33_2 hcz33_3 hcz38_0 hcz38_1 hcz38_2 hcz38_3 hcz40_0 hcz40_1 hcz40_2 hcz40_3 hcz45_0 hcz45_1 hcz45_2 hcz45_3 hcz48_0 hcz48_1 hcz48_2 hcz48_3 hcz53_0 hcz53_1 hcz53_2 hcz53_3 hcz57_0 hcz57_1 hcz57_2 hcz57_3 hcz58_0 hcz58_1 hcz58_2 hcz58_3 hcz62_0 hcz62_1 hcz62_2 hcz62_3 hcz7_0 hcz7_1 hcz7_2 hcz7_3 hcz8_0 hcz8_1 hcz8_2 hcz8_3 hfz12_0 hfz12_1 hfz12_2 hfz12_3 hfz13_0 hfz13_1 hfz13_2 hfz13_3 hfz17_0 hfz17_1 hfz17_2 hfz17_3 hfz19_0 hfz19_1 hfz19_2 hfz19_3 hfz23_0 hfz23_1 hfz23_2 hfz23_3 hfz28_0 hfz28_1 hfz28_2 hfz28_3 hfz33_0 hfz33_1 hfz33_2 hfz33_3 hfz38_0 hfz38_1 hfz38_2 hfz38_3 hfz40_0 hfz40_1 hfz40_2 hfz40_3 hfz45_0 hfz45_1 hfz45_2 hfz45_3 hfz48_0 hfz48_1 hfz48_2 hfz48_3 hfz53_0 hfz53_1 hfz53_2 hfz53_3 hfz57_0 hfz57_1 hfz57_2 hfz57_3 hfz58_0 hfz58_1 hfz58_2 hfz58_3 hfz62_0 hfz62_1 hfz62_2 hfz62_3 hfz7_0 hfz7_1 hfz7_2 hfz7_3 hfz8_0 hfz8_1 hfz8_2 hfz8_3
                try clear p2
                try clear p6
                obtain ⟨x0_6, x8_6, rfl, HA, HK6, HO_0, BK271, HK, HB⟩ := hrel
                cases gk with
                | zero => exact absurd HA.out (by simp [minstrelref07_put.l0])
                | succ k6 =>
                 have H := HA.out
                 clear HA
                 simp only [minstrelref07_put.l0] at H
                 have HC66 := Aside0.mk H
                 clear H
                 go_upto_region 20 with (fail)
                 go_cut [87] (fun v87 wc => ∃ (kq : Nat) (x87_65 : Bool), v87 = .bool x87_65 ∧ Aside0 (minstrelref07_put.j6 kq x0_6 a2 x8_6 x87_65 a1_0 a1_1 a1_2 l1_3 = some (r1, r2)) ∧ Aside0 (kq ≤ k6) ∧ Aside0 (Kd.R (Kd.int .u8) 5 wc w0.heap.size (fun k_ => (P0_ k_ ∨ w.heap.size ≤ k_)) u0 x0_6) ∧ Aside0 (wc.heap[gb271]? = some (.cells #[.int .i64 a1_0, .int .u64 a1_1, .string a1_2, (.slice A1_3 l1_3.length c1_3)] 26 (0, 0))) ∧ Aside0 (Kept w wc (fun k_ => P0_ k_)) ∧ Aside0 (Below w0.heap.size w0 wc))
                 case first =>
                  have H := HC66.out
                  clear HC66
                  by_cases c67 : a1_0 = 2
                  ·rw [if_pos c67] at H
                   have c67b0 : (a1_0 == 2) = true := beq_iff_eq.mpr c67
                   have c67b1 : (a1_0 != 2) = false := bne_eq_false_iff_eq.mpr c67
                   clear c67
                   (first | rw [c67b0] | (simp only [i64_w, i32_w]; rw [c67b0]) | rw [c67b1] | (simp only [i64_w, i32_w]; rw [c67b1]) | skip)
                   have H' := Aside0.mk H
                   clear H
                   obtain ⟨hcz68_0, hcz68_1, hcz68_2, hcz68_3, hfz68_0, hfz68_1, hfz68_2, hfz68_3⟩ := cf4 BK271.out
                   go_wp2
                   go_meet
                   case rel => exact ⟨_, (decide (x8_6 < (l1_3.length : Int))), (by first | rfl | (simp; done) | (simp [*]; done)), H', ⟨by have := HJ3.out; have := HJ9.out; have := HJ15.out; have := HJ26.out; have := HJ46.out; have := HK6.out; first | omega | exact Nat.le_refl _⟩, ⟨by (with_reducible repeat (first | apply Kd.R_alloc | apply Kd.R_drewN | apply Kd.R_drew)); exact HO_0.out⟩, ⟨by (with_reducible repeat (first | refine blk_drewN ?_ _ | refine blk_drew ?_ | refine blk_alloc ?_ _)); exact BK271.out⟩, ⟨by repeat (first | (with_reducible first | exact HK.out | apply Kept.alloc | apply Kept.drewN | apply Kept.drew | refine Kept.setCell ?_ (.inr GW271.out) _) | exact HK.out)⟩, ⟨pB⟩⟩
                  ·rw [if_neg c67] at H
                   have c67b0 : (a1_0 == 2) = false := beq_eq_false_iff_ne.mpr c67
                   have c67b1 : (a1_0 != 2) = true := bne_iff_ne.mpr c67
                   (first | rw [c67b0] | (simp only [i64_w, i32_w]; rw [c67b0]) | rw [c67b1] | (simp only [i64_w, i32_w]; rw [c67b1]) | skip)
                   have H' := Aside0.mk H
                   clear H
                   obtain ⟨hcz69_0, hcz69_1, hcz69_2, hcz69_3, hfz69_0, hfz69_1, hfz69_2, hfz69_3⟩ := cf4 BK271.out
                   go_wp2
                   go_meet
                   case rel => exact ⟨_, (false), (by first | rfl | (simp; done) | (simp [*]; done)), H', ⟨by have := HJ3.out; have := HJ9.out; have := HJ15.out; have := HJ26.out; have := HJ46.out; have := HK6.out; first | omega | exact Nat.le_refl _⟩, ⟨by (with_reducible repeat (first | apply Kd.R_alloc | apply Kd.R_drewN | apply Kd.R_drew)); exact HO_0.out⟩, ⟨by (with_reducible repeat (first | refine blk_drewN ?_ _ | refine blk_drew ?_ | refine blk_alloc ?_ _)); exact BK271.out⟩, ⟨by repeat (first | (with_reducible first | exact HK.out | apply Kept.alloc | apply Kept.drewN | apply Kept.drew | refine Kept.setCell ?_ (.inr GW271.out) _) | exact HK.out)⟩, ⟨pB⟩⟩
                 case rest =>
                  clear HC66
                  try clear c1
                  try clear c2
                  try clear p2
                  try clear c3
                  try clear c4
                  try clear c5
                  try clear c6
                  try clear c6b0
                  try clear c6b1
                  try clear p6
                  try clear c9
                  try clear c11
                  try clear c11b0
                  try clear c11b1
                  try clear c14
                  try clear c15
                  try clear c20
                  try clear c20b0
                  try clear c20b1
                  try clear c22
                  try clear c29
                  try clear c29b0
                  try clear c29b1
                  try clear c31
                  try clear c32
                  try clear c32b0
                  try clear c39
                  try clear c49
                  try clear c49b0
                  try clear c49b1
                  try clear c51
                  try clear c52
                  try clear c52b0
                  try clear c52b1
                  try clear c61
                  try clear c63
                  try clear c63b0
                  try clear c63b1
                  try clear p64
                  try clear c67
                  try clear c67b0
                  try clear c67b1
                  try clear hcz12_0 hcz12_1 hcz12_2 hcz12_3 hcz13_0 hcz13_1 hcz13_2 hcz13_3 hcz17_0 hcz17_1 hcz17_2 hcz17_3 hcz19_0 hcz19_1 hcz19_2 hcz19_3 hcz23_0 hcz23_1 hcz23_2 hcz23_3 hcz28_0 hcz28_1 hcz28_2 hcz28_3 hcz33_0 hcz33_1 hcz33_2 hcz33_3 hcz38_0 hcz38_1 hcz38_2 hcz38_3 hcz40_0 hcz40_1 hcz40_2 hcz40_3 hcz45_0 hcz45_1 hcz45_2 hcz45_3 hcz48_0 hcz48_1 hcz48_2 hcz48_3 hcz53_0 hcz53_1 hcz53_2 hcz53_3 hcz57_0 hcz57_1 hcz57_2 hcz57_3 hcz58_0 hcz58_1 hcz58_2 hcz58_3 hcz62_0 hcz62_1 hcz62_2 hcz62_3 hcz68_0 hcz68_1 hcz68_2 hcz68_3 hcz69_0 hcz69_1 hcz69_2 hcz69_3 hcz7_0 hcz7_1 hcz7_2 hcz7_3 hcz8_0 hcz8_1 hcz8_2 hcz8_3 hfz12_0 hfz12_1 hfz12_2 hfz12_3 hfz13_0 hfz13_1 hfz13_2 hfz13_3 hfz17_0 hfz17_1 hfz17_2 hfz17_3 hfz19_0 hfz19_1 hfz19_2 hfz19_3 hfz23_0 hfz23_1 hfz23_2 hfz23_3 hfz28_0 hfz28_1 hfz28_2 hfz28_3 hfz33_0 hfz33_1 hfz33_2 hfz33_3 hfz38_0 hfz38_1 hfz38_2 hfz38_3 hfz40_0 hfz40_1 hfz40_2 hfz40_3 hfz45_0 hfz45_1 hfz45_2 hfz45_3 hfz48_0 hfz48_1 hfz48_2 hfz48_3 hfz53_0 hfz53_1 hfz53_2 hfz53_3 hfz57_0 hfz57_1 hfz57_2 hfz57_3 hfz58_0 hfz58_1 hfz58_2 hfz58_3 hfz62_0 hfz62_1 hfz62_2 hfz62_3 hfz68_0 hfz68_1 hfz68_2 hfz68_3 hfz69_0 hfz69_1 hfz69_2 hfz69_3 hfz7_0 hfz7_1 hfz7_2 hfz7_3 hfz8_0 hfz8_1 hfz8_2 hfz8_3
                  try clear p2
                  try clear p6
                  try clear p64
                  obtain ⟨kq, x87_65, rfl, HA, HJ65, HO_0, BK271, HK, HB⟩ := hcut
                  cases kq with
                  | zero => exact absurd HA.out (by simp [minstrelref07_put.j6])
                  | succ kj65 =>
                   have H := HA.out
                   clear HA
                   simp only [minstrelref07_put.j6] at H
                   by_cases c70 : x87_65 = true
                   ·subst c70
                    have H1 : (if 0 ≤ x8_6 then (if x8_6 < (l1_3.length : Int) then ((minstrelref07_put.f kj65 x0_6 ((rd_T26 l1_3 x8_6).f0) ((rd_T26 l1_3 x8_6).f1) ((rd_T26 l1_3 x8_6).f2) ((rd_T26 l1_3 x8_6).f3) (wrap64 (a2 + 1))).bind fun bt297 => (if bt297.2 = 0 then (minstrelref07_put.l0 kj65 bt297.1 a2 (wrap64 (x8_6 + 1)) a1_0 a1_1 a1_2 l1_3) else (some (([] : List Int), bt297.2)))) else (none)) else (none)) = some (r1, r2) := by rw [if_pos rfl] at H; exact H
                    clear H
                    have H := H1
                    clear H1
                    by_cases c71 : 0 ≤ x8_6
                    ·rw [if_pos c71] at H
                     have c71b0 : decide (0 ≤ x8_6) = true := decide_eq_true c71
                     clear c71
                     by_cases c72 : x8_6 < (l1_3.length : Int)
                     ·rw [if_pos c72] at H
                      have c72b0 : decide (x8_6 < (l1_3.length : Int)) = true := decide_eq_true c72
                      clear c72
                      replace H := Option.bind_eq_some_iff.mp H
                      obtain ⟨⟨t297, t300⟩, A730, H⟩ := H
                      replace H : (if t300 = 0 then (minstrelref07_put.l0 kj65 t297 a2 (wrap64 (x8_6 + 1)) a1_0 a1_1 a1_2 l1_3) else (some (([] : List Int), t300))) = some (r1, r2) := H
                      have A73 := Aside0.mk A730
                      clear A730
                      by_cases c74 : t300 = 0
                      ·rw [if_pos c74] at H
                       have c74b0 : (t300 == 0) = true := beq_iff_eq.mpr c74
                       have c74b1 : (t300 != 0) = false := bne_eq_false_iff_eq.mpr c74
                       clear c74
                       have H' := Aside0.mk H
                       clear H
                       obtain ⟨hcz75_0, hcz75_1, hcz75_2, hcz75_3, hfz75_0, hfz75_1, hfz75_2, hfz75_3⟩ := cf4 BK271.out
                       have p296 : 0 ≤ (x8_6 : Int) := pD
                       have q296 : x8_6 < (l1_3.length : Int) := pD
                       obtain ⟨ad296, A296_3, c296_3, e296, hx296_0, hx296_1, hx296_2, hx296_3, hl296_3, hi296_3⟩ := at_T26 HR1_3.out x8_6 p296 q296
                       replace hx296_0 := (HB.out.cell (World.block_lt_of_cell? _ _ hx296_0)).trans hx296_0
                       replace hx296_1 := (HB.out.cell (World.block_lt_of_cell? _ _ hx296_1)).trans hx296_1
                       replace hx296_2 := (HB.out.cell (World.block_lt_of_cell? _ _ hx296_2)).trans hx296_2
                       replace hx296_3 := (HB.out.cell (World.block_lt_of_cell? _ _ hx296_3)).trans hx296_3
                       cases e296
                       have HR296_3 := Aside0.mk hi296_3
                       have HC296_3 := Aside0.mk hl296_3
                       clear hi296_3 hl296_3
                       replace p296 := eq_true p296
                       replace q296 := eq_true q296
                       obtain ⟨Ao76, co76, eo76⟩ := Kd.R_slice HO_0.out
                       subst eo76
                       go_wp2_with (first | ((with_reducible refine gate_callee (f := 51) rfl ?_); refine goesL_ (some 99) rfl rfl Tryd.func51 (by kernel_rfl) rfl #[.slice Ao76 x0_6.length co76, .agg #[.int .i64 ((rd_T26 l1_3 x8_6).f0), .int .u64 ((rd_T26 l1_3 x8_6).f1), .string ((rd_T26 l1_3 x8_6).f2), .slice A296_3 ((rd_T26 l1_3 x8_6).f3).length c296_3], .int .i64 (wrap64 (a2 + 1))] rfl pM ?_; (with_reducible refine (ih kj65 (by have := HJ3.out; have := HJ9.out; have := HJ15.out; have := HJ26.out; have := HJ46.out; have := HK6.out; have := HJ65.out; omega) (fun k_ => some k_ = (.slice Ao76 x0_6.length co76 : Value).ownBlock) (.slice Ao76 x0_6.length co76) x0_6 ((rd_T26 l1_3 x8_6).f0) ((rd_T26 l1_3 x8_6).f1) ((rd_T26 l1_3 x8_6).f2) _ _ ((rd_T26 l1_3 x8_6).f3) (wrap64 (a2 + 1)) t297 t300 w0 _ ?side1 ?side2 ?side3 ?side4 A73.out).mono ?_); (case side1 => repeat (first | (with_reducible first | exact HB.out | apply below_alloc | apply pw_below_drewN | apply below_drew1 | refine below_set ?_ GE271.out) | exact HB.out)); (case side2 => exact Kd.R_tight rfl HO_0.out); (case side3 => exact HR296_3.out); (case side4 => exact HC296_3.out); rintro e w77 ⟨v298, rfl, ho0, hb, hkp⟩; refine ⟨_, rfl, ?_⟩; have n0_ := Aside0.mk (blk_kept (pK BK271.out) hkp (fun hs_ => (fun e_ => (pX HO_0.out BK271.out) e_) hs_)); have n1_ := Aside0.mk (Kd.R_mono (ok' := fun k_ => (P0_ k_ ∨ w.heap.size ≤ k_)) ho0 (fun k_ hk_ => Or.elim hk_ (fun hs_ => (HO_0.out.1 k_ (hs_).symm)) (fun hn_ => (.inr (Nat.le_trans (by first | exact HK.out.1 | exact (show Kept w _ (fun k_ => P0_ k_) from by repeat (first | (with_reducible first | exact HK.out | apply Kept.alloc | apply Kept.drewN | apply Kept.drew | refine Kept.setCell ?_ (.inr GW271.out) _) | exact HK.out)).1) hn_))))); have n2_ := Aside0.mk (Kept.then_ (S := (fun k_ => P0_ k_)) (by repeat (first | (with_reducible first | exact HK.out | apply Kept.alloc | apply Kept.drewN | apply Kept.drew | refine Kept.setCell ?_ (.inr GW271.out) _) | exact HK.out)) hkp (fun k_ hs_ => (fun e_ => (HO_0.out.1 k_ e_.symm)) hs_)); have n3_ := Aside0.mk (hb); clear BK271; clear HK; clear HB; clear HO_0; have BK271 := n0_; have HO299 := n1_; have HK := n2_; have HB := n3_; clear n0_ n1_ n2_ n3_; (try clear hb); (try clear hkp); (try clear ho0)))
                       go_roundg kj65
                       case measure => have := HJ3.out; have := HJ9.out; have := HJ15.out; have := HJ26.out; have := HJ46.out; have := HK6.out; have := HJ65.out; omega
                       case rel => exact ⟨(t297), (wrap64 (x8_6 + 1)), (by first | rfl | (simp; done) | (simp [*]; done)), H', ⟨by have := HJ3.out; have := HJ9.out; have := HJ15.out; have := HJ26.out; have := HJ46.out; have := HK6.out; have := HJ65.out; omega⟩, ⟨by (with_reducible repeat (first | apply Kd.R_alloc | apply Kd.R_drewN | apply Kd.R_drew)); exact HO299.out⟩, ⟨by (with_reducible repeat (first | refine blk_drewN ?_ _ | refine blk_drew ?_ | refine blk_alloc ?_ _)); exact BK271.out⟩, ⟨by repeat (first | (with_reducible first | exact HK.out | apply Kept.alloc | apply Kept.drewN | apply Kept.drew | refine Kept.setCell ?_ (.inr GW271.out) _) | exact HK.out)⟩, ⟨pB⟩⟩
                      ·rw [if_neg c74] at H
                       have c74b0 : (t300 == 0) = false := beq_eq_false_iff_ne.mpr c74
                       have c74b1 : (t300 != 0) = true := bne_iff_ne.mpr c74
                       simp only [Option.some.injEq, Prod.mk.injEq] at H
                       obtain ⟨rfl, rfl⟩ := H
                       obtain ⟨hcz78_0, hcz78_1, hcz78_2, hcz78_3, hfz78_0, hfz78_1, hfz78_2, hfz78_3⟩ := cf4 BK271.out
                       have p296 : 0 ≤ (x8_6 : Int) := pD
                       have q296 : x8_6 < (l1_3.length : Int) := pD
                       obtain ⟨ad296, A296_3, c296_3, e296, hx296_0, hx296_1, hx296_2, hx296_3, hl296_3, hi296_3⟩ := at_T26 HR1_3.out x8_6 p296 q296
                       replace hx296_0 := (HB.out.cell (World.block_lt_of_cell? _ _ hx296_0)).trans hx296_0
                       replace hx296_1 := (HB.out.cell (World.block_lt_of_cell? _ _ hx296_1)).trans hx296_1
                       replace hx296_2 := (HB.out.cell (World.block_lt_of_cell? _ _ hx296_2)).trans hx296_2
                       replace hx296_3 := (HB.out.cell (World.block_lt_of_cell? _ _ hx296_3)).trans hx296_3
                       cases e296
                       have HR296_3 := Aside0.mk hi296_3
                       have HC296_3 := Aside0.mk hl296_3
                       clear hi296_3 hl296_3
                       replace p296 := eq_true p296
                       replace q296 := eq_true q296
                       obtain ⟨Ao79, co79, eo79⟩ := Kd.R_slice HO_0.out
                       subst eo79
                       go_wp2_with (first | ((with_reducible refine gate_callee (f := 51) rfl ?_); refine goesL_ (some 99) rfl rfl Tryd.func51 (by kernel_rfl) rfl #[.slice Ao79 x0_6.length co79, .agg #[.int .i64 ((rd_T26 l1_3 x8_6).f0), .int .u64 ((rd_T26 l1_3 x8_6).f1), .string ((rd_T26 l1_3 x8_6).f2), .slice A296_3 ((rd_T26 l1_3 x8_6).f3).length c296_3], .int .i64 (wrap64 (a2 + 1))] rfl pM ?_; (with_reducible refine (ih kj65 (by have := HJ3.out; have := HJ9.out; have := HJ15.out; have := HJ26.out; have := HJ46.out; have := HK6.out; have := HJ65.out; omega) (fun k_ => some k_ = (.slice Ao79 x0_6.length co79 : Value).ownBlock) (.slice Ao79 x0_6.length co79) x0_6 ((rd_T26 l1_3 x8_6).f0) ((rd_T26 l1_3 x8_6).f1) ((rd_T26 l1_3 x8_6).f2) _ _ ((rd_T26 l1_3 x8_6).f3) (wrap64 (a2 + 1)) t297 t300 w0 _ ?side1 ?side2 ?side3 ?side4 A73.out).mono ?_); (case side1 => repeat (first | (with_reducible first | exact HB.out | apply below_alloc | apply pw_below_drewN | apply below_drew1 | refine below_set ?_ GE271.out) | exact HB.out)); (case side2 => exact Kd.R_tight rfl HO_0.out); (case side3 => exact HR296_3.out); (case side4 => exact HC296_3.out); rintro e w80 ⟨v298, rfl, ho0, hb, hkp⟩; refine ⟨_, rfl, ?_⟩; have n0_ := Aside0.mk (blk_kept (pK BK271.out) hkp (fun hs_ => (fun e_ => (pX HO_0.out BK271.out) e_) hs_)); have n1_ := Aside0.mk (Kd.R_mono (ok' := fun k_ => (P0_ k_ ∨ w.heap.size ≤ k_)) ho0 (fun k_ hk_ => Or.elim hk_ (fun hs_ => (HO_0.out.1 k_ (hs_).symm)) (fun hn_ => (.inr (Nat.le_trans (by first | exact HK.out.1 | exact (show Kept w _ (fun k_ => P0_ k_) from by repeat (first | (with_reducible first | exact HK.out | apply Kept.alloc | apply Kept.drewN | apply Kept.drew | refine Kept.setCell ?_ (.inr GW271.out) _) | exact HK.out)).1) hn_))))); have n2_ := Aside0.mk (Kept.then_ (S := (fun k_ => P0_ k_)) (by repeat (first | (with_reducible first | exact HK.out | apply Kept.alloc | apply Kept.drewN | apply Kept.drew | refine Kept.setCell ?_ (.inr GW271.out) _) | exact HK.out)) hkp (fun k_ hs_ => (fun e_ => (HO_0.out.1 k_ e_.symm)) hs_)); have n3_ := Aside0.mk (hb); clear BK271; clear HK; clear HB; clear HO_0; have BK271 := n0_; have HO299 := n1_; have HK := n2_; have HB := n3_; clear n0_ n1_ n2_ n3_; (try clear hb); (try clear hkp); (try clear ho0)))
                       go_ret2
                       exact ⟨_, pE, pZ, pB, by repeat (first | (with_reducible first | exact HK.out | apply Kept.alloc | apply Kept.drewN | apply Kept.drew | refine Kept.setCell ?_ (.inr GW271.out) _) | exact HK.out)⟩
                     ·rw [if_neg c72] at H
                      exact absurd H (by simp)
                    ·rw [if_neg c71] at H
                     exact absurd H (by simp)
                   ·replace c70 := Bool.eq_false_iff.mpr c70
                    subst c70
                    have H1 : (some (x0_6, 0)) = some (r1, r2) := by rw [if_neg (show ¬ (false = true) by decide)] at H; exact H
                    clear H
                    have H := H1
                    clear H1
                    simp only [Option.some.injEq, Prod.mk.injEq] at H
                    obtain ⟨rfl, rfl⟩ := H
                    go_wp2
                    go_ret2
                    exact ⟨_, pE, by (with_reducible repeat (first | apply Kd.R_alloc | apply Kd.R_drewN | apply Kd.R_drew)); exact HO_0.out, pB, by repeat (first | (with_reducible first | exact HK.out | apply Kept.alloc | apply Kept.drewN | apply Kept.drew | refine Kept.setCell ?_ (.inr GW271.out) _) | exact HK.out)⟩
       ·rw [if_neg c15] at H
        exact absurd H (by simp)
end Go.Proofs.YtlkaffbgekbcfaaDoor.Pr
end
section
namespace Go.Proofs.YtlkaffbgekbcfaaDoor.Pr
open Go.RowKit Go.Proofs.YtlkaffbgekbcfaaDoorW.PrintWords Go.Proofs.YtlkaffbgekbcfaaDoorW.PrintLast Go.Proofs.YtlkaffbgekbcfaaDoorW.PrintMore
attribute [local go_sem] max2_int min2_int max_two min_two max_three min_three max_four min_four
set_option linter.unusedVariables false
set_option linter.unusedSimpArgs false
def minstrelref07_Encode.f (k : Nat) (a0_0 : Int) (a0_1 : Int) (a0_2 : ByteArray) (l0_3 : List (S26)) : Option (List Int × Int) := (minstrelref07_put.f k ([] : List Int) a0_0 a0_1 a0_2 l0_3 0).bind fun bt302 => (some (bt302.1, bt302.2))
theorem minstrelref07_Encode.mono : ∀ a0 a1 a2 a3 k, LeO (minstrelref07_Encode.f k a0 a1 a2 a3) (minstrelref07_Encode.f (k + 1) a0 a1 a2 a3) := by
 intro a0 a1 a2 a3 k
 unfold minstrelref07_Encode.f
 repeat' first
   | (with_reducible exact minstrelref07_put.mono _ _ _ _ _ _ _)
   | (with_reducible exact LeO.refl _)
   | (with_reducible exact LeO.none _)
   | (with_reducible refine LeO.ite ?_ ?_)
   | (with_reducible refine LeO.bind ?_ (fun _ => ?_))
   | exact minstrelref07_put.mono _ _ _ _ _ _ _
   | exact LeO.none _
   | refine LeO.ite ?_ ?_
   | refine LeO.bind ?_ (fun _ => ?_)
set_option maxHeartbeats 8000000 in
set_option maxRecDepth 100000 in
theorem minstrelref07_Encode.calls (k : Nat) (a0_0 : Int) (a0_1 : Int) (a0_2 : ByteArray) (A0_3 : Option Addr) (c0_3 : Nat) (l0_3 : List (S26)) (r1 : List Int) (r2 : Int) (w : World) (hr0_3 : Kd.C k26 w A0_3 l0_3.length l0_3) (hc0_3 : l0_3.length ≤ c0_3) (h : minstrelref07_Encode.f k a0_0 a0_1 a0_2 l0_3 = some (r1, r2)) :
  Calls Tryd.prog 31 #[.agg #[.int .i64 a0_0, .int .u64 a0_1, .string a0_2, .slice A0_3 l0_3.length c0_3]] w fun e w' => ∃ v0_ : Value, e = .returned (.tuple #[v0_, .int .i64 r2]) ∧ Kd.R (Kd.int .u8) 5 w' w.heap.size (fun _ => True) v0_ r1 ∧ Below w.heap.size w w' := by
 have hu26 := Tryd.underlying26
 have HR0_3 := Aside0.mk hr0_3
 have HC0_3 := Aside0.mk hc0_3
 clear hr0_3 hc0_3
 have HB := Aside0.mk (Below.refl w.heap.size w)
 have H : ((minstrelref07_put.f k ([] : List Int) a0_0 a0_1 a0_2 l0_3 0).bind fun bt302 => (some (bt302.1, bt302.2))) = some (r1, r2) := h
 clear h
 replace H := Option.bind_eq_some_iff.mp H
 obtain ⟨⟨t302, t305⟩, A20, H⟩ := H
 replace H : (some (t302, t305)) = some (r1, r2) := H
 have A2 := Aside0.mk A20
 clear A20
 simp only [Option.some.injEq, Prod.mk.injEq] at H
 obtain ⟨rfl, rfl⟩ := H
 go_enter Tryd.func31, Tryd.ntmps31
 go_wp2_with (first | ((with_reducible refine gate_dst (N := 1) rfl ?_); refine box_event ?hg (N := 1) ?hd (cs := #[.int .i64 a0_0, .int .u64 a0_1, .string a0_2, .slice A0_3 l0_3.length c0_3]) (t := 26) ?hr ?_; (case hd => rfl); (case hg => rfl); (case hr => first | (go_simp; done) | (go_simp; rfl)); intro gb301 hg w3 hbox hb; have n0_ := Aside0.mk (below_step pB hb); have n1_ := Aside0.mk (hbox); have n2_ := Aside0.mk ((by rw [hg]; exact (below_size pB) : w.heap.size ≤ gb301)); have n3_ := Aside0.mk ((by rw [hg]; exact (below_size pB) : w.heap.size ≤ gb301)); clear HB; have HB := n0_; have BK301 := n1_; have GW301 := n2_; have GE301 := n3_; clear n0_ n1_ n2_ n3_; clear hb hbox hg; obtain ⟨hcz4_0, hcz4_1, hcz4_2, hcz4_3, hfz4_0, hfz4_1, hfz4_2, hfz4_3⟩ := cf4 BK301.out) | ((with_reducible refine gate_callee (f := 51) rfl ?_); refine goesL_ (some 5) rfl rfl Tryd.func51 (by kernel_rfl) rfl #[.slice none 0 0, .agg #[.int .i64 a0_0, .int .u64 a0_1, .string a0_2, .slice A0_3 l0_3.length c0_3], .int .i64 0] rfl pM ?_; (refine (minstrelref07_put.calls k (fun k_ => some k_ = (.slice none 0 0 : Value).ownBlock) (.slice none 0 0) ([] : List Int) a0_0 a0_1 a0_2 _ _ l0_3 0 t302 t305 w _ ?side1 ?side2 ?side3 ?side4 A2.out).mono ?_); (case side1 => repeat (first | (with_reducible first | exact HB.out | apply below_alloc | apply pw_below_drewN | apply below_drew1 | refine below_set ?_ GE301.out) | exact HB.out)); (case side2 => exact Kd.R_nil _ _ _ _ _); (case side3 => exact HR0_3.out); (case side4 => exact HC0_3.out); rintro e w5 ⟨v303, rfl, ho0, hb, hkp⟩; refine ⟨_, rfl, ?_⟩; have n0_ := Aside0.mk (blk_kept (pK BK301.out) hkp (fun hs_ => (fun e_ => by simp [Value.ownBlock] at e_) hs_)); have n1_ := Aside0.mk (Kd.R_mono (ok' := fun k_ => True) ho0 (fun k_ hk_ => trivial)); have n2_ := Aside0.mk (hb); clear BK301; clear HB; have BK301 := n0_; have HO304 := n1_; have HB := n2_; clear n0_ n1_ n2_; (try clear hb); (try clear hkp); (try clear ho0)))
 go_ret2
 exact ⟨_, pE, by (with_reducible repeat (first | apply Kd.R_alloc | apply Kd.R_drewN | apply Kd.R_drew)); exact HO304.out, pB⟩
def minstrelref07_List.f (l0 : List (S26)) : Option (Int × Int × ByteArray × (List (S26))) := some (2, 0, (⟨#[]⟩ : ByteArray), l0)
set_option maxHeartbeats 8000000 in
set_option maxRecDepth 100000 in
theorem minstrelref07_List.calls (P0_ : Nat → Prop) (A0 : Option Addr) (c0 : Nat) (l0 : List (S26)) (r1 : Int) (r2 : Int) (r3 : ByteArray) (r4 : List (S26)) (w : World) (hs0 : Kd.V k26 26 w w.heap.size (fun k_ => P0_ k_) (.slice A0 l0.length c0) l0) (h : minstrelref07_List.f l0 = some (r1, r2, r3, r4)) :
  Calls Tryd.prog 32 #[.slice A0 l0.length c0] w fun e w' => ∃ v3_ : Value, e = .returned (.agg #[.int .i64 r1, .int .u64 r2, .string r3, v3_]) ∧ Kd.V k26 26 w' w.heap.size (fun k_ => (P0_ k_ ∨ w.heap.size ≤ k_)) v3_ r4 ∧ Below w.heap.size w w' := by
 have hu26 := Tryd.underlying26
 have HO0 := Aside0.mk (show Kd.V k26 26 w w.heap.size (fun k_ => (P0_ k_ ∨ w.heap.size ≤ k_)) (.slice A0 l0.length c0) l0 from Kd.V_mono hs0 (fun k_ hk => .inl hk))
 have HB := Aside0.mk (Below.refl w.heap.size w)
 have H : (some (2, 0, (⟨#[]⟩ : ByteArray), l0)) = some (r1, r2, r3, r4) := h
 clear h
 simp only [Option.some.injEq, Prod.mk.injEq] at H
 obtain ⟨rfl, rfl, rfl, rfl⟩ := H
 go_enter Tryd.func32, Tryd.ntmps32
 go_wp2_with (first | ((with_reducible refine gate_dst (N := 2) rfl ?_); refine box_event ?hg (N := 2) ?hd (cs := #[.int .i64 0, .int .u64 0, .string (⟨#[]⟩ : ByteArray), .slice none 0 0]) (t := 26) ?hr ?_; (case hd => rfl); (case hg => rfl); (case hr => first | (go_simp; done) | (go_simp; rfl)); intro gb306 hg w2 hbox hb; have n0_ := Aside0.mk (Kd.V_below (Kd.V_elderB (pV HO0.out) gb306 (Nat.le_of_eq hg.symm)) hb); have n1_ := Aside0.mk (below_step pB hb); have n2_ := Aside0.mk (hbox); have n3_ := Aside0.mk ((by rw [hg]; exact (below_size pB) : w.heap.size ≤ gb306)); have n4_ := Aside0.mk ((by rw [hg]; exact (below_size pB) : w.heap.size ≤ gb306)); clear HO0; clear HB; have HO0 := n0_; have HB := n1_; have BK306 := n2_; have GW306 := n3_; have GE306 := n4_; clear n0_ n1_ n2_ n3_ n4_; clear hb hbox hg; obtain ⟨hcz3_0, hcz3_1, hcz3_2, hcz3_3, hfz3_0, hfz3_1, hfz3_2, hfz3_3⟩ := cf4 BK306.out))
 refine bodyPost_ret (results_cell_row rfl _ _ gb306 26 #[.int .i64 2, .int .u64 0, .string (⟨#[]⟩ : ByteArray), .slice A0 l0.length c0] (0, 0) _ rfl (by (with_reducible repeat (first | refine blk_drewN ?_ _ | refine blk_drew ?_ | refine blk_alloc ?_ _)); refine blk_put (cs := #[.int .i64 2, .int .u64 0, .string (⟨#[]⟩ : ByteArray), .slice none 0 0]) ?_ 3 _ rfl; (with_reducible repeat (first | refine blk_drewN ?_ _ | refine blk_drew ?_ | refine blk_alloc ?_ _)); refine blk_put (cs := #[.int .i64 2, .int .u64 0, .string (⟨#[]⟩ : ByteArray), .slice none 0 0]) ?_ 2 _ rfl; (with_reducible repeat (first | refine blk_drewN ?_ _ | refine blk_drew ?_ | refine blk_alloc ?_ _)); refine blk_put (cs := #[.int .i64 2, .int .u64 0, .string (⟨#[]⟩ : ByteArray), .slice none 0 0]) ?_ 1 _ rfl; (with_reducible repeat (first | refine blk_drewN ?_ _ | refine blk_drew ?_ | refine blk_alloc ?_ _)); refine blk_put (cs := #[.int .i64 0, .int .u64 0, .string (⟨#[]⟩ : ByteArray), .slice none 0 0]) ?_ 0 _ rfl; (with_reducible repeat (first | refine blk_drewN ?_ _ | refine blk_drew ?_ | refine blk_alloc ?_ _)); exact BK306.out) Tryd.underlying26 rfl (by kernel_rfl)) rfl ?_
 exact ⟨_, pE, by (with_reducible repeat (first | apply Kd.V_alloc | apply Kd.V_drewN | apply Kd.V_drew)); exact Kd.V_mono (Kd.V_far (p := ⟨gb306, 3, none⟩) (Kd.V_far (p := ⟨gb306, 2, none⟩) (Kd.V_far (p := ⟨gb306, 1, none⟩) (Kd.V_far (p := ⟨gb306, 0, none⟩) (Kd.V_mono HO0.out (fun k_ hk => (⟨hk, hk.2⟩ : _ ∧ k_ ≠ gb306))) (fun _ hk => hk.2) (.int .i64 2)) (fun _ hk => hk.2) (.int .u64 0)) (fun _ hk => hk.2) (.string (⟨#[]⟩ : ByteArray))) (fun _ hk => hk.2) (.slice A0 l0.length c0)) (fun _ hk => hk.1.1), pB⟩
def minstrelref07_Number.f (a0 : Int) : Option (Int × Int × ByteArray × (List (S26))) := some (0, a0, (⟨#[]⟩ : ByteArray), ([] : List (S26)))
set_option maxHeartbeats 8000000 in
set_option maxRecDepth 100000 in
theorem minstrelref07_Number.calls (a0 : Int) (r1 : Int) (r2 : Int) (r3 : ByteArray) (r4 : List (S26)) (w : World) (h : minstrelref07_Number.f a0 = some (r1, r2, r3, r4)) :
  Calls Tryd.prog 33 #[.int .u64 a0] w fun e w' => ∃ v3_ : Value, e = .returned (.agg #[.int .i64 r1, .int .u64 r2, .string r3, v3_]) ∧ Kd.R k26 26 w' w.heap.size (fun _ => True) v3_ r4 ∧ Below w.heap.size w w' := by
 have hu26 := Tryd.underlying26
 have HB := Aside0.mk (Below.refl w.heap.size w)
 have H : (some (0, a0, (⟨#[]⟩ : ByteArray), ([] : List (S26)))) = some (r1, r2, r3, r4) := h
 clear h
 simp only [Option.some.injEq, Prod.mk.injEq] at H
 obtain ⟨rfl, rfl, rfl, rfl⟩ := H
 go_enter Tryd.func33, Tryd.ntmps33
 go_wp2_with (first | ((with_reducible refine gate_dst (N := 2) rfl ?_); refine box_event ?hg (N := 2) ?hd (cs := #[.int .i64 0, .int .u64 0, .string (⟨#[]⟩ : ByteArray), .slice none 0 0]) (t := 26) ?hr ?_; (case hd => rfl); (case hg => rfl); (case hr => first | (go_simp; done) | (go_simp; rfl)); intro gb307 hg w2 hbox hb; have n0_ := Aside0.mk (below_step pB hb); have n1_ := Aside0.mk (hbox); have n2_ := Aside0.mk ((by rw [hg]; exact (below_size pB) : w.heap.size ≤ gb307)); have n3_ := Aside0.mk ((by rw [hg]; exact (below_size pB) : w.heap.size ≤ gb307)); clear HB; have HB := n0_; have BK307 := n1_; have GW307 := n2_; have GE307 := n3_; clear n0_ n1_ n2_ n3_; clear hb hbox hg; obtain ⟨hcz3_0, hcz3_1, hcz3_2, hcz3_3, hfz3_0, hfz3_1, hfz3_2, hfz3_3⟩ := cf4 BK307.out))
 refine bodyPost_ret (results_cell_row rfl _ _ gb307 26 #[.int .i64 0, .int .u64 a0, .string (⟨#[]⟩ : ByteArray), .slice none 0 0] (0, 0) _ rfl (by (with_reducible repeat (first | refine blk_drewN ?_ _ | refine blk_drew ?_ | refine blk_alloc ?_ _)); refine blk_put (cs := #[.int .i64 0, .int .u64 a0, .string (⟨#[]⟩ : ByteArray), .slice none 0 0]) ?_ 3 _ rfl; (with_reducible repeat (first | refine blk_drewN ?_ _ | refine blk_drew ?_ | refine blk_alloc ?_ _)); refine blk_put (cs := #[.int .i64 0, .int .u64 a0, .string (⟨#[]⟩ : ByteArray), .slice none 0 0]) ?_ 2 _ rfl; (with_reducible repeat (first | refine blk_drewN ?_ _ | refine blk_drew ?_ | refine blk_alloc ?_ _)); refine blk_put (cs := #[.int .i64 0, .int .u64 0, .string (⟨#[]⟩ : ByteArray), .slice none 0 0]) ?_ 1 _ rfl; (with_reducible repeat (first | refine blk_drewN ?_ _ | refine blk_drew ?_ | refine blk_alloc ?_ _)); refine blk_put (cs := #[.int .i64 0, .int .u64 0, .string (⟨#[]⟩ : ByteArray), .slice none 0 0]) ?_ 0 _ rfl; (with_reducible repeat (first | refine blk_drewN ?_ _ | refine blk_drew ?_ | refine blk_alloc ?_ _)); exact BK307.out) Tryd.underlying26 rfl (by kernel_rfl)) rfl ?_
 exact ⟨_, pE, pZ, pB⟩
def minstrelref19_members.l0 : Nat → List Int → List (S26) → Int → Option (Int × Int × ByteArray × (List (S26)))
 | 0, _, _, _ => none
 | k + 1, x0, x3, x4 => if x4 < (x0.length : Int) then (if 0 ≤ x4 then ((minstrelref07_Number.f (IntKind.u64.wrap (rd x0 x4))).bind fun bt313 => (if x3.length < 2513169434916 then (minstrelref19_members.l0 k x0 (x3 ++ [(⟨bt313.1, bt313.2.1, bt313.2.2.1, bt313.2.2.2⟩ : S26)]) (wrap64 (x4 + 1))) else (none))) else (none)) else ((minstrelref07_List.f x3).bind fun bt322 => (some (bt322.1, bt322.2.1, bt322.2.2.1, bt322.2.2.2)))
def minstrelref19_members.f (k : Nat) (l0 : List Int) : Option (Int × Int × ByteArray × (List (S26))) := minstrelref19_members.l0 k l0 (([] : List (S26))) 0
theorem minstrelref19_members.mono_l : ∀ k, (∀ y0 y1 y2, LeO (minstrelref19_members.l0 k y0 y1 y2) (minstrelref19_members.l0 (k + 1) y0 y1 y2))
 | 0 => fun _ _ _ r h => by simp [minstrelref19_members.l0] at h
 | k + 1 => by
  have ih0 := minstrelref19_members.mono_l k
  ·intro y0 y1 y2
   unfold minstrelref19_members.l0
   repeat' first
   | (with_reducible exact ih0 _ _ _)
   | (with_reducible exact LeO.refl _)
   | (with_reducible exact LeO.none _)
   | (with_reducible refine LeO.ite ?_ ?_)
   | (with_reducible refine LeO.bind ?_ (fun _ => ?_))
   | exact ih0 _ _ _
   | exact LeO.none _
   | refine LeO.ite ?_ ?_
   | refine LeO.bind ?_ (fun _ => ?_)
theorem minstrelref19_members.mono : ∀ a0 k, LeO (minstrelref19_members.f k a0) (minstrelref19_members.f (k + 1) a0) := by
 intro a0 k
 have ih0 := minstrelref19_members.mono_l k
 unfold minstrelref19_members.f
 repeat' first
   | (with_reducible exact ih0 _ _ _)
   | (with_reducible exact LeO.refl _)
   | (with_reducible exact LeO.none _)
   | (with_reducible refine LeO.ite ?_ ?_)
   | (with_reducible refine LeO.bind ?_ (fun _ => ?_))
   | exact ih0 _ _ _
   | exact LeO.none _
   | refine LeO.ite ?_ ?_
   | refine LeO.bind ?_ (fun _ => ?_)
set_option maxHeartbeats 8000000 in
set_option maxRecDepth 100000 in
theorem minstrelref19_members.calls (k : Nat) (A0 : Option Addr) (c0 : Nat) (l0 : List Int) (r1 : Int) (r2 : Int) (r3 : ByteArray) (r4 : List (S26)) (w : World) (hr0 : Kd.C (Kd.int .i64) w A0 l0.length l0) (hc0 : l0.length ≤ c0) (h : minstrelref19_members.f k l0 = some (r1, r2, r3, r4)) :
  Calls Tryd.prog 34 #[.slice A0 l0.length c0] w fun e w' => ∃ v3_ : Value, e = .returned (.agg #[.int .i64 r1, .int .u64 r2, .string r3, v3_]) ∧ Kd.V k26 26 w' w.heap.size (fun k_ => (w.heap.size ≤ k_)) v3_ r4 ∧ Below w.heap.size w w' := by
 have hu26 := Tryd.underlying26
 have HR0 := Aside0.mk hr0
 have HC0 := Aside0.mk hc0
 clear hr0 hc0
 have HB := Aside0.mk (Below.refl w.heap.size w)
 have H : (minstrelref19_members.l0 k l0 (([] : List (S26))) 0) = some (r1, r2, r3, r4) := h
 clear h
 obtain ⟨y309, hy309⟩ : ∃ y_ : List (S26), y_ = (([] : List (S26))) := ⟨_, rfl⟩
 replace H : (minstrelref19_members.l0 k l0 y309 0) = some (r1, r2, r3, r4) := by first | (rw [hy309]; with_reducible exact H) | (have H2_ := (Option.bind_some _ _).symm.trans H; rw [hy309]; with_reducible exact H2_) | (have H2_ := (Option.bind_some _ _).symm.trans H; with_reducible exact H2_) | with_reducible exact H | (rw [hy309]; exact H) | exact H
 have Ny309 := Aside0.mk hy309
 clear hy309
 have H' := Aside0.mk H
 clear H
 go_enter Tryd.func34, Tryd.ntmps34
 go_wp2_with (first | ((with_reducible refine gate_dst (N := 2) rfl ?_); refine box_event ?hg (N := 2) ?hd (cs := #[.int .i64 0, .int .u64 0, .string (⟨#[]⟩ : ByteArray), .slice none 0 0]) (t := 26) ?hr ?_; (case hd => rfl); (case hg => rfl); (case hr => first | (go_simp; done) | (go_simp; rfl)); intro gb308 hg w2 hbox hb; have n0_ := Aside0.mk (below_step pB hb); have n1_ := Aside0.mk (hbox); have n2_ := Aside0.mk ((by rw [hg]; exact (below_size pB) : w.heap.size ≤ gb308)); have n3_ := Aside0.mk ((by rw [hg]; exact (below_size pB) : w.heap.size ≤ gb308)); clear HB; have HB := n0_; have BK308 := n1_; have GW308 := n2_; have GE308 := n3_; clear n0_ n1_ n2_ n3_; clear hb hbox hg) | ((with_reducible refine gate_dst (N := 5) rfl ?_); refine Kd.R_lit k26 _ 26 ?hg (N := 5) ?hd (xs := ([] : List (S26))) (inner := []) (ok := fun _ => True) (okp := fun _ => True) ?hr ?hp (fun _ hk => hk) trivial (Below.refl _ _) (Nat.le_refl _) (by simp) ?_; (case hd => rfl); (case hg => rfl); (case hr => first | (go_simp; done) | (go_simp; rfl)); (case hp => exact (Reps.none _ _)); intro v310 w3 ho4 hb hg_ hnew_; clear hg_ hnew_; (first | rw [← Ny309.out] at ho4 | (simp only [Int.reduceToNat] at ho4; rw [← Ny309.out] at ho4)); have n0_ := Aside0.mk (Kd.R_lower (Kd.R_newB (Kd.R_newM (M := fun k_ => (w.heap.size ≤ k_)) ho4 (below_size pB) (fun k_ h_ => h_)) (g := gb308) (o := .cells #[.int .i64 0, .int .u64 0, .string (⟨#[]⟩ : ByteArray), .slice none 0 0] 26 (0, 0)) (pK BK308.out)) (below_size pB)); have n1_ := Aside0.mk (pkb BK308.out hb); have n2_ := Aside0.mk (below_step pB hb); clear BK308; clear HB; have HO311 := n0_; have BK308 := n1_; have HB := n2_; clear n0_ n1_ n2_; clear hb ho4))
 go_loopg [3, 4] k (fun kq v3 v4 w' => ∃ (x3_1 : List (S26)) (x4_1 : Int), v4 = .int .i64 x4_1 ∧ Aside0 (minstrelref19_members.l0 kq l0 x3_1 x4_1 = some (r1, r2, r3, r4)) ∧ Aside0 (kq ≤ k) ∧ Aside0 (Kd.R k26 26 w' w.heap.size (fun k_ => (w.heap.size ≤ k_) ∧ k_ ≠ gb308) v3 x3_1) ∧ Aside0 (w'.heap[gb308]? = some (.cells #[.int .i64 0, .int .u64 0, .string (⟨#[]⟩ : ByteArray), (.slice none 0 0)] 26 (0, 0))) ∧ Aside0 (Below w.heap.size w w'))
 case atStart => exact ⟨(y309), (0), (by first | rfl | (simp; done) | (simp [*]; done)), H', ⟨Nat.le_refl _⟩, ⟨by (with_reducible repeat (first | apply Kd.R_alloc | apply Kd.R_drewN | apply Kd.R_drew)); exact Kd.R_mono HO311.out (fun _ hk => ⟨hk.1.1, hk.2⟩)⟩, ⟨by (with_reducible repeat (first | refine blk_drewN ?_ _ | refine blk_drew ?_ | refine blk_alloc ?_ _)); exact BK308.out⟩, ⟨pB⟩⟩
 case round =>
  clear H'
  try clear p2
  try clear c3
  obtain ⟨x3_1, x4_1, rfl, HA, HK1, HO_3, BK308, HB⟩ := hrel
  cases gk with
  | zero => exact absurd HA.out (by simp [minstrelref19_members.l0])
  | succ k1 =>
   have H := HA.out
   clear HA
   simp only [minstrelref19_members.l0] at H
   by_cases c5 : x4_1 < (l0.length : Int)
   ·rw [if_pos c5] at H
    have c5b0 : decide (x4_1 < (l0.length : Int)) = true := decide_eq_true c5
    clear c5
    by_cases c6 : 0 ≤ x4_1
    ·rw [if_pos c6] at H
     have c6b0 : decide (0 ≤ x4_1) = true := decide_eq_true c6
     clear c6
     replace H := Option.bind_eq_some_iff.mp H
     obtain ⟨⟨t313, t314, t315, t316⟩, A70, H⟩ := H
     replace H : (if x3_1.length < 2513169434916 then (minstrelref19_members.l0 k1 l0 (x3_1 ++ [(⟨t313, t314, t315, t316⟩ : S26)]) (wrap64 (x4_1 + 1))) else (none)) = some (r1, r2, r3, r4) := H
     have A7 := Aside0.mk A70
     clear A70
     by_cases c8 : x3_1.length < 2513169434916
     ·rw [if_pos c8] at H
      have LMc8 := Aside0.mk c8
      clear c8
      obtain ⟨y319, hy319⟩ : ∃ y_ : List (S26), y_ = (x3_1 ++ [(⟨t313, t314, t315, t316⟩ : S26)]) := ⟨_, rfl⟩
      replace H : (minstrelref19_members.l0 k1 l0 y319 (wrap64 (x4_1 + 1))) = some (r1, r2, r3, r4) := by first | (rw [hy319]; with_reducible exact H) | (have H2_ := (Option.bind_some _ _).symm.trans H; rw [hy319]; with_reducible exact H2_) | (have H2_ := (Option.bind_some _ _).symm.trans H; with_reducible exact H2_) | with_reducible exact H | (rw [hy319]; exact H) | exact H
      have Ny319 := Aside0.mk hy319
      clear hy319
      have H' := Aside0.mk H
      clear H
      have p312 : 0 ≤ (x4_1 : Int) := pD
      have q312 : x4_1 < (l0.length : Int) := pD
      obtain ⟨ad312, e312, hx312_0⟩ := Kd.at_int HR0.out x4_1 p312 q312
      cases e312
      replace hx312_0 := (HB.out.cell (World.block_lt_of_cell? w _ hx312_0)).trans hx312_0
      replace p312 := eq_true p312
      replace q312 := eq_true q312
      go_wp2_with (first | ((with_reducible refine gate_callee (f := 33) rfl ?_); refine goesL_ (some 18) rfl rfl Tryd.func33 (by kernel_rfl) rfl #[.int .u64 (IntKind.u64.wrap (rd l0 x4_1))] rfl pM ?_; (with_reducible refine (minstrelref07_Number.calls (IntKind.u64.wrap (rd l0 x4_1)) t313 t314 t315 t316 _ A7.out).mono ?_); rintro e w9 ⟨v317, rfl, ho0, hb⟩; refine ⟨_, rfl, ?_⟩; have n0_ := Aside0.mk (Kd.R_elder' (pR HO_3.out) (Kd.R_base ho0) hb); have n1_ := Aside0.mk (Kd.R_lower (Kd.R_newB (Kd.R_new' (Kd.R_newM (M := fun k_ => (w.heap.size ≤ k_)) ho0 (below_size pB) (fun k_ h_ => h_)) (Kd.R_lt (pR HO_3.out))) (g := gb308) (o := .cells #[.int .i64 0, .int .u64 0, .string (⟨#[]⟩ : ByteArray), .slice none 0 0] 26 (0, 0)) (pK BK308.out)) (below_size pB)); have n2_ := Aside0.mk (pkb BK308.out hb); have n3_ := Aside0.mk (below_step pB hb); clear HO_3; clear BK308; clear HB; have HO_3 := n0_; have HO318 := n1_; have BK308 := n2_; have HB := n3_; clear n0_ n1_ n2_ n3_; (try clear hb); (try clear hb2); (try clear hk); (try clear hi); (try clear ho0); obtain ⟨Ao11, co11, eo11⟩ := Kd.R_slice HO318.out; subst eo11) | ((with_reducible refine gate_builtin (b := .append) (xs := #[.tmp 12, .tmp 19]) rfl ?_); at_builtin; refine Kd.R_append k26 (w0 := w) w.heap.size rfl (.tmp 12) (.tmp 19) 24 26 (.agg #[(.int .i64 0), (.int .u64 0), (.string ⟨#[]⟩), (.slice none 0 0)]) 56 rfl Tryd.underlying24 info26 rfl (by decide) (by omega) u3 x3_1 (⟨t313, t314, t315, t316⟩ : S26) [.int .i64 t313, .int .u64 t314, .string t315, .slice Ao11 t316.length co11] (fun k_ => (w.heap.size ≤ k_) ∧ k_ ≠ gb308) (fun k_ => ((fun k_ => (w.heap.size ≤ k_) ∧ k_ ≠ gb308)) k_ ∧ some k_ ≠ (u3 : Value).ownBlock) rfl rfl ?aP (fun _ hk => hk) ?aF ?aO ?aB ?aS ?aL ?_; (case aP => exact k26_mkM _ _ _ (⟨t313, t314, t315, t316⟩ : S26) (Kd.R_mono (HO318.out) (fun k_ hk => ⟨⟨hk.1.1.1, hk.2⟩, hk.1.2⟩))); (case aB => exact pB); (case aF => exact (fun k_ hk => ⟨(Nat.le_trans (below_size pB) hk), Kd.freshB (g := gb308) (o := .cells #[.int .i64 0, .int .u64 0, .string (⟨#[]⟩ : ByteArray), .slice none 0 0] 26 (0, 0)) (pK BK308.out) k_ hk⟩)); (case aO => exact (by (with_reducible repeat (first | apply Kd.R_alloc | apply Kd.R_drewN | apply Kd.R_drew)); exact Kd.R_mono HO_3.out (fun _ hk => ⟨hk.1.1, hk.1.2⟩))); (case aS => exact (below_size pB)); (case aL => have := LMc8.out; omega); intro v320 w10 ho hb hg hat; rw [← Ny319.out] at ho; have n0_ := Aside0.mk (blk_grown (g := gb308) (o := .cells #[.int .i64 0, .int .u64 0, .string (⟨#[]⟩ : ByteArray), .slice none 0 0] 26 (0, 0)) (pK BK308.out) hg (Kd.R_away HO_3.out (fun _ hk => hk.1.2))); have n1_ := Aside0.mk (hb); have n2_ := Aside0.mk (ho); clear BK308; clear HB; clear HO_3; clear HO318; have BK308 := n0_; have HB := n1_; have HO321 := n2_; clear n0_ n1_ n2_; clear ho hb hg hat))
      go_roundg k1
      case measure => have := HK1.out; omega
      case rel => exact ⟨(y319), (wrap64 (x4_1 + 1)), (by first | rfl | (simp; done) | (simp [*]; done)), H', ⟨by have := HK1.out; omega⟩, ⟨by (with_reducible repeat (first | apply Kd.R_alloc | apply Kd.R_drewN | apply Kd.R_drew)); exact HO321.out⟩, ⟨by (with_reducible repeat (first | refine blk_drewN ?_ _ | refine blk_drew ?_ | refine blk_alloc ?_ _)); exact BK308.out⟩, ⟨pB⟩⟩
     ·rw [if_neg c8] at H
      exact absurd H (by simp)
    ·rw [if_neg c6] at H
     exact absurd H (by simp)
   ·rw [if_neg c5] at H
    have c5b0 : decide (x4_1 < (l0.length : Int)) = false := decide_eq_false c5
    clear c5
    replace H := Option.bind_eq_some_iff.mp H
    obtain ⟨⟨t322, t323, t324, t325⟩, A120, H⟩ := H
    replace H : (some (t322, t323, t324, t325)) = some (r1, r2, r3, r4) := H
    have A12 := Aside0.mk A120
    clear A120
    simp only [Option.some.injEq, Prod.mk.injEq] at H
    obtain ⟨rfl, rfl, rfl, rfl⟩ := H
    obtain ⟨Ao13, co13, eo13⟩ := Kd.R_slice HO_3.out
    subst eo13
    go_wp2_with (first | ((with_reducible refine gate_callee (f := 32) rfl ?_); refine goesL_ (some 22) rfl rfl Tryd.func32 (by kernel_rfl) rfl #[.slice Ao13 x3_1.length co13] rfl pM ?_; (with_reducible refine (minstrelref07_List.calls (fun k_ => ((w.heap.size ≤ k_) ∧ k_ ≠ gb308)) _ _ x3_1 t322 t323 t324 t325 _ ?side1 A12.out).mono ?_); (case side1 => exact Kd.R_V (HO_3.out)); rintro e w14 ⟨v326, rfl, ho0, hb⟩; refine ⟨_, rfl, ?_⟩; have n0_ := Aside0.mk (Kd.R_below (pR HO_3.out) hb); have n1_ := Aside0.mk (Kd.V_lower (Kd.V_mono (ok' := fun k_ => (w.heap.size ≤ k_) ∧ k_ ≠ gb308) ho0 (fun k_ hk_ => ⟨Or.elim hk_ (fun hs_ => hs_.1) (fun hn_ => (Nat.le_trans (below_size pB) hn_)), Or.elim hk_ (fun hs_ => hs_.2) (fun hn_ => (Kd.freshB (g := gb308) (o := .cells #[.int .i64 0, .int .u64 0, .string (⟨#[]⟩ : ByteArray), .slice none 0 0] 26 (0, 0)) (pK BK308.out) k_ hn_))⟩)) (below_size pB)); have n2_ := Aside0.mk (pkb BK308.out hb); have n3_ := Aside0.mk (below_step pB hb); clear HO_3; clear BK308; clear HB; have HO_3 := n0_; have HO327 := n1_; have BK308 := n2_; have HB := n3_; clear n0_ n1_ n2_ n3_; (try clear hb); (try clear hb2); (try clear hk); (try clear hi); (try clear ho0); obtain ⟨hcz15_0, hcz15_1, hcz15_2, hcz15_3, hfz15_0, hfz15_1, hfz15_2, hfz15_3⟩ := cf4 BK308.out; obtain ⟨Ao16, co16, eo16⟩ := Kd.V_slice HO327.out; subst eo16))
    refine bodyPost_ret (results_cell_row rfl _ _ gb308 26 #[.int .i64 t322, .int .u64 t323, .string t324, .slice Ao16 t325.length co16] (0, 0) _ rfl (by (with_reducible repeat (first | refine blk_drewN ?_ _ | refine blk_drew ?_ | refine blk_alloc ?_ _)); refine blk_put (cs := #[.int .i64 t322, .int .u64 t323, .string t324, .slice none 0 0]) ?_ 3 _ rfl; (with_reducible repeat (first | refine blk_drewN ?_ _ | refine blk_drew ?_ | refine blk_alloc ?_ _)); refine blk_put (cs := #[.int .i64 t322, .int .u64 t323, .string (⟨#[]⟩ : ByteArray), .slice none 0 0]) ?_ 2 _ rfl; (with_reducible repeat (first | refine blk_drewN ?_ _ | refine blk_drew ?_ | refine blk_alloc ?_ _)); refine blk_put (cs := #[.int .i64 t322, .int .u64 0, .string (⟨#[]⟩ : ByteArray), .slice none 0 0]) ?_ 1 _ rfl; (with_reducible repeat (first | refine blk_drewN ?_ _ | refine blk_drew ?_ | refine blk_alloc ?_ _)); refine blk_put (cs := #[.int .i64 0, .int .u64 0, .string (⟨#[]⟩ : ByteArray), .slice none 0 0]) ?_ 0 _ rfl; (with_reducible repeat (first | refine blk_drewN ?_ _ | refine blk_drew ?_ | refine blk_alloc ?_ _)); exact BK308.out) Tryd.underlying26 rfl (by kernel_rfl)) rfl ?_
    exact ⟨_, pE, by (with_reducible repeat (first | apply Kd.V_alloc | apply Kd.V_drewN | apply Kd.V_drew)); exact Kd.V_mono (Kd.V_far (p := ⟨gb308, 3, none⟩) (Kd.V_far (p := ⟨gb308, 2, none⟩) (Kd.V_far (p := ⟨gb308, 1, none⟩) (Kd.V_far (p := ⟨gb308, 0, none⟩) (Kd.V_mono HO327.out (fun k_ hk => (⟨hk, hk.2⟩ : _ ∧ k_ ≠ gb308))) (fun _ hk => hk.2) (.int .i64 t322)) (fun _ hk => hk.2) (.int .u64 t323)) (fun _ hk => hk.2) (.string t324)) (fun _ hk => hk.2) (.slice Ao16 t325.length co16)) (fun _ hk => hk.1.1), pB⟩
def minstrelref06_Four.f (a0 : Int) : Option (List Int) := some (([(a0 / 16777216) % 256, (Go.bits .and .u32 (a0 / 65536) 255) % 256, (Go.bits .and .u32 (a0 / 256) 255) % 256, (Go.bits .and .u32 a0 255) % 256] : List Int))
set_option maxHeartbeats 8000000 in
set_option maxRecDepth 100000 in
theorem minstrelref06_Four.calls (a0 : Int) (r : List Int) (w : World) (h : minstrelref06_Four.f a0 = some r) :
  Calls Tryd.prog 52 #[.int .u32 a0] w fun e w' => ∃ v0_ : Value, e = .returned (v0_) ∧ Kd.R (Kd.int .u8) 5 w' w.heap.size (fun _ => True) v0_ r ∧ Below w.heap.size w w' := by
 have HB := Aside0.mk (Below.refl w.heap.size w)
 have H : (some (([(a0 / 16777216) % 256, (Go.bits .and .u32 (a0 / 65536) 255) % 256, (Go.bits .and .u32 (a0 / 256) 255) % 256, (Go.bits .and .u32 a0 255) % 256] : List Int))) = some r := h
 clear h
 obtain ⟨y328, hy328⟩ : ∃ y_ : List Int, y_ = (([(a0 / 16777216) % 256, (Go.bits .and .u32 (a0 / 65536) 255) % 256, (Go.bits .and .u32 (a0 / 256) 255) % 256, (Go.bits .and .u32 a0 255) % 256] : List Int)) := ⟨_, rfl⟩
 replace H : (some y328) = some r := by first | (rw [hy328]; with_reducible exact H) | (have H2_ := (Option.bind_some _ _).symm.trans H; rw [hy328]; with_reducible exact H2_) | (have H2_ := (Option.bind_some _ _).symm.trans H; with_reducible exact H2_) | with_reducible exact H | (rw [hy328]; exact H) | exact H
 have Ny328 := Aside0.mk hy328
 clear hy328
 obtain rfl := Option.some.inj H
 go_enter Tryd.func52, Tryd.ntmps52
 go_wp2_with (first | ((with_reducible refine gate_dst (N := 17) rfl ?_); refine Kd.R_lit (Kd.int .u8) _ 5 ?hg (N := 17) ?hd (xs := ([(a0 / 16777216) % 256, (Go.bits .and .u32 (a0 / 65536) 255) % 256, (Go.bits .and .u32 (a0 / 256) 255) % 256, (Go.bits .and .u32 a0 255) % 256] : List Int)) (inner := [.int .u8 ((a0 / 16777216) % 256), .int .u8 ((Go.bits .and .u32 (a0 / 65536) 255) % 256), .int .u8 ((Go.bits .and .u32 (a0 / 256) 255) % 256), .int .u8 ((Go.bits .and .u32 a0 255) % 256)]) (ok := fun _ => True) (okp := fun _ => True) ?hr ?hp (fun _ hk => hk) trivial (Below.refl _ _) (Nat.le_refl _) (by simp) ?_; (case hd => rfl); (case hg => rfl); (case hr => first | (go_simp; done) | (go_simp; rfl)); (case hp => exact (Reps.one (show Kd.M (Kd.int .u8) _ _ _ ((a0 / 16777216) % 256) [.int .u8 ((a0 / 16777216) % 256)] from rfl) (Reps.one (show Kd.M (Kd.int .u8) _ _ _ ((Go.bits .and .u32 (a0 / 65536) 255) % 256) [.int .u8 ((Go.bits .and .u32 (a0 / 65536) 255) % 256)] from rfl) (Reps.one (show Kd.M (Kd.int .u8) _ _ _ ((Go.bits .and .u32 (a0 / 256) 255) % 256) [.int .u8 ((Go.bits .and .u32 (a0 / 256) 255) % 256)] from rfl) (Reps.one (show Kd.M (Kd.int .u8) _ _ _ ((Go.bits .and .u32 a0 255) % 256) [.int .u8 ((Go.bits .and .u32 a0 255) % 256)] from rfl) (Reps.none _ _)))))); intro v329 w2 ho3 hb hg_ hnew_; clear hg_ hnew_; (first | rw [← Ny328.out] at ho3 | (simp only [Int.reduceToNat] at ho3; rw [← Ny328.out] at ho3)); have n0_ := Aside0.mk (Kd.R_lower ho3 (below_size pB)); have n1_ := Aside0.mk (below_step pB hb); clear HB; have HO330 := n0_; have HB := n1_; clear n0_ n1_; clear hb ho3))
 go_ret
 exact ⟨_, pE, by (with_reducible repeat (first | apply Kd.R_alloc | apply Kd.R_drewN | apply Kd.R_drew)); exact HO330.out, pB⟩
mutual
def minstrelref06_Sum.l0 : Nat → List Int → Int → Int → Option (Int)
 | 0, _, _, _ => none
 | k + 1, x0, x3, x4 => if x4 < (x0.length : Int) then (minstrelref06_Sum.l1 k x0 x3 x4 0) else (some (Go.bits .xor .u32 4294967295 x3))
def minstrelref06_Sum.l1 : Nat → List Int → Int → Int → Int → Option (Int)
 | 0, _, _, _, _ => none
 | k + 1, x0, x3, x4, x5 => if x5 < 8 then (if 0 ≤ x4 then (if x4 < (x0.length : Int) then (if 0 ≤ (IntKind.u64.wrap (x5)) then (if (Go.bits .and .u32 x3 1) = ((Go.bits .and .u8 (shr .u8 (rd x0 x4) (IntKind.u64.wrap (x5))) 1) % 4294967296) then (minstrelref06_Sum.l1 k x0 (x3 / 2) x4 (wrap64 (x5 + 1))) else (minstrelref06_Sum.l1 k x0 (Go.bits .xor .u32 (x3 / 2) 3988292384) x4 (wrap64 (x5 + 1)))) else (none)) else (none)) else (none)) else (minstrelref06_Sum.l0 k x0 x3 (wrap64 (x4 + 1)))
end
def minstrelref06_Sum.f (k : Nat) (l0 : List Int) : Option (Int) := minstrelref06_Sum.l0 k l0 4294967295 0
theorem minstrelref06_Sum.mono_l : ∀ k, (∀ y0 y1 y2, LeO (minstrelref06_Sum.l0 k y0 y1 y2) (minstrelref06_Sum.l0 (k + 1) y0 y1 y2)) ∧ (∀ y0 y1 y2 y3, LeO (minstrelref06_Sum.l1 k y0 y1 y2 y3) (minstrelref06_Sum.l1 (k + 1) y0 y1 y2 y3))
 | 0 => ⟨fun _ _ _ r h => by simp [minstrelref06_Sum.l0] at h, fun _ _ _ _ r h => by simp [minstrelref06_Sum.l1] at h⟩
 | k + 1 => by
  obtain ⟨ih0, ih1⟩ := minstrelref06_Sum.mono_l k
  refine ⟨?_, ?_⟩
  ·intro y0 y1 y2
   unfold minstrelref06_Sum.l0
   repeat' first
   | (with_reducible exact ih0 _ _ _)
   | (with_reducible exact ih1 _ _ _ _)
   | (with_reducible exact LeO.refl _)
   | (with_reducible exact LeO.none _)
   | (with_reducible refine LeO.ite ?_ ?_)
   | (with_reducible refine LeO.bind ?_ (fun _ => ?_))
   | exact ih0 _ _ _
   | exact ih1 _ _ _ _
   | exact LeO.none _
   | refine LeO.ite ?_ ?_
   | refine LeO.bind ?_ (fun _ => ?_)
  ·intro y0 y1 y2 y3
   unfold minstrelref06_Sum.l1
   repeat' first
   | (with_reducible exact ih0 _ _ _)
   | (with_reducible exact ih1 _ _ _ _)
   | (with_reducible exact LeO.refl _)
   | (with_reducible exact LeO.none _)
   | (with_reducible refine LeO.ite ?_ ?_)
   | (with_reducible refine LeO.bind ?_ (fun _ => ?_))
   | exact ih0 _ _ _
   | exact ih1 _ _ _ _
   | exact LeO.none _
   | refine LeO.ite ?_ ?_
   | refine LeO.bind ?_ (fun _ => ?_)
theorem minstrelref06_Sum.mono : ∀ a0 k, LeO (minstrelref06_Sum.f k a0) (minstrelref06_Sum.f (k + 1) a0) := by
 intro a0 k
 obtain ⟨ih0, ih1⟩ := minstrelref06_Sum.mono_l k
 unfold minstrelref06_Sum.f
 repeat' first
   | (with_reducible exact ih0 _ _ _)
   | (with_reducible exact ih1 _ _ _ _)
   | (with_reducible exact LeO.refl _)
   | (with_reducible exact LeO.none _)
   | (with_reducible refine LeO.ite ?_ ?_)
   | (with_reducible refine LeO.bind ?_ (fun _ => ?_))
   | exact ih0 _ _ _
   | exact ih1 _ _ _ _
   | exact LeO.none _
   | refine LeO.ite ?_ ?_
   | refine LeO.bind ?_ (fun _ => ?_)
set_option maxHeartbeats 8000000 in
set_option maxRecDepth 100000 in
theorem minstrelref06_Sum.calls (k : Nat) (A0 : Option Addr) (c0 : Nat) (l0 : List Int) (r : Int) (w : World) (hr0 : Kd.C (Kd.int .u8) w A0 l0.length l0) (hc0 : l0.length ≤ c0) (h : minstrelref06_Sum.f k l0 = some r) :
  Calls Tryd.prog 53 #[.slice A0 l0.length c0] w fun e w' => e = .returned (.int .u32 r) ∧ Drawn0 w w' := by
 have HR0 := Aside0.mk hr0
 have HC0 := Aside0.mk hc0
 clear hr0 hc0
 have H : (minstrelref06_Sum.l0 k l0 4294967295 0) = some r := h
 clear h
 have H' := Aside0.mk H
 clear H
 go_enter Tryd.func53, Tryd.ntmps53
 go_wp2
 go_loopg [3, 4] k (fun kq v3 v4 w' => ∃ (x3_1 : Int) (x4_1 : Int), v3 = .int .u32 x3_1 ∧ v4 = .int .i64 x4_1 ∧ Aside0 (minstrelref06_Sum.l0 kq l0 x3_1 x4_1 = some r) ∧ Aside0 (kq ≤ k) ∧ Drawn0 w w')
 case atStart => exact ⟨(4294967295), (0), (by first | rfl | (simp; done) | (simp [*]; done)), (by first | rfl | (simp; done) | (simp [*]; done)), H', ⟨Nat.le_refl _⟩, by repeat (first | exact Drawn0.refl _ | apply Drawn0.step)⟩
 case round =>
  clear H'
  obtain ⟨x3_1, x4_1, rfl, rfl, HA, HK1, ⟨m1, rfl⟩⟩ := hrel
  cases gk with
  | zero => exact absurd HA.out (by simp [minstrelref06_Sum.l0])
  | succ k1 =>
   have H := HA.out
   clear HA
   simp only [minstrelref06_Sum.l0] at H
   by_cases c2 : x4_1 < (l0.length : Int)
   ·rw [if_pos c2] at H
    have c2b0 : decide (x4_1 < (l0.length : Int)) = true := decide_eq_true c2
    clear c2
    have H' := Aside0.mk H
    clear H
    go_wp2
    go_loopg [3, 5] k1 (fun kq v3 v5 w' => ∃ (x3_2 : Int) (x5_2 : Int), v3 = .int .u32 x3_2 ∧ v5 = .int .i64 x5_2 ∧ Aside0 (minstrelref06_Sum.l1 kq l0 x3_2 x4_1 x5_2 = some r) ∧ Aside0 (kq ≤ k1) ∧ Drawn0 w w')
    case atStart => exact ⟨(x3_1), (0), (by first | rfl | (simp; done) | (simp [*]; done)), (by first | rfl | (simp; done) | (simp [*]; done)), H', ⟨Nat.le_refl _⟩, by repeat (first | exact Drawn0.refl _ | apply Drawn0.step)⟩
    case round =>
     clear H'
     try clear c2
     try clear c2b0
     try clear p2
     obtain ⟨x3_2, x5_2, rfl, rfl, HA, HK2, ⟨m2, rfl⟩⟩ := hrel
     cases gk with
     | zero => exact absurd HA.out (by simp [minstrelref06_Sum.l1])
     | succ k2 =>
      have H := HA.out
      clear HA
      simp only [minstrelref06_Sum.l1] at H
      by_cases c3 : x5_2 < 8
      ·rw [if_pos c3] at H
       have c3b0 : decide (x5_2 < 8) = true := decide_eq_true c3
       clear c3
       by_cases c4 : 0 ≤ x4_1
       ·rw [if_pos c4] at H
        have c4b0 : decide (0 ≤ x4_1) = true := decide_eq_true c4
        clear c4
        by_cases c5 : x4_1 < (l0.length : Int)
        ·rw [if_pos c5] at H
         have c5b0 : decide (x4_1 < (l0.length : Int)) = true := decide_eq_true c5
         clear c5
         obtain ⟨ji6, hji6⟩ : ∃ j_ : Int, (IntKind.u64.wrap (x5_2)) = j_ := ⟨_, rfl⟩
         replace H : (if 0 ≤ (ji6) then (if (Go.bits .and .u32 x3_2 1) = ((Go.bits .and .u8 (shr .u8 (rd l0 x4_1) (ji6)) 1) % 4294967296) then (minstrelref06_Sum.l1 k2 l0 (x3_2 / 2) x4_1 (wrap64 (x5_2 + 1))) else (minstrelref06_Sum.l1 k2 l0 (Go.bits .xor .u32 (x3_2 / 2) 3988292384) x4_1 (wrap64 (x5_2 + 1)))) else (none)) = some r := by first | (rw [hji6] at H; exact H) | (simp only [hji6] at H ⊢; exact H)
         by_cases c7 : 0 ≤ (ji6)
         ·rw [if_pos c7] at H
          have c7b0 := eq_true c7
          have c7b1 : decide (0 ≤ (ji6)) = true := decide_eq_true c7
          clear c7
          obtain ⟨ji8, hji8⟩ : ∃ j_ : Int, (shr .u8 (rd l0 x4_1) (ji6)) = j_ := ⟨_, rfl⟩
          replace H : (if (Go.bits .and .u32 x3_2 1) = ((Go.bits .and .u8 (ji8) 1) % 4294967296) then (minstrelref06_Sum.l1 k2 l0 (x3_2 / 2) x4_1 (wrap64 (x5_2 + 1))) else (minstrelref06_Sum.l1 k2 l0 (Go.bits .xor .u32 (x3_2 / 2) 3988292384) x4_1 (wrap64 (x5_2 + 1)))) = some r := by first | (rw [hji8] at H; exact H) | (simp only [hji8] at H ⊢; exact H)
          have hji8_ : ((rd l0 x4_1) / 2 ^ min (ji6).toNat 8) = ji8 := hji8
          have hji8z : (ji6) ≤ 8 → ((rd l0 x4_1) / 2 ^ (ji6).toNat) = ji8 := shr_small hji8
          by_cases c9 : (Go.bits .and .u32 x3_2 1) = ((Go.bits .and .u8 (ji8) 1) % 4294967296)
          ·rw [if_pos c9] at H
           have c9b0 : ((Go.bits .and .u32 x3_2 1) == ((Go.bits .and .u8 (ji8) 1) % 4294967296)) = true := beq_iff_eq.mpr c9
           have c9b1 : ((Go.bits .and .u32 x3_2 1) != ((Go.bits .and .u8 (ji8) 1) % 4294967296)) = false := bne_eq_false_iff_eq.mpr c9
           clear c9
           have H' := Aside0.mk H
           clear H
           have p331 : 0 ≤ (x4_1 : Int) := pD
           have q331 : x4_1 < (l0.length : Int) := pD
           obtain ⟨ad331, e331, hx331_0⟩ := Kd.at_int HR0.out x4_1 p331 q331
           cases e331
           replace p331 := eq_true p331
           replace q331 := eq_true q331
           go_wp2
           go_roundg k2
           case measure => have := HK1.out; have := HK2.out; omega
           case rel => exact ⟨(x3_2 / 2), (wrap64 (x5_2 + 1)), (by first | rfl | (simp; done) | (simp [*]; done)), (by first | rfl | (simp; done) | (simp [*]; done)), H', ⟨by have := HK1.out; have := HK2.out; omega⟩, by repeat (first | exact Drawn0.refl _ | apply Drawn0.step)⟩
          ·rw [if_neg c9] at H
           have c9b0 : ((Go.bits .and .u32 x3_2 1) == ((Go.bits .and .u8 (ji8) 1) % 4294967296)) = false := beq_eq_false_iff_ne.mpr c9
           have c9b1 : ((Go.bits .and .u32 x3_2 1) != ((Go.bits .and .u8 (ji8) 1) % 4294967296)) = true := bne_iff_ne.mpr c9
           have H' := Aside0.mk H
           clear H
           have p331 : 0 ≤ (x4_1 : Int) := pD
           have q331 : x4_1 < (l0.length : Int) := pD
           obtain ⟨ad331, e331, hx331_0⟩ := Kd.at_int HR0.out x4_1 p331 q331
           cases e331
           replace p331 := eq_true p331
           replace q331 := eq_true q331
           go_wp2
           go_roundg k2
           case measure => have := HK1.out; have := HK2.out; omega
           case rel => exact ⟨(Go.bits .xor .u32 (x3_2 / 2) 3988292384), (wrap64 (x5_2 + 1)), (by first | rfl | (simp; done) | (simp [*]; done)), (by first | rfl | (simp; done) | (simp [*]; done)), H', ⟨by have := HK1.out; have := HK2.out; omega⟩, by repeat (first | exact Drawn0.refl _ | apply Drawn0.step)⟩
         ·rw [if_neg c7] at H
          exact absurd H (by simp)
        ·rw [if_neg c5] at H
         exact absurd H (by simp)
       ·rw [if_neg c4] at H
        exact absurd H (by simp)
      ·rw [if_neg c3] at H
       have c3b0 : decide (x5_2 < 8) = false := decide_eq_false c3
       clear c3
       have H' := Aside0.mk H
       clear H
       go_wp2
       go_roundg k2
       case measure => have := HK1.out; have := HK2.out; omega
       case rel => exact ⟨(x3_2), (wrap64 (x4_1 + 1)), (by first | rfl | (simp; done) | (simp [*]; done)), (by first | rfl | (simp; done) | (simp [*]; done)), H', ⟨by have := HK1.out; have := HK2.out; omega⟩, by repeat (first | exact Drawn0.refl _ | apply Drawn0.step)⟩
   ·rw [if_neg c2] at H
    have c2b0 : decide (x4_1 < (l0.length : Int)) = false := decide_eq_false c2
    clear c2
    obtain rfl := Option.some.inj H
    go_wp2
    go_ret
    exact ⟨by first | rfl | (simp; done) | (simp [*]; done), by repeat (first | exact Drawn0.refl _ | apply Drawn0.step)⟩
def minstrelref06_Frame.f (k : Nat) (l0 : List Int) : Option (List Int) := (minstrelref06_Four.f (((l0.length : Int)) % 4294967296)).bind fun t332 => ((some (([] : List Int) : List Int)).bind fun y335 => (if y335.length + t332.length < 140737488355328 then ((some (y335 ++ t332 : List Int)).bind fun y338 => (if y338.length + l0.length < 140737488355328 then ((minstrelref06_Sum.f k (y338 ++ l0)).bind fun t344 => ((minstrelref06_Four.f t344).bind fun t345 => ((some (([] : List Int) : List Int)).bind fun y348 => (if y348.length + t332.length < 140737488355328 then ((some (y348 ++ t332 : List Int)).bind fun y351 => (if y351.length + t345.length < 140737488355328 then ((some (y351 ++ t345 : List Int)).bind fun y354 => (if y354.length + l0.length < 140737488355328 then (some (y354 ++ l0)) else (none))) else (none))) else (none))))) else (none))) else (none)))
theorem minstrelref06_Frame.mono : ∀ a0 k, LeO (minstrelref06_Frame.f k a0) (minstrelref06_Frame.f (k + 1) a0) := by
 intro a0 k
 unfold minstrelref06_Frame.f
 repeat' first
   | (with_reducible exact minstrelref06_Sum.mono _ _)
   | (with_reducible exact LeO.refl _)
   | (with_reducible exact LeO.none _)
   | (with_reducible refine LeO.ite ?_ ?_)
   | (with_reducible refine LeO.bind ?_ (fun _ => ?_))
   | exact minstrelref06_Sum.mono _ _
   | exact LeO.none _
   | refine LeO.ite ?_ ?_
   | refine LeO.bind ?_ (fun _ => ?_)
set_option maxHeartbeats 8000000 in
set_option maxRecDepth 100000 in
theorem minstrelref06_Frame.calls (k : Nat) (A0 : Option Addr) (c0 : Nat) (l0 : List Int) (r : List Int) (w : World) (hr0 : Kd.C (Kd.int .u8) w A0 l0.length l0) (hc0 : l0.length ≤ c0) (h : minstrelref06_Frame.f k l0 = some r) :
  Calls Tryd.prog 35 #[.slice A0 l0.length c0] w fun e w' => ∃ v0_ : Value, e = .returned (v0_) ∧ Kd.R (Kd.int .u8) 5 w' w.heap.size (fun _ => True) v0_ r ∧ Below w.heap.size w w' := by
 have HR0 := Aside0.mk hr0
 have HC0 := Aside0.mk hc0
 clear hr0 hc0
 have HB := Aside0.mk (Below.refl w.heap.size w)
 have H : ((minstrelref06_Four.f (((l0.length : Int)) % 4294967296)).bind fun t332 => ((some (([] : List Int) : List Int)).bind fun y335 => (if y335.length + t332.length < 140737488355328 then ((some (y335 ++ t332 : List Int)).bind fun y338 => (if y338.length + l0.length < 140737488355328 then ((minstrelref06_Sum.f k (y338 ++ l0)).bind fun t344 => ((minstrelref06_Four.f t344).bind fun t345 => ((some (([] : List Int) : List Int)).bind fun y348 => (if y348.length + t332.length < 140737488355328 then ((some (y348 ++ t332 : List Int)).bind fun y351 => (if y351.length + t345.length < 140737488355328 then ((some (y351 ++ t345 : List Int)).bind fun y354 => (if y354.length + l0.length < 140737488355328 then (some (y354 ++ l0)) else (none))) else (none))) else (none))))) else (none))) else (none)))) = some r := h
 clear h
 replace H := Option.bind_eq_some_iff.mp H
 obtain ⟨t332, A20, H⟩ := H
 replace H : ((some (([] : List Int) : List Int)).bind fun y335 => (if y335.length + t332.length < 140737488355328 then ((some (y335 ++ t332 : List Int)).bind fun y338 => (if y338.length + l0.length < 140737488355328 then ((minstrelref06_Sum.f k (y338 ++ l0)).bind fun t344 => ((minstrelref06_Four.f t344).bind fun t345 => ((some (([] : List Int) : List Int)).bind fun y348 => (if y348.length + t332.length < 140737488355328 then ((some (y348 ++ t332 : List Int)).bind fun y351 => (if y351.length + t345.length < 140737488355328 then ((some (y351 ++ t345 : List Int)).bind fun y354 => (if y354.length + l0.length < 140737488355328 then (some (y354 ++ l0)) else (none))) else (none))) else (none))))) else (none))) else (none))) = some r := H
 have A2 := Aside0.mk A20
 clear A20
 obtain ⟨y335, hy335⟩ : ∃ y_ : List Int, y_ = (([] : List Int)) := ⟨_, rfl⟩
 replace H : (if y335.length + t332.length < 140737488355328 then ((some (y335 ++ t332 : List Int)).bind fun y338 => (if y338.length + l0.length < 140737488355328 then ((minstrelref06_Sum.f k (y338 ++ l0)).bind fun t344 => ((minstrelref06_Four.f t344).bind fun t345 => ((some (([] : List Int) : List Int)).bind fun y348 => (if y348.length + t332.length < 140737488355328 then ((some (y348 ++ t332 : List Int)).bind fun y351 => (if y351.length + t345.length < 140737488355328 then ((some (y351 ++ t345 : List Int)).bind fun y354 => (if y354.length + l0.length < 140737488355328 then (some (y354 ++ l0)) else (none))) else (none))) else (none))))) else (none))) else (none)) = some r := by first | (rw [hy335]; with_reducible exact H) | (have H2_ := (Option.bind_some _ _).symm.trans H; rw [hy335]; with_reducible exact H2_) | (have H2_ := (Option.bind_some _ _).symm.trans H; with_reducible exact H2_) | with_reducible exact H | (rw [hy335]; exact H) | exact H
 have Ny335 := Aside0.mk hy335
 clear hy335
 by_cases c3 : y335.length + t332.length < 140737488355328
 ·rw [if_pos c3] at H
  have LMc3 := Aside0.mk c3
  clear c3
  obtain ⟨y338, hy338⟩ : ∃ y_ : List Int, y_ = (y335 ++ t332) := ⟨_, rfl⟩
  replace H : (if y338.length + l0.length < 140737488355328 then ((minstrelref06_Sum.f k (y338 ++ l0)).bind fun t344 => ((minstrelref06_Four.f t344).bind fun t345 => ((some (([] : List Int) : List Int)).bind fun y348 => (if y348.length + t332.length < 140737488355328 then ((some (y348 ++ t332 : List Int)).bind fun y351 => (if y351.length + t345.length < 140737488355328 then ((some (y351 ++ t345 : List Int)).bind fun y354 => (if y354.length + l0.length < 140737488355328 then (some (y354 ++ l0)) else (none))) else (none))) else (none))))) else (none)) = some r := by first | (rw [hy338]; with_reducible exact H) | (have H2_ := (Option.bind_some _ _).symm.trans H; rw [hy338]; with_reducible exact H2_) | (have H2_ := (Option.bind_some _ _).symm.trans H; with_reducible exact H2_) | with_reducible exact H | (rw [hy338]; exact H) | exact H
  have Ny338 := Aside0.mk hy338
  clear hy338
  by_cases c4 : y338.length + l0.length < 140737488355328
  ·rw [if_pos c4] at H
   have LMc4 := Aside0.mk c4
   clear c4
   obtain ⟨y341, hy341⟩ : ∃ y_ : List Int, y_ = (y338 ++ l0) := ⟨_, rfl⟩
   replace H : ((minstrelref06_Sum.f k y341).bind fun t344 => ((minstrelref06_Four.f t344).bind fun t345 => ((some (([] : List Int) : List Int)).bind fun y348 => (if y348.length + t332.length < 140737488355328 then ((some (y348 ++ t332 : List Int)).bind fun y351 => (if y351.length + t345.length < 140737488355328 then ((some (y351 ++ t345 : List Int)).bind fun y354 => (if y354.length + l0.length < 140737488355328 then (some (y354 ++ l0)) else (none))) else (none))) else (none))))) = some r := by first | (rw [hy341]; with_reducible exact H) | (have H2_ := (Option.bind_some _ _).symm.trans H; rw [hy341]; with_reducible exact H2_) | (have H2_ := (Option.bind_some _ _).symm.trans H; with_reducible exact H2_) | with_reducible exact H | (rw [hy341]; exact H) | exact H
   have Ny341 := Aside0.mk hy341
   clear hy341
   replace H := Option.bind_eq_some_iff.mp H
   obtain ⟨t344, A50, H⟩ := H
   replace H : ((minstrelref06_Four.f t344).bind fun t345 => ((some (([] : List Int) : List Int)).bind fun y348 => (if y348.length + t332.length < 140737488355328 then ((some (y348 ++ t332 : List Int)).bind fun y351 => (if y351.length + t345.length < 140737488355328 then ((some (y351 ++ t345 : List Int)).bind fun y354 => (if y354.length + l0.length < 140737488355328 then (some (y354 ++ l0)) else (none))) else (none))) else (none)))) = some r := H
   have A5 := Aside0.mk A50
   clear A50
   replace H := Option.bind_eq_some_iff.mp H
   obtain ⟨t345, A60, H⟩ := H
   replace H : ((some (([] : List Int) : List Int)).bind fun y348 => (if y348.length + t332.length < 140737488355328 then ((some (y348 ++ t332 : List Int)).bind fun y351 => (if y351.length + t345.length < 140737488355328 then ((some (y351 ++ t345 : List Int)).bind fun y354 => (if y354.length + l0.length < 140737488355328 then (some (y354 ++ l0)) else (none))) else (none))) else (none))) = some r := H
   have A6 := Aside0.mk A60
   clear A60
   obtain ⟨y348, hy348⟩ : ∃ y_ : List Int, y_ = (([] : List Int)) := ⟨_, rfl⟩
   replace H : (if y348.length + t332.length < 140737488355328 then ((some (y348 ++ t332 : List Int)).bind fun y351 => (if y351.length + t345.length < 140737488355328 then ((some (y351 ++ t345 : List Int)).bind fun y354 => (if y354.length + l0.length < 140737488355328 then (some (y354 ++ l0)) else (none))) else (none))) else (none)) = some r := by first | (rw [hy348]; with_reducible exact H) | (have H2_ := (Option.bind_some _ _).symm.trans H; rw [hy348]; with_reducible exact H2_) | (have H2_ := (Option.bind_some _ _).symm.trans H; with_reducible exact H2_) | with_reducible exact H | (rw [hy348]; exact H) | exact H
   have Ny348 := Aside0.mk hy348
   clear hy348
   by_cases c7 : y348.length + t332.length < 140737488355328
   ·rw [if_pos c7] at H
    have LMc7 := Aside0.mk c7
    clear c7
    obtain ⟨y351, hy351⟩ : ∃ y_ : List Int, y_ = (y348 ++ t332) := ⟨_, rfl⟩
    replace H : (if y351.length + t345.length < 140737488355328 then ((some (y351 ++ t345 : List Int)).bind fun y354 => (if y354.length + l0.length < 140737488355328 then (some (y354 ++ l0)) else (none))) else (none)) = some r := by first | (rw [hy351]; with_reducible exact H) | (have H2_ := (Option.bind_some _ _).symm.trans H; rw [hy351]; with_reducible exact H2_) | (have H2_ := (Option.bind_some _ _).symm.trans H; with_reducible exact H2_) | with_reducible exact H | (rw [hy351]; exact H) | exact H
    have Ny351 := Aside0.mk hy351
    clear hy351
    by_cases c8 : y351.length + t345.length < 140737488355328
    ·rw [if_pos c8] at H
     have LMc8 := Aside0.mk c8
     clear c8
     obtain ⟨y354, hy354⟩ : ∃ y_ : List Int, y_ = (y351 ++ t345) := ⟨_, rfl⟩
     replace H : (if y354.length + l0.length < 140737488355328 then (some (y354 ++ l0)) else (none)) = some r := by first | (rw [hy354]; with_reducible exact H) | (have H2_ := (Option.bind_some _ _).symm.trans H; rw [hy354]; with_reducible exact H2_) | (have H2_ := (Option.bind_some _ _).symm.trans H; with_reducible exact H2_) | with_reducible exact H | (rw [hy354]; exact H) | exact H
     have Ny354 := Aside0.mk hy354
     clear hy354
     by_cases c9 : y354.length + l0.length < 140737488355328
     ·rw [if_pos c9] at H
      have LMc9 := Aside0.mk c9
      clear c9
      obtain ⟨y357, hy357⟩ : ∃ y_ : List Int, y_ = (y354 ++ l0) := ⟨_, rfl⟩
      replace H : (some y357) = some r := by first | (rw [hy357]; with_reducible exact H) | (have H2_ := (Option.bind_some _ _).symm.trans H; rw [hy357]; with_reducible exact H2_) | (have H2_ := (Option.bind_some _ _).symm.trans H; with_reducible exact H2_) | with_reducible exact H | (rw [hy357]; exact H) | exact H
      have Ny357 := Aside0.mk hy357
      clear hy357
      obtain rfl := Option.some.inj H
      go_enter Tryd.func35, Tryd.ntmps35
      go_wp2_with (first | ((with_reducible refine gate_callee (f := 52) rfl ?_); refine goesL_ (some 8) rfl rfl Tryd.func52 (by kernel_rfl) rfl #[.int .u32 (((l0.length : Int)) % 4294967296)] rfl pM ?_; (with_reducible refine (minstrelref06_Four.calls (((l0.length : Int)) % 4294967296) t332 _ A2.out).mono ?_); rintro e w10 ⟨v333, rfl, ho0, hb⟩; refine ⟨_, rfl, ?_⟩; have n0_ := Aside0.mk (Kd.R_lower ho0 (below_size pB)); have n1_ := Aside0.mk (below_step pB hb); clear HB; have HO334 := n0_; have HB := n1_; clear n0_ n1_; (try clear hb); (try clear hb2); (try clear hk); (try clear hi); (try clear ho0)) | ((with_reducible refine gate_dst (N := 9) rfl ?_); refine Kd.R_lit (Kd.int .u8) _ 5 ?hg (N := 9) ?hd (xs := ([] : List Int)) (inner := []) (ok := fun _ => True) (okp := fun _ => True) ?hr ?hp (fun _ hk => hk) trivial (Below.refl _ _) (Nat.le_refl _) (by simp) ?_; (case hd => rfl); (case hg => rfl); (case hr => first | (go_simp; done) | (go_simp; rfl)); (case hp => exact (Reps.none _ _)); intro v336 w11 ho12 hb hg_ hnew_; clear hg_ hnew_; (first | rw [← Ny335.out] at ho12 | (simp only [Int.reduceToNat] at ho12; rw [← Ny335.out] at ho12)); have n0_ := Aside0.mk (Kd.R_elder' (pR HO334.out) (Kd.R_base ho12) hb); have n1_ := Aside0.mk (Kd.R_lower (Kd.R_new' ho12 (Kd.R_lt (pR HO334.out))) (below_size pB)); have n2_ := Aside0.mk (below_step pB hb); clear HO334; clear HB; have HO334 := n0_; have HO337 := n1_; have HB := n2_; clear n0_ n1_ n2_; clear hb ho12; obtain ⟨Ao14, co14, eo14⟩ := Kd.R_slice HO334.out; subst eo14) | ((with_reducible refine gate_builtin (b := .append) (xs := #[.tmp 9, .tmp 10]) rfl ?_); at_builtin; refine Kd.R_append_rows (Kd.int .u8) (w0 := w) w.heap.size rfl (.tmp 9) (.tmp 10) 31 5 (.int .u8 0) 1 rfl Tryd.underlying31 info5 rfl (by decide) (by omega) v336 y335 t332 _ _ _ (fun k_ => some k_ ≠ (.slice Ao14 t332.length co14 : Value).ownBlock) (fun _ => False) rfl rfl ?aO ?aR (fun _ _ h => h) (fun _ h => h.elim) ?aF ?aB ?aS ?aL ?_; (case aR => repeat (first | exact (Kd.R_reads' HO334.out).2.2 | (with_reducible refine Kd.C_alloc ?_ _) | (with_reducible refine Kd.C_drewN ?_ _) | (with_reducible refine Kd.C_drew ?_))); (case aB => exact pB); (case aF => exact (fun k_ hk => Kd.fresh' (Kd.R_lt (pR HO334.out)) k_ hk)); (case aO => exact (by (with_reducible repeat (first | apply Kd.R_alloc | apply Kd.R_drewN | apply Kd.R_drew)); exact Kd.R_mono HO337.out (fun _ hk => hk.2))); (case aS => exact (below_size pB)); (case aL => have := LMc3.out; omega); intro v339 w13 ho hb hg hat; rw [← Ny338.out] at ho; have n0_ := Aside0.mk (Kd.R_after (ok := (fun _ => True)) (pR HO334.out) hg hat); have n1_ := Aside0.mk (hb); have n2_ := Aside0.mk (ho); clear HO334; clear HB; clear HO337; have HO334 := n0_; have HB := n1_; have HO340 := n2_; clear n0_ n1_ n2_; clear ho hb hg hat) | ((with_reducible refine gate_builtin (b := .append) (xs := #[.tmp 11, .tmp 12]) rfl ?_); at_builtin; refine Kd.R_append_rows (Kd.int .u8) (w0 := w) w.heap.size rfl (.tmp 11) (.tmp 12) 31 5 (.int .u8 0) 1 rfl Tryd.underlying31 info5 rfl (by decide) (by omega) v339 y338 l0 _ _ _ (fun k_ => some k_ ≠ (.slice Ao14 t332.length co14 : Value).ownBlock) (fun _ => False) rfl rfl ?aO ?aR (fun _ _ h => h) (fun _ h => h.elim) ?aF ?aB ?aS ?aL ?_; (case aR => exact pC (Kd.C_below HR0.out HB.out)); (case aB => exact pB); (case aF => exact (fun k_ hk => Kd.fresh' (Kd.R_lt (pR HO334.out)) k_ hk)); (case aO => exact (pR HO340.out)); (case aS => exact (below_size pB)); (case aL => have := LMc4.out; omega); intro v342 w15 ho hb hg hat; rw [← Ny341.out] at ho; have n0_ := Aside0.mk (Kd.R_after (ok := (fun _ => True)) (pR HO334.out) hg hat); have n1_ := Aside0.mk (hb); have n2_ := Aside0.mk (ho); clear HO334; clear HB; clear HO340; have HO334 := n0_; have HB := n1_; have HO343 := n2_; clear n0_ n1_ n2_; clear ho hb hg hat; obtain ⟨Ao16, co16, eo16⟩ := Kd.R_slice HO343.out; subst eo16) | ((with_reducible refine gate_callee (f := 53) rfl ?_); refine goesL_ (some 14) rfl rfl Tryd.func53 (by kernel_rfl) rfl #[.slice Ao16 y341.length co16] rfl pM ?_; (with_reducible refine (minstrelref06_Sum.calls k _ _ y341 t344 _ ?side1 ?side2 A5.out).mono ?_); (case side1 => repeat (first | exact (Kd.R_reads' HO343.out).2.2 | (with_reducible refine Kd.C_alloc ?_ _) | (with_reducible refine Kd.C_drewN ?_ _) | (with_reducible refine Kd.C_drew ?_))); (case side2 => exact (Kd.R_reads' HO343.out).2.1); rintro e w' ⟨rfl, ⟨nd, rfl⟩⟩; refine ⟨_, rfl, ?_⟩) | ((with_reducible refine gate_callee (f := 52) rfl ?_); refine goesL_ (some 15) rfl rfl Tryd.func52 (by kernel_rfl) rfl #[.int .u32 t344] rfl pM ?_; (with_reducible refine (minstrelref06_Four.calls t344 t345 _ A6.out).mono ?_); rintro e w17 ⟨v346, rfl, ho0, hb⟩; refine ⟨_, rfl, ?_⟩; have n0_ := Aside0.mk (Kd.R_elder' (pR HO334.out) (Kd.R_base ho0) hb); have n1_ := Aside0.mk (Kd.R_elder' (pR HO343.out) (Kd.R_base ho0) hb); have n2_ := Aside0.mk (Kd.R_lower (Kd.R_new' (Kd.R_new' ho0 (Kd.R_lt (pR HO334.out))) (Kd.R_lt (pR HO343.out))) (below_size pB)); have n3_ := Aside0.mk (below_step pB hb); clear HO334; clear HO343; clear HB; have HO334 := n0_; have HO343 := n1_; have HO347 := n2_; have HB := n3_; clear n0_ n1_ n2_ n3_; (try clear hb); (try clear hb2); (try clear hk); (try clear hi); (try clear ho0)) | ((with_reducible refine gate_dst (N := 16) rfl ?_); refine Kd.R_lit (Kd.int .u8) _ 5 ?hg (N := 16) ?hd (xs := ([] : List Int)) (inner := []) (ok := fun _ => True) (okp := fun _ => True) ?hr ?hp (fun _ hk => hk) trivial (Below.refl _ _) (Nat.le_refl _) (by simp) ?_; (case hd => rfl); (case hg => rfl); (case hr => first | (go_simp; done) | (go_simp; rfl)); (case hp => exact (Reps.none _ _)); intro v349 w18 ho19 hb hg_ hnew_; clear hg_ hnew_; (first | rw [← Ny348.out] at ho19 | (simp only [Int.reduceToNat] at ho19; rw [← Ny348.out] at ho19)); have n0_ := Aside0.mk (Kd.R_elder' (pR HO334.out) (Kd.R_base ho19) hb); have n1_ := Aside0.mk (Kd.R_elder' (pR HO343.out) (Kd.R_base ho19) hb); have n2_ := Aside0.mk (Kd.R_elder' (pR HO347.out) (Kd.R_base ho19) hb); have n3_ := Aside0.mk (Kd.R_lower (Kd.R_new' (Kd.R_new' (Kd.R_new' ho19 (Kd.R_lt (pR HO334.out))) (Kd.R_lt (pR HO343.out))) (Kd.R_lt (pR HO347.out))) (below_size pB)); have n4_ := Aside0.mk (below_step pB hb); clear HO334; clear HO343; clear HO347; clear HB; have HO334 := n0_; have HO343 := n1_; have HO347 := n2_; have HO350 := n3_; have HB := n4_; clear n0_ n1_ n2_ n3_ n4_; clear hb ho19) | ((with_reducible refine gate_builtin (b := .append) (xs := #[.tmp 16, .tmp 17]) rfl ?_); at_builtin; refine Kd.R_append_rows (Kd.int .u8) (w0 := w) w.heap.size rfl (.tmp 16) (.tmp 17) 31 5 (.int .u8 0) 1 rfl Tryd.underlying31 info5 rfl (by decide) (by omega) v349 y348 t332 _ _ _ (fun k_ => some k_ ≠ (.slice Ao14 t332.length co14 : Value).ownBlock ∧ some k_ ≠ (.slice Ao16 y341.length co16 : Value).ownBlock ∧ some k_ ≠ (v346 : Value).ownBlock) (fun _ => False) rfl rfl ?aO ?aR (fun _ _ h => h) (fun _ h => h.elim) ?aF ?aB ?aS ?aL ?_; (case aR => repeat (first | exact (Kd.R_reads' HO334.out).2.2 | (with_reducible refine Kd.C_alloc ?_ _) | (with_reducible refine Kd.C_drewN ?_ _) | (with_reducible refine Kd.C_drew ?_))); (case aB => exact pB); (case aF => exact (fun k_ hk => ⟨Kd.fresh' (Kd.R_lt (pR HO334.out)) k_ hk, Kd.fresh' (Kd.R_lt (pR HO343.out)) k_ hk, Kd.fresh' (Kd.R_lt (pR HO347.out)) k_ hk⟩)); (case aO => exact (by (with_reducible repeat (first | apply Kd.R_alloc | apply Kd.R_drewN | apply Kd.R_drew)); exact Kd.R_mono HO350.out (fun _ hk => ⟨hk.1.1.2, ⟨hk.1.2, hk.2⟩⟩))); (case aS => exact (below_size pB)); (case aL => have := LMc7.out; omega); intro v352 w20 ho hb hg hat; rw [← Ny351.out] at ho; have n0_ := Aside0.mk (Kd.R_after (ok := (fun k_ => some k_ ≠ (.slice Ao16 y341.length co16 : Value).ownBlock ∧ some k_ ≠ (v346 : Value).ownBlock)) (by (with_reducible repeat (first | apply Kd.R_alloc | apply Kd.R_drewN | apply Kd.R_drew)); exact Kd.R_mono HO334.out (fun _ hk => ⟨⟨hk.1.1.2, hk.1.2⟩, hk.2⟩)) hg hat); have n1_ := Aside0.mk (Kd.R_after (ok := (fun k_ => some k_ ≠ (.slice Ao14 t332.length co14 : Value).ownBlock ∧ some k_ ≠ (v346 : Value).ownBlock)) (pR HO343.out) hg hat); have n2_ := Aside0.mk (Kd.R_after (ok := (fun k_ => some k_ ≠ (.slice Ao14 t332.length co14 : Value).ownBlock ∧ some k_ ≠ (.slice Ao16 y341.length co16 : Value).ownBlock)) (by (with_reducible repeat (first | apply Kd.R_alloc | apply Kd.R_drewN | apply Kd.R_drew)); exact Kd.R_mono HO347.out (fun _ hk => ⟨⟨hk.1.1.2, hk.1.2⟩, hk.2⟩)) hg hat); have n3_ := Aside0.mk (hb); have n4_ := Aside0.mk (ho); clear HO334; clear HO343; clear HO347; clear HB; clear HO350; have HO334 := n0_; have HO343 := n1_; have HO347 := n2_; have HB := n3_; have HO353 := n4_; clear n0_ n1_ n2_ n3_ n4_; clear ho hb hg hat; obtain ⟨Ao22, co22, eo22⟩ := Kd.R_slice HO347.out; subst eo22) | ((with_reducible refine gate_builtin (b := .append) (xs := #[.tmp 18, .tmp 19]) rfl ?_); at_builtin; refine Kd.R_append_rows (Kd.int .u8) (w0 := w) w.heap.size rfl (.tmp 18) (.tmp 19) 31 5 (.int .u8 0) 1 rfl Tryd.underlying31 info5 rfl (by decide) (by omega) v352 y351 t345 _ _ _ (fun k_ => some k_ ≠ (.slice Ao14 t332.length co14 : Value).ownBlock ∧ some k_ ≠ (.slice Ao16 y341.length co16 : Value).ownBlock ∧ some k_ ≠ (.slice Ao22 t345.length co22 : Value).ownBlock) (fun _ => False) rfl rfl ?aO ?aR (fun _ _ h => h) (fun _ h => h.elim) ?aF ?aB ?aS ?aL ?_; (case aR => repeat (first | exact (Kd.R_reads' HO347.out).2.2 | (with_reducible refine Kd.C_alloc ?_ _) | (with_reducible refine Kd.C_drewN ?_ _) | (with_reducible refine Kd.C_drew ?_))); (case aB => exact pB); (case aF => exact (fun k_ hk => ⟨Kd.fresh' (Kd.R_lt (pR HO334.out)) k_ hk, Kd.fresh' (Kd.R_lt (pR HO343.out)) k_ hk, Kd.fresh' (Kd.R_lt (pR HO347.out)) k_ hk⟩)); (case aO => exact (pR HO353.out)); (case aS => exact (below_size pB)); (case aL => have := LMc8.out; omega); intro v355 w21 ho hb hg hat; rw [← Ny354.out] at ho; have n0_ := Aside0.mk (Kd.R_after (ok := (fun k_ => some k_ ≠ (.slice Ao16 y341.length co16 : Value).ownBlock ∧ some k_ ≠ (.slice Ao22 t345.length co22 : Value).ownBlock)) (pR HO334.out) hg hat); have n1_ := Aside0.mk (Kd.R_after (ok := (fun k_ => some k_ ≠ (.slice Ao14 t332.length co14 : Value).ownBlock ∧ some k_ ≠ (.slice Ao22 t345.length co22 : Value).ownBlock)) (pR HO343.out) hg hat); have n2_ := Aside0.mk (Kd.R_after (ok := (fun k_ => some k_ ≠ (.slice Ao14 t332.length co14 : Value).ownBlock ∧ some k_ ≠ (.slice Ao16 y341.length co16 : Value).ownBlock)) (pR HO347.out) hg hat); have n3_ := Aside0.mk (hb); have n4_ := Aside0.mk (ho); clear HO334; clear HO343; clear HO347; clear HB; clear HO353; have HO334 := n0_; have HO343 := n1_; have HO347 := n2_; have HB := n3_; have HO356 := n4_; clear n0_ n1_ n2_ n3_ n4_; clear ho hb hg hat) | ((with_reducible refine gate_builtin (b := .append) (xs := #[.tmp 20, .tmp 21]) rfl ?_); at_builtin; refine Kd.R_append_rows (Kd.int .u8) (w0 := w) w.heap.size rfl (.tmp 20) (.tmp 21) 31 5 (.int .u8 0) 1 rfl Tryd.underlying31 info5 rfl (by decide) (by omega) v355 y354 l0 _ _ _ (fun k_ => some k_ ≠ (.slice Ao14 t332.length co14 : Value).ownBlock ∧ some k_ ≠ (.slice Ao16 y341.length co16 : Value).ownBlock ∧ some k_ ≠ (.slice Ao22 t345.length co22 : Value).ownBlock) (fun _ => False) rfl rfl ?aO ?aR (fun _ _ h => h) (fun _ h => h.elim) ?aF ?aB ?aS ?aL ?_; (case aR => exact pC (Kd.C_below HR0.out HB.out)); (case aB => exact pB); (case aF => exact (fun k_ hk => ⟨Kd.fresh' (Kd.R_lt (pR HO334.out)) k_ hk, Kd.fresh' (Kd.R_lt (pR HO343.out)) k_ hk, Kd.fresh' (Kd.R_lt (pR HO347.out)) k_ hk⟩)); (case aO => exact (pR HO356.out)); (case aS => exact (below_size pB)); (case aL => have := LMc9.out; omega); intro v358 w23 ho hb hg hat; rw [← Ny357.out] at ho; have n0_ := Aside0.mk (Kd.R_after (ok := (fun k_ => some k_ ≠ (.slice Ao16 y341.length co16 : Value).ownBlock ∧ some k_ ≠ (.slice Ao22 t345.length co22 : Value).ownBlock)) (pR HO334.out) hg hat); have n1_ := Aside0.mk (Kd.R_after (ok := (fun k_ => some k_ ≠ (.slice Ao14 t332.length co14 : Value).ownBlock ∧ some k_ ≠ (.slice Ao22 t345.length co22 : Value).ownBlock)) (pR HO343.out) hg hat); have n2_ := Aside0.mk (Kd.R_after (ok := (fun k_ => some k_ ≠ (.slice Ao14 t332.length co14 : Value).ownBlock ∧ some k_ ≠ (.slice Ao16 y341.length co16 : Value).ownBlock)) (pR HO347.out) hg hat); have n3_ := Aside0.mk (hb); have n4_ := Aside0.mk (ho); clear HO334; clear HO343; clear HO347; clear HB; clear HO356; have HO334 := n0_; have HO343 := n1_; have HO347 := n2_; have HB := n3_; have HO359 := n4_; clear n0_ n1_ n2_ n3_ n4_; clear ho hb hg hat))
      go_ret
      exact ⟨_, pE, by (with_reducible repeat (first | apply Kd.R_alloc | apply Kd.R_drewN | apply Kd.R_drew)); exact Kd.R_mono HO359.out (fun _ hk => trivial), pB⟩
     ·rw [if_neg c9] at H
      exact absurd H (by simp)
    ·rw [if_neg c8] at H
     exact absurd H (by simp)
   ·rw [if_neg c7] at H
    exact absurd H (by simp)
  ·rw [if_neg c4] at H
   exact absurd H (by simp)
 ·rw [if_neg c3] at H
  exact absurd H (by simp)
end Go.Proofs.YtlkaffbgekbcfaaDoor.Pr
end
section
namespace Go.Proofs.YtlkaffbgekbcfaaDoor.Pure
open Go.RowKit Go.Proofs.YtlkaffbgekbcfaaDoor.Pr Go.Proofs.YtlkaffbgekbcfaaDoorW.PrintWords Go.Proofs.YtlkaffbgekbcfaaDoorW.PrintLast Go.Proofs.YtlkaffbgekbcfaaDoorW.PrintMore
set_option linter.unusedVariables false
set_option linter.unusedSimpArgs false
def put2 (r : List Int × Int) : List Int × Int := if r.2 = 0 then (r.1, 0) else ([], r.2)
end Go.Proofs.YtlkaffbgekbcfaaDoor.Pure
end
section
namespace Go.Proofs.YtlkaffbgekbcfaaDoor.Pure
open Go.RowKit Go.Proofs.YtlkaffbgekbcfaaDoor.Pr Go.Proofs.YtlkaffbgekbcfaaDoorW.PrintWords Go.Proofs.YtlkaffbgekbcfaaDoorW.PrintLast Go.Proofs.YtlkaffbgekbcfaaDoorW.PrintMore
set_option linter.unusedVariables false
set_option linter.unusedSimpArgs false
theorem toList_inj {a b : ByteArray} (h : a.toList = b.toList) : a = b := by
  rw [Go.ByteArray.toList_eq, Go.ByteArray.toList_eq] at h
  exact Go.WideShapes.bytes_inj h
def okc : Nat → S26 → Prop
  | 0, _ => False
  | k + 1, c => c.f0 = 0 ∨ c.f0 = 1 ∨ (c.f0 = 2 ∧ ∀ x ∈ c.f3, okc k x)
end Go.Proofs.YtlkaffbgekbcfaaDoor.Pure
end
section
namespace Go.Proofs.YtlkaffbgekbcfaaDoor.Pure
open Go.RowKit Go.Proofs.YtlkaffbgekbcfaaDoor.Pr Go.Proofs.YtlkaffbgekbcfaaDoorW.PrintWords Go.Proofs.YtlkaffbgekbcfaaDoorW.PrintLast Go.Proofs.YtlkaffbgekbcfaaDoorW.PrintMore
set_option linter.unusedVariables false
set_option linter.unusedSimpArgs false
end Go.Proofs.YtlkaffbgekbcfaaDoor.Pure
end
section
namespace Go.Proofs.YtlkaffbgekbcfaaDoor.Crc
def poly : Nat := 3988292384
def step (c : Nat) : Nat := (c >>> 1) ^^^ (if c % 2 = 1 then poly else 0)
def tab : List Nat := [0, 498536548, 997073096, 651767980, 1994146192, 1802195444, 1303535960, 1342533948, 3988292384, 4027552580, 3604390888, 3412177804, 2607071920, 2262029012, 2685067896, 3183342108]
def nib (c : Nat) : Nat := (c / 16) ^^^ tab.getD (c % 16) 0
def crcB (c x : Nat) : Nat := nib (nib (c ^^^ x))
theorem xor_mod_two (a b : Nat) : (a ^^^ b) % 2 = (a % 2 ^^^ b % 2) := by
  have h := Nat.testBit_xor a b 0
  simp only [Nat.testBit_zero] at h
  rcases Nat.mod_two_eq_zero_or_one a with ha | ha <;> rcases Nat.mod_two_eq_zero_or_one b with hb | hb <;> rcases Nat.mod_two_eq_zero_or_one (a ^^^ b) with hc | hc <;> simp [ha, hb, hc] at h ⊢
theorem step_xor (a b : Nat) : step (a ^^^ b) = step a ^^^ step b := by
  unfold step
  rw [Nat.shiftRight_xor_distrib, xor_mod_two]
  rcases Nat.mod_two_eq_zero_or_one a with ha | ha <;> rcases Nat.mod_two_eq_zero_or_one b with hb | hb <;> simp only [ha, hb]
  · simp
  · simp [Nat.xor_assoc]
  · simp
    rw [Nat.xor_assoc, Nat.xor_assoc, Nat.xor_comm poly]
  · simp
    have : a >>> 1 ^^^ poly ^^^ (b >>> 1 ^^^ poly) = (a >>> 1 ^^^ b >>> 1) ^^^ (poly ^^^ poly) := by
      rw [Nat.xor_assoc, Nat.xor_assoc]
      congr 1
      rw [← Nat.xor_assoc, Nat.xor_comm poly, Nat.xor_assoc]
    rw [this, Nat.xor_self, Nat.xor_zero]
theorem step_even (q : Nat) : step (2 * q) = q := by
  unfold step
  have h : 2 * q % 2 = 0 := by omega
  rw [if_neg (by omega), Nat.xor_zero, Nat.shiftRight_eq_div_pow]
  omega
theorem steps4_small : ∀ r, r < 16 → step (step (step (step r))) = tab.getD r 0 := by decide
theorem split16 (c : Nat) : c = (16 * (c / 16)) ^^^ (c % 16) := by
  have h : 16 * (c / 16) + c % 16 = c := Nat.div_add_mod c 16
  have h2 := Nat.two_pow_add_eq_or_of_lt (i := 4) (show c % 16 < 2 ^ 4 by omega) (c / 16)
  have h3 : (16 * (c / 16)) &&& (c % 16) = 0 := by
    apply Nat.eq_of_testBit_eq
    intro i
    rw [Nat.testBit_and, Nat.zero_testBit]
    by_cases hi : i < 4
    · have : (16 * (c / 16)).testBit i = false := by
        rw [show 16 * (c / 16) = 2 ^ 4 * (c / 16) from rfl, Nat.testBit_two_pow_mul]
        simp; omega
      simp [this]
    · have : (c % 16).testBit i = false := by
        apply Nat.testBit_lt_two_pow
        have : 2 ^ 4 ≤ 2 ^ i := Nat.pow_le_pow_right (by decide) (by omega)
        omega
      simp [this]
  apply Nat.eq_of_testBit_eq
  intro i
  have h4 : c.testBit i = (16 * (c / 16) ||| c % 16).testBit i := by
    rw [← h2]
    show c.testBit i = (16 * (c / 16) + c % 16).testBit i
    rw [h]
  have h5 : ((16 * (c / 16)) &&& (c % 16)).testBit i = false := by rw [h3, Nat.zero_testBit]
  rw [h4, Nat.testBit_or, Nat.testBit_xor]
  rw [Nat.testBit_and] at h5
  cases hA : (16 * (c / 16)).testBit i <;> cases hB : (c % 16).testBit i <;> rw [hA, hB] at h5 <;> first | rfl | exact absurd h5 (by decide)
theorem steps4 (c : Nat) : step (step (step (step c))) = nib c := by
  conv => lhs; rw [split16 c]
  rw [step_xor, step_xor, step_xor, step_xor, steps4_small (c % 16) (by omega)]
  rw [show 16 * (c / 16) = 2 * (2 * (2 * (2 * (c / 16)))) by omega, step_even, step_even, step_even, step_even]
  rfl
theorem steps8 (c : Nat) : step (step (step (step (step (step (step (step c))))))) = nib (nib c) := by rw [steps4, steps4]
def bitIn (c x k : Nat) : Nat := if c % 2 = (x >>> k) % 2 then c >>> 1 else (c >>> 1) ^^^ poly
theorem bitIn_step (c x k : Nat) : step (c ^^^ (x >>> k)) = bitIn c x k ^^^ (x >>> (k + 1)) := by
  unfold step bitIn
  rw [Nat.shiftRight_xor_distrib, xor_mod_two, ← Nat.shiftRight_add]
  rcases Nat.mod_two_eq_zero_or_one c with hc | hc <;> rcases Nat.mod_two_eq_zero_or_one (x >>> k) with hx | hx <;> simp only [hc, hx]
  · simp
  · rw [if_pos (by decide), if_neg (by decide), Nat.xor_assoc, Nat.xor_assoc, Nat.xor_comm _ poly]
  · rw [if_pos (by decide), if_neg (by decide), Nat.xor_assoc, Nat.xor_assoc, Nat.xor_comm _ poly]
  · simp
def bitsIn (c x : Nat) : Nat → Nat
  | 0 => c
  | k + 1 => bitIn (bitsIn c x k) x k
def stepN (c : Nat) : Nat → Nat
  | 0 => c
  | k + 1 => step (stepN c k)
theorem bitsIn_stepN (c x : Nat) : ∀ k, stepN (c ^^^ x) k = bitsIn c x k ^^^ (x >>> k)
  | 0 => rfl
  | k + 1 => by rw [stepN, bitsIn_stepN c x k, bitIn_step, bitsIn]
theorem bitsIn_byte (c x : Nat) (hx : x < 256) : bitsIn c x 8 = crcB c x := by
  have h := bitsIn_stepN c x 8
  have h0 : x >>> 8 = 0 := by rw [Nat.shiftRight_eq_div_pow]; omega
  rw [h0, Nat.xor_zero] at h
  rw [← h]
  exact steps8 (c ^^^ x)
theorem step_lt {c : Nat} (h : c < 4294967296) : step c < 4294967296 := by
  unfold step
  have h1 : c >>> 1 < 2 ^ 32 := by rw [Nat.shiftRight_eq_div_pow]; omega
  split
  · exact Nat.xor_lt_two_pow h1 (by decide)
  · rw [Nat.xor_zero]; exact h1
theorem bitIn_lt {c : Nat} (x k : Nat) (h : c < 4294967296) : bitIn c x k < 4294967296 := by
  unfold bitIn
  have h1 : c >>> 1 < 2 ^ 32 := by rw [Nat.shiftRight_eq_div_pow]; omega
  split
  · exact h1
  · exact Nat.xor_lt_two_pow h1 (by decide)
theorem nib_lt {c : Nat} (h : c < 4294967296) : nib c < 4294967296 := by
  rw [← steps4]
  exact step_lt (step_lt (step_lt (step_lt h)))
theorem crcB_lt {c x : Nat} (h : c < 4294967296) (hx : x < 256) : crcB c x < 4294967296 :=
  nib_lt (nib_lt (Nat.xor_lt_two_pow (n := 32) h (by omega)))
def crcL (c : Nat) (l : List Nat) : Nat := l.foldl crcB c
theorem crcL_lt {l : List Nat} (hl : ∀ x ∈ l, x < 256) : ∀ {c : Nat}, c < 4294967296 → crcL c l < 4294967296 := by
  induction l with
  | nil => intro c h; exact h
  | cons x l ih => intro c h; exact ih (fun y hy => hl y (List.mem_cons_of_mem _ hy)) (crcB_lt h (hl x List.mem_cons_self))
theorem nib_xor (a b : Nat) : nib (a ^^^ b) = nib a ^^^ nib b := by rw [← steps4, ← steps4, ← steps4, step_xor, step_xor, step_xor, step_xor]
theorem crcB_xor (a b x y : Nat) : crcB (a ^^^ b) (x ^^^ y) = crcB a x ^^^ crcB b y := by
  unfold crcB
  rw [← nib_xor, ← nib_xor]
  congr 2
  rw [Nat.xor_assoc, Nat.xor_assoc]
  congr 1
  rw [← Nat.xor_assoc, Nat.xor_comm b x, Nat.xor_assoc]
end Go.Proofs.YtlkaffbgekbcfaaDoor.Crc
end
section
namespace Go.Proofs.YtlkaffbgekbcfaaDoor.Pure
open Go.RowKit Go.Proofs.YtlkaffbgekbcfaaDoor.Pr Go.Proofs.YtlkaffbgekbcfaaDoorW.PrintWords Go.Proofs.YtlkaffbgekbcfaaDoorW.PrintLast Go.Proofs.YtlkaffbgekbcfaaDoorW.PrintMore Go.Proofs.YtlkaffbgekbcfaaDoor.Crc
set_option linter.unusedVariables false
set_option linter.unusedSimpArgs false
def Bytes (l : List Int) : Prop := ∀ x ∈ l, 0 ≤ x ∧ x ≤ 255
def nat (l : List Int) : List Nat := l.map Int.toNat
theorem nat_lt {l : List Int} (h : Bytes l) : ∀ x ∈ nat l, x < 256 := by
  intro x hx
  obtain ⟨y, hy, rfl⟩ := List.mem_map.1 hx
  have := h y hy
  omega
theorem rd_tab : ∀ m : Nat, m < 16 → rd quarterVals (m : Int) = ((tab.getD m 0 : Nat) : Int) := by decide
theorem crcNib_nat (c : Nat) (h : c < 4294967296) : crcNib (c : Int) = (nib c : Nat) := by
  have h1 : Go.bits .and .u32 (c : Int) 15 = ((c % 16 : Nat) : Int) := by
    have := u32_and_nat c 15 h (by decide)
    rw [nat_mask4] at this
    exact this
  have h2 : tab.getD (c % 16) 0 < 4294967296 := by
    have : ∀ m, m < 16 → tab.getD m 0 < 4294967296 := by decide
    exact this _ (by omega)
  unfold crcNib
  rw [h1, rd_tab _ (by omega), show ((c : Int) / 16) = ((c / 16 : Nat) : Int) by omega, u32_xor_nat _ _ (by omega) h2]
  rfl
theorem crcByte_nat (c : Nat) (x : Int) (h : c < 4294967296) (h0 : 0 ≤ x) (h1 : x ≤ 255) : crcByte (c : Int) x = (crcB c x.toNat : Nat) := by
  obtain ⟨y, rfl⟩ := Int.eq_ofNat_of_zero_le h0
  unfold crcByte
  rw [show ((y : Int) % 4294967296) = ((y : Nat) : Int) by omega, u32_xor_nat c y h (by omega)]
  have hx : c ^^^ y < 4294967296 := Nat.xor_lt_two_pow (n := 32) h (by omega)
  rw [crcNib_nat _ hx, crcNib_nat _ (nib_lt hx)]
  rfl
theorem crcBytes_nat {l : List Int} (hl : Bytes l) : ∀ {c : Nat}, c < 4294967296 → crcBytes (c : Int) l = (crcL c (nat l) : Nat) := by
  induction l with
  | nil => intro c h; rfl
  | cons x l ih =>
    intro c h
    have hx := hl x List.mem_cons_self
    show crcBytes (crcByte (c : Int) x) l = _
    rw [crcByte_nat c x h hx.1 hx.2, ih (fun y hy => hl y (List.mem_cons_of_mem _ hy)) (crcB_lt h (by omega))]
    rfl
def sumN (l : List Nat) : Nat := 4294967295 ^^^ crcL 4294967295 l
theorem sumN_lt {l : List Nat} (h : ∀ x ∈ l, x < 256) : sumN l < 4294967296 := Nat.xor_lt_two_pow (n := 32) (by decide) (crcL_lt h (by decide))
theorem parts_flatten (c : Int) (l : List (List Int)) : crcParts c l = crcBytes c l.flatten := by
  induction l generalizing c with
  | nil => rfl
  | cons x l ih =>
    show crcParts (crcBytes c x) l = _
    rw [ih, List.flatten_cons]
    simp [crcBytes]
theorem sum_eq (l : List (List Int)) (h : Bytes l.flatten) : frame_sum.f l = some ((sumN (nat l.flatten) : Nat) : Int) := by
  unfold frame_sum.f
  have h1 := crcBytes_nat h (c := 4294967295) (by decide)
  rw [parts_flatten, show crcBytes 4294967295 l.flatten = ((crcL 4294967295 (nat l.flatten) : Nat) : Int) from h1]
  have := u32_xor_nat 4294967295 (crcL 4294967295 (nat l.flatten)) (by decide) (crcL_lt (nat_lt h) (by decide))
  rw [show ((4294967295 : Nat) : Int) = 4294967295 from rfl] at this
  rw [this]
  rfl
theorem wrap_small (n : Nat) (h : n < 9223372036854775807) : wrap64 ((n : Int) + 1) = ((n + 1 : Nat) : Int) := by
  unfold wrap64; omega
theorem l1_step (k : Nat) (l : List Int) (c i j : Int) (h1 : j < 8) (h2 : 0 ≤ i) (h3 : i < (l.length : Int)) (h4 : IntKind.u64.wrap j = j) (h5 : 0 ≤ j) :
    minstrelref06_Sum.l1 (k + 1) l c i j = if Go.bits .and .u32 c 1 = (Go.bits .and .u8 (shr .u8 (rd l i) j) 1) % 4294967296 then minstrelref06_Sum.l1 k l (c / 2) i (wrap64 (j + 1)) else minstrelref06_Sum.l1 k l (Go.bits .xor .u32 (c / 2) 3988292384) i (wrap64 (j + 1)) := by
  simp only [minstrelref06_Sum.l1]
  rw [if_pos h1, if_pos h2, if_pos h3, h4, if_pos h5]
theorem l1_end (k : Nat) (l : List Int) (c i : Int) : minstrelref06_Sum.l1 (k + 1) l c i 8 = minstrelref06_Sum.l0 k l c (wrap64 (i + 1)) := by
  simp only [minstrelref06_Sum.l1]
  rw [if_neg (by decide)]
theorem l0_in (k : Nat) (l : List Int) (c i : Int) (h : i < (l.length : Int)) : minstrelref06_Sum.l0 (k + 1) l c i = minstrelref06_Sum.l1 k l c i 0 := by
  simp only [minstrelref06_Sum.l0]
  rw [if_pos h]
theorem l0_out (k : Nat) (l : List Int) (c i : Int) (h : ¬ i < (l.length : Int)) : minstrelref06_Sum.l0 (k + 1) l c i = some (Go.bits .xor .u32 4294967295 c) := by
  simp only [minstrelref06_Sum.l0]
  rw [if_neg h]
theorem wrap_j (j : Nat) (hj : j < 8) : IntKind.u64.wrap (j : Int) = (j : Int) := by
  have : (j : Int) % 18446744073709551616 = j := by omega
  simpa [IntKind.wrap, IntKind.bits, IntKind.signed] using this
theorem shr_j (x j : Nat) (hj : j < 8) : shr .u8 (x : Int) (j : Int) = ((x >>> j : Nat) : Int) := by
  unfold shr
  rw [Int.toNat_natCast, show IntKind.u8.bits = 8 from rfl, Nat.min_eq_left (by omega), Nat.shiftRight_eq_div_pow]
  simp
theorem and1_u32 (c : Nat) (hc : c < 4294967296) : Go.bits .and .u32 (c : Int) 1 = ((c % 2 : Nat) : Int) := by
  have := u32_and_nat c 1 hc (by decide)
  rw [nat_mask1] at this
  exact this
theorem and1_u8 (x : Nat) (hc : x < 256) : Go.bits .and .u8 (x : Int) 1 = ((x % 2 : Nat) : Int) := by
  have := u8_and_nat x 1 hc (by decide)
  rw [nat_mask1] at this
  exact this
theorem xorpoly (c : Nat) (hc : c < 4294967296) : Go.bits .xor .u32 (c : Int) 3988292384 = ((c ^^^ poly : Nat) : Int) := u32_xor_nat c 3988292384 hc (by decide)
theorem half_lt {c : Nat} (hc : c < 4294967296) : c >>> 1 < 4294967296 := by rw [Nat.shiftRight_eq_div_pow]; omega
theorem getD_byte {l : List Int} (hl : Bytes l) {i : Nat} (hi : i < l.length) : 0 ≤ l.getD i 0 ∧ l.getD i 0 ≤ 255 := by
  rw [List.getD_eq_getElem?_getD, List.getElem?_eq_getElem hi]
  exact hl _ (List.getElem_mem hi)
theorem ref_round (l : List Int) (hl : Bytes l) (i : Nat) (hi : i < l.length) (j : Nat) (hj : j < 8) (c : Nat) (hc : c < 4294967296) (k : Nat) :
    minstrelref06_Sum.l1 (k + 1) l (c : Int) (i : Int) (j : Int) = minstrelref06_Sum.l1 k l ((bitIn c (l.getD i 0).toNat j : Nat) : Int) (i : Int) ((j + 1 : Nat) : Int) := by
  have hx := getD_byte hl hi
  obtain ⟨x, hxe⟩ := Int.eq_ofNat_of_zero_le hx.1
  have hx255 : x < 256 := by omega
  have hrd : rd l (i : Int) = (x : Int) := by unfold rd; rw [Int.toNat_natCast, hxe]
  have hxj : x >>> j < 256 := by rw [Nat.shiftRight_eq_div_pow]; exact Nat.lt_of_le_of_lt (Nat.div_le_self _ _) hx255
  have hc2 : (c : Int) / (2 : Int) = Int.ofNat (c >>> 1) := by rw [Nat.shiftRight_eq_div_pow]; show (c : Int) / 2 = ((c / 2 ^ 1 : Nat) : Int); omega
  have hmod : ((((x >>> j) % 2 : Nat) : Int)) % 4294967296 = (((x >>> j) % 2 : Nat) : Int) := by omega
  rw [l1_step k l c i j (by omega) (by omega) (by omega) (wrap_j j hj) (by omega), hrd, shr_j x j hj, and1_u32 c hc, and1_u8 _ hxj, hmod, wrap_small j (by omega), hc2, show Int.ofNat (c >>> 1) = ((c >>> 1 : Nat) : Int) from rfl, xorpoly _ (half_lt hc), hxe, Int.toNat_natCast]
  unfold bitIn
  by_cases hb : c % 2 = (x >>> j) % 2
  · rw [if_pos (by omega), if_pos hb]
  · rw [if_neg (by omega), if_neg hb]
theorem bitsIn_lt {c : Nat} (x : Nat) (h : c < 4294967296) : ∀ k, bitsIn c x k < 4294967296
  | 0 => h
  | k + 1 => bitIn_lt x k (bitsIn_lt x h k)
theorem ref_rounds (l : List Int) (hl : Bytes l) (i : Nat) (hi : i < l.length) (c : Nat) (hc : c < 4294967296) (k : Nat) : ∀ j, j ≤ 8 →
    minstrelref06_Sum.l1 (k + j) l (c : Int) (i : Int) 0 = minstrelref06_Sum.l1 k l ((bitsIn c (l.getD i 0).toNat j : Nat) : Int) (i : Int) (j : Int) := by
  intro j
  induction j generalizing k with
  | zero => intro _; rfl
  | succ j ih =>
    intro hj
    rw [show k + (j + 1) = (k + 1) + j by omega, ih (k + 1) (by omega), ref_round l hl i hi j (by omega) _ (bitsIn_lt _ hc j)]
    rfl
theorem ref_byte (l : List Int) (hl : Bytes l) (hm : l.length ≤ maxLen) (i : Nat) (hi : i < l.length) (c : Nat) (hc : c < 4294967296) (k : Nat) :
    minstrelref06_Sum.l0 (k + 10) l (c : Int) (i : Int) = minstrelref06_Sum.l0 k l ((crcB c (l.getD i 0).toNat : Nat) : Int) ((i + 1 : Nat) : Int) := by
  have hx := getD_byte hl hi
  rw [l0_in (k + 9) l c i (by omega), show k + 9 = (k + 1) + 8 by omega, ref_rounds l hl i hi c hc (k + 1) 8 (Nat.le_refl _), bitsIn_byte _ _ (by omega)]
  unfold maxLen at hm
  rw [show ((8 : Nat) : Int) = 8 from rfl, l1_end, wrap_small i (by omega)]
theorem ref_from (l : List Int) (hl : Bytes l) (hm : l.length ≤ maxLen) : ∀ (d i : Nat) (c : Nat), c < 4294967296 → i + d = l.length →
    minstrelref06_Sum.l0 (10 * d + 1) l (c : Int) (i : Int) = some ((4294967295 ^^^ crcL c (nat (l.drop i)) : Nat) : Int) := by
  intro d
  induction d with
  | zero =>
    intro i c hc hi
    rw [l0_out (10 * 0) l c i (by omega), List.drop_of_length_le (by omega)]
    exact congrArg some (u32_xor_nat 4294967295 c (by decide) hc)
  | succ d ih =>
    intro i c hc hi
    have hx := getD_byte hl (show i < l.length by omega)
    rw [show 10 * (d + 1) + 1 = (10 * d + 1) + 10 by omega, ref_byte l hl hm i (by omega) c hc, ih (i + 1) _ (crcB_lt hc (by omega)) (by omega)]
    rw [List.drop_eq_getElem_cons (show i < l.length by omega)]
    have e : l.getD i 0 = l[i] := by rw [List.getD_eq_getElem?_getD, List.getElem?_eq_getElem (by omega)]; rfl
    rw [e]
    rfl
theorem ref_Sum_eq (l : List Int) (hl : Bytes l) (hm : l.length ≤ maxLen) : minstrelref06_Sum.f (10 * l.length + 1) l = some ((sumN (nat l) : Nat) : Int) := by
  have := ref_from l hl hm l.length 0 4294967295 (by decide) (by omega)
  rw [List.drop_zero] at this
  exact this
end Go.Proofs.YtlkaffbgekbcfaaDoor.Pure
end
section
namespace Go.Proofs.YtlkaffbgekbcfaaDoor.Pr
open Go.RowKit Go.Proofs.YtlkaffbgekbcfaaDoorW.PrintWords Go.Proofs.YtlkaffbgekbcfaaDoorW.PrintLast Go.Proofs.YtlkaffbgekbcfaaDoorW.PrintMore Go.Proofs.YtlkaffbgekbcfaaDoor.Pure
set_option linter.unusedVariables false
set_option linter.unusedSimpArgs false
def bytesB (l : List Int) : Bool := l.all fun x => decide (0 ≤ x) && decide (x ≤ 255)
theorem _root_.Go.Proofs.YtlkaffbgekbcfaaDoor.Pure.Bytes.getD {l : List Int} (h : Bytes l) {i : Nat} (hi : i < l.length) : 0 ≤ l.getD i 0 ∧ l.getD i 0 ≤ 255 := getD_byte h hi
theorem bytesB_iff {l : List Int} : bytesB l = true ↔ Bytes l := by simp [bytesB, Bytes]
def sumL (l : List Int) : Int := ((sumN (nat l) : Nat) : Int)
def frameL (l : List Int) : List Int := fourL (l.length : Int) ++ (fourL (sumL (fourL (l.length : Int) ++ l)) ++ l)
def num4 (l : List Int) : Int := ((l.getD 0 0 * 256 + l.getD 1 0) * 256 + l.getD 2 0) * 256 + l.getD 3 0
def minstrelref06_First.f (l0 : List Int) : Option (List Int × Int × Int) :=
  if bytesB l0 = true then
    if (l0.length : Int) < 8 then some ([], 0, 3)
    else if num4 l0 > 1048576 then some ([], 0, 2)
    else if 8 + num4 l0 > (l0.length : Int) then some ([], 0, 3)
    else if frameL ((l0.take (8 + num4 l0).toNat).drop 8) = l0.take (8 + num4 l0).toNat then some ((l0.take (8 + num4 l0).toNat).drop 8, 8 + num4 l0, 0) else some ([], 0, 4)
  else none
theorem minstrelref06_First.cases {l0 : List Int} {r1 : List Int} {r2 r3 : Int} (h : minstrelref06_First.f l0 = some (r1, r2, r3)) : Bytes l0 ∧ (
    ((l0.length : Int) < 8 ∧ r1 = [] ∧ r2 = 0 ∧ r3 = 3) ∨ (8 ≤ (l0.length : Int) ∧ ((1048576 < num4 l0 ∧ r1 = [] ∧ r2 = 0 ∧ r3 = 2) ∨ (num4 l0 ≤ 1048576 ∧ ((l0.length : Int) < 8 + num4 l0 ∧ r1 = [] ∧ r2 = 0 ∧ r3 = 3 ∨ 8 + num4 l0 ≤ (l0.length : Int) ∧
        (frameL ((l0.take (8 + num4 l0).toNat).drop 8) = l0.take (8 + num4 l0).toNat ∧ r1 = (l0.take (8 + num4 l0).toNat).drop 8 ∧ r2 = 8 + num4 l0 ∧ r3 = 0 ∨ frameL ((l0.take (8 + num4 l0).toNat).drop 8) ≠ l0.take (8 + num4 l0).toNat ∧ r1 = [] ∧ r2 = 0 ∧ r3 = 4)))))) := by
  unfold minstrelref06_First.f at h
  by_cases hb : bytesB l0 = true
  · rw [if_pos hb] at h
    refine ⟨bytesB_iff.1 hb, ?_⟩
    by_cases c1 : (l0.length : Int) < 8
    · rw [if_pos c1] at h
      obtain ⟨rfl, rfl, rfl⟩ : [] = r1 ∧ 0 = r2 ∧ 3 = r3 := by simpa using h
      exact .inl ⟨c1, rfl, rfl, rfl⟩
    · rw [if_neg c1] at h
      refine .inr ⟨by omega, ?_⟩
      by_cases c2 : num4 l0 > 1048576
      · rw [if_pos c2] at h
        obtain ⟨rfl, rfl, rfl⟩ : [] = r1 ∧ 0 = r2 ∧ 2 = r3 := by simpa using h
        exact .inl ⟨c2, rfl, rfl, rfl⟩
      · rw [if_neg c2] at h
        refine .inr ⟨by omega, ?_⟩
        by_cases c3 : 8 + num4 l0 > (l0.length : Int)
        · rw [if_pos c3] at h
          obtain ⟨rfl, rfl, rfl⟩ : [] = r1 ∧ 0 = r2 ∧ 3 = r3 := by simpa using h
          exact .inl ⟨c3, rfl, rfl, rfl⟩
        · rw [if_neg c3] at h
          refine .inr ⟨by omega, ?_⟩
          by_cases c4 : frameL ((l0.take (8 + num4 l0).toNat).drop 8) = l0.take (8 + num4 l0).toNat
          · rw [if_pos c4] at h
            obtain ⟨h5, h6, h7⟩ : (l0.take (8 + num4 l0).toNat).drop 8 = r1 ∧ 8 + num4 l0 = r2 ∧ 0 = r3 := by simpa using h
            exact .inl ⟨c4, h5.symm, h6.symm, h7.symm⟩
          · rw [if_neg c4] at h
            obtain ⟨h5, h6, h7⟩ : [] = r1 ∧ 0 = r2 ∧ 4 = r3 := by simpa using h
            exact .inr ⟨c4, h5.symm, h6.symm, h7.symm⟩
  · rw [if_neg hb] at h
    cases h
theorem str_inj {a b : List Int} (ha : Bytes a) (hb : Bytes b) (h : strOfNums a = strOfNums b) : a = b := by
  have h1 : (a.map fun n => UInt8.ofNat n.toNat) = b.map fun n => UInt8.ofNat n.toNat := by
    have := congrArg (fun s : ByteArray => s.data.toList) h
    simpa [strOfNums_data] using this
  have key : ∀ (a b : List Int), Bytes a → Bytes b → (a.map fun n => UInt8.ofNat n.toNat) = (b.map fun n => UInt8.ofNat n.toNat) → a = b := by
    intro a
    induction a with
    | nil => intro b _ _ h; cases b with | nil => rfl | cons y b => simp at h
    | cons x a ih =>
      intro b ha hb h
      cases b with
      | nil => simp at h
      | cons y b =>
        simp only [List.map_cons, List.cons.injEq] at h
        have hx := ha x List.mem_cons_self
        have hy := hb y List.mem_cons_self
        have e := congrArg UInt8.toNat h.1
        simp only [UInt8.toNat_ofNat'] at e
        rw [ih b (fun z hz => ha z (List.mem_cons_of_mem _ hz)) (fun z hz => hb z (List.mem_cons_of_mem _ hz)) h.2]
        congr 1
        omega
  exact key a b ha hb h1
theorem toList_inj {a b : ByteArray} (h : a.toList = b.toList) : a = b := by
  have h1 : ∀ c : ByteArray, c.toList = c.data.toList := fun c => Go.ByteArray.toList_eq c
  rw [h1, h1] at h
  cases a; cases b
  congr 1
  exact Array.toList_inj.1 h
theorem str_bne {a b : List Int} (ha : Bytes a) (hb : Bytes b) (h : a ≠ b) : ((strOfNums a).toList == (strOfNums b).toList) = false :=
  beq_eq_false_iff_ne.2 fun e => h (str_inj ha hb (toList_inj e))
theorem bytes_frame {l : List Int} (h : Bytes l) : Bytes (frameL l) := by
  unfold frameL
  have h2 : ∀ a, Bytes (fourL a) := by
    intro a x hx
    simp only [fourL, List.mem_cons, List.mem_nil_iff, or_false] at hx
    rcases hx with rfl | rfl | rfl | rfl <;> omega
  intro x hx
  rcases List.mem_append.1 hx with hx | hx
  · exact h2 _ x hx
  · rcases List.mem_append.1 hx with hx | hx
    · exact h2 _ x hx
    · exact h x hx
theorem bytes_take {l : List Int} (h : Bytes l) (n : Nat) : Bytes (l.take n) := fun x hx => h x (List.mem_of_mem_take hx)
theorem bytes_drop {l : List Int} (h : Bytes l) (n : Nat) : Bytes (l.drop n) := fun x hx => h x (List.mem_of_mem_drop hx)
theorem bytes_app {l m : List Int} (h : Bytes l) (h' : Bytes m) : Bytes (l ++ m) := fun x hx => by
  rcases List.mem_append.1 hx with hx | hx
  · exact h x hx
  · exact h' x hx
theorem bytes_four (a : Int) : Bytes (fourL a) := by
  intro x hx
  simp only [fourL, List.mem_cons, List.mem_nil_iff, or_false] at hx
  rcases hx with rfl | rfl | rfl | rfl <;> omega
theorem and255 (a : Int) (h0 : 0 ≤ a) (h1 : a < 4294967296) : Go.bits .and .u32 a 255 = a % 256 := by
  obtain ⟨n, rfl⟩ := Int.eq_ofNat_of_zero_le h0
  have := u32_and_nat n 255 (by omega) (by decide)
  rw [nat_mask8] at this
  rw [show ((255 : Nat) : Int) = 255 from rfl] at this
  rw [this]
  omega
theorem ref_Four_eq (a : Int) (h0 : 0 ≤ a) (h1 : a < 4294967296) : minstrelref06_Four.f a = some (fourL a) := by
  unfold minstrelref06_Four.f fourL
  rw [and255 _ (by omega) (by omega), and255 _ (by omega) (by omega), and255 _ (by omega) (by omega)]
  congr 1
  simp only [List.cons.injEq, and_true]
  refine ⟨trivial, ?_, ?_, ?_⟩ <;> omega
theorem ref_Frame_eq (l : List Int) (h : Bytes l) (hl : l.length < 1073741824) : minstrelref06_Frame.f (10 * (l.length + 4) + 1) l = some (frameL l) := by
  have h1 : (l.length : Int) % 4294967296 = l.length := by omega
  have h4 : ∀ a, (fourL a).length = 4 := fun a => rfl
  have hs := ref_Sum_eq (fourL (l.length : Int) ++ l) (bytes_app (bytes_four _) h) (by simp only [List.length_append, h4]; unfold maxLen; omega)
  rw [show (fourL (l.length : Int) ++ l).length = l.length + 4 by simp only [List.length_append, h4]; omega] at hs
  have hlt := sumN_lt (nat_lt (bytes_app (bytes_four (l.length : Int)) h))
  unfold minstrelref06_Frame.f
  rw [h1, ref_Four_eq _ (by omega) (by omega)]
  simp only [Option.bind_some, List.nil_append, List.length_nil, h4]
  rw [if_pos (by omega)]
  (try simp only [Option.bind_some, h4])
  rw [if_pos (by omega), hs]
  (try simp only [Option.bind_some])
  rw [ref_Four_eq _ (by omega) (by omega)]
  (try simp only [Option.bind_some, h4])
  rw [if_pos (by omega), if_pos (by omega)]
  (try simp only [Option.bind_some, List.length_append, h4])
  rw [if_pos (by omega)]
  simp [frameL, sumL]
set_option maxRecDepth 100000 in
set_option maxHeartbeats 2000000 in
theorem minstrelref06_First.calls (A0 : Option Addr) (c0 : Nat) (l0 : List Int) (r1 : List Int) (r2 : Int) (r3 : Int) (w : World) (hr0 : Kd.C (Kd.int .u8) w A0 l0.length l0) (hc0 : l0.length ≤ c0) (h : minstrelref06_First.f l0 = some (r1, r2, r3)) :
    Calls Tryd.prog 39 #[.slice A0 l0.length c0] w fun e w' => ∃ v0_ : Value, e = .returned (.tuple #[v0_, .int .i64 r2, .int .i64 r3]) ∧ Kd.R (Kd.int .u8) 5 w' w.heap.size (fun _ => True) v0_ r1 ∧ Below w.heap.size w w' := by
  have HR0 := Aside0.mk hr0
  have hmx := Kd.C_max hr0
  obtain ⟨hB, H⟩ := minstrelref06_First.cases h
  clear h hr0
  rcases H with ⟨c1, rfl, rfl, rfl⟩ | ⟨c1, H⟩
  · go_enter Tryd.func39, Tryd.ntmps39
    go_wp2_with fail
    go_ret3
    exact ⟨_, rfl, Kd.R_nil _ _ _ _ _, Below.refl _ _⟩
  · have c1b : decide (l0.length < 8) = false := by simp; omega
    obtain ⟨ad, rfl, x0⟩ := Kd.at_int HR0.out 0 (by omega) (by omega)
    obtain ⟨ad_, ea_, x1⟩ := Kd.at_int HR0.out 1 (by omega) (by omega)
    cases ea_
    obtain ⟨ad_, ea_, x2⟩ := Kd.at_int HR0.out 2 (by omega) (by omega)
    cases ea_
    obtain ⟨ad_, ea_, x3⟩ := Kd.at_int HR0.out 3 (by omega) (by omega)
    cases ea_
    have y0 := hB.getD (i := 0) (by omega)
    have y1 := hB.getD (i := 1) (by omega)
    have y2 := hB.getD (i := 2) (by omega)
    have y3 := hB.getD (i := 3) (by omega)
    have HBB := Aside0.mk hB
    clear hB
    have hnum : num4 l0 = ((l0.getD 0 0 * 256 + l0.getD 1 0) * 256 + l0.getD 2 0) * 256 + l0.getD 3 0 := rfl
    obtain ⟨b0, Hb0⟩ : ∃ b, Aside0 (b = l0.getD 0 0) := ⟨_, ⟨rfl⟩⟩
    obtain ⟨b1, Hb1⟩ : ∃ b, Aside0 (b = l0.getD 1 0) := ⟨_, ⟨rfl⟩⟩
    obtain ⟨b2, Hb2⟩ : ∃ b, Aside0 (b = l0.getD 2 0) := ⟨_, ⟨rfl⟩⟩
    obtain ⟨b3, Hb3⟩ : ∃ b, Aside0 (b = l0.getD 3 0) := ⟨_, ⟨rfl⟩⟩
    rw [← Hb0.out, ← Hb1.out, ← Hb2.out, ← Hb3.out] at hnum
    obtain ⟨n, Hn⟩ : ∃ n, Aside0 (n = num4 l0) := ⟨_, ⟨rfl⟩⟩
    rw [← Hn.out] at hnum H
    have HH := Aside0.mk H
    clear H
    rw [show rd l0 0 = b0 from Hb0.out.symm, show (0 : Int).toNat = 0 from rfl, Addr.add_zero'] at x0
    rw [show rd l0 1 = b1 from Hb1.out.symm, show (1 : Int).toNat = 1 from rfl] at x1
    rw [show rd l0 2 = b2 from Hb2.out.symm, show (2 : Int).toNat = 2 from rfl] at x2
    rw [show rd l0 3 = b3 from Hb3.out.symm, show (3 : Int).toNat = 3 from rfl] at x3
    (try simp only [Nat.reduceMul, Nat.reduceEqDiff, Go.Addr.add, ↓reduceIte] at x1 x2 x3)
    rw [← Hb0.out] at y0
    rw [← Hb1.out] at y1
    rw [← Hb2.out] at y2
    rw [← Hb3.out] at y3
    have q0 : (0 < l0.length) = True := eq_true (by omega)
    have q1 : (1 < l0.length) = True := eq_true (by omega)
    have q2 : (2 < l0.length) = True := eq_true (by omega)
    have q3 : (3 < l0.length) = True := eq_true (by omega)
    have hn0 : 0 ≤ n := by omega
    have hn1 : n ≤ 4294967295 := by omega
    have HN := Aside0.mk hnum
    clear hnum
    go_enter Tryd.func39, Tryd.ntmps39
    go_wp2
    go_quiet (fail)
    rw [← HN.out]
    clear x0 x1 x2 x3 y0 y1 y2 y3 q0 q1 q2 q3
    rcases HH.out with ⟨c2, rfl, rfl, rfl⟩ | ⟨c2, ⟨c3, rfl, rfl, rfl⟩ | ⟨c3, H⟩⟩
    · go_wp2_with fail
      go_ret3
      exact ⟨_, rfl, Kd.R_nil _ _ _ _ _, pw_below_drewN (Below.refl _ _) _⟩
    · go_wp2_with fail
      go_ret3
      exact ⟨_, rfl, Kd.R_nil _ _ _ _ _, pw_below_drewN (Below.refl _ _) _⟩
    · go_wp2_with fail
      obtain ⟨i0, hi, hz0, hz1, hz2⟩ := info_parts infoU8
      obtain ⟨A2, c2_, y, Hy, hrun2, hcy2, hC2⟩ := cut_lh (P := Tryd.prog) (d := Kd.int .u8) 31 5 Tryd.underlying31 hi hz1 (some ad) c0 l0 hc0 8 (8 + n) (by omega) (by omega) (by omega)
      obtain ⟨z, Hz, hrun1, hcz, hC1⟩ := cut_h (P := Tryd.prog) (d := Kd.int .u8) 31 5 Tryd.underlying31 hi hz1 (some ad) c0 l0 hc0 (8 + n) (by omega) (by omega)
      have e1 : l0.take (8 + n).toNat = z := Hz.out.symm
      have e2 : z.drop 8 = y := by rw [← e1]; exact Hy.out.symm
      rw [e1, e2] at H
      have HY := Aside0.mk H
      have hyl : y.length ≤ 1048576 := by rw [Hy.out]; simp; omega
      have hyB : Bytes y := by rw [Hy.out]; exact bytes_drop (bytes_take HBB.out _) _
      have HC := Aside0.mk (And.intro hC1 hC2)
      have HF := Aside0.mk (ref_Frame_eq y hyB (by omega))
      obtain ⟨f, Hf⟩ : ∃ f, Aside0 (f = frameL y) := ⟨_, ⟨rfl⟩⟩
      obtain ⟨S1, HS1⟩ : ∃ s, Aside0 (s = strOfNums f) := ⟨_, ⟨rfl⟩⟩
      obtain ⟨S2, HS2⟩ : ∃ s, Aside0 (s = strOfNums z) := ⟨_, ⟨rfl⟩⟩
      rw [← Hf.out] at HF HY
      clear hC1 hC2 e1 e2 H HH hyB hz0 hz1 hz2 hi
      have hcz2 : ∀ k, (convert 31 9 (.slice (some ad) z.length c0)).run Tryd.prog (w.drewN k) = .ok (.string S2) (w.drewN k) := fun k => by
        rw [HS2.out]; exact Kd.C_string Tryd.underlying31 Tryd.underlying5 Tryd.underlying9 (HC.out.1 (w.drewN k) HR0.out)
      have hw8 : IntKind.i64.wrap (8 + n) = 8 + n := by rw [IntKind.wrap_i64]; omega
      have HCALL := Aside0.mk (fun k : Nat => minstrelref06_Frame.calls _ A2 c2_ y f (w.drewN k) (HC.out.2 (w.drewN k) HR0.out) hcy2 HF.out)
      go_cut [49] (fun s wx => ∃ bb : Bool, Aside0 (bb = !(S1.toList == S2.toList)) ∧ s = .bool bb ∧ Aside0 (Below w.heap.size w wx))
      case first =>
        go_region_with (first | (go_at_call 35; refine (HCALL.out _).mono ?_; rintro e w5 ⟨v5, rfl, ho5, hb5⟩; obtain ⟨A5, c5, rfl, hc5, hr5⟩ := Kd.R_reads ho5; have hcf := Kd.C_string (c := c5) Tryd.underlying31 Tryd.underlying5 Tryd.underlying9 hr5; have hczz := Kd.C_string (c := c0) Tryd.underlying31 Tryd.underlying5 Tryd.underlying9 (HC.out.1 w5 (Kd.C_below HR0.out (show Below w.heap.size w w5 from ⟨hb5.os, hb5.tape, hb5.output, hb5.size, hb5.block⟩))); rw [← HS1.out] at hcf; rw [← HS2.out] at hczz; have HB5 : Aside0 (Below w.heap.size w w5) := ⟨⟨hb5.os, hb5.tape, hb5.output, hb5.size, hb5.block⟩⟩; clear ho5 hr5 hb5))
        all_goals (go_wp2_with fail; go_meet; first | exact ⟨_, ⟨rfl⟩, rfl, HB5⟩ | exact ⟨_, ⟨rfl⟩, rfl, ⟨pw_below_drewN HB5.out _⟩⟩)
      case rest =>
        obtain ⟨bb, Hbb, rfl, HBx⟩ := hcut
        clear hcz2 HF
        rcases HY.out with ⟨e0, e1, rfl, rfl⟩ | ⟨e0, rfl, rfl, rfl⟩
        · have t1 : (!(S1.toList == S2.toList)) = false := by rw [HS1.out, HS2.out, e0, beq_self_eq_true]; rfl
          obtain rfl : bb = false := Hbb.out.trans t1
          have HE1 := Aside0.mk e1
          have HCC := Aside0.mk (HC.out.2 wc (Kd.C_below HR0.out HBx.out))
          clear HY e0 e1 hrun1 Hy t1 Hbb
          go_wp2_with (first | ((with_reducible refine gate_dst (N := 50) rfl ?_); refine Kd.R_lit (Kd.int .u8) _ 5 ?hg (N := 50) ?hd (xs := ([] : List Int)) (inner := []) (ok := fun _ => True) (okp := fun _ => True) ?hr ?hp (fun _ hk => hk) trivial (Below.refl _ _) (Nat.le_refl _) (by simp) ?_; (case hd => rfl); (case hg => rfl); (case hr => first | (go_simp; done) | (go_simp; rfl)); (case hp => exact (Reps.none _ _)); intro v6 w6 ho6 hb6 hg_ hnew_; clear hg_ hnew_; have HO6 := Aside0.mk (Kd.R_lower ho6 HBx.out.size); have HB6 := Aside0.mk (below_then HBx.out HBx.out.size hb6); have HCD := Aside0.mk (Kd.C_below HCC.out hb6); clear ho6 hb6) | ((with_reducible refine gate_builtin (b := .append) (xs := #[.tmp 50, .tmp 54]) rfl ?_); at_builtin; refine Kd.R_append_rows (Kd.int .u8) (w0 := w) w.heap.size rfl (.tmp 50) (.tmp 54) 31 5 (.int .u8 0) 1 rfl Tryd.underlying31 infoU8 rfl (by decide) (by omega) v6 ([] : List Int) y _ _ _ (fun _ => True) (fun _ => False) rfl rfl HO6.out HCD.out (fun _ _ h => h) (fun _ h => h.elim) (fun _ _ => trivial) HB6.out HB6.out.size (by simp; omega) ?_; intro v7 w7 ho7 hb7 hg7 hat7; have HO7 := Aside0.mk ho7; have HB7 := Aside0.mk hb7; clear ho7 hb7 hg7 hat7))
          go_ret3
          exact ⟨_, rfl, by rw [HE1.out]; simpa using HO7.out, HB7.out⟩
        · have t1 : (!(S1.toList == S2.toList)) = true := by
            rw [HS1.out, HS2.out]
            rw [str_bne (by rw [Hf.out]; exact bytes_frame (by rw [Hy.out]; exact bytes_drop (bytes_take HBB.out _) _)) (by rw [Hz.out]; exact bytes_take HBB.out _) e0]
            rfl
          obtain rfl : bb = true := Hbb.out.trans t1
          clear HY e0
          go_wp2_with fail
          go_ret3
          exact ⟨_, rfl, Kd.R_nil _ _ _ _ _, HBx.out⟩
end Go.Proofs.YtlkaffbgekbcfaaDoor.Pr
end
section
namespace Go.Proofs.YtlkaffbgekbcfaaDoor.Pure
open Go.RowKit Go.Proofs.YtlkaffbgekbcfaaDoor.Pr Go.Proofs.YtlkaffbgekbcfaaDoorW.PrintWords Go.Proofs.YtlkaffbgekbcfaaDoorW.PrintLast Go.Proofs.YtlkaffbgekbcfaaDoorW.PrintMore Go.Proofs.YtlkaffbgekbcfaaDoor.Crc
set_option linter.unusedVariables false
set_option linter.unusedSimpArgs false
theorem or4 (a b c d : Nat) (ha : a < 256) (hb : b < 256) (hc : c < 256) (hd : d < 256) : ((a * 16777216 ||| b * 65536) ||| c * 256) ||| d = ((a * 256 + b) * 256 + c) * 256 + d := by
  rw [nat_join 24 (a * 16777216) (b * 65536) (by omega) (by omega), nat_join 16 (a * 16777216 + b * 65536) (c * 256) (by omega) (by omega), nat_join 8 _ d (by omega) (by omega)]
  omega
theorem number_eq (l : List Int) (h : Bytes l) (hl : 4 ≤ l.length) : frame_number.f l = some (num4 l) := by
  have y0 := getD_byte h (show 0 < l.length by omega)
  have y1 := getD_byte h (show 1 < l.length by omega)
  have y2 := getD_byte h (show 2 < l.length by omega)
  have y3 := getD_byte h (show 3 < l.length by omega)
  obtain ⟨a, ha⟩ := Int.eq_ofNat_of_zero_le y0.1
  obtain ⟨b, hb⟩ := Int.eq_ofNat_of_zero_le y1.1
  obtain ⟨c, hc⟩ := Int.eq_ofNat_of_zero_le y2.1
  obtain ⟨d, hd⟩ := Int.eq_ofNat_of_zero_le y3.1
  have r0 : rd l 0 = (a : Int) := ha
  have r1 : rd l 1 = (b : Int) := hb
  have r2 : rd l 2 = (c : Int) := hc
  have r3 : rd l 3 = (d : Int) := hd
  unfold frame_number.f num4
  rw [if_pos (by omega), if_pos (by omega), if_pos (by omega), if_pos (by omega), r0, r1, r2, r3, ha, hb, hc, hd]
  rw [show ((((a : Int) % 4294967296) * 16777216) % 4294967296) = ((a * 16777216 : Nat) : Int) by omega, show ((((b : Int) % 4294967296) * 65536) % 4294967296) = ((b * 65536 : Nat) : Int) by omega, show ((((c : Int) % 4294967296) * 256) % 4294967296) = ((c * 256 : Nat) : Int) by omega, show ((d : Int) % 4294967296) = ((d : Nat) : Int) by omega]
  have h1 : a * 16777216 ||| b * 65536 < 2 ^ 32 := Nat.or_lt_two_pow (by omega) (by omega)
  have h2 : (a * 16777216 ||| b * 65536) ||| c * 256 < 2 ^ 32 := Nat.or_lt_two_pow h1 (by omega)
  rw [u32_or_nat _ _ (by omega) (by omega), u32_or_nat _ _ h1 (by omega), u32_or_nat _ _ h2 (by omega), or4 a b c d (by omega) (by omega) (by omega) (by omega)]
  congr 1
theorem num_four (s : Int) (h0 : 0 ≤ s) (h1 : s < 4294967296) : num4 (fourL s) = s := by
  unfold num4 fourL
  show (((s / 16777216 % 256) * 256 + (s / 65536 % 256)) * 256 + (s / 256 % 256)) * 256 + (s % 256) = s
  omega
theorem sumL_range (l : List Int) (h : Bytes l) : 0 ≤ sumL l ∧ sumL l < 4294967296 := by
  have := sumN_lt (nat_lt h)
  unfold sumL
  omega
end Go.Proofs.YtlkaffbgekbcfaaDoor.Pure
end
section
namespace Go.Proofs.YtlkaffbgekbcfaaDoor.Pure
open Go.RowKit Go.Proofs.YtlkaffbgekbcfaaDoor.Pr Go.Proofs.YtlkaffbgekbcfaaDoorW.PrintWords Go.Proofs.YtlkaffbgekbcfaaDoorW.PrintLast Go.Proofs.YtlkaffbgekbcfaaDoorW.PrintMore Go.Proofs.YtlkaffbgekbcfaaDoor.Crc
set_option linter.unusedVariables false
set_option linter.unusedSimpArgs false
theorem frameL_length (l : List Int) : (frameL l).length = 8 + l.length := by
  unfold frameL
  have h4 : ∀ a, (fourL a).length = 4 := fun a => rfl
  simp only [List.length_append, h4]
  omega
theorem Frame_eq (l : List Int) (h : Bytes l) (hl : l.length ≤ 1048576) : frame_Frame.f l = some (frameL l, 0) := by
  unfold frame_Frame.f
  rw [if_neg (by omega), sum_eq _ (by simpa using bytes_app (bytes_four _) h)]
  simp [frameL, sumL]
end Go.Proofs.YtlkaffbgekbcfaaDoor.Pure
end
