/- A part of the proof of the law that RowValueTwice shows: lemmas, and contracts of the calls that it reaches. -/
import Derived.Test.YtongfmeediokmaaDoorProg
import Derived.Below
import Derived.Deep.Draws
import Derived.Deep.AppendLies
import Derived.Maps.AppendAt
import Derived.OwnWalk
import Derived.Laws.BytesArg
import Derived.Laws.MakeOwn
import Derived.Laws.OwnMore
import Derived.Deep.OwnRows
import Derived.Tactics
import Derived.Lib.ConvBytes
import Derived.Laws.Slices
import Derived.WalkKit
import Derived.KernelRfl
import Derived.RowKit3
import Derived.Deep.LoopGhost
import Derived.Deep.QuietTactic
import Derived.BigQuiet
import Derived.WideLaws
import Derived.Deep.DeepCutAuto
import Derived.Deep.CutBlock
import Derived.Deep.RegionHeld3
import Derived.Laws.Rows
import Derived.Lib.AppendStr
import Derived.ArgAppend
import Derived.Laws.IdiomCopy
import Derived.OrdersHeld
import Derived.Laws.BitsLemmas
import Derived.RowKit
import Derived.Test.YtongfmeediokmaaDoorZC0
import Derived.Test.YtongfmeediokmaaDoorZC1
set_option linter.unusedVariables false
set_option linter.unusedSimpArgs false
section
namespace Go.Proofs.YtongfmeediokmaaDoor.Pr
open Go.RowKit Go.Proofs.YtongfmeediokmaaDoorW.PrintWords Go.Proofs.YtongfmeediokmaaDoorW.PrintLast Go.Proofs.YtongfmeediokmaaDoorW.PrintMore
attribute [local go_sem] max2_int min2_int max_two min_two max_three min_three max_four min_four
mutual
def dec_cut.j0 : Nat → ByteArray → ByteArray → Int → Option (ByteArray × Int × Bool)
  | 0, _, _, _ => none
  | k + 1, x6, x134000, x134001 => if x6.toList = ([] : List UInt8) then (some (x134000, x134001, true)) else (if 0 < (x6.size : Int) then (if (bt x6 0) = 101 then (dec_cut.j1 k x6 false x134000 x134001) else (dec_cut.j1 k x6 ((bt x6 0) != 69) x134000 x134001)) else (none))
def dec_cut.j1 : Nat → ByteArray → Bool → ByteArray → Int → Option (ByteArray × Int × Bool)
  | 0, _, _, _, _ => none
  | k + 1, x6, x56, x134000, x134001 => if x56 = true then (some (x134000, x134001, false)) else (if 1 ≤ (x6.size : Int) then (if (x6.extract 1 x6.size).toList = ([] : List UInt8) then (dec_cut.j2 k (x6.extract 1 x6.size) 1 false x134000 x134001) else (if 0 < ((x6.extract 1 x6.size).size : Int) then (if (bt (x6.extract 1 x6.size) 0) = 43 then (dec_cut.j2 k (x6.extract 1 x6.size) 1 true x134000 x134001) else (dec_cut.j2 k (x6.extract 1 x6.size) 1 ((bt (x6.extract 1 x6.size) 0) == 45) x134000 x134001)) else (none))) else (none))
def dec_cut.j2 : Nat → ByteArray → Int → Bool → ByteArray → Int → Option (ByteArray × Int × Bool)
  | 0, _, _, _, _, _ => none
  | k + 1, x6, x8, x71, x134000, x134001 => if x71 = true then (if 0 < (x6.size : Int) then (if (bt x6 0) = 45 then (if 1 ≤ (x6.size : Int) then (dec_cut.j3 k (x6.extract 1 x6.size) (-1) x134000 x134001) else (none)) else (if 1 ≤ (x6.size : Int) then (dec_cut.j3 k (x6.extract 1 x6.size) x8 x134000 x134001) else (none))) else (none)) else (dec_cut.j3 k x6 x8 x134000 x134001)
def dec_cut.j3 : Nat → ByteArray → Int → ByteArray → Int → Option (ByteArray × Int × Bool)
  | 0, _, _, _, _ => none
  | k + 1, x6, x8, x134000, x134001 => if x6.toList = ([] : List UInt8) then (dec_cut.j4 k x6 x8 true x134000 x134001) else ((dec_digits.f k x6).bind fun t136 => (dec_cut.j4 k x6 x8 (t136 != (x6.size : Int)) x134000 x134001))
def dec_cut.j4 : Nat → ByteArray → Int → Bool → ByteArray → Int → Option (ByteArray × Int × Bool)
  | 0, _, _, _, _, _ => none
  | k + 1, x6, x8, x85, x134000, x134001 => if x85 = true then (some (x134000, x134001, false)) else (dec_cut.l0 k x6 x8 0 (x6.size : Int) 0 x134000 x134001)
def dec_cut.l0 : Nat → ByteArray → Int → Int → Int → Int → ByteArray → Int → Option (ByteArray × Int × Bool)
  | 0, _, _, _, _, _, _, _ => none
  | k + 1, x6, x8, x9, x88, x89, x134000, x134001 => if x89 < x88 then (if 0 ≤ x89 then (if x89 < (x6.size : Int) then (dec_cut.l0 k x6 x8 (mn (wrap64 ((wrap64 (10 * x9)) + (((bt x6 x89) - 48) % 256))) 9999) x88 (wrap64 (x89 + 1)) x134000 x134001) else (none)) else (none)) else (some (x134000, wrap64 (x134001 + (wrap64 (x8 * x9))), true))
end
def dec_cut.f (k : Nat) (a0 : ByteArray) : Option (ByteArray × Int × Bool) := (dec_digits.f k a0).bind fun t132 => (if 0 ≤ t132 then (if t132 ≤ (a0.size : Int) then (if t132 = 0 then (some (a0.extract 0 (t132 : Int).toNat, 0, false)) else ((strings_HasPrefix.f (a0.extract (t132 : Int).toNat a0.size) (⟨#[46]⟩ : ByteArray)).bind fun t134 => (if t134 = true then (if 1 ≤ ((a0.extract (t132 : Int).toNat a0.size).size : Int) then ((dec_digits.f k ((a0.extract (t132 : Int).toNat a0.size).extract 1 (a0.extract (t132 : Int).toNat a0.size).size)).bind fun t135 => (if t135 = 0 then (some (a0.extract 0 (t132 : Int).toNat, 0, false)) else (if 1 ≤ (wrap64 (1 + t135)) then (if (wrap64 (1 + t135)) ≤ ((a0.extract (t132 : Int).toNat a0.size).size : Int) then (if (a0.extract 0 (t132 : Int).toNat).size + ((a0.extract (t132 : Int).toNat a0.size).extract 1 ((wrap64 (1 + t135)) : Int).toNat).size ≤ 9223372036854775807 then (if 0 ≤ (wrap64 (1 + t135)) then (dec_cut.j0 k ((a0.extract (t132 : Int).toNat a0.size).extract ((wrap64 (1 + t135)) : Int).toNat (a0.extract (t132 : Int).toNat a0.size).size) ((a0.extract 0 (t132 : Int).toNat) ++ ((a0.extract (t132 : Int).toNat a0.size).extract 1 ((wrap64 (1 + t135)) : Int).toNat)) (wrap64 (-t135))) else (none)) else (none)) else (none)) else (none)))) else (none)) else (dec_cut.j0 k (a0.extract (t132 : Int).toNat a0.size) (a0.extract 0 (t132 : Int).toNat) 0)))) else (none)) else (none))
theorem dec_cut.mono_l : ∀ k, (∀ y0 y1 y2, LeO (dec_cut.j0 k y0 y1 y2) (dec_cut.j0 (k + 1) y0 y1 y2)) ∧ (∀ y0 y1 y2 y3, LeO (dec_cut.j1 k y0 y1 y2 y3) (dec_cut.j1 (k + 1) y0 y1 y2 y3)) ∧ (∀ y0 y1 y2 y3 y4, LeO (dec_cut.j2 k y0 y1 y2 y3 y4) (dec_cut.j2 (k + 1) y0 y1 y2 y3 y4)) ∧ (∀ y0 y1 y2 y3, LeO (dec_cut.j3 k y0 y1 y2 y3) (dec_cut.j3 (k + 1) y0 y1 y2 y3)) ∧ (∀ y0 y1 y2 y3 y4, LeO (dec_cut.j4 k y0 y1 y2 y3 y4) (dec_cut.j4 (k + 1) y0 y1 y2 y3 y4)) ∧ (∀ y0 y1 y2 y3 y4 y5 y6, LeO (dec_cut.l0 k y0 y1 y2 y3 y4 y5 y6) (dec_cut.l0 (k + 1) y0 y1 y2 y3 y4 y5 y6))
  | 0 => ⟨fun _ _ _ r h => by simp [dec_cut.j0] at h, fun _ _ _ _ r h => by simp [dec_cut.j1] at h, fun _ _ _ _ _ r h => by simp [dec_cut.j2] at h, fun _ _ _ _ r h => by simp [dec_cut.j3] at h, fun _ _ _ _ _ r h => by simp [dec_cut.j4] at h, fun _ _ _ _ _ _ _ r h => by simp [dec_cut.l0] at h⟩
  | k + 1 => by
    obtain ⟨ih0, ih1, ih2, ih3, ih4, ih5⟩ := dec_cut.mono_l k
    refine ⟨?_, ?_, ?_, ?_, ?_, ?_⟩
    · intro y0 y1 y2
      unfold dec_cut.j0
      repeat' first
      | (with_reducible exact ih0 _ _ _)
      | (with_reducible exact ih1 _ _ _ _)
      | (with_reducible exact ih2 _ _ _ _ _)
      | (with_reducible exact ih3 _ _ _ _)
      | (with_reducible exact ih4 _ _ _ _ _)
      | (with_reducible exact ih5 _ _ _ _ _ _ _)
      | (with_reducible exact dec_digits.mono _ _)
      | (with_reducible exact LeO.refl _)
      | (with_reducible exact LeO.none _)
      | (with_reducible refine LeO.ite ?_ ?_)
      | (with_reducible refine LeO.bind ?_ (fun _ => ?_))
      | exact ih0 _ _ _
      | exact ih1 _ _ _ _
      | exact ih2 _ _ _ _ _
      | exact ih3 _ _ _ _
      | exact ih4 _ _ _ _ _
      | exact ih5 _ _ _ _ _ _ _
      | exact dec_digits.mono _ _
      | exact LeO.none _
      | refine LeO.ite ?_ ?_
      | refine LeO.bind ?_ (fun _ => ?_)
    · intro y0 y1 y2 y3
      unfold dec_cut.j1
      repeat' first
      | (with_reducible exact ih0 _ _ _)
      | (with_reducible exact ih1 _ _ _ _)
      | (with_reducible exact ih2 _ _ _ _ _)
      | (with_reducible exact ih3 _ _ _ _)
      | (with_reducible exact ih4 _ _ _ _ _)
      | (with_reducible exact ih5 _ _ _ _ _ _ _)
      | (with_reducible exact dec_digits.mono _ _)
      | (with_reducible exact LeO.refl _)
      | (with_reducible exact LeO.none _)
      | (with_reducible refine LeO.ite ?_ ?_)
      | (with_reducible refine LeO.bind ?_ (fun _ => ?_))
      | exact ih0 _ _ _
      | exact ih1 _ _ _ _
      | exact ih2 _ _ _ _ _
      | exact ih3 _ _ _ _
      | exact ih4 _ _ _ _ _
      | exact ih5 _ _ _ _ _ _ _
      | exact dec_digits.mono _ _
      | exact LeO.none _
      | refine LeO.ite ?_ ?_
      | refine LeO.bind ?_ (fun _ => ?_)
    · intro y0 y1 y2 y3 y4
      unfold dec_cut.j2
      repeat' first
      | (with_reducible exact ih0 _ _ _)
      | (with_reducible exact ih1 _ _ _ _)
      | (with_reducible exact ih2 _ _ _ _ _)
      | (with_reducible exact ih3 _ _ _ _)
      | (with_reducible exact ih4 _ _ _ _ _)
      | (with_reducible exact ih5 _ _ _ _ _ _ _)
      | (with_reducible exact dec_digits.mono _ _)
      | (with_reducible exact LeO.refl _)
      | (with_reducible exact LeO.none _)
      | (with_reducible refine LeO.ite ?_ ?_)
      | (with_reducible refine LeO.bind ?_ (fun _ => ?_))
      | exact ih0 _ _ _
      | exact ih1 _ _ _ _
      | exact ih2 _ _ _ _ _
      | exact ih3 _ _ _ _
      | exact ih4 _ _ _ _ _
      | exact ih5 _ _ _ _ _ _ _
      | exact dec_digits.mono _ _
      | exact LeO.none _
      | refine LeO.ite ?_ ?_
      | refine LeO.bind ?_ (fun _ => ?_)
    · intro y0 y1 y2 y3
      unfold dec_cut.j3
      repeat' first
      | (with_reducible exact ih0 _ _ _)
      | (with_reducible exact ih1 _ _ _ _)
      | (with_reducible exact ih2 _ _ _ _ _)
      | (with_reducible exact ih3 _ _ _ _)
      | (with_reducible exact ih4 _ _ _ _ _)
      | (with_reducible exact ih5 _ _ _ _ _ _ _)
      | (with_reducible exact dec_digits.mono _ _)
      | (with_reducible exact LeO.refl _)
      | (with_reducible exact LeO.none _)
      | (with_reducible refine LeO.ite ?_ ?_)
      | (with_reducible refine LeO.bind ?_ (fun _ => ?_))
      | exact ih0 _ _ _
      | exact ih1 _ _ _ _
      | exact ih2 _ _ _ _ _
      | exact ih3 _ _ _ _
      | exact ih4 _ _ _ _ _
      | exact ih5 _ _ _ _ _ _ _
      | exact dec_digits.mono _ _
      | exact LeO.none _
      | refine LeO.ite ?_ ?_
      | refine LeO.bind ?_ (fun _ => ?_)
    · intro y0 y1 y2 y3 y4
      unfold dec_cut.j4
      repeat' first
      | (with_reducible exact ih0 _ _ _)
      | (with_reducible exact ih1 _ _ _ _)
      | (with_reducible exact ih2 _ _ _ _ _)
      | (with_reducible exact ih3 _ _ _ _)
      | (with_reducible exact ih4 _ _ _ _ _)
      | (with_reducible exact ih5 _ _ _ _ _ _ _)
      | (with_reducible exact dec_digits.mono _ _)
      | (with_reducible exact LeO.refl _)
      | (with_reducible exact LeO.none _)
      | (with_reducible refine LeO.ite ?_ ?_)
      | (with_reducible refine LeO.bind ?_ (fun _ => ?_))
      | exact ih0 _ _ _
      | exact ih1 _ _ _ _
      | exact ih2 _ _ _ _ _
      | exact ih3 _ _ _ _
      | exact ih4 _ _ _ _ _
      | exact ih5 _ _ _ _ _ _ _
      | exact dec_digits.mono _ _
      | exact LeO.none _
      | refine LeO.ite ?_ ?_
      | refine LeO.bind ?_ (fun _ => ?_)
    · intro y0 y1 y2 y3 y4 y5 y6
      unfold dec_cut.l0
      repeat' first
      | (with_reducible exact ih0 _ _ _)
      | (with_reducible exact ih1 _ _ _ _)
      | (with_reducible exact ih2 _ _ _ _ _)
      | (with_reducible exact ih3 _ _ _ _)
      | (with_reducible exact ih4 _ _ _ _ _)
      | (with_reducible exact ih5 _ _ _ _ _ _ _)
      | (with_reducible exact dec_digits.mono _ _)
      | (with_reducible exact LeO.refl _)
      | (with_reducible exact LeO.none _)
      | (with_reducible refine LeO.ite ?_ ?_)
      | (with_reducible refine LeO.bind ?_ (fun _ => ?_))
      | exact ih0 _ _ _
      | exact ih1 _ _ _ _
      | exact ih2 _ _ _ _ _
      | exact ih3 _ _ _ _
      | exact ih4 _ _ _ _ _
      | exact ih5 _ _ _ _ _ _ _
      | exact dec_digits.mono _ _
      | exact LeO.none _
      | refine LeO.ite ?_ ?_
      | refine LeO.bind ?_ (fun _ => ?_)
theorem dec_cut.mono : ∀ a0 k, LeO (dec_cut.f k a0) (dec_cut.f (k + 1) a0) := by
  intro a0 k
  obtain ⟨ih0, ih1, ih2, ih3, ih4, ih5⟩ := dec_cut.mono_l k
  unfold dec_cut.f
  repeat' first
      | (with_reducible exact ih0 _ _ _)
      | (with_reducible exact ih1 _ _ _ _)
      | (with_reducible exact ih2 _ _ _ _ _)
      | (with_reducible exact ih3 _ _ _ _)
      | (with_reducible exact ih4 _ _ _ _ _)
      | (with_reducible exact ih5 _ _ _ _ _ _ _)
      | (with_reducible exact dec_digits.mono _ _)
      | (with_reducible exact LeO.refl _)
      | (with_reducible exact LeO.none _)
      | (with_reducible refine LeO.ite ?_ ?_)
      | (with_reducible refine LeO.bind ?_ (fun _ => ?_))
      | exact ih0 _ _ _
      | exact ih1 _ _ _ _
      | exact ih2 _ _ _ _ _
      | exact ih3 _ _ _ _
      | exact ih4 _ _ _ _ _
      | exact ih5 _ _ _ _ _ _ _
      | exact dec_digits.mono _ _
      | exact LeO.none _
      | refine LeO.ite ?_ ?_
      | refine LeO.bind ?_ (fun _ => ?_)
def dec_cut.T2 : Bool × List (List Nat × List Nat) := (true, [([], []), ([], []), ([0, 1], [0, 1]), ([2], [2]), ([], []), ([], []), ([4, 5], [4, 5]), ([], []), ([7, 3, 0, 1, 2, 3, 7], [3, 7]), ([6, 8, 0, 1, 2, 3, 4, 5, 6, 7, 8], [6])])
def dec_cut.B2 : List Nat := [0, 0, 3, 7, 0, 0, 48, 0, 143, 511]
theorem dec_cut.tab2 : rtab .any (opsOf Tryd.f35 2) = dec_cut.T2 := by kernel_rfl
theorem dec_cut.bits2 : waitsOk dec_cut.T2.2 dec_cut.B2 = true := by kernel_rfl
def dec_cut.T9 : Bool × List (List Nat × List Nat) := (true, [([], []), ([0], [0]), ([], []), ([], []), ([3], [3]), ([2, 4], [2, 4]), ([1, 5], [1, 5]), ([], []), ([7], [7]), ([], []), ([], []), ([10], [10]), ([9, 11], [9, 11]), ([0, 1, 2, 3, 4, 5, 6], []), ([13, 6, 0, 1, 2, 3, 4, 5, 6], [6, 13]), ([0, 1, 2, 3, 4, 5, 6, 7, 8, 13, 14], []), ([15, 8, 14, 0, 1, 2, 3, 4, 5, 6, 7, 8, 13, 14], [8, 15]), ([12, 16, 0, 1, 2, 3, 4, 5, 6, 7, 8, 9, 10, 11, 12, 13, 14, 15, 16], [2, 9, 12])])
def dec_cut.B9 : List Nat := [0, 1, 0, 0, 8, 28, 63, 0, 128, 0, 0, 1024, 3584, 127, 8319, 25087, 57855, 131071]
theorem dec_cut.tab9 : rtab .any (opsOf Tryd.f35 9) = dec_cut.T9 := by kernel_rfl
theorem dec_cut.bits9 : waitsOk dec_cut.T9.2 dec_cut.B9 = true := by kernel_rfl
set_option maxHeartbeats 8000000 in
set_option maxRecDepth 100000 in
theorem dec_cut.calls (k : Nat) (a0 : ByteArray) (r1 : ByteArray) (r2 : Int) (r3 : Bool) (w : World) (h : dec_cut.f k a0 = some (r1, r2, r3)) :
    Calls Tryd.prog 35 #[.string a0] w fun e w' => e = .returned (.tuple #[.agg #[.string r1, .int .i64 r2], .bool r3]) ∧ Below w.heap.size w w' := by
  have hu53 := Tryd.underlying53
  have HB := Aside0.mk (Below.refl w.heap.size w)
  have H : ((dec_digits.f k a0).bind fun t132 => (if 0 ≤ t132 then (if t132 ≤ (a0.size : Int) then (if t132 = 0 then (some (a0.extract 0 (t132 : Int).toNat, 0, false)) else ((strings_HasPrefix.f (a0.extract (t132 : Int).toNat a0.size) (⟨#[46]⟩ : ByteArray)).bind fun t134 => (if t134 = true then (if 1 ≤ ((a0.extract (t132 : Int).toNat a0.size).size : Int) then ((dec_digits.f k ((a0.extract (t132 : Int).toNat a0.size).extract 1 (a0.extract (t132 : Int).toNat a0.size).size)).bind fun t135 => (if t135 = 0 then (some (a0.extract 0 (t132 : Int).toNat, 0, false)) else (if 1 ≤ (wrap64 (1 + t135)) then (if (wrap64 (1 + t135)) ≤ ((a0.extract (t132 : Int).toNat a0.size).size : Int) then (if (a0.extract 0 (t132 : Int).toNat).size + ((a0.extract (t132 : Int).toNat a0.size).extract 1 ((wrap64 (1 + t135)) : Int).toNat).size ≤ 9223372036854775807 then (if 0 ≤ (wrap64 (1 + t135)) then (dec_cut.j0 k ((a0.extract (t132 : Int).toNat a0.size).extract ((wrap64 (1 + t135)) : Int).toNat (a0.extract (t132 : Int).toNat a0.size).size) ((a0.extract 0 (t132 : Int).toNat) ++ ((a0.extract (t132 : Int).toNat a0.size).extract 1 ((wrap64 (1 + t135)) : Int).toNat)) (wrap64 (-t135))) else (none)) else (none)) else (none)) else (none)))) else (none)) else (dec_cut.j0 k (a0.extract (t132 : Int).toNat a0.size) (a0.extract 0 (t132 : Int).toNat) 0)))) else (none)) else (none))) = some (r1, r2, r3) := h
  clear h
  replace H := Option.bind_eq_some_iff.mp H
  obtain ⟨t132, A20, H⟩ := H
  replace H : (if 0 ≤ t132 then (if t132 ≤ (a0.size : Int) then (if t132 = 0 then (some (a0.extract 0 (t132 : Int).toNat, 0, false)) else ((strings_HasPrefix.f (a0.extract (t132 : Int).toNat a0.size) (⟨#[46]⟩ : ByteArray)).bind fun t134 => (if t134 = true then (if 1 ≤ ((a0.extract (t132 : Int).toNat a0.size).size : Int) then ((dec_digits.f k ((a0.extract (t132 : Int).toNat a0.size).extract 1 (a0.extract (t132 : Int).toNat a0.size).size)).bind fun t135 => (if t135 = 0 then (some (a0.extract 0 (t132 : Int).toNat, 0, false)) else (if 1 ≤ (wrap64 (1 + t135)) then (if (wrap64 (1 + t135)) ≤ ((a0.extract (t132 : Int).toNat a0.size).size : Int) then (if (a0.extract 0 (t132 : Int).toNat).size + ((a0.extract (t132 : Int).toNat a0.size).extract 1 ((wrap64 (1 + t135)) : Int).toNat).size ≤ 9223372036854775807 then (if 0 ≤ (wrap64 (1 + t135)) then (dec_cut.j0 k ((a0.extract (t132 : Int).toNat a0.size).extract ((wrap64 (1 + t135)) : Int).toNat (a0.extract (t132 : Int).toNat a0.size).size) ((a0.extract 0 (t132 : Int).toNat) ++ ((a0.extract (t132 : Int).toNat a0.size).extract 1 ((wrap64 (1 + t135)) : Int).toNat)) (wrap64 (-t135))) else (none)) else (none)) else (none)) else (none)))) else (none)) else (dec_cut.j0 k (a0.extract (t132 : Int).toNat a0.size) (a0.extract 0 (t132 : Int).toNat) 0)))) else (none)) else (none)) = some (r1, r2, r3) := H
  have A2 := Aside0.mk A20
  clear A20
  by_cases c3 : 0 ≤ t132
  · rw [if_pos c3] at H
    have c3b0 := eq_true c3
    have c3b1 : decide (0 ≤ t132) = true := decide_eq_true c3
    clear c3
    by_cases c4 : t132 ≤ (a0.size : Int)
    · rw [if_pos c4] at H
      have c4b0 := eq_true c4
      have c4b1 : decide (t132 ≤ (a0.size : Int)) = true := decide_eq_true c4
      clear c4
      obtain ⟨ji5, hji5⟩ : ∃ j_ : ByteArray, (a0.extract 0 (t132 : Int).toNat) = j_ := ⟨_, rfl⟩
      replace H : (if t132 = 0 then (some (ji5, 0, false)) else ((strings_HasPrefix.f (a0.extract (t132 : Int).toNat a0.size) (⟨#[46]⟩ : ByteArray)).bind fun t134 => (if t134 = true then (if 1 ≤ ((a0.extract (t132 : Int).toNat a0.size).size : Int) then ((dec_digits.f k ((a0.extract (t132 : Int).toNat a0.size).extract 1 (a0.extract (t132 : Int).toNat a0.size).size)).bind fun t135 => (if t135 = 0 then (some (ji5, 0, false)) else (if 1 ≤ (wrap64 (1 + t135)) then (if (wrap64 (1 + t135)) ≤ ((a0.extract (t132 : Int).toNat a0.size).size : Int) then (if (ji5).size + ((a0.extract (t132 : Int).toNat a0.size).extract 1 ((wrap64 (1 + t135)) : Int).toNat).size ≤ 9223372036854775807 then (if 0 ≤ (wrap64 (1 + t135)) then (dec_cut.j0 k ((a0.extract (t132 : Int).toNat a0.size).extract ((wrap64 (1 + t135)) : Int).toNat (a0.extract (t132 : Int).toNat a0.size).size) ((ji5) ++ ((a0.extract (t132 : Int).toNat a0.size).extract 1 ((wrap64 (1 + t135)) : Int).toNat)) (wrap64 (-t135))) else (none)) else (none)) else (none)) else (none)))) else (none)) else (dec_cut.j0 k (a0.extract (t132 : Int).toNat a0.size) ji5 0)))) = some (r1, r2, r3) := by first | (rw [hji5] at H; exact H) | (simp only [hji5] at H ⊢; exact H) | exact H
      (try rw [hji5] at A2)
      have c6b0 := eq_true (of_decide_eq_true (by first | (with_reducible assumption) | assumption) : 0 ≤ t132)
      have c7b0 := eq_true (of_decide_eq_true (by first | (with_reducible assumption) | assumption) : t132 ≤ (a0.size : Int))
      obtain ⟨ji8, hji8⟩ : ∃ j_ : ByteArray, (a0.extract (t132 : Int).toNat a0.size) = j_ := ⟨_, rfl⟩
      replace H : (if t132 = 0 then (some (ji5, 0, false)) else ((strings_HasPrefix.f (ji8) (⟨#[46]⟩ : ByteArray)).bind fun t134 => (if t134 = true then (if 1 ≤ ((ji8).size : Int) then ((dec_digits.f k ((ji8).extract 1 (ji8).size)).bind fun t135 => (if t135 = 0 then (some (ji5, 0, false)) else (if 1 ≤ (wrap64 (1 + t135)) then (if (wrap64 (1 + t135)) ≤ ((ji8).size : Int) then (if (ji5).size + ((ji8).extract 1 ((wrap64 (1 + t135)) : Int).toNat).size ≤ 9223372036854775807 then (if 0 ≤ (wrap64 (1 + t135)) then (dec_cut.j0 k ((ji8).extract ((wrap64 (1 + t135)) : Int).toNat (ji8).size) ((ji5) ++ ((ji8).extract 1 ((wrap64 (1 + t135)) : Int).toNat)) (wrap64 (-t135))) else (none)) else (none)) else (none)) else (none)))) else (none)) else (dec_cut.j0 k ji8 ji5 0)))) = some (r1, r2, r3) := by first | (rw [hji8] at H; exact H) | (simp only [hji8] at H ⊢; exact H) | exact H
      (try rw [hji8] at A2)
      by_cases c9 : t132 = 0
      · rw [if_pos c9] at H
        have c9b0 : (t132 == 0) = true := beq_iff_eq.mpr c9
        have c9b1 : (t132 != 0) = false := bne_eq_false_iff_eq.mpr c9
        clear c9
        simp only [Option.some.injEq, Prod.mk.injEq] at H
        obtain ⟨rfl, rfl, rfl⟩ := H
        go_enter Tryd.func35, Tryd.ntmps35
        try go_wp2_with (first | ((with_reducible refine gate_dst (N := 2) rfl ?_); (try (refine gate_guard (by rfl) ?_; dsimp only)); refine box_event ?hg (N := 2) ?hd (cs := #[.string (⟨#[]⟩ : ByteArray), .int .i64 0]) (t := 53) ?hr ?_; (case hd => rfl); (case hg => rfl); (case hr => first | (go_simp; done) | (go_simp; rfl)); intro gb131 hg w10 hbox hb; have n0_ := Aside0.mk (below_step (by repeat (first | (with_reducible first | exact HB.out | apply below_alloc | apply pw_below_drewN | apply below_drew1) | exact HB.out)) hb); have n1_ := Aside0.mk (hbox); have n2_ := Aside0.mk ((by rw [hg]; exact (below_size (by repeat (first | (with_reducible first | exact HB.out | apply below_alloc | apply pw_below_drewN | apply below_drew1) | exact HB.out))) : w.heap.size ≤ gb131)); have n3_ := Aside0.mk ((by rw [hg]; exact (below_size (by repeat (first | (with_reducible first | exact HB.out | apply below_alloc | apply pw_below_drewN | apply below_drew1) | exact HB.out))) : w.heap.size ≤ gb131)); clear HB; have HB := n0_; have BK131 := n1_; have GW131 := n2_; have GE131 := n3_; clear n0_ n1_ n2_ n3_; clear hb hbox hg) | ((with_reducible refine gate_callee (f := 39) rfl ?_); refine goesL_ (some 12) rfl rfl Tryd.func39 (by kernel_rfl) rfl #[.string a0] rfl (by (try simp only [List.map_toArray, List.map_cons, List.map_nil]); first | done | rfl | (simp only [List.length_drop, List.length_take]; rfl)) ?_; (with_reducible refine (dec_digits.calls k a0 t132 _ A2.out).mono ?_); rintro e w' ⟨rfl, ⟨nd, rfl⟩⟩; refine ⟨_, rfl, ?_⟩; (try (rw [drewN_self w10]; generalize hq_ : World.drewN w10 _ = w10; have n0_ : Aside0 (w10.heap[gb131]? = some (.cells #[.string (⟨#[]⟩ : ByteArray), .int .i64 0] 53 (0, 0))) := ⟨by rw [← hq_]; exact (by (with_reducible repeat (first | refine blk_drewN ?_ _ | refine blk_drew ?_ | refine blk_alloc ?_ _)); exact BK131.out)⟩; have n1_ : Aside0 (Below w.heap.size w w10) := ⟨by rw [← hq_]; exact (by repeat (first | (with_reducible first | exact HB.out | apply below_alloc | apply pw_below_drewN | apply below_drew1 | refine below_set ?_ GE131.out) | exact HB.out))⟩; clear BK131 HB hq_; have BK131 := n0_; have HB := n1_; clear n0_ n1_))))
        have n0_ := Aside0.mk (blk_drew BK131.out)
        have n1_ := Aside0.mk (below_drew1 HB.out)
        clear BK131
        clear HB
        have BK131 := n0_
        have HB := n1_
        clear n0_ n1_
        refine start_ (n := 10) (S := fun w' => True) (ds := []) #[false, false, false, false, false, false, false, false, false, false] (by kernel_rfl) rfl rfl trivial (fun hHeld => ?_); refine with_tabW dec_cut.tab2 dec_cut.bits2 (fun HT_ HW_ => ?_)
        generalize w10.drew = w11 at BK131 HB hHeld ⊢
        refine pure_ (i := 0) (N := some 13) (v := ?_) (a' := ?_) #[true, false, false, false, false, false, false, false, false, false] rfl rfl (any_of HT_.out (by kernel_rfl)) (fun _ _ _ h => h) (Or.inl ⟨by rfl, ?_⟩) ?_ ?_
        rotate_left
        · intro w'
          go_simp
          with_reducible rfl
        rotate_left
        · simp only [Act.put, List.setIfInBounds_toArray, List.set_cons_zero, List.set_cons_succ, i64_w, i32_w]
          rfl
        refine pure_ (i := 1) (N := some 14) (v := ?_) (a' := ?_) #[true, true, false, false, false, false, false, false, false, false] rfl rfl (any_of HT_.out (by kernel_rfl)) (fun _ _ _ h => h) (Or.inl ⟨by rfl, ?_⟩) ?_ ?_
        rotate_left
        · intro w'
          go_simp
          with_reducible rfl
        rotate_left
        · simp only [Act.put, List.setIfInBounds_toArray, List.set_cons_zero, List.set_cons_succ, i64_w, i32_w]
          rfl
        refine pure_ (i := 2) (N := some 15) (v := ?_) (a' := ?_) #[true, true, true, false, false, false, false, false, false, false] rfl rfl (any_of HT_.out (by kernel_rfl)) (fun _ _ _ h => h) (Or.inl ⟨by rfl, ?_⟩) ?_ ?_
        rotate_left
        · intro w'
          go_simp
          with_reducible rfl
        rotate_left
        · simp only [Act.put, List.setIfInBounds_toArray, List.set_cons_zero, List.set_cons_succ, i64_w, i32_w]
          rfl
        refine pure_ (i := 3) (N := some 16) (v := ?_) (a' := ?_) #[true, true, true, true, false, false, false, false, false, false] rfl rfl (any_of HT_.out (by kernel_rfl)) (fun _ _ _ h => h) (Or.inl ⟨by rfl, ?_⟩) ?_ ?_
        rotate_left
        · intro w'
          go_simp
          with_reducible rfl
        rotate_left
        · simp only [Act.put, List.setIfInBounds_toArray, List.set_cons_zero, List.set_cons_succ, i64_w, i32_w]
          rfl
        refine pure_ (i := 4) (N := some 17) (v := ?_) (a' := ?_) #[true, true, true, true, true, false, false, false, false, false] rfl rfl (any_of HT_.out (by kernel_rfl)) (fun _ _ _ h => h) (Or.inl ⟨by rfl, ?_⟩) ?_ ?_
        rotate_left
        · intro w'
          go_simp
          with_reducible rfl
        rotate_left
        · simp only [Act.put, List.setIfInBounds_toArray, List.set_cons_zero, List.set_cons_succ, i64_w, i32_w]
          rfl
        refine pure_ (i := 5) (N := some 18) (v := ?_) (a' := ?_) #[true, true, true, true, true, true, false, false, false, false] rfl rfl (any_of HT_.out (by kernel_rfl)) (fun _ _ _ h => h) (Or.inl ⟨by rfl, ?_⟩) ?_ ?_
        rotate_left
        · intro w'
          go_simp
          with_reducible rfl
        rotate_left
        · simp only [Act.put, List.setIfInBounds_toArray, List.set_cons_zero, List.set_cons_succ, i64_w, i32_w]
          rfl
        refine pure_ (i := 6) (N := some 19) (v := ?_) (a' := ?_) #[true, true, true, true, true, true, true, false, false, false] rfl rfl (any_of HT_.out (by kernel_rfl)) (fun _ _ _ h => h) (Or.inl ⟨by rfl, ?_⟩) ?_ ?_
        rotate_left
        · intro w'
          go_simp
          with_reducible rfl
        rotate_left
        · simp only [Act.put, List.setIfInBounds_toArray, List.set_cons_zero, List.set_cons_succ, i64_w, i32_w]
          rfl
        refine one_ (i := 7) (N := some 5) #[true, true, true, true, true, true, true, true, false, false] rfl rfl (one_of HT_.out (by kernel_rfl)) (by decide) (fun K hK => ?_)
        refine box_step ?hg (N := 5) ?hd (cs := #[.string (⟨#[]⟩ : ByteArray), .int .i64 0]) (t := 53) ?hr ?_; (case hd => rfl); (case hg => rfl); (case hr => first | (go_simp; done) | (go_simp; rfl))
        intro gb133 hg w12 hbox hb
        have n0_ := Aside0.mk (blk_below (g := gb131) (o := .cells #[.string (⟨#[]⟩ : ByteArray), .int .i64 0] 53 (0, 0)) (by (with_reducible repeat (first | refine blk_drewN ?_ _ | refine blk_drew ?_ | refine blk_alloc ?_ _)); exact BK131.out) hb)
        have n1_ := Aside0.mk (below_step (by repeat (first | (with_reducible first | exact HB.out | apply below_alloc | apply pw_below_drewN | apply below_drew1 | refine below_set ?_ GE131.out) | exact HB.out)) hb)
        have n2_ := Aside0.mk (hbox)
        have n3_ := Aside0.mk ((by rw [hg]; exact (below_size (by repeat (first | (with_reducible first | exact HB.out | apply below_alloc | apply pw_below_drewN | apply below_drew1 | refine below_set ?_ GE131.out) | exact HB.out))) : w.heap.size ≤ gb133))
        have n4_ := Aside0.mk ((by rw [hg]; exact (below_size (by repeat (first | (with_reducible first | exact HB.out | apply below_alloc | apply pw_below_drewN | apply below_drew1 | refine below_set ?_ GE131.out) | exact HB.out))) : w.heap.size ≤ gb133))
        have n5_ := Aside0.mk ((by rw [hg]; exact Nat.ne_of_lt (blk_lt (g := gb131) (o := .cells #[.string (⟨#[]⟩ : ByteArray), .int .i64 0] 53 (0, 0)) (by (with_reducible repeat (first | refine blk_drewN ?_ _ | refine blk_drew ?_ | refine blk_alloc ?_ _)); exact BK131.out)) : gb131 ≠ gb133))
        have n6_ := Aside0.mk ((by rw [hg]; exact Nat.ne_of_gt (blk_lt (g := gb131) (o := .cells #[.string (⟨#[]⟩ : ByteArray), .int .i64 0] 53 (0, 0)) (by (with_reducible repeat (first | refine blk_drewN ?_ _ | refine blk_drew ?_ | refine blk_alloc ?_ _)); exact BK131.out)) : gb133 ≠ gb131))
        clear BK131
        clear HB
        have BK131 := n0_
        have HB := n1_
        have BK133 := n2_
        have GW133 := n3_
        have GE133 := n4_
        have NB131_133 := n5_
        have NB133_131 := n6_
        clear n0_ n1_ n2_ n3_ n4_ n5_ n6_
        clear hb hbox hg
        refine hK.out _ _ trivial (fun hHeld => ?_)
        clear hK K
        refine norm_ (a' := ?_) ?_ ?_
        rotate_left
        · show Act.put _ (some 5) _ = _
          simp only [Act.put, List.setIfInBounds_toArray, List.set_cons_zero, List.set_cons_succ, i64_w, i32_w]
          rfl
        refine one_ (i := 8) (N := none) #[true, true, true, true, true, true, true, true, true, false] rfl rfl (one_of HT_.out (by kernel_rfl)) (by decide) (fun K hK => ?_)
        have hs13 : w12.cell? ⟨gb133, 0, none⟩ = some (.string (⟨#[]⟩ : ByteArray)) := (blk_cell BK133.out 0).trans rfl
        have hfs13 := blk_frozen BK133.out 0
        have hns13_0 := NB131_133.out
        have hms13_0 := NB133_131.out
        have hs14 : w12.cell? ⟨gb133, 1, none⟩ = some (.int .i64 0) := (blk_cell BK133.out 1).trans rfl
        have hfs14 := blk_frozen BK133.out 1
        have hns14_0 := NB131_133.out
        have hms14_0 := NB133_131.out
        refine skip_ (w1 := ?_) (by rfl) rfl ?_ ?_
        rotate_left
        · go_simp
          rfl
        refine hK.out _ _ trivial (fun hHeld => ?_)
        clear hK K
        refine pure_ (i := 9) (N := some 6) (v := ?_) (a' := ?_) #[true, true, true, true, true, true, true, true, true, true] rfl rfl (any_of HT_.out (by kernel_rfl)) (fun _ _ _ h => h) (Or.inl ⟨by rfl, ?_⟩) ?_ ?_
        rotate_left
        · intro w'
          go_simp
          with_reducible rfl
        rotate_left
        · simp only [Act.put, List.setIfInBounds_toArray, List.set_cons_zero, List.set_cons_succ, i64_w, i32_w]
          rfl
        refine done_ (done_of HT_.out (by kernel_rfl)) ?_
        have hnb15 := NB133_131.out
        have hnc15 := NB131_133.out
        have hcz16_0 : w12.cell? ⟨gb133, 0, none⟩ = some (.string (⟨#[]⟩ : ByteArray)) := (blk_cell BK133.out 0).trans rfl
        have hcz16_1 : w12.cell? ⟨gb133, 1, none⟩ = some (.int .i64 0) := (blk_cell BK133.out 1).trans rfl
        have hfz16_0 := blk_frozen BK133.out 0
        have hfz16_1 := blk_frozen BK133.out 1
        have hcz17_0 : w12.cell? ⟨gb131, 0, none⟩ = some (.string (⟨#[]⟩ : ByteArray)) := (blk_cell BK131.out 0).trans rfl
        have hcz17_1 : w12.cell? ⟨gb131, 1, none⟩ = some (.int .i64 0) := (blk_cell BK131.out 1).trans rfl
        have hfz17_0 := blk_frozen BK131.out 0
        have hfz17_1 := blk_frozen BK131.out 1
        try go_wp2
        refine bodyPost_ret (results_ct rfl _ _ gb131 53 #[.string ji5, .int .i64 0] (0, 0) _ rfl (by (with_reducible repeat (first | refine blk_drewN ?_ _ | refine blk_drew ?_ | refine blk_alloc ?_ _)); refine blk_put (cs := #[.string ji5, .int .i64 0]) ?_ 1 _ rfl; (with_reducible repeat (first | refine blk_drewN ?_ _ | refine blk_drew ?_ | refine blk_alloc ?_ _)); refine blk_put (cs := #[.string (⟨#[]⟩ : ByteArray), .int .i64 0]) ?_ 0 _ rfl; (with_reducible repeat (first | refine blk_drewN ?_ _ | refine blk_drew ?_ | refine blk_alloc ?_ _)); refine blk_far ?_ NB131_133.out _; (with_reducible repeat (first | refine blk_drewN ?_ _ | refine blk_drew ?_ | refine blk_alloc ?_ _)); refine blk_far ?_ NB131_133.out _; (with_reducible repeat (first | refine blk_drewN ?_ _ | refine blk_drew ?_ | refine blk_alloc ?_ _)); exact BK131.out) Tryd.underlying53 rfl (by kernel_rfl)) rfl ?_
        exact ⟨by first | rfl | (simp [errW_none, errW_some] <;> rfl) | (simp only [← hji5, ← hji8]; first | rfl | (simp [errW_none, errW_some] <;> rfl)) | (simp [*, errW_none, errW_some] <;> rfl), by repeat (first | (with_reducible first | exact HB.out | apply below_alloc | apply pw_below_drewN | apply below_drew1 | refine below_set ?_ GE131.out | refine below_set ?_ GE133.out) | exact HB.out)⟩
      · rw [if_neg c9] at H
        have c9b0 : (t132 == 0) = false := beq_eq_false_iff_ne.mpr c9
        have c9b1 : (t132 != 0) = true := bne_iff_ne.mpr c9
        replace H := Option.bind_eq_some_iff.mp H
        obtain ⟨t134, A180, H⟩ := H
        replace H : (if t134 = true then (if 1 ≤ ((ji8).size : Int) then ((dec_digits.f k ((ji8).extract 1 (ji8).size)).bind fun t135 => (if t135 = 0 then (some (ji5, 0, false)) else (if 1 ≤ (wrap64 (1 + t135)) then (if (wrap64 (1 + t135)) ≤ ((ji8).size : Int) then (if (ji5).size + ((ji8).extract 1 ((wrap64 (1 + t135)) : Int).toNat).size ≤ 9223372036854775807 then (if 0 ≤ (wrap64 (1 + t135)) then (dec_cut.j0 k ((ji8).extract ((wrap64 (1 + t135)) : Int).toNat (ji8).size) ((ji5) ++ ((ji8).extract 1 ((wrap64 (1 + t135)) : Int).toNat)) (wrap64 (-t135))) else (none)) else (none)) else (none)) else (none)))) else (none)) else (dec_cut.j0 k ji8 ji5 0)) = some (r1, r2, r3) := H
        have A18 := Aside0.mk A180
        clear A180
        have HC19 := Aside0.mk H
        clear H
        go_enter Tryd.func35, Tryd.ntmps35
        try go_wp2_with (first | ((with_reducible refine gate_dst (N := 2) rfl ?_); (try (refine gate_guard (by rfl) ?_; dsimp only)); refine box_event ?hg (N := 2) ?hd (cs := #[.string (⟨#[]⟩ : ByteArray), .int .i64 0]) (t := 53) ?hr ?_; (case hd => rfl); (case hg => rfl); (case hr => first | (go_simp; done) | (go_simp; rfl)); intro gb131 hg w20 hbox hb; have n0_ := Aside0.mk (below_step (by repeat (first | (with_reducible first | exact HB.out | apply below_alloc | apply pw_below_drewN | apply below_drew1) | exact HB.out)) hb); have n1_ := Aside0.mk (hbox); have n2_ := Aside0.mk ((by rw [hg]; exact (below_size (by repeat (first | (with_reducible first | exact HB.out | apply below_alloc | apply pw_below_drewN | apply below_drew1) | exact HB.out))) : w.heap.size ≤ gb131)); have n3_ := Aside0.mk ((by rw [hg]; exact (below_size (by repeat (first | (with_reducible first | exact HB.out | apply below_alloc | apply pw_below_drewN | apply below_drew1) | exact HB.out))) : w.heap.size ≤ gb131)); clear HB; have HB := n0_; have BK131 := n1_; have GW131 := n2_; have GE131 := n3_; clear n0_ n1_ n2_ n3_; clear hb hbox hg) | ((with_reducible refine gate_callee (f := 39) rfl ?_); refine goesL_ (some 12) rfl rfl Tryd.func39 (by kernel_rfl) rfl #[.string a0] rfl (by (try simp only [List.map_toArray, List.map_cons, List.map_nil]); first | done | rfl | (simp only [List.length_drop, List.length_take]; rfl)) ?_; (with_reducible refine (dec_digits.calls k a0 t132 _ A2.out).mono ?_); rintro e w' ⟨rfl, ⟨nd, rfl⟩⟩; refine ⟨_, rfl, ?_⟩; (try (rw [drewN_self w20]; generalize hq_ : World.drewN w20 _ = w20; have n0_ : Aside0 (w20.heap[gb131]? = some (.cells #[.string (⟨#[]⟩ : ByteArray), .int .i64 0] 53 (0, 0))) := ⟨by rw [← hq_]; exact (by (with_reducible repeat (first | refine blk_drewN ?_ _ | refine blk_drew ?_ | refine blk_alloc ?_ _)); exact BK131.out)⟩; have n1_ : Aside0 (Below w.heap.size w w20) := ⟨by rw [← hq_]; exact (by repeat (first | (with_reducible first | exact HB.out | apply below_alloc | apply pw_below_drewN | apply below_drew1 | refine below_set ?_ GE131.out) | exact HB.out))⟩; clear BK131 HB hq_; have BK131 := n0_; have HB := n1_; clear n0_ n1_))))
        have n0_ := Aside0.mk (blk_drew BK131.out)
        have n1_ := Aside0.mk (below_drew1 HB.out)
        clear BK131
        clear HB
        have BK131 := n0_
        have HB := n1_
        clear n0_ n1_
        refine start_ (n := 10) (S := fun w' => True) (ds := []) #[false, false, false, false, false, false, false, false, false, false] (by kernel_rfl) rfl rfl trivial (fun hHeld => ?_); refine with_tabW dec_cut.tab2 dec_cut.bits2 (fun HT_ HW_ => ?_)
        generalize w20.drew = w21 at BK131 HB hHeld ⊢
        refine pure_ (i := 0) (N := some 13) (v := ?_) (a' := ?_) #[true, false, false, false, false, false, false, false, false, false] rfl rfl (any_of HT_.out (by kernel_rfl)) (fun _ _ _ h => h) (Or.inl ⟨by rfl, ?_⟩) ?_ ?_
        rotate_left
        · intro w'
          go_simp
          with_reducible rfl
        rotate_left
        · simp only [Act.put, List.setIfInBounds_toArray, List.set_cons_zero, List.set_cons_succ, i64_w, i32_w]
          rfl
        refine pure_ (i := 1) (N := some 14) (v := ?_) (a' := ?_) #[true, true, false, false, false, false, false, false, false, false] rfl rfl (any_of HT_.out (by kernel_rfl)) (fun _ _ _ h => h) (Or.inl ⟨by rfl, ?_⟩) ?_ ?_
        rotate_left
        · intro w'
          go_simp
          with_reducible rfl
        rotate_left
        · simp only [Act.put, List.setIfInBounds_toArray, List.set_cons_zero, List.set_cons_succ, i64_w, i32_w]
          rfl
        refine pure_ (i := 2) (N := some 15) (v := ?_) (a' := ?_) #[true, true, true, false, false, false, false, false, false, false] rfl rfl (any_of HT_.out (by kernel_rfl)) (fun _ _ _ h => h) (Or.inl ⟨by rfl, ?_⟩) ?_ ?_
        rotate_left
        · intro w'
          go_simp
          with_reducible rfl
        rotate_left
        · simp only [Act.put, List.setIfInBounds_toArray, List.set_cons_zero, List.set_cons_succ, i64_w, i32_w]
          rfl
        refine pure_ (i := 3) (N := some 16) (v := ?_) (a' := ?_) #[true, true, true, true, false, false, false, false, false, false] rfl rfl (any_of HT_.out (by kernel_rfl)) (fun _ _ _ h => h) (Or.inl ⟨by rfl, ?_⟩) ?_ ?_
        rotate_left
        · intro w'
          go_simp
          with_reducible rfl
        rotate_left
        · simp only [Act.put, List.setIfInBounds_toArray, List.set_cons_zero, List.set_cons_succ, i64_w, i32_w]
          rfl
        refine pure_ (i := 4) (N := some 17) (v := ?_) (a' := ?_) #[true, true, true, true, true, false, false, false, false, false] rfl rfl (any_of HT_.out (by kernel_rfl)) (fun _ _ _ h => h) (Or.inl ⟨by rfl, ?_⟩) ?_ ?_
        rotate_left
        · intro w'
          go_simp
          with_reducible rfl
        rotate_left
        · simp only [Act.put, List.setIfInBounds_toArray, List.set_cons_zero, List.set_cons_succ, i64_w, i32_w]
          rfl
        refine pure_ (i := 5) (N := some 18) (v := ?_) (a' := ?_) #[true, true, true, true, true, true, false, false, false, false] rfl rfl (any_of HT_.out (by kernel_rfl)) (fun _ _ _ h => h) (Or.inl ⟨by rfl, ?_⟩) ?_ ?_
        rotate_left
        · intro w'
          go_simp
          with_reducible rfl
        rotate_left
        · simp only [Act.put, List.setIfInBounds_toArray, List.set_cons_zero, List.set_cons_succ, i64_w, i32_w]
          rfl
        refine pure_ (i := 6) (N := some 19) (v := ?_) (a' := ?_) #[true, true, true, true, true, true, true, false, false, false] rfl rfl (any_of HT_.out (by kernel_rfl)) (fun _ _ _ h => h) (Or.inl ⟨by rfl, ?_⟩) ?_ ?_
        rotate_left
        · intro w'
          go_simp
          with_reducible rfl
        rotate_left
        · simp only [Act.put, List.setIfInBounds_toArray, List.set_cons_zero, List.set_cons_succ, i64_w, i32_w]
          rfl
        refine one_ (i := 7) (N := some 5) #[true, true, true, true, true, true, true, true, false, false] rfl rfl (one_of HT_.out (by kernel_rfl)) (by decide) (fun K hK => ?_)
        refine box_step ?hg (N := 5) ?hd (cs := #[.string (⟨#[]⟩ : ByteArray), .int .i64 0]) (t := 53) ?hr ?_; (case hd => rfl); (case hg => rfl); (case hr => first | (go_simp; done) | (go_simp; rfl))
        intro gb133 hg w22 hbox hb
        have n0_ := Aside0.mk (blk_below (g := gb131) (o := .cells #[.string (⟨#[]⟩ : ByteArray), .int .i64 0] 53 (0, 0)) (by (with_reducible repeat (first | refine blk_drewN ?_ _ | refine blk_drew ?_ | refine blk_alloc ?_ _)); exact BK131.out) hb)
        have n1_ := Aside0.mk (below_step (by repeat (first | (with_reducible first | exact HB.out | apply below_alloc | apply pw_below_drewN | apply below_drew1 | refine below_set ?_ GE131.out) | exact HB.out)) hb)
        have n2_ := Aside0.mk (hbox)
        have n3_ := Aside0.mk ((by rw [hg]; exact (below_size (by repeat (first | (with_reducible first | exact HB.out | apply below_alloc | apply pw_below_drewN | apply below_drew1 | refine below_set ?_ GE131.out) | exact HB.out))) : w.heap.size ≤ gb133))
        have n4_ := Aside0.mk ((by rw [hg]; exact (below_size (by repeat (first | (with_reducible first | exact HB.out | apply below_alloc | apply pw_below_drewN | apply below_drew1 | refine below_set ?_ GE131.out) | exact HB.out))) : w.heap.size ≤ gb133))
        have n5_ := Aside0.mk ((by rw [hg]; exact Nat.ne_of_lt (blk_lt (g := gb131) (o := .cells #[.string (⟨#[]⟩ : ByteArray), .int .i64 0] 53 (0, 0)) (by (with_reducible repeat (first | refine blk_drewN ?_ _ | refine blk_drew ?_ | refine blk_alloc ?_ _)); exact BK131.out)) : gb131 ≠ gb133))
        have n6_ := Aside0.mk ((by rw [hg]; exact Nat.ne_of_gt (blk_lt (g := gb131) (o := .cells #[.string (⟨#[]⟩ : ByteArray), .int .i64 0] 53 (0, 0)) (by (with_reducible repeat (first | refine blk_drewN ?_ _ | refine blk_drew ?_ | refine blk_alloc ?_ _)); exact BK131.out)) : gb133 ≠ gb131))
        clear BK131
        clear HB
        have BK131 := n0_
        have HB := n1_
        have BK133 := n2_
        have GW133 := n3_
        have GE133 := n4_
        have NB131_133 := n5_
        have NB133_131 := n6_
        clear n0_ n1_ n2_ n3_ n4_ n5_ n6_
        clear hb hbox hg
        refine hK.out _ _ trivial (fun hHeld => ?_)
        clear hK K
        refine norm_ (a' := ?_) ?_ ?_
        rotate_left
        · show Act.put _ (some 5) _ = _
          simp only [Act.put, List.setIfInBounds_toArray, List.set_cons_zero, List.set_cons_succ, i64_w, i32_w]
          rfl
        refine one_ (i := 8) (N := none) #[true, true, true, true, true, true, true, true, true, false] rfl rfl (one_of HT_.out (by kernel_rfl)) (by decide) (fun K hK => ?_)
        have hs23 : w22.cell? ⟨gb133, 0, none⟩ = some (.string (⟨#[]⟩ : ByteArray)) := (blk_cell BK133.out 0).trans rfl
        have hfs23 := blk_frozen BK133.out 0
        have hns23_0 := NB131_133.out
        have hms23_0 := NB133_131.out
        have hs24 : w22.cell? ⟨gb133, 1, none⟩ = some (.int .i64 0) := (blk_cell BK133.out 1).trans rfl
        have hfs24 := blk_frozen BK133.out 1
        have hns24_0 := NB131_133.out
        have hms24_0 := NB133_131.out
        refine skip_ (w1 := ?_) (by rfl) rfl ?_ ?_
        rotate_left
        · go_simp
          rfl
        refine hK.out _ _ trivial (fun hHeld => ?_)
        clear hK K
        refine pure_ (i := 9) (N := some 6) (v := ?_) (a' := ?_) #[true, true, true, true, true, true, true, true, true, true] rfl rfl (any_of HT_.out (by kernel_rfl)) (fun _ _ _ h => h) (Or.inl ⟨by rfl, ?_⟩) ?_ ?_
        rotate_left
        · intro w'
          go_simp
          with_reducible rfl
        rotate_left
        · simp only [Act.put, List.setIfInBounds_toArray, List.set_cons_zero, List.set_cons_succ, i64_w, i32_w]
          rfl
        refine done_ (done_of HT_.out (by kernel_rfl)) ?_
        go_upto_if 24 with (first | ((with_reducible refine gate_callee (f := 40) rfl ?_); refine goesL_ (some 24) rfl rfl Tryd.func40 (by kernel_rfl) rfl #[.string ji8, .string (⟨#[46]⟩ : ByteArray)] rfl (by (try simp only [List.map_toArray, List.map_cons, List.map_nil]); first | done | (simp only [hji8]; rfl) | rfl | (simp only [List.length_drop, List.length_take]; rfl)) ?_; (with_reducible refine (strings_HasPrefix.calls ji8 (⟨#[46]⟩ : ByteArray) t134 _ A18.out).mono ?_); rintro e w' ⟨rfl, ⟨nd, rfl⟩⟩; refine ⟨_, rfl, ?_⟩))
        (try simp only [Act.put, List.setIfInBounds_toArray, List.set_cons_zero, List.set_cons_succ])
        go_cut [6] (fun v6 wc => ∃ (kq : Nat) (x6_18 : ByteArray) (x132000_18 : ByteArray) (x132001_18 : Int) (x134000_18 : ByteArray) (x134001_18 : Int), v6 = .string x6_18 ∧ Aside0 (dec_cut.j0 kq x6_18 x134000_18 x134001_18 = some (r1, r2, r3)) ∧ Aside0 (kq ≤ k) ∧ Aside0 (wc.heap[gb131]? = some (.cells #[.string x132000_18, .int .i64 x132001_18] 53 (0, 0))) ∧ Aside0 (wc.heap[gb133]? = some (.cells #[.string x134000_18, .int .i64 x134001_18] 53 (0, 0))) ∧ Aside0 (Below w.heap.size w wc))
        case first =>
          have H := HC19.out
          clear HC19
          by_cases c25 : t134 = true
          · subst c25
            have H1 : (if 1 ≤ ((ji8).size : Int) then ((dec_digits.f k ((ji8).extract 1 (ji8).size)).bind fun t135 => (if t135 = 0 then (some (ji5, 0, false)) else (if 1 ≤ (wrap64 (1 + t135)) then (if (wrap64 (1 + t135)) ≤ ((ji8).size : Int) then (if (ji5).size + ((ji8).extract 1 ((wrap64 (1 + t135)) : Int).toNat).size ≤ 9223372036854775807 then (if 0 ≤ (wrap64 (1 + t135)) then (dec_cut.j0 k ((ji8).extract ((wrap64 (1 + t135)) : Int).toNat (ji8).size) ((ji5) ++ ((ji8).extract 1 ((wrap64 (1 + t135)) : Int).toNat)) (wrap64 (-t135))) else (none)) else (none)) else (none)) else (none)))) else (none)) = some (r1, r2, r3) := by rw [if_pos rfl] at H; exact H
            clear H
            have H := H1
            clear H1
            by_cases c26 : 1 ≤ ((ji8).size : Int)
            · rw [if_pos c26] at H
              have c26b0 := eq_true c26
              have c26b1 : decide (1 ≤ ((ji8).size : Int)) = true := decide_eq_true c26
              clear c26
              obtain ⟨ji27, hji27⟩ : ∃ j_ : ByteArray, ((ji8).extract 1 (ji8).size) = j_ := ⟨_, rfl⟩
              replace H : ((dec_digits.f k (ji27)).bind fun t135 => (if t135 = 0 then (some (ji5, 0, false)) else (if 1 ≤ (wrap64 (1 + t135)) then (if (wrap64 (1 + t135)) ≤ ((ji8).size : Int) then (if (ji5).size + ((ji8).extract 1 ((wrap64 (1 + t135)) : Int).toNat).size ≤ 9223372036854775807 then (if 0 ≤ (wrap64 (1 + t135)) then (dec_cut.j0 k ((ji8).extract ((wrap64 (1 + t135)) : Int).toNat (ji8).size) ((ji5) ++ ((ji8).extract 1 ((wrap64 (1 + t135)) : Int).toNat)) (wrap64 (-t135))) else (none)) else (none)) else (none)) else (none)))) = some (r1, r2, r3) := by first | (rw [hji27] at H; exact H) | (simp only [hji27] at H ⊢; exact H) | exact H
              replace H := Option.bind_eq_some_iff.mp H
              obtain ⟨t135, A280, H⟩ := H
              replace H : (if t135 = 0 then (some (ji5, 0, false)) else (if 1 ≤ (wrap64 (1 + t135)) then (if (wrap64 (1 + t135)) ≤ ((ji8).size : Int) then (if (ji5).size + ((ji8).extract 1 ((wrap64 (1 + t135)) : Int).toNat).size ≤ 9223372036854775807 then (if 0 ≤ (wrap64 (1 + t135)) then (dec_cut.j0 k ((ji8).extract ((wrap64 (1 + t135)) : Int).toNat (ji8).size) ((ji5) ++ ((ji8).extract 1 ((wrap64 (1 + t135)) : Int).toNat)) (wrap64 (-t135))) else (none)) else (none)) else (none)) else (none))) = some (r1, r2, r3) := H
              have A28 := Aside0.mk A280
              clear A280
              by_cases c29 : t135 = 0
              · rw [if_pos c29] at H
                have c29b0 : (t135 == 0) = true := beq_iff_eq.mpr c29
                have c29b1 : (t135 != 0) = false := bne_eq_false_iff_eq.mpr c29
                clear c29
                (first | rw [c29b0] | (simp only [i64_w, i32_w]; rw [c29b0]) | rw [c29b1] | (simp only [i64_w, i32_w]; rw [c29b1]) | skip)
                simp only [Option.some.injEq, Prod.mk.injEq] at H
                obtain ⟨rfl, rfl, rfl⟩ := H
                go_wp2_with (first | ((with_reducible refine gate_callee (f := 39) rfl ?_); refine goesL_ (some 27) rfl rfl Tryd.func39 (by kernel_rfl) rfl #[.string ji27] rfl (by (try simp only [List.map_toArray, List.map_cons, List.map_nil]); first | done | (simp only [hji27]; rfl) | rfl | (simp only [List.length_drop, List.length_take]; rfl)) ?_; (with_reducible refine (dec_digits.calls k ji27 t135 _ A28.out).mono ?_); rintro e w' ⟨rfl, ⟨nd, rfl⟩⟩; refine ⟨_, rfl, ?_⟩; have hnb30 := NB133_131.out; have hnc30 := NB131_133.out; have hcz31_0 : w22.cell? ⟨gb133, 0, none⟩ = some (.string (⟨#[]⟩ : ByteArray)) := (blk_cell BK133.out 0).trans rfl; have hcz31_1 : w22.cell? ⟨gb133, 1, none⟩ = some (.int .i64 0) := (blk_cell BK133.out 1).trans rfl; have hfz31_0 := blk_frozen BK133.out 0; have hfz31_1 := blk_frozen BK133.out 1; have hcz32_0 : w22.cell? ⟨gb131, 0, none⟩ = some (.string (⟨#[]⟩ : ByteArray)) := (blk_cell BK131.out 0).trans rfl; have hcz32_1 : w22.cell? ⟨gb131, 1, none⟩ = some (.int .i64 0) := (blk_cell BK131.out 1).trans rfl; have hfz32_0 := blk_frozen BK131.out 0; have hfz32_1 := blk_frozen BK131.out 1))
                refine bodyPost_ret (results_ct rfl _ _ gb131 53 #[.string ji5, .int .i64 0] (0, 0) _ rfl (by (with_reducible repeat (first | refine blk_drewN ?_ _ | refine blk_drew ?_ | refine blk_alloc ?_ _)); refine blk_put (cs := #[.string ji5, .int .i64 0]) ?_ 1 _ rfl; (with_reducible repeat (first | refine blk_drewN ?_ _ | refine blk_drew ?_ | refine blk_alloc ?_ _)); refine blk_put (cs := #[.string (⟨#[]⟩ : ByteArray), .int .i64 0]) ?_ 0 _ rfl; (with_reducible repeat (first | refine blk_drewN ?_ _ | refine blk_drew ?_ | refine blk_alloc ?_ _)); refine blk_far ?_ NB131_133.out _; (with_reducible repeat (first | refine blk_drewN ?_ _ | refine blk_drew ?_ | refine blk_alloc ?_ _)); refine blk_far ?_ NB131_133.out _; (with_reducible repeat (first | refine blk_drewN ?_ _ | refine blk_drew ?_ | refine blk_alloc ?_ _)); exact BK131.out) Tryd.underlying53 rfl (by kernel_rfl)) rfl ?_
                exact ⟨by first | rfl | (simp [errW_none, errW_some] <;> rfl) | (simp only [← hji5, ← hji8, ← hji27]; first | rfl | (simp [errW_none, errW_some] <;> rfl)) | (simp [*, errW_none, errW_some] <;> rfl), by repeat (first | (with_reducible first | exact HB.out | apply below_alloc | apply pw_below_drewN | apply below_drew1 | refine below_set ?_ GE131.out | refine below_set ?_ GE133.out) | exact HB.out)⟩
              · rw [if_neg c29] at H
                have c29b0 : (t135 == 0) = false := beq_eq_false_iff_ne.mpr c29
                have c29b1 : (t135 != 0) = true := bne_iff_ne.mpr c29
                (first | rw [c29b0] | (simp only [i64_w, i32_w]; rw [c29b0]) | rw [c29b1] | (simp only [i64_w, i32_w]; rw [c29b1]) | skip)
                by_cases c33 : 1 ≤ (wrap64 (1 + t135))
                · rw [if_pos c33] at H
                  have c33b0 := eq_true c33
                  have c33b1 : decide (1 ≤ (wrap64 (1 + t135))) = true := decide_eq_true c33
                  by_cases c34 : (wrap64 (1 + t135)) ≤ ((ji8).size : Int)
                  · rw [if_pos c34] at H
                    have c34b0 := eq_true c34
                    have c34b1 : decide ((wrap64 (1 + t135)) ≤ ((ji8).size : Int)) = true := decide_eq_true c34
                    obtain ⟨ji35, hji35⟩ : ∃ j_ : ByteArray, ((ji8).extract 1 ((wrap64 (1 + t135)) : Int).toNat) = j_ := ⟨_, rfl⟩
                    replace H : (if (ji5).size + (ji35).size ≤ 9223372036854775807 then (if 0 ≤ (wrap64 (1 + t135)) then (dec_cut.j0 k ((ji8).extract ((wrap64 (1 + t135)) : Int).toNat (ji8).size) ((ji5) ++ (ji35)) (wrap64 (-t135))) else (none)) else (none)) = some (r1, r2, r3) := by first | (rw [hji35] at H; exact H) | (simp only [hji35] at H ⊢; exact H) | exact H
                    (try rw [hji35] at A28)
                    by_cases c36 : (ji5).size + (ji35).size ≤ 9223372036854775807
                    · rw [if_pos c36] at H
                      have c36b0 := eq_true c36
                      have c36b1 : decide ((ji5).size + (ji35).size ≤ 9223372036854775807) = true := decide_eq_true c36
                      try have c36b2 : (9223372036854775807 < (ji5).size + (ji35).size) = False := eq_false (Nat.not_lt.2 c36)
                      obtain ⟨ji37, hji37⟩ : ∃ j_ : Int, (wrap64 (1 + t135)) = j_ := ⟨_, rfl⟩
                      replace H : (if 0 ≤ (ji37) then (dec_cut.j0 k ((ji8).extract ((ji37) : Int).toNat (ji8).size) ((ji5) ++ (ji35)) (wrap64 (-t135))) else (none)) = some (r1, r2, r3) := by first | (rw [hji37] at H; exact H) | (simp only [hji37] at H ⊢; exact H)
                      (try rw [hji37] at hji35)
                      (try rw [hji37] at c33b0)
                      (try rw [hji37] at c33b1)
                      (try rw [hji37] at c33)
                      (try rw [hji37] at c34b0)
                      (try rw [hji37] at c34b1)
                      (try rw [hji37] at c34)
                      (try rw [hji37] at A28)
                      have hji37w : (IntKind.i64.wrap (1 + t135)) = ji37 := (i64_w _).trans hji37
                      by_cases c38 : 0 ≤ (ji37)
                      · rw [if_pos c38] at H
                        have c38b0 := eq_true c38
                        have c38b1 : decide (0 ≤ (ji37)) = true := decide_eq_true c38
                        clear c38
                        have c39b0 := eq_true (of_decide_eq_true (by first | (with_reducible assumption) | assumption) : (ji37) ≤ ((ji8).size : Int))
                        obtain ⟨ji40, hji40⟩ : ∃ j_ : ByteArray, ((ji8).extract ((ji37) : Int).toNat (ji8).size) = j_ := ⟨_, rfl⟩
                        replace H : (dec_cut.j0 k ji40 ((ji5) ++ (ji35)) (wrap64 (-t135))) = some (r1, r2, r3) := by first | (rw [hji40] at H; exact H) | (simp only [hji40] at H ⊢; exact H) | exact H
                        (try rw [hji40] at A28)
                        have H' := Aside0.mk H
                        clear H
                        try go_wp2_with (first | ((with_reducible refine gate_callee (f := 39) rfl ?_); refine goesL_ (some 27) rfl rfl Tryd.func39 (by kernel_rfl) rfl #[.string ji27] rfl (by (try simp only [List.map_toArray, List.map_cons, List.map_nil]); first | done | (simp only [hji27]; rfl) | rfl | (simp only [List.length_drop, List.length_take]; rfl)) ?_; (with_reducible refine (dec_digits.calls k ji27 t135 _ A28.out).mono ?_); rintro e w' ⟨rfl, ⟨nd, rfl⟩⟩; refine ⟨_, rfl, ?_⟩))
                        have n0_ : Aside0 (((w22.setCell ⟨gb133, 0, none⟩ (.string ji5)).setCell ⟨gb133, 1, none⟩ (.int .i64 0)).heap[gb131]? = some (.cells #[.string (⟨#[]⟩ : ByteArray), .int .i64 0] 53 (0, 0))) := ⟨by (with_reducible repeat (first | refine blk_drewN ?_ _ | refine blk_drew ?_ | refine blk_alloc ?_ _)); refine blk_far ?_ NB131_133.out _; (with_reducible repeat (first | refine blk_drewN ?_ _ | refine blk_drew ?_ | refine blk_alloc ?_ _)); refine blk_far ?_ NB131_133.out _; (with_reducible repeat (first | refine blk_drewN ?_ _ | refine blk_drew ?_ | refine blk_alloc ?_ _)); exact BK131.out⟩
                        have n1_ : Aside0 (((w22.setCell ⟨gb133, 0, none⟩ (.string ji5)).setCell ⟨gb133, 1, none⟩ (.int .i64 0)).heap[gb133]? = some (.cells #[.string ji5, .int .i64 0] 53 (0, 0))) := ⟨by (with_reducible repeat (first | refine blk_drewN ?_ _ | refine blk_drew ?_ | refine blk_alloc ?_ _)); refine blk_put (cs := #[.string ji5, .int .i64 0]) ?_ 1 _ rfl; (with_reducible repeat (first | refine blk_drewN ?_ _ | refine blk_drew ?_ | refine blk_alloc ?_ _)); refine blk_put (cs := #[.string (⟨#[]⟩ : ByteArray), .int .i64 0]) ?_ 0 _ rfl; (with_reducible repeat (first | refine blk_drewN ?_ _ | refine blk_drew ?_ | refine blk_alloc ?_ _)); exact BK133.out⟩
                        have n2_ : Aside0 (Below w.heap.size w ((w22.setCell ⟨gb133, 0, none⟩ (.string ji5)).setCell ⟨gb133, 1, none⟩ (.int .i64 0))) := ⟨by repeat (first | (with_reducible first | exact HB.out | apply below_alloc | apply pw_below_drewN | apply below_drew1 | refine below_set ?_ GE131.out | refine below_set ?_ GE133.out) | exact HB.out)⟩
                        (try clear BK131)
                        (try clear BK133)
                        (try clear HB)
                        generalize ((w22.setCell ⟨gb133, 0, none⟩ (.string ji5)).setCell ⟨gb133, 1, none⟩ (.int .i64 0)) = w41 at n0_ n1_ n2_ ⊢
                        have BK131 := n0_
                        have BK133 := n1_
                        have HB := n2_
                        clear n0_ n1_ n2_
                        (try (rw [drewN_self w41]; generalize hq_ : World.drewN w41 _ = w41; have n0_ : Aside0 (w41.heap[gb131]? = some (.cells #[.string (⟨#[]⟩ : ByteArray), .int .i64 0] 53 (0, 0))) := ⟨by rw [← hq_]; exact (by (with_reducible repeat (first | refine blk_drewN ?_ _ | refine blk_drew ?_ | refine blk_alloc ?_ _)); exact BK131.out)⟩; have n1_ : Aside0 (w41.heap[gb133]? = some (.cells #[.string ji5, .int .i64 0] 53 (0, 0))) := ⟨by rw [← hq_]; exact (by (with_reducible repeat (first | refine blk_drewN ?_ _ | refine blk_drew ?_ | refine blk_alloc ?_ _)); exact BK133.out)⟩; have n2_ : Aside0 (Below w.heap.size w w41) := ⟨by rw [← hq_]; exact (by repeat (first | (with_reducible first | exact HB.out | apply below_alloc | apply pw_below_drewN | apply below_drew1 | refine below_set ?_ GE131.out | refine below_set ?_ GE133.out) | exact HB.out))⟩; clear BK131 BK133 HB hq_; have BK131 := n0_; have BK133 := n1_; have HB := n2_; clear n0_ n1_ n2_))
                        have n0_ := Aside0.mk (blk_drew BK131.out)
                        have n1_ := Aside0.mk (blk_drew BK133.out)
                        have n2_ := Aside0.mk (below_drew1 HB.out)
                        clear BK131
                        clear BK133
                        clear HB
                        have BK131 := n0_
                        have BK133 := n1_
                        have HB := n2_
                        clear n0_ n1_ n2_
                        refine start_ (n := 18) (S := fun w' => w'.cell? ⟨gb133, 0, none⟩ = some (.string ji5) ∧ w'.cell? ⟨gb133, 1, none⟩ = some (.int .i64 0)) (ds := [14, 16]) #[false, false, false, false, false, false, false, false, false, false, false, false, false, false, false, false, false, false] (by kernel_rfl) rfl rfl ⟨(blk_cell BK133.out 0).trans rfl, (blk_cell BK133.out 1).trans rfl⟩ (fun hHeld => ?_); refine with_tabW dec_cut.tab9 dec_cut.bits9 (fun HT_ HW_ => ?_)
                        generalize w41.drew = w42 at BK131 BK133 HB hHeld ⊢
                        refine pure_ (i := 0) (N := some 31) (v := ?_) (a' := ?_) #[true, false, false, false, false, false, false, false, false, false, false, false, false, false, false, false, false, false] rfl rfl (any_of HT_.out (by kernel_rfl)) (fun _ _ _ h => h) (Or.inl ⟨by rfl, ?_⟩) ?_ ?_
                        rotate_left
                        · intro w'
                          go_simp
                          with_reducible rfl
                        rotate_left
                        · simp only [Act.put, List.setIfInBounds_toArray, List.set_cons_zero, List.set_cons_succ, i64_w, i32_w]
                          rfl
                        refine pure_ (i := 2) (N := some 33) (v := ?_) (a' := ?_) #[true, false, true, false, false, false, false, false, false, false, false, false, false, false, false, false, false, false] rfl rfl (any_of HT_.out (by kernel_rfl)) (fun _ _ _ h => h) (Or.inl ⟨by rfl, ?_⟩) ?_ ?_
                        rotate_left
                        · intro w'
                          go_simp
                          with_reducible rfl
                        rotate_left
                        · simp only [Act.put, List.setIfInBounds_toArray, List.set_cons_zero, List.set_cons_succ, i64_w, i32_w]
                          rfl
                        refine pure_ (i := 3) (N := some 34) (v := ?_) (a' := ?_) #[true, false, true, true, false, false, false, false, false, false, false, false, false, false, false, false, false, false] rfl rfl (any_of HT_.out (by kernel_rfl)) (fun _ _ _ h => h) (Or.inl ⟨by rfl, ?_⟩) ?_ ?_
                        rotate_left
                        · intro w'
                          go_simp
                          with_reducible rfl
                        rotate_left
                        · simp only [Act.put, List.setIfInBounds_toArray, List.set_cons_zero, List.set_cons_succ, i64_w, i32_w]
                          rfl
                        refine pure_ (i := 4) (N := some 35) (v := ?_) (a' := ?_) #[true, false, true, true, true, false, false, false, false, false, false, false, false, false, false, false, false, false] rfl rfl (any_of HT_.out (by kernel_rfl)) (fun _ _ _ h => h) (Or.inl ⟨by rfl, ?_⟩) ?_ ?_
                        rotate_left
                        · intro w'
                          go_simp
                          with_reducible rfl
                        rotate_left
                        · simp only [Act.put, List.setIfInBounds_toArray, List.set_cons_zero, List.set_cons_succ, i64_w, i32_w]
                          rfl
                        refine pure_ (i := 5) (N := some 36) (v := ?_) (a' := ?_) #[true, false, true, true, true, true, false, false, false, false, false, false, false, false, false, false, false, false] rfl rfl (any_of HT_.out (by kernel_rfl)) (fun _ _ _ h => h) (Or.inl ⟨by rfl, ?_⟩) ?_ ?_
                        rotate_left
                        · intro w'
                          go_simp
                          with_reducible rfl
                        rotate_left
                        · simp only [Act.put, List.setIfInBounds_toArray, List.set_cons_zero, List.set_cons_succ, i64_w, i32_w]
                          rfl
                        refine pure_ (i := 7) (N := some 38) (v := ?_) (a' := ?_) #[true, false, true, true, true, true, false, true, false, false, false, false, false, false, false, false, false, false] rfl rfl (any_of HT_.out (by kernel_rfl)) (fun _ _ _ h => h) (Or.inl ⟨by rfl, ?_⟩) ?_ ?_
                        rotate_left
                        · intro w'
                          go_simp
                          with_reducible rfl
                        rotate_left
                        · simp only [Act.put, List.setIfInBounds_toArray, List.set_cons_zero, List.set_cons_succ, i64_w, i32_w]
                          rfl
                        refine pure_ (i := 8) (N := some 39) (v := ?_) (a' := ?_) #[true, false, true, true, true, true, false, true, true, false, false, false, false, false, false, false, false, false] rfl rfl (any_of HT_.out (by kernel_rfl)) (fun _ _ _ h => h) (Or.inl ⟨by rfl, ?_⟩) ?_ ?_
                        rotate_left
                        · intro w'
                          go_simp
                          with_reducible rfl
                        rotate_left
                        · simp only [Act.put, List.setIfInBounds_toArray, List.set_cons_zero, List.set_cons_succ, i64_w, i32_w]
                          rfl
                        refine pure_ (i := 9) (N := some 40) (v := ?_) (a' := ?_) #[true, false, true, true, true, true, false, true, true, true, false, false, false, false, false, false, false, false] rfl rfl (any_of HT_.out (by kernel_rfl)) (fun _ _ _ h => h) (Or.inl ⟨by rfl, ?_⟩) ?_ ?_
                        rotate_left
                        · intro w'
                          go_simp
                          with_reducible rfl
                        rotate_left
                        · simp only [Act.put, List.setIfInBounds_toArray, List.set_cons_zero, List.set_cons_succ, i64_w, i32_w]
                          rfl
                        refine pure_ (i := 10) (N := some 41) (v := ?_) (a' := ?_) #[true, false, true, true, true, true, false, true, true, true, true, false, false, false, false, false, false, false] rfl rfl (any_of HT_.out (by kernel_rfl)) (fun _ _ _ h => h) (Or.inl ⟨by rfl, ?_⟩) ?_ ?_
                        rotate_left
                        · intro w'
                          go_simp
                          with_reducible rfl
                        rotate_left
                        · simp only [Act.put, List.setIfInBounds_toArray, List.set_cons_zero, List.set_cons_succ, i64_w, i32_w]
                          rfl
                        refine pure_ (i := 11) (N := some 42) (v := ?_) (a' := ?_) #[true, false, true, true, true, true, false, true, true, true, true, true, false, false, false, false, false, false] rfl rfl (any_of HT_.out (by kernel_rfl)) (fun _ _ _ h => h) (Or.inl ⟨by rfl, ?_⟩) ?_ ?_
                        rotate_left
                        · intro w'
                          go_simp
                          with_reducible rfl
                        rotate_left
                        · simp only [Act.put, List.setIfInBounds_toArray, List.set_cons_zero, List.set_cons_succ, i64_w, i32_w]
                          rfl
                        refine pure_ (i := 12) (N := some 43) (v := ?_) (a' := ?_) #[true, false, true, true, true, true, false, true, true, true, true, true, true, false, false, false, false, false] rfl rfl (any_of HT_.out (by kernel_rfl)) (fun _ _ _ h => h) (Or.inl ⟨by rfl, ?_⟩) ?_ ?_
                        rotate_left
                        · intro w'
                          go_simp
                          with_reducible rfl
                        rotate_left
                        · simp only [Act.put, List.setIfInBounds_toArray, List.set_cons_zero, List.set_cons_succ, i64_w, i32_w]
                          rfl
                        refine take_ (i := 1) (N := some 32) (v := ?_) (a' := ?_) #[true, true, true, true, true, true, false, true, true, true, true, true, true, false, false, false, false, false] rfl rfl (take_ofW HT_.out HW_.out (by kernel_rfl)) (fun _ _ _ h => h) (Or.inl ⟨by rfl, ?_⟩) hHeld ?_ ?_
                        rotate_left
                        · rintro w' ⟨s0, s1⟩
                          go_simp
                          with_reducible rfl
                        rotate_left
                        · simp only [Act.put, List.setIfInBounds_toArray, List.set_cons_zero, List.set_cons_succ, i64_w, i32_w]
                          rfl
                        refine pure_ (i := 6) (N := some 37) (v := ?_) (a' := ?_) #[true, true, true, true, true, true, true, true, true, true, true, true, true, false, false, false, false, false] rfl rfl (any_of HT_.out (by kernel_rfl)) (fun _ _ _ h => h) (Or.inl ⟨by rfl, ?_⟩) ?_ ?_
                        rotate_left
                        · intro w'
                          go_simp
                          with_reducible rfl
                        rotate_left
                        · simp only [Act.put, List.setIfInBounds_toArray, List.set_cons_zero, List.set_cons_succ, i64_w, i32_w]
                          rfl
                        refine pure_ (i := 13) (N := some 44) (v := ?_) (a' := ?_) #[true, true, true, true, true, true, true, true, true, true, true, true, true, true, false, false, false, false] rfl rfl (any_of HT_.out (by kernel_rfl)) (fun _ _ _ h => h) (Or.inl ⟨by rfl, ?_⟩) ?_ ?_
                        rotate_left
                        · intro w'
                          go_simp
                          with_reducible rfl
                        rotate_left
                        · simp only [Act.put, List.setIfInBounds_toArray, List.set_cons_zero, List.set_cons_succ, i64_w, i32_w]
                          rfl
                        refine last_ (i := 14) (N := none) #[true, true, true, true, true, true, true, true, true, true, true, true, true, true, true, false, false, false] rfl rfl (one_of HT_.out (by kernel_rfl)) (by decide) (fun K hK => ?_)
                        have hs43 : w42.cell? ⟨gb133, 0, none⟩ = some (.string ji5) := (blk_cell BK133.out 0).trans rfl
                        have hfs43 := blk_frozen BK133.out 0
                        have hns43_0 := NB131_133.out
                        have hms43_0 := NB133_131.out
                        refine skip_ (w1 := ?_) (by rfl) rfl ?_ ?_
                        rotate_left
                        · go_simp
                          rfl
                        refine hK.out _ _ ?_
                        clear hK K
                        refine pure_ (i := 15) (N := some 45) (v := ?_) (a' := ?_) #[true, true, true, true, true, true, true, true, true, true, true, true, true, true, true, true, false, false] rfl rfl (any_of HT_.out (by kernel_rfl)) (fun _ _ _ h => h) (Or.inl ⟨by rfl, ?_⟩) ?_ ?_
                        rotate_left
                        · intro w'
                          go_simp
                          with_reducible rfl
                        rotate_left
                        · simp only [Act.put, List.setIfInBounds_toArray, List.set_cons_zero, List.set_cons_succ, i64_w, i32_w]
                          rfl
                        refine last_ (i := 16) (N := none) #[true, true, true, true, true, true, true, true, true, true, true, true, true, true, true, true, true, false] rfl rfl (one_of HT_.out (by kernel_rfl)) (by decide) (fun K hK => ?_)
                        have hs44 : w42.cell? ⟨gb133, 1, none⟩ = some (.int .i64 0) := (blk_cell BK133.out 1).trans rfl
                        have hfs44 := blk_frozen BK133.out 1
                        have hns44_0 := NB131_133.out
                        have hms44_0 := NB133_131.out
                        refine skip_ (w1 := ?_) (by rfl) rfl ?_ ?_
                        rotate_left
                        · go_simp
                          rfl
                        refine hK.out _ _ ?_
                        clear hK K
                        refine pure_ (i := 17) (N := some 6) (v := ?_) (a' := ?_) #[true, true, true, true, true, true, true, true, true, true, true, true, true, true, true, true, true, true] rfl rfl (any_of HT_.out (by kernel_rfl)) (fun _ _ _ h => h) (Or.inl ⟨by rfl, ?_⟩) ?_ ?_
                        rotate_left
                        · intro w'
                          go_simp
                          with_reducible rfl
                        rotate_left
                        · simp only [Act.put, List.setIfInBounds_toArray, List.set_cons_zero, List.set_cons_succ, i64_w, i32_w]
                          rfl
                        refine done_ (done_of HT_.out (by kernel_rfl)) ?_
                        try go_wp2
                        go_meet
                        case rel => exact ⟨_, (ji40), ((⟨#[]⟩ : ByteArray)), (0), ((ji5) ++ (ji35)), (wrap64 (-t135)), (by first | rfl | (simp; done) | (simp only [← hji40] <;> (first | rfl | simp)) | (simp [*]; done)), H', ⟨by first | omega | exact Nat.le_refl _⟩, ⟨by (with_reducible repeat (first | refine blk_drewN ?_ _ | refine blk_drew ?_ | refine blk_alloc ?_ _)); refine blk_far ?_ NB131_133.out _; (with_reducible repeat (first | refine blk_drewN ?_ _ | refine blk_drew ?_ | refine blk_alloc ?_ _)); refine blk_far ?_ NB131_133.out _; (with_reducible repeat (first | refine blk_drewN ?_ _ | refine blk_drew ?_ | refine blk_alloc ?_ _)); exact BK131.out⟩, ⟨by (with_reducible repeat (first | refine blk_drewN ?_ _ | refine blk_drew ?_ | refine blk_alloc ?_ _)); refine blk_put (cs := #[.string ((ji5) ++ (ji35)), .int .i64 0]) ?_ 1 _ rfl; (with_reducible repeat (first | refine blk_drewN ?_ _ | refine blk_drew ?_ | refine blk_alloc ?_ _)); refine blk_put (cs := #[.string ji5, .int .i64 0]) ?_ 0 _ rfl; (with_reducible repeat (first | refine blk_drewN ?_ _ | refine blk_drew ?_ | refine blk_alloc ?_ _)); exact BK133.out⟩, ⟨by repeat (first | (with_reducible first | exact HB.out | apply below_alloc | apply pw_below_drewN | apply below_drew1 | refine below_set ?_ GE131.out | refine below_set ?_ GE133.out) | exact HB.out)⟩⟩
                      · rw [if_neg c38] at H
                        exact absurd H (by simp)
                    · rw [if_neg c36] at H
                      exact absurd H (by simp)
                  · rw [if_neg c34] at H
                    exact absurd H (by simp)
                · rw [if_neg c33] at H
                  exact absurd H (by simp)
            · rw [if_neg c26] at H
              exact absurd H (by simp)
          · replace c25 := Bool.eq_false_iff.mpr c25
            subst c25
            have H1 : (dec_cut.j0 k ji8 ji5 0) = some (r1, r2, r3) := by rw [if_neg (show ¬ (false = true) by decide)] at H; exact H
            clear H
            have H := H1
            clear H1
            have H' := Aside0.mk H
            clear H
            go_wp2
            go_meet
            case rel => exact ⟨_, (ji8), ((⟨#[]⟩ : ByteArray)), (0), (ji5), (0), (by first | rfl | (simp; done) | (simp only [← hji8] <;> (first | rfl | simp)) | (simp [*]; done)), H', ⟨by first | omega | exact Nat.le_refl _⟩, ⟨by (with_reducible repeat (first | refine blk_drewN ?_ _ | refine blk_drew ?_ | refine blk_alloc ?_ _)); refine blk_far ?_ NB131_133.out _; (with_reducible repeat (first | refine blk_drewN ?_ _ | refine blk_drew ?_ | refine blk_alloc ?_ _)); refine blk_far ?_ NB131_133.out _; (with_reducible repeat (first | refine blk_drewN ?_ _ | refine blk_drew ?_ | refine blk_alloc ?_ _)); exact BK131.out⟩, ⟨by (with_reducible repeat (first | refine blk_drewN ?_ _ | refine blk_drew ?_ | refine blk_alloc ?_ _)); refine blk_put (cs := #[.string ji5, .int .i64 0]) ?_ 1 _ rfl; (with_reducible repeat (first | refine blk_drewN ?_ _ | refine blk_drew ?_ | refine blk_alloc ?_ _)); refine blk_put (cs := #[.string (⟨#[]⟩ : ByteArray), .int .i64 0]) ?_ 0 _ rfl; (with_reducible repeat (first | refine blk_drewN ?_ _ | refine blk_drew ?_ | refine blk_alloc ?_ _)); exact BK133.out⟩, ⟨by repeat (first | (with_reducible first | exact HB.out | apply below_alloc | apply pw_below_drewN | apply below_drew1 | refine below_set ?_ GE131.out | refine below_set ?_ GE133.out) | exact HB.out)⟩⟩
        case rest =>
          clear HC19
          try clear c1
          try clear c2
          try clear p2
          try clear c3
          try clear c3b0
          try clear c3b1
          try clear c4
          try clear c4b0
          try clear c4b1
          try clear c6
          try clear c6b0
          try clear p6
          try clear c7
          try clear c7b0
          try clear c9
          try clear c9b0
          try clear c9b1
          try clear c15
          try clear c25
          try clear c26
          try clear c26b0
          try clear c26b1
          try clear c29
          try clear c29b0
          try clear c29b1
          try clear c30
          try clear c33
          try clear c33b0
          try clear c33b1
          try clear c34
          try clear c34b0
          try clear c34b1
          try clear c35
          try clear c36
          try clear c36b0
          try clear c36b1
          try clear c36b2
          try clear c38
          try clear c38b0
          try clear c38b1
          try clear c39
          try clear c39b0
          try clear c40
          try clear hcz16_0
          try clear hcz16_1
          try clear hcz17_0
          try clear hcz17_1
          try clear hcz31_0
          try clear hcz31_1
          try clear hcz32_0
          try clear hcz32_1
          try clear hfz16_0
          try clear hfz16_1
          try clear hfz17_0
          try clear hfz17_1
          try clear hfz31_0
          try clear hfz31_1
          try clear hfz32_0
          try clear hfz32_1
          obtain ⟨kq, x6_18, x132000_18, x132001_18, x134000_18, x134001_18, rfl, HA, HJ18, BK131, BK133, HB⟩ := hcut
          cases kq with
          | zero => exact absurd HA.out (by simp [dec_cut.j0])
          | succ kj18 =>
            have H := HA.out
            clear HA
            simp only [dec_cut.j0] at H
            by_cases c45 : x6_18.toList = ([] : List UInt8)
            · rw [if_pos c45] at H
              have c45b0 : (x6_18.toList == ([] : List UInt8)) = true := beq_iff_eq.mpr c45
              have c45b1 : (x6_18.toList != ([] : List UInt8)) = false := bne_eq_false_iff_eq.mpr c45
              clear c45
              simp only [Option.some.injEq, Prod.mk.injEq] at H
              obtain ⟨rfl, rfl, rfl⟩ := H
              have hnb46 := NB133_131.out
              have hnc46 := NB131_133.out
              have hcz47_0 : wc.cell? ⟨gb133, 0, none⟩ = some (.string x134000_18) := (blk_cell BK133.out 0).trans rfl
              have hcz47_1 : wc.cell? ⟨gb133, 1, none⟩ = some (.int .i64 x134001_18) := (blk_cell BK133.out 1).trans rfl
              have hfz47_0 := blk_frozen BK133.out 0
              have hfz47_1 := blk_frozen BK133.out 1
              have hcz48_0 : wc.cell? ⟨gb131, 0, none⟩ = some (.string x132000_18) := (blk_cell BK131.out 0).trans rfl
              have hcz48_1 : wc.cell? ⟨gb131, 1, none⟩ = some (.int .i64 x132001_18) := (blk_cell BK131.out 1).trans rfl
              have hfz48_0 := blk_frozen BK131.out 0
              have hfz48_1 := blk_frozen BK131.out 1
              go_wp2
              refine bodyPost_ret (results_ct rfl _ _ gb131 53 #[.string x134000_18, .int .i64 x134001_18] (0, 0) _ rfl (by (with_reducible repeat (first | refine blk_drewN ?_ _ | refine blk_drew ?_ | refine blk_alloc ?_ _)); refine blk_put (cs := #[.string x134000_18, .int .i64 x132001_18]) ?_ 1 _ rfl; (with_reducible repeat (first | refine blk_drewN ?_ _ | refine blk_drew ?_ | refine blk_alloc ?_ _)); refine blk_put (cs := #[.string x132000_18, .int .i64 x132001_18]) ?_ 0 _ rfl; (with_reducible repeat (first | refine blk_drewN ?_ _ | refine blk_drew ?_ | refine blk_alloc ?_ _)); exact BK131.out) Tryd.underlying53 rfl (by kernel_rfl)) rfl ?_
              exact ⟨by first | rfl | (simp [errW_none, errW_some] <;> rfl) | (simp only [← hji5, ← hji8]; first | rfl | (simp [errW_none, errW_some] <;> rfl)) | (simp [*, errW_none, errW_some] <;> rfl), by repeat (first | (with_reducible first | exact HB.out | apply below_alloc | apply pw_below_drewN | apply below_drew1 | refine below_set ?_ GE131.out | refine below_set ?_ GE133.out) | exact HB.out)⟩
            · rw [if_neg c45] at H
              have c45b0 : (x6_18.toList == ([] : List UInt8)) = false := beq_eq_false_iff_ne.mpr c45
              have c45b1 : (x6_18.toList != ([] : List UInt8)) = true := bne_iff_ne.mpr c45
              have HC49 := Aside0.mk H
              clear H
              go_upto_region 12 with (fail)
              go_cut [56] (fun v56 wc => ∃ (kq : Nat) (x56_48 : Bool), v56 = .bool x56_48 ∧ Aside0 (dec_cut.j1 kq x6_18 x56_48 x134000_18 x134001_18 = some (r1, r2, r3)) ∧ Aside0 (kq ≤ kj18) ∧ Aside0 (wc.heap[gb131]? = some (.cells #[.string x132000_18, .int .i64 x132001_18] 53 (0, 0))) ∧ Aside0 (wc.heap[gb133]? = some (.cells #[.string x134000_18, .int .i64 x134001_18] 53 (0, 0))) ∧ Aside0 (Below w.heap.size w wc))
              case first =>
                have H := HC49.out
                clear HC49
                by_cases c50 : 0 < (x6_18.size : Int)
                · rw [if_pos c50] at H
                  have c50b0 : decide (0 < (x6_18.size : Int)) = true := decide_eq_true c50
                  have c50b1 : decide (0 < x6_18.size) = true := decide_eq_true (by omega)
                  clear c50
                  (first | rw [c50b0] | (simp only [i64_w, i32_w]; rw [c50b0]) | rw [c50b1] | (simp only [i64_w, i32_w]; rw [c50b1]) | skip)
                  by_cases c52 : (bt x6_18 0) = 101
                  · rw [if_pos c52] at H
                    have c52b0 : ((bt x6_18 0) == 101) = true := beq_iff_eq.mpr c52
                    have c52b1 : ((bt x6_18 0) != 101) = false := bne_eq_false_iff_eq.mpr c52
                    clear c52
                    have H' := Aside0.mk H
                    clear H
                    have p51 : 0 ≤ (0 : Int) := (by omega)
                    have q51 : 0 < x6_18.size := (by have : (0 : Int) < (x6_18.size : Int) := of_decide_eq_true (by first | (with_reducible assumption) | assumption); omega)
                    have hx51 : ∀ h : 0 < x6_18.size, ((x6_18[0]'h).toNat : Int) = bt x6_18 0 := bt_at x6_18 0
                    clear p51
                    have qi51 : (0 < (x6_18.size : Int)) = True := eq_true (of_decide_eq_true (by first | (with_reducible assumption) | assumption))
                    replace q51 := eq_true q51
                    go_wp2
                    go_meet
                    case rel => exact ⟨_, (false), (by first | rfl | (simp; done) | (simp [*]; done)), H', ⟨by have := HJ18.out; first | omega | exact Nat.le_refl _⟩, ⟨by (with_reducible repeat (first | refine blk_drewN ?_ _ | refine blk_drew ?_ | refine blk_alloc ?_ _)); exact BK131.out⟩, ⟨by (with_reducible repeat (first | refine blk_drewN ?_ _ | refine blk_drew ?_ | refine blk_alloc ?_ _)); exact BK133.out⟩, ⟨by repeat (first | (with_reducible first | exact HB.out | apply below_alloc | apply pw_below_drewN | apply below_drew1 | refine below_set ?_ GE131.out | refine below_set ?_ GE133.out) | exact HB.out)⟩⟩
                  · rw [if_neg c52] at H
                    have c52b0 : ((bt x6_18 0) == 101) = false := beq_eq_false_iff_ne.mpr c52
                    have c52b1 : ((bt x6_18 0) != 101) = true := bne_iff_ne.mpr c52
                    have H' := Aside0.mk H
                    clear H
                    have p51 : 0 ≤ (0 : Int) := (by omega)
                    have q51 : 0 < x6_18.size := (by have : (0 : Int) < (x6_18.size : Int) := of_decide_eq_true (by first | (with_reducible assumption) | assumption); omega)
                    have hx51 : ∀ h : 0 < x6_18.size, ((x6_18[0]'h).toNat : Int) = bt x6_18 0 := bt_at x6_18 0
                    clear p51
                    have qi51 : (0 < (x6_18.size : Int)) = True := eq_true (of_decide_eq_true (by first | (with_reducible assumption) | assumption))
                    replace q51 := eq_true q51
                    have p53 : 0 ≤ (0 : Int) := (by omega)
                    have q53 : 0 < x6_18.size := (by have : (0 : Int) < (x6_18.size : Int) := of_decide_eq_true (by first | (with_reducible assumption) | assumption); omega)
                    have hx53 : ∀ h : 0 < x6_18.size, ((x6_18[0]'h).toNat : Int) = bt x6_18 0 := bt_at x6_18 0
                    clear p53
                    have qi53 : (0 < (x6_18.size : Int)) = True := eq_true (of_decide_eq_true (by first | (with_reducible assumption) | assumption))
                    replace q53 := eq_true q53
                    go_wp2
                    go_meet
                    case rel => exact ⟨_, (((bt x6_18 0) != 69)), (by first | rfl | (simp; done) | (simp [*]; done)), H', ⟨by have := HJ18.out; first | omega | exact Nat.le_refl _⟩, ⟨by (with_reducible repeat (first | refine blk_drewN ?_ _ | refine blk_drew ?_ | refine blk_alloc ?_ _)); exact BK131.out⟩, ⟨by (with_reducible repeat (first | refine blk_drewN ?_ _ | refine blk_drew ?_ | refine blk_alloc ?_ _)); exact BK133.out⟩, ⟨by repeat (first | (with_reducible first | exact HB.out | apply below_alloc | apply pw_below_drewN | apply below_drew1 | refine below_set ?_ GE131.out | refine below_set ?_ GE133.out) | exact HB.out)⟩⟩
                · rw [if_neg c50] at H
                  exact absurd H (by simp)
              case rest =>
                clear HC49
                try clear c1
                try clear c2
                try clear p2
                try clear c3
                try clear c3b0
                try clear c3b1
                try clear c4
                try clear c4b0
                try clear c4b1
                try clear c5
                try clear p5
                try clear q5
                try clear hx5
                try clear qi5
                try clear c6
                try clear c6b0
                try clear p6
                try clear c7
                try clear c7b0
                try clear c9
                try clear c9b0
                try clear c9b1
                try clear c15
                try clear c25
                try clear c26
                try clear c26b0
                try clear c26b1
                try clear c29
                try clear c29b0
                try clear c29b1
                try clear c30
                try clear c33
                try clear c33b0
                try clear c33b1
                try clear c34
                try clear c34b0
                try clear c34b1
                try clear c35
                try clear c36
                try clear c36b0
                try clear c36b1
                try clear c36b2
                try clear c38
                try clear c38b0
                try clear c38b1
                try clear c39
                try clear c39b0
                try clear c40
                try clear c45
                try clear c45b0
                try clear c45b1
                try clear c46
                try clear c50
                try clear c50b0
                try clear c50b1
                try clear p51
                try clear q51
                try clear hx51
                try clear qi51
                try clear c52
                try clear c52b0
                try clear c52b1
                try clear p53
                try clear q53
                try clear hx53
                try clear qi53
                try clear hcz16_0
                try clear hcz16_1
                try clear hcz17_0
                try clear hcz17_1
                try clear hcz31_0
                try clear hcz31_1
                try clear hcz32_0
                try clear hcz32_1
                try clear hcz47_0
                try clear hcz47_1
                try clear hcz48_0
                try clear hcz48_1
                try clear hfz16_0
                try clear hfz16_1
                try clear hfz17_0
                try clear hfz17_1
                try clear hfz31_0
                try clear hfz31_1
                try clear hfz32_0
                try clear hfz32_1
                try clear hfz47_0
                try clear hfz47_1
                try clear hfz48_0
                try clear hfz48_1
                try clear p2
                try clear p51
                try clear p53
                try clear p6
                try clear q51
                try clear q53
                obtain ⟨kq, x56_48, rfl, HA, HJ48, BK131, BK133, HB⟩ := hcut
                cases kq with
                | zero => exact absurd HA.out (by simp [dec_cut.j1])
                | succ kj48 =>
                  have H := HA.out
                  clear HA
                  simp only [dec_cut.j1] at H
                  by_cases c54 : x56_48 = true
                  · subst c54
                    have H1 : (some (x134000_18, x134001_18, false)) = some (r1, r2, r3) := by rw [if_pos rfl] at H; exact H
                    clear H
                    have H := H1
                    clear H1
                    simp only [Option.some.injEq, Prod.mk.injEq] at H
                    obtain ⟨rfl, rfl, rfl⟩ := H
                    have hnb55 := NB133_131.out
                    have hnc55 := NB131_133.out
                    have hcz56_0 : wc.cell? ⟨gb133, 0, none⟩ = some (.string x134000_18) := (blk_cell BK133.out 0).trans rfl
                    have hcz56_1 : wc.cell? ⟨gb133, 1, none⟩ = some (.int .i64 x134001_18) := (blk_cell BK133.out 1).trans rfl
                    have hfz56_0 := blk_frozen BK133.out 0
                    have hfz56_1 := blk_frozen BK133.out 1
                    have hcz57_0 : wc.cell? ⟨gb131, 0, none⟩ = some (.string x132000_18) := (blk_cell BK131.out 0).trans rfl
                    have hcz57_1 : wc.cell? ⟨gb131, 1, none⟩ = some (.int .i64 x132001_18) := (blk_cell BK131.out 1).trans rfl
                    have hfz57_0 := blk_frozen BK131.out 0
                    have hfz57_1 := blk_frozen BK131.out 1
                    go_wp2
                    refine bodyPost_ret (results_ct rfl _ _ gb131 53 #[.string x134000_18, .int .i64 x134001_18] (0, 0) _ rfl (by (with_reducible repeat (first | refine blk_drewN ?_ _ | refine blk_drew ?_ | refine blk_alloc ?_ _)); refine blk_put (cs := #[.string x134000_18, .int .i64 x132001_18]) ?_ 1 _ rfl; (with_reducible repeat (first | refine blk_drewN ?_ _ | refine blk_drew ?_ | refine blk_alloc ?_ _)); refine blk_put (cs := #[.string x132000_18, .int .i64 x132001_18]) ?_ 0 _ rfl; (with_reducible repeat (first | refine blk_drewN ?_ _ | refine blk_drew ?_ | refine blk_alloc ?_ _)); exact BK131.out) Tryd.underlying53 rfl (by kernel_rfl)) rfl ?_
                    exact ⟨by first | rfl | (simp [errW_none, errW_some] <;> rfl) | (simp only [← hji5, ← hji8]; first | rfl | (simp [errW_none, errW_some] <;> rfl)) | (simp [*, errW_none, errW_some] <;> rfl), by repeat (first | (with_reducible first | exact HB.out | apply below_alloc | apply pw_below_drewN | apply below_drew1 | refine below_set ?_ GE131.out | refine below_set ?_ GE133.out) | exact HB.out)⟩
                  · replace c54 := Bool.eq_false_iff.mpr c54
                    subst c54
                    have H1 : (if 1 ≤ (x6_18.size : Int) then (if (x6_18.extract 1 x6_18.size).toList = ([] : List UInt8) then (dec_cut.j2 kj48 (x6_18.extract 1 x6_18.size) 1 false x134000_18 x134001_18) else (if 0 < ((x6_18.extract 1 x6_18.size).size : Int) then (if (bt (x6_18.extract 1 x6_18.size) 0) = 43 then (dec_cut.j2 kj48 (x6_18.extract 1 x6_18.size) 1 true x134000_18 x134001_18) else (dec_cut.j2 kj48 (x6_18.extract 1 x6_18.size) 1 ((bt (x6_18.extract 1 x6_18.size) 0) == 45) x134000_18 x134001_18)) else (none))) else (none)) = some (r1, r2, r3) := by rw [if_neg (show ¬ (false = true) by decide)] at H; exact H
                    clear H
                    have H := H1
                    clear H1
                    by_cases c58 : 1 ≤ (x6_18.size : Int)
                    · rw [if_pos c58] at H
                      have c58b0 := eq_true c58
                      have c58b1 : decide (1 ≤ (x6_18.size : Int)) = true := decide_eq_true c58
                      clear c58
                      obtain ⟨ji59, hji59⟩ : ∃ j_ : ByteArray, (x6_18.extract 1 x6_18.size) = j_ := ⟨_, rfl⟩
                      replace H : (if (ji59).toList = ([] : List UInt8) then (dec_cut.j2 kj48 ji59 1 false x134000_18 x134001_18) else (if 0 < ((ji59).size : Int) then (if (bt (ji59) 0) = 43 then (dec_cut.j2 kj48 ji59 1 true x134000_18 x134001_18) else (dec_cut.j2 kj48 ji59 1 ((bt (ji59) 0) == 45) x134000_18 x134001_18)) else (none))) = some (r1, r2, r3) := by first | (rw [hji59] at H; exact H) | (simp only [hji59] at H ⊢; exact H) | exact H
                      have HC60 := Aside0.mk H
                      clear H
                      go_upto_region 16 with (fail)
                      go_cut [71] (fun v71 wc => ∃ (kq : Nat) (x71_59 : Bool), v71 = .bool x71_59 ∧ Aside0 (dec_cut.j2 kq ji59 1 x71_59 x134000_18 x134001_18 = some (r1, r2, r3)) ∧ Aside0 (kq ≤ kj48) ∧ Aside0 (wc.heap[gb131]? = some (.cells #[.string x132000_18, .int .i64 x132001_18] 53 (0, 0))) ∧ Aside0 (wc.heap[gb133]? = some (.cells #[.string x134000_18, .int .i64 x134001_18] 53 (0, 0))) ∧ Aside0 (Below w.heap.size w wc))
                      case first =>
                        have H := HC60.out
                        clear HC60
                        by_cases c61 : (ji59).toList = ([] : List UInt8)
                        · rw [if_pos c61] at H
                          have c61b0 : ((ji59).toList == ([] : List UInt8)) = true := beq_iff_eq.mpr c61
                          have c61b1 : ((ji59).toList != ([] : List UInt8)) = false := bne_eq_false_iff_eq.mpr c61
                          clear c61
                          (first | rw [c61b0] | (simp only [i64_w, i32_w]; rw [c61b0]) | rw [c61b1] | (simp only [i64_w, i32_w]; rw [c61b1]) | skip)
                          have H' := Aside0.mk H
                          clear H
                          go_wp2
                          go_meet
                          case rel => exact ⟨_, (false), (by first | rfl | (simp; done) | (simp [*]; done)), H', ⟨by have := HJ18.out; have := HJ48.out; first | omega | exact Nat.le_refl _⟩, ⟨by (with_reducible repeat (first | refine blk_drewN ?_ _ | refine blk_drew ?_ | refine blk_alloc ?_ _)); exact BK131.out⟩, ⟨by (with_reducible repeat (first | refine blk_drewN ?_ _ | refine blk_drew ?_ | refine blk_alloc ?_ _)); exact BK133.out⟩, ⟨by repeat (first | (with_reducible first | exact HB.out | apply below_alloc | apply pw_below_drewN | apply below_drew1 | refine below_set ?_ GE131.out | refine below_set ?_ GE133.out) | exact HB.out)⟩⟩
                        · rw [if_neg c61] at H
                          have c61b0 : ((ji59).toList == ([] : List UInt8)) = false := beq_eq_false_iff_ne.mpr c61
                          have c61b1 : ((ji59).toList != ([] : List UInt8)) = true := bne_iff_ne.mpr c61
                          (first | rw [c61b0] | (simp only [i64_w, i32_w]; rw [c61b0]) | rw [c61b1] | (simp only [i64_w, i32_w]; rw [c61b1]) | skip)
                          by_cases c62 : 0 < ((ji59).size : Int)
                          · rw [if_pos c62] at H
                            have c62b0 : decide (0 < ((ji59).size : Int)) = true := decide_eq_true c62
                            have c62b1 : decide (0 < (ji59).size) = true := decide_eq_true (by omega)
                            clear c62
                            by_cases c64 : (bt (ji59) 0) = 43
                            · rw [if_pos c64] at H
                              have c64b0 : ((bt (ji59) 0) == 43) = true := beq_iff_eq.mpr c64
                              have c64b1 : ((bt (ji59) 0) != 43) = false := bne_eq_false_iff_eq.mpr c64
                              clear c64
                              have H' := Aside0.mk H
                              clear H
                              have p63 : 0 ≤ (0 : Int) := (by omega)
                              have q63 : 0 < ji59.size := (by have : (0 : Int) < (ji59.size : Int) := of_decide_eq_true (by first | (with_reducible assumption) | assumption); omega)
                              have hx63 : ∀ h : 0 < ji59.size, ((ji59[0]'h).toNat : Int) = bt ji59 0 := bt_at ji59 0
                              clear p63
                              have qi63 : (0 < (ji59.size : Int)) = True := eq_true (of_decide_eq_true (by first | (with_reducible assumption) | assumption))
                              replace q63 := eq_true q63
                              go_wp2
                              go_meet
                              case rel => exact ⟨_, (true), (by first | rfl | (simp; done) | (simp [*]; done)), H', ⟨by have := HJ18.out; have := HJ48.out; first | omega | exact Nat.le_refl _⟩, ⟨by (with_reducible repeat (first | refine blk_drewN ?_ _ | refine blk_drew ?_ | refine blk_alloc ?_ _)); exact BK131.out⟩, ⟨by (with_reducible repeat (first | refine blk_drewN ?_ _ | refine blk_drew ?_ | refine blk_alloc ?_ _)); exact BK133.out⟩, ⟨by repeat (first | (with_reducible first | exact HB.out | apply below_alloc | apply pw_below_drewN | apply below_drew1 | refine below_set ?_ GE131.out | refine below_set ?_ GE133.out) | exact HB.out)⟩⟩
                            · rw [if_neg c64] at H
                              have c64b0 : ((bt (ji59) 0) == 43) = false := beq_eq_false_iff_ne.mpr c64
                              have c64b1 : ((bt (ji59) 0) != 43) = true := bne_iff_ne.mpr c64
                              have H' := Aside0.mk H
                              clear H
                              have p63 : 0 ≤ (0 : Int) := (by omega)
                              have q63 : 0 < ji59.size := (by have : (0 : Int) < (ji59.size : Int) := of_decide_eq_true (by first | (with_reducible assumption) | assumption); omega)
                              have hx63 : ∀ h : 0 < ji59.size, ((ji59[0]'h).toNat : Int) = bt ji59 0 := bt_at ji59 0
                              clear p63
                              have qi63 : (0 < (ji59.size : Int)) = True := eq_true (of_decide_eq_true (by first | (with_reducible assumption) | assumption))
                              replace q63 := eq_true q63
                              have p65 : 0 ≤ (0 : Int) := (by omega)
                              have q65 : 0 < ji59.size := (by have : (0 : Int) < (ji59.size : Int) := of_decide_eq_true (by first | (with_reducible assumption) | assumption); omega)
                              have hx65 : ∀ h : 0 < ji59.size, ((ji59[0]'h).toNat : Int) = bt ji59 0 := bt_at ji59 0
                              clear p65
                              have qi65 : (0 < (ji59.size : Int)) = True := eq_true (of_decide_eq_true (by first | (with_reducible assumption) | assumption))
                              replace q65 := eq_true q65
                              go_wp2
                              go_meet
                              case rel => exact ⟨_, (((bt (ji59) 0) == 45)), (by first | rfl | (simp; done) | (simp only [← hji59] <;> (first | rfl | simp)) | (simp [*]; done)), H', ⟨by have := HJ18.out; have := HJ48.out; first | omega | exact Nat.le_refl _⟩, ⟨by (with_reducible repeat (first | refine blk_drewN ?_ _ | refine blk_drew ?_ | refine blk_alloc ?_ _)); exact BK131.out⟩, ⟨by (with_reducible repeat (first | refine blk_drewN ?_ _ | refine blk_drew ?_ | refine blk_alloc ?_ _)); exact BK133.out⟩, ⟨by repeat (first | (with_reducible first | exact HB.out | apply below_alloc | apply pw_below_drewN | apply below_drew1 | refine below_set ?_ GE131.out | refine below_set ?_ GE133.out) | exact HB.out)⟩⟩
                          · rw [if_neg c62] at H
                            exact absurd H (by simp)
                      case rest =>
                        clear HC60
                        try clear c1
                        try clear c2
                        try clear p2
                        try clear c3
                        try clear c3b0
                        try clear c3b1
                        try clear c4
                        try clear c4b0
                        try clear c4b1
                        try clear c5
                        try clear p5
                        try clear q5
                        try clear hx5
                        try clear qi5
                        try clear c6
                        try clear c6b0
                        try clear p6
                        try clear q6
                        try clear hx6
                        try clear qi6
                        try clear c7
                        try clear c7b0
                        try clear c9
                        try clear c9b0
                        try clear c9b1
                        try clear c15
                        try clear c25
                        try clear c26
                        try clear c26b0
                        try clear c26b1
                        try clear c29
                        try clear c29b0
                        try clear c29b1
                        try clear c30
                        try clear c33
                        try clear c33b0
                        try clear c33b1
                        try clear c34
                        try clear c34b0
                        try clear c34b1
                        try clear c35
                        try clear c36
                        try clear c36b0
                        try clear c36b1
                        try clear c36b2
                        try clear c38
                        try clear c38b0
                        try clear c38b1
                        try clear c39
                        try clear c39b0
                        try clear c40
                        try clear c45
                        try clear c45b0
                        try clear c45b1
                        try clear c46
                        try clear c50
                        try clear c50b0
                        try clear c50b1
                        try clear p51
                        try clear q51
                        try clear hx51
                        try clear qi51
                        try clear c52
                        try clear c52b0
                        try clear c52b1
                        try clear p53
                        try clear q53
                        try clear hx53
                        try clear qi53
                        try clear c54
                        try clear c55
                        try clear c58
                        try clear c58b0
                        try clear c58b1
                        try clear c61
                        try clear c61b0
                        try clear c61b1
                        try clear c62
                        try clear c62b0
                        try clear c62b1
                        try clear p63
                        try clear q63
                        try clear hx63
                        try clear qi63
                        try clear c64
                        try clear c64b0
                        try clear c64b1
                        try clear p64
                        try clear p65
                        try clear q65
                        try clear hx65
                        try clear qi65
                        try clear hcz16_0
                        try clear hcz16_1
                        try clear hcz17_0
                        try clear hcz17_1
                        try clear hcz31_0
                        try clear hcz31_1
                        try clear hcz32_0
                        try clear hcz32_1
                        try clear hcz47_0
                        try clear hcz47_1
                        try clear hcz48_0
                        try clear hcz48_1
                        try clear hcz56_0
                        try clear hcz56_1
                        try clear hcz57_0
                        try clear hcz57_1
                        try clear hfz16_0
                        try clear hfz16_1
                        try clear hfz17_0
                        try clear hfz17_1
                        try clear hfz31_0
                        try clear hfz31_1
                        try clear hfz32_0
                        try clear hfz32_1
                        try clear hfz47_0
                        try clear hfz47_1
                        try clear hfz48_0
                        try clear hfz48_1
                        try clear hfz56_0
                        try clear hfz56_1
                        try clear hfz57_0
                        try clear hfz57_1
                        try clear p2
                        try clear p5
                        try clear p51
                        try clear p53
                        try clear p6
                        try clear p63
                        try clear p65
                        try clear q5
                        try clear q51
                        try clear q53
                        try clear q63
                        try clear q65
                        obtain ⟨kq, x71_59, rfl, HA, HJ59, BK131, BK133, HB⟩ := hcut
                        cases kq with
                        | zero => exact absurd HA.out (by simp [dec_cut.j2])
                        | succ kj59 =>
                          have H := HA.out
                          clear HA
                          simp only [dec_cut.j2] at H
                          have HC66 := Aside0.mk H
                          clear H
                          go_upto_if 71 with (fail)
                          go_cut [6, 8] (fun v6 v8 wc => ∃ (kq : Nat) (x6_65 : ByteArray) (x8_65 : Int), v6 = .string x6_65 ∧ v8 = .int .i64 x8_65 ∧ Aside0 (dec_cut.j3 kq x6_65 x8_65 x134000_18 x134001_18 = some (r1, r2, r3)) ∧ Aside0 (kq ≤ kj59) ∧ Aside0 (wc.heap[gb131]? = some (.cells #[.string x132000_18, .int .i64 x132001_18] 53 (0, 0))) ∧ Aside0 (wc.heap[gb133]? = some (.cells #[.string x134000_18, .int .i64 x134001_18] 53 (0, 0))) ∧ Aside0 (Below w.heap.size w wc))
                          case first =>
                            have H := HC66.out
                            clear HC66
                            by_cases c67 : x71_59 = true
                            · subst c67
                              have H1 : (if 0 < (ji59.size : Int) then (if (bt ji59 0) = 45 then (if 1 ≤ (ji59.size : Int) then (dec_cut.j3 kj59 (ji59.extract 1 ji59.size) (-1) x134000_18 x134001_18) else (none)) else (if 1 ≤ (ji59.size : Int) then (dec_cut.j3 kj59 (ji59.extract 1 ji59.size) 1 x134000_18 x134001_18) else (none))) else (none)) = some (r1, r2, r3) := by rw [if_pos rfl] at H; exact H
                              clear H
                              have H := H1
                              clear H1
                              by_cases c68 : 0 < (ji59.size : Int)
                              · rw [if_pos c68] at H
                                have c68b0 : decide (0 < (ji59.size : Int)) = true := decide_eq_true c68
                                have c68b1 : decide (0 < ji59.size) = true := decide_eq_true (by omega)
                                clear c68
                                (first | rw [c68b0] | (simp only [i64_w, i32_w]; rw [c68b0]) | rw [c68b1] | (simp only [i64_w, i32_w]; rw [c68b1]) | skip)
                                by_cases c70 : (bt ji59 0) = 45
                                · rw [if_pos c70] at H
                                  have c70b0 : ((bt ji59 0) == 45) = true := beq_iff_eq.mpr c70
                                  have c70b1 : ((bt ji59 0) != 45) = false := bne_eq_false_iff_eq.mpr c70
                                  clear c70
                                  by_cases c71 : 1 ≤ (ji59.size : Int)
                                  · rw [if_pos c71] at H
                                    have c71b0 := eq_true c71
                                    have c71b1 : decide (1 ≤ (ji59.size : Int)) = true := decide_eq_true c71
                                    clear c71
                                    obtain ⟨ji72, hji72⟩ : ∃ j_ : ByteArray, (ji59.extract 1 ji59.size) = j_ := ⟨_, rfl⟩
                                    replace H : (dec_cut.j3 kj59 ji72 (-1) x134000_18 x134001_18) = some (r1, r2, r3) := by first | (rw [hji72] at H; exact H) | (simp only [hji72] at H ⊢; exact H) | exact H
                                    have H' := Aside0.mk H
                                    clear H
                                    have p69 : 0 ≤ (0 : Int) := (by omega)
                                    have q69 : 0 < ji59.size := (by have : (0 : Int) < (ji59.size : Int) := of_decide_eq_true (by first | (with_reducible assumption) | assumption); omega)
                                    have hx69 : ∀ h : 0 < ji59.size, ((ji59[0]'h).toNat : Int) = bt ji59 0 := bt_at ji59 0
                                    clear p69
                                    have qi69 : (0 < (ji59.size : Int)) = True := eq_true (of_decide_eq_true (by first | (with_reducible assumption) | assumption))
                                    replace q69 := eq_true q69
                                    go_wp2
                                    go_meet
                                    case rel => exact ⟨_, (ji72), ((-1)), (by first | rfl | (simp; done) | (simp only [← hji72] <;> (first | rfl | simp)) | (simp [*]; done)), (by first | rfl | (simp; done) | (simp [*]; done)), H', ⟨by have := HJ18.out; have := HJ48.out; have := HJ59.out; first | omega | exact Nat.le_refl _⟩, ⟨by (with_reducible repeat (first | refine blk_drewN ?_ _ | refine blk_drew ?_ | refine blk_alloc ?_ _)); exact BK131.out⟩, ⟨by (with_reducible repeat (first | refine blk_drewN ?_ _ | refine blk_drew ?_ | refine blk_alloc ?_ _)); exact BK133.out⟩, ⟨by repeat (first | (with_reducible first | exact HB.out | apply below_alloc | apply pw_below_drewN | apply below_drew1 | refine below_set ?_ GE131.out | refine below_set ?_ GE133.out) | exact HB.out)⟩⟩
                                  · rw [if_neg c71] at H
                                    exact absurd H (by simp)
                                · rw [if_neg c70] at H
                                  have c70b0 : ((bt ji59 0) == 45) = false := beq_eq_false_iff_ne.mpr c70
                                  have c70b1 : ((bt ji59 0) != 45) = true := bne_iff_ne.mpr c70
                                  by_cases c73 : 1 ≤ (ji59.size : Int)
                                  · rw [if_pos c73] at H
                                    have c73b0 := eq_true c73
                                    have c73b1 : decide (1 ≤ (ji59.size : Int)) = true := decide_eq_true c73
                                    clear c73
                                    obtain ⟨ji74, hji74⟩ : ∃ j_ : ByteArray, (ji59.extract 1 ji59.size) = j_ := ⟨_, rfl⟩
                                    replace H : (dec_cut.j3 kj59 ji74 1 x134000_18 x134001_18) = some (r1, r2, r3) := by first | (rw [hji74] at H; exact H) | (simp only [hji74] at H ⊢; exact H) | exact H
                                    have H' := Aside0.mk H
                                    clear H
                                    have p69 : 0 ≤ (0 : Int) := (by omega)
                                    have q69 : 0 < ji59.size := (by have : (0 : Int) < (ji59.size : Int) := of_decide_eq_true (by first | (with_reducible assumption) | assumption); omega)
                                    have hx69 : ∀ h : 0 < ji59.size, ((ji59[0]'h).toNat : Int) = bt ji59 0 := bt_at ji59 0
                                    clear p69
                                    have qi69 : (0 < (ji59.size : Int)) = True := eq_true (of_decide_eq_true (by first | (with_reducible assumption) | assumption))
                                    replace q69 := eq_true q69
                                    go_wp2
                                    go_meet
                                    case rel => exact ⟨_, (ji74), (1), (by first | rfl | (simp; done) | (simp only [← hji74] <;> (first | rfl | simp)) | (simp [*]; done)), (by first | rfl | (simp; done) | (simp [*]; done)), H', ⟨by have := HJ18.out; have := HJ48.out; have := HJ59.out; first | omega | exact Nat.le_refl _⟩, ⟨by (with_reducible repeat (first | refine blk_drewN ?_ _ | refine blk_drew ?_ | refine blk_alloc ?_ _)); exact BK131.out⟩, ⟨by (with_reducible repeat (first | refine blk_drewN ?_ _ | refine blk_drew ?_ | refine blk_alloc ?_ _)); exact BK133.out⟩, ⟨by repeat (first | (with_reducible first | exact HB.out | apply below_alloc | apply pw_below_drewN | apply below_drew1 | refine below_set ?_ GE131.out | refine below_set ?_ GE133.out) | exact HB.out)⟩⟩
                                  · rw [if_neg c73] at H
                                    exact absurd H (by simp)
                              · rw [if_neg c68] at H
                                exact absurd H (by simp)
                            · replace c67 := Bool.eq_false_iff.mpr c67
                              subst c67
                              have H1 : (dec_cut.j3 kj59 ji59 1 x134000_18 x134001_18) = some (r1, r2, r3) := by rw [if_neg (show ¬ (false = true) by decide)] at H; exact H
                              clear H
                              have H := H1
                              clear H1
                              have H' := Aside0.mk H
                              clear H
                              go_wp2
                              go_meet
                              case rel => exact ⟨_, (ji59), (1), (by first | rfl | (simp; done) | (simp only [← hji59] <;> (first | rfl | simp)) | (simp [*]; done)), (by first | rfl | (simp; done) | (simp [*]; done)), H', ⟨by have := HJ18.out; have := HJ48.out; have := HJ59.out; first | omega | exact Nat.le_refl _⟩, ⟨by (with_reducible repeat (first | refine blk_drewN ?_ _ | refine blk_drew ?_ | refine blk_alloc ?_ _)); exact BK131.out⟩, ⟨by (with_reducible repeat (first | refine blk_drewN ?_ _ | refine blk_drew ?_ | refine blk_alloc ?_ _)); exact BK133.out⟩, ⟨by repeat (first | (with_reducible first | exact HB.out | apply below_alloc | apply pw_below_drewN | apply below_drew1 | refine below_set ?_ GE131.out | refine below_set ?_ GE133.out) | exact HB.out)⟩⟩
                          case rest =>
                            clear HC66
                            try clear c1
                            try clear c2
                            try clear p2
                            try clear c3
                            try clear c3b0
                            try clear c3b1
                            try clear c4
                            try clear c4b0
                            try clear c4b1
                            try clear c5
                            try clear p5
                            try clear q5
                            try clear hx5
                            try clear qi5
                            try clear c6
                            try clear c6b0
                            try clear p6
                            try clear q6
                            try clear hx6
                            try clear qi6
                            try clear c7
                            try clear c7b0
                            try clear c9
                            try clear c9b0
                            try clear c9b1
                            try clear c15
                            try clear c25
                            try clear c26
                            try clear c26b0
                            try clear c26b1
                            try clear c29
                            try clear c29b0
                            try clear c29b1
                            try clear c30
                            try clear c33
                            try clear c33b0
                            try clear c33b1
                            try clear c34
                            try clear c34b0
                            try clear c34b1
                            try clear c35
                            try clear c36
                            try clear c36b0
                            try clear c36b1
                            try clear c36b2
                            try clear c38
                            try clear c38b0
                            try clear c38b1
                            try clear c39
                            try clear c39b0
                            try clear c40
                            try clear c45
                            try clear c45b0
                            try clear c45b1
                            try clear c46
                            try clear c50
                            try clear c50b0
                            try clear c50b1
                            try clear p51
                            try clear q51
                            try clear hx51
                            try clear qi51
                            try clear c52
                            try clear c52b0
                            try clear c52b1
                            try clear p53
                            try clear q53
                            try clear hx53
                            try clear qi53
                            try clear c54
                            try clear c55
                            try clear c58
                            try clear c58b0
                            try clear c58b1
                            try clear c61
                            try clear c61b0
                            try clear c61b1
                            try clear c62
                            try clear c62b0
                            try clear c62b1
                            try clear p63
                            try clear q63
                            try clear hx63
                            try clear qi63
                            try clear c64
                            try clear c64b0
                            try clear c64b1
                            try clear p64
                            try clear p65
                            try clear q65
                            try clear hx65
                            try clear qi65
                            try clear c67
                            try clear c68
                            try clear c68b0
                            try clear c68b1
                            try clear p69
                            try clear q69
                            try clear hx69
                            try clear qi69
                            try clear c70
                            try clear c70b0
                            try clear c70b1
                            try clear c71
                            try clear c71b0
                            try clear c71b1
                            try clear c73
                            try clear c73b0
                            try clear c73b1
                            try clear hcz16_0
                            try clear hcz16_1
                            try clear hcz17_0
                            try clear hcz17_1
                            try clear hcz31_0
                            try clear hcz31_1
                            try clear hcz32_0
                            try clear hcz32_1
                            try clear hcz47_0
                            try clear hcz47_1
                            try clear hcz48_0
                            try clear hcz48_1
                            try clear hcz56_0
                            try clear hcz56_1
                            try clear hcz57_0
                            try clear hcz57_1
                            try clear hfz16_0
                            try clear hfz16_1
                            try clear hfz17_0
                            try clear hfz17_1
                            try clear hfz31_0
                            try clear hfz31_1
                            try clear hfz32_0
                            try clear hfz32_1
                            try clear hfz47_0
                            try clear hfz47_1
                            try clear hfz48_0
                            try clear hfz48_1
                            try clear hfz56_0
                            try clear hfz56_1
                            try clear hfz57_0
                            try clear hfz57_1
                            try clear p2
                            try clear p5
                            try clear p51
                            try clear p53
                            try clear p6
                            try clear p63
                            try clear p64
                            try clear p65
                            try clear p69
                            try clear q5
                            try clear q51
                            try clear q53
                            try clear q6
                            try clear q63
                            try clear q65
                            try clear q69
                            obtain ⟨kq, x6_65, x8_65, rfl, rfl, HA, HJ65, BK131, BK133, HB⟩ := hcut
                            cases kq with
                            | zero => exact absurd HA.out (by simp [dec_cut.j3])
                            | succ kj65 =>
                              have H := HA.out
                              clear HA
                              simp only [dec_cut.j3] at H
                              have HC75 := Aside0.mk H
                              clear H
                              go_upto_region 20 with (fail)
                              go_cut [85] (fun v85 wc => ∃ (kq : Nat) (x85_74 : Bool), v85 = .bool x85_74 ∧ Aside0 (dec_cut.j4 kq x6_65 x8_65 x85_74 x134000_18 x134001_18 = some (r1, r2, r3)) ∧ Aside0 (kq ≤ kj65) ∧ Aside0 (wc.heap[gb131]? = some (.cells #[.string x132000_18, .int .i64 x132001_18] 53 (0, 0))) ∧ Aside0 (wc.heap[gb133]? = some (.cells #[.string x134000_18, .int .i64 x134001_18] 53 (0, 0))) ∧ Aside0 (Below w.heap.size w wc))
                              case first =>
                                have H := HC75.out
                                clear HC75
                                by_cases c76 : x6_65.toList = ([] : List UInt8)
                                · rw [if_pos c76] at H
                                  have c76b0 : (x6_65.toList == ([] : List UInt8)) = true := beq_iff_eq.mpr c76
                                  have c76b1 : (x6_65.toList != ([] : List UInt8)) = false := bne_eq_false_iff_eq.mpr c76
                                  clear c76
                                  (first | rw [c76b0] | (simp only [i64_w, i32_w]; rw [c76b0]) | rw [c76b1] | (simp only [i64_w, i32_w]; rw [c76b1]) | skip)
                                  have H' := Aside0.mk H
                                  clear H
                                  go_wp2
                                  go_meet
                                  case rel => exact ⟨_, (true), (by first | rfl | (simp; done) | (simp [*]; done)), H', ⟨by have := HJ18.out; have := HJ48.out; have := HJ59.out; have := HJ65.out; first | omega | exact Nat.le_refl _⟩, ⟨by (with_reducible repeat (first | refine blk_drewN ?_ _ | refine blk_drew ?_ | refine blk_alloc ?_ _)); exact BK131.out⟩, ⟨by (with_reducible repeat (first | refine blk_drewN ?_ _ | refine blk_drew ?_ | refine blk_alloc ?_ _)); exact BK133.out⟩, ⟨by repeat (first | (with_reducible first | exact HB.out | apply below_alloc | apply pw_below_drewN | apply below_drew1 | refine below_set ?_ GE131.out | refine below_set ?_ GE133.out) | exact HB.out)⟩⟩
                                · rw [if_neg c76] at H
                                  have c76b0 : (x6_65.toList == ([] : List UInt8)) = false := beq_eq_false_iff_ne.mpr c76
                                  have c76b1 : (x6_65.toList != ([] : List UInt8)) = true := bne_iff_ne.mpr c76
                                  (first | rw [c76b0] | (simp only [i64_w, i32_w]; rw [c76b0]) | rw [c76b1] | (simp only [i64_w, i32_w]; rw [c76b1]) | skip)
                                  replace H := Option.bind_eq_some_iff.mp H
                                  obtain ⟨t136, A770, H⟩ := H
                                  replace H : (dec_cut.j4 kj65 x6_65 x8_65 (t136 != (x6_65.size : Int)) x134000_18 x134001_18) = some (r1, r2, r3) := H
                                  have A77 := Aside0.mk A770
                                  clear A770
                                  have H' := Aside0.mk H
                                  clear H
                                  go_wp2_with (first | (go_at_call 39; (with_reducible refine (dec_digits.calls kj65 x6_65 t136 _ A77.out).mono ?_); rintro e w' ⟨rfl, ⟨nd, rfl⟩⟩))
                                  go_meet
                                  case rel => exact ⟨_, ((t136 != (x6_65.size : Int))), (by first | rfl | (simp; done) | (simp [*]; done)), H', ⟨by have := HJ18.out; have := HJ48.out; have := HJ59.out; have := HJ65.out; first | omega | exact Nat.le_refl _⟩, ⟨by (with_reducible repeat (first | refine blk_drewN ?_ _ | refine blk_drew ?_ | refine blk_alloc ?_ _)); exact BK131.out⟩, ⟨by (with_reducible repeat (first | refine blk_drewN ?_ _ | refine blk_drew ?_ | refine blk_alloc ?_ _)); exact BK133.out⟩, ⟨by repeat (first | (with_reducible first | exact HB.out | apply below_alloc | apply pw_below_drewN | apply below_drew1 | refine below_set ?_ GE131.out | refine below_set ?_ GE133.out) | exact HB.out)⟩⟩
                              case rest =>
                                clear HC75
                                try clear c1
                                try clear c2
                                try clear p2
                                try clear c3
                                try clear c3b0
                                try clear c3b1
                                try clear c4
                                try clear c4b0
                                try clear c4b1
                                try clear c5
                                try clear p5
                                try clear q5
                                try clear hx5
                                try clear qi5
                                try clear c6
                                try clear c6b0
                                try clear p6
                                try clear q6
                                try clear hx6
                                try clear qi6
                                try clear c7
                                try clear c7b0
                                try clear c9
                                try clear c9b0
                                try clear c9b1
                                try clear c15
                                try clear c25
                                try clear c26
                                try clear c26b0
                                try clear c26b1
                                try clear c29
                                try clear c29b0
                                try clear c29b1
                                try clear c30
                                try clear c33
                                try clear c33b0
                                try clear c33b1
                                try clear c34
                                try clear c34b0
                                try clear c34b1
                                try clear c35
                                try clear c36
                                try clear c36b0
                                try clear c36b1
                                try clear c36b2
                                try clear c38
                                try clear c38b0
                                try clear c38b1
                                try clear c39
                                try clear c39b0
                                try clear c40
                                try clear c45
                                try clear c45b0
                                try clear c45b1
                                try clear c46
                                try clear c50
                                try clear c50b0
                                try clear c50b1
                                try clear p51
                                try clear q51
                                try clear hx51
                                try clear qi51
                                try clear c52
                                try clear c52b0
                                try clear c52b1
                                try clear p53
                                try clear q53
                                try clear hx53
                                try clear qi53
                                try clear c54
                                try clear c55
                                try clear c58
                                try clear c58b0
                                try clear c58b1
                                try clear c61
                                try clear c61b0
                                try clear c61b1
                                try clear c62
                                try clear c62b0
                                try clear c62b1
                                try clear p63
                                try clear q63
                                try clear hx63
                                try clear qi63
                                try clear c64
                                try clear c64b0
                                try clear c64b1
                                try clear p64
                                try clear p65
                                try clear q65
                                try clear hx65
                                try clear qi65
                                try clear c67
                                try clear c68
                                try clear c68b0
                                try clear c68b1
                                try clear p69
                                try clear q69
                                try clear hx69
                                try clear qi69
                                try clear c70
                                try clear c70b0
                                try clear c70b1
                                try clear c71
                                try clear c71b0
                                try clear c71b1
                                try clear c73
                                try clear c73b0
                                try clear c73b1
                                try clear c76
                                try clear c76b0
                                try clear c76b1
                                try clear hcz16_0
                                try clear hcz16_1
                                try clear hcz17_0
                                try clear hcz17_1
                                try clear hcz31_0
                                try clear hcz31_1
                                try clear hcz32_0
                                try clear hcz32_1
                                try clear hcz47_0
                                try clear hcz47_1
                                try clear hcz48_0
                                try clear hcz48_1
                                try clear hcz56_0
                                try clear hcz56_1
                                try clear hcz57_0
                                try clear hcz57_1
                                try clear hfz16_0
                                try clear hfz16_1
                                try clear hfz17_0
                                try clear hfz17_1
                                try clear hfz31_0
                                try clear hfz31_1
                                try clear hfz32_0
                                try clear hfz32_1
                                try clear hfz47_0
                                try clear hfz47_1
                                try clear hfz48_0
                                try clear hfz48_1
                                try clear hfz56_0
                                try clear hfz56_1
                                try clear hfz57_0
                                try clear hfz57_1
                                try clear p2
                                try clear p5
                                try clear p51
                                try clear p53
                                try clear p6
                                try clear p63
                                try clear p64
                                try clear p65
                                try clear p69
                                try clear q5
                                try clear q51
                                try clear q53
                                try clear q6
                                try clear q63
                                try clear q65
                                try clear q69
                                obtain ⟨kq, x85_74, rfl, HA, HJ74, BK131, BK133, HB⟩ := hcut
                                cases kq with
                                | zero => exact absurd HA.out (by simp [dec_cut.j4])
                                | succ kj74 =>
                                  have H := HA.out
                                  clear HA
                                  simp only [dec_cut.j4] at H
                                  by_cases c78 : x85_74 = true
                                  · subst c78
                                    have H1 : (some (x134000_18, x134001_18, false)) = some (r1, r2, r3) := by rw [if_pos rfl] at H; exact H
                                    clear H
                                    have H := H1
                                    clear H1
                                    simp only [Option.some.injEq, Prod.mk.injEq] at H
                                    obtain ⟨rfl, rfl, rfl⟩ := H
                                    have hnb79 := NB133_131.out
                                    have hnc79 := NB131_133.out
                                    have hcz80_0 : wc.cell? ⟨gb133, 0, none⟩ = some (.string x134000_18) := (blk_cell BK133.out 0).trans rfl
                                    have hcz80_1 : wc.cell? ⟨gb133, 1, none⟩ = some (.int .i64 x134001_18) := (blk_cell BK133.out 1).trans rfl
                                    have hfz80_0 := blk_frozen BK133.out 0
                                    have hfz80_1 := blk_frozen BK133.out 1
                                    have hcz81_0 : wc.cell? ⟨gb131, 0, none⟩ = some (.string x132000_18) := (blk_cell BK131.out 0).trans rfl
                                    have hcz81_1 : wc.cell? ⟨gb131, 1, none⟩ = some (.int .i64 x132001_18) := (blk_cell BK131.out 1).trans rfl
                                    have hfz81_0 := blk_frozen BK131.out 0
                                    have hfz81_1 := blk_frozen BK131.out 1
                                    go_wp2
                                    refine bodyPost_ret (results_ct rfl _ _ gb131 53 #[.string x134000_18, .int .i64 x134001_18] (0, 0) _ rfl (by (with_reducible repeat (first | refine blk_drewN ?_ _ | refine blk_drew ?_ | refine blk_alloc ?_ _)); refine blk_put (cs := #[.string x134000_18, .int .i64 x132001_18]) ?_ 1 _ rfl; (with_reducible repeat (first | refine blk_drewN ?_ _ | refine blk_drew ?_ | refine blk_alloc ?_ _)); refine blk_put (cs := #[.string x132000_18, .int .i64 x132001_18]) ?_ 0 _ rfl; (with_reducible repeat (first | refine blk_drewN ?_ _ | refine blk_drew ?_ | refine blk_alloc ?_ _)); exact BK131.out) Tryd.underlying53 rfl (by kernel_rfl)) rfl ?_
                                    exact ⟨by first | rfl | (simp [errW_none, errW_some] <;> rfl) | (simp only [← hji5, ← hji8, ← hji59]; first | rfl | (simp [errW_none, errW_some] <;> rfl)) | (simp [*, errW_none, errW_some] <;> rfl), by repeat (first | (with_reducible first | exact HB.out | apply below_alloc | apply pw_below_drewN | apply below_drew1 | refine below_set ?_ GE131.out | refine below_set ?_ GE133.out) | exact HB.out)⟩
                                  · replace c78 := Bool.eq_false_iff.mpr c78
                                    subst c78
                                    have H1 : (dec_cut.l0 kj74 x6_65 x8_65 0 (x6_65.size : Int) 0 x134000_18 x134001_18) = some (r1, r2, r3) := by rw [if_neg (show ¬ (false = true) by decide)] at H; exact H
                                    clear H
                                    have H := H1
                                    clear H1
                                    have H' := Aside0.mk H
                                    clear H
                                    go_wp2
                                    go_loopg [9, 89] kj74 (fun kq v9 v89 w' => ∃ (x9_6 : Int) (x89_6 : Int), v9 = .int .i64 x9_6 ∧ v89 = .int .i64 x89_6 ∧ Aside0 (dec_cut.l0 kq x6_65 x8_65 x9_6 (x6_65.size : Int) x89_6 x134000_18 x134001_18 = some (r1, r2, r3)) ∧ Aside0 (kq ≤ kj74) ∧ Aside0 (w'.heap[gb131]? = some (.cells #[.string x132000_18, .int .i64 x132001_18] 53 (0, 0))) ∧ Aside0 (w'.heap[gb133]? = some (.cells #[.string x134000_18, .int .i64 x134001_18] 53 (0, 0))) ∧ Aside0 (Below w.heap.size w w'))
                                    case atStart => exact ⟨(0), (0), (by first | rfl | (simp; done) | (simp [*]; done)), (by first | rfl | (simp; done) | (simp [*]; done)), H', ⟨Nat.le_refl _⟩, ⟨by (with_reducible repeat (first | refine blk_drewN ?_ _ | refine blk_drew ?_ | refine blk_alloc ?_ _)); exact BK131.out⟩, ⟨by (with_reducible repeat (first | refine blk_drewN ?_ _ | refine blk_drew ?_ | refine blk_alloc ?_ _)); exact BK133.out⟩, ⟨by repeat (first | (with_reducible first | exact HB.out | apply below_alloc | apply pw_below_drewN | apply below_drew1 | refine below_set ?_ GE131.out | refine below_set ?_ GE133.out) | exact HB.out)⟩⟩
                                    case round =>
                                      clear H'
                                      try clear c1
                                      try clear c2
                                      try clear p2
                                      try clear c3
                                      try clear c3b0
                                      try clear c3b1
                                      try clear c4
                                      try clear c4b0
                                      try clear c4b1
                                      try clear c5
                                      try clear p5
                                      try clear q5
                                      try clear hx5
                                      try clear qi5
                                      try clear c6
                                      try clear c6b0
                                      try clear p6
                                      try clear q6
                                      try clear hx6
                                      try clear qi6
                                      try clear c7
                                      try clear c7b0
                                      try clear c9
                                      try clear c9b0
                                      try clear c9b1
                                      try clear c15
                                      try clear c25
                                      try clear c26
                                      try clear c26b0
                                      try clear c26b1
                                      try clear c29
                                      try clear c29b0
                                      try clear c29b1
                                      try clear c30
                                      try clear c33
                                      try clear c33b0
                                      try clear c33b1
                                      try clear c34
                                      try clear c34b0
                                      try clear c34b1
                                      try clear c35
                                      try clear c36
                                      try clear c36b0
                                      try clear c36b1
                                      try clear c36b2
                                      try clear c38
                                      try clear c38b0
                                      try clear c38b1
                                      try clear c39
                                      try clear c39b0
                                      try clear c40
                                      try clear c45
                                      try clear c45b0
                                      try clear c45b1
                                      try clear c46
                                      try clear c50
                                      try clear c50b0
                                      try clear c50b1
                                      try clear p51
                                      try clear q51
                                      try clear hx51
                                      try clear qi51
                                      try clear c52
                                      try clear c52b0
                                      try clear c52b1
                                      try clear p53
                                      try clear q53
                                      try clear hx53
                                      try clear qi53
                                      try clear c54
                                      try clear c55
                                      try clear c58
                                      try clear c58b0
                                      try clear c58b1
                                      try clear c61
                                      try clear c61b0
                                      try clear c61b1
                                      try clear c62
                                      try clear c62b0
                                      try clear c62b1
                                      try clear p63
                                      try clear q63
                                      try clear hx63
                                      try clear qi63
                                      try clear c64
                                      try clear c64b0
                                      try clear c64b1
                                      try clear p64
                                      try clear p65
                                      try clear q65
                                      try clear hx65
                                      try clear qi65
                                      try clear c67
                                      try clear c68
                                      try clear c68b0
                                      try clear c68b1
                                      try clear p69
                                      try clear q69
                                      try clear hx69
                                      try clear qi69
                                      try clear c70
                                      try clear c70b0
                                      try clear c70b1
                                      try clear c71
                                      try clear c71b0
                                      try clear c71b1
                                      try clear c73
                                      try clear c73b0
                                      try clear c73b1
                                      try clear c76
                                      try clear c76b0
                                      try clear c76b1
                                      try clear c78
                                      try clear c79
                                      try clear hcz16_0
                                      try clear hcz16_1
                                      try clear hcz17_0
                                      try clear hcz17_1
                                      try clear hcz31_0
                                      try clear hcz31_1
                                      try clear hcz32_0
                                      try clear hcz32_1
                                      try clear hcz47_0
                                      try clear hcz47_1
                                      try clear hcz48_0
                                      try clear hcz48_1
                                      try clear hcz56_0
                                      try clear hcz56_1
                                      try clear hcz57_0
                                      try clear hcz57_1
                                      try clear hcz80_0
                                      try clear hcz80_1
                                      try clear hcz81_0
                                      try clear hcz81_1
                                      try clear hfz16_0
                                      try clear hfz16_1
                                      try clear hfz17_0
                                      try clear hfz17_1
                                      try clear hfz31_0
                                      try clear hfz31_1
                                      try clear hfz32_0
                                      try clear hfz32_1
                                      try clear hfz47_0
                                      try clear hfz47_1
                                      try clear hfz48_0
                                      try clear hfz48_1
                                      try clear hfz56_0
                                      try clear hfz56_1
                                      try clear hfz57_0
                                      try clear hfz57_1
                                      try clear hfz80_0
                                      try clear hfz80_1
                                      try clear hfz81_0
                                      try clear hfz81_1
                                      try clear p2
                                      try clear p5
                                      try clear p51
                                      try clear p53
                                      try clear p6
                                      try clear p63
                                      try clear p64
                                      try clear p65
                                      try clear p69
                                      try clear q5
                                      try clear q51
                                      try clear q53
                                      try clear q6
                                      try clear q63
                                      try clear q65
                                      try clear q69
                                      obtain ⟨x9_6, x89_6, rfl, rfl, HA, HK6, BK131, BK133, HB⟩ := hrel
                                      cases gk with
                                      | zero => exact absurd HA.out (by simp [dec_cut.l0])
                                      | succ k6 =>
                                        have H := HA.out
                                        clear HA
                                        simp only [dec_cut.l0] at H
                                        by_cases c82 : x89_6 < (x6_65.size : Int)
                                        · rw [if_pos c82] at H
                                          have c82b0 : decide (x89_6 < (x6_65.size : Int)) = true := decide_eq_true c82
                                          clear c82
                                          by_cases c83 : 0 ≤ x89_6
                                          · rw [if_pos c83] at H
                                            have c83b0 : decide (0 ≤ x89_6) = true := decide_eq_true c83
                                            clear c83
                                            by_cases c84 : x89_6 < (x6_65.size : Int)
                                            · rw [if_pos c84] at H
                                              have c84b0 : decide (x89_6 < (x6_65.size : Int)) = true := decide_eq_true c84
                                              clear c84
                                              obtain ⟨ji86, hji86⟩ : ∃ j_ : Int, (mn (wrap64 ((wrap64 (10 * x9_6)) + (((bt x6_65 x89_6) - 48) % 256))) 9999) = j_ := ⟨_, rfl⟩
                                              replace H : (dec_cut.l0 k6 x6_65 x8_65 ji86 (x6_65.size : Int) (wrap64 (x89_6 + 1)) x134000_18 x134001_18) = some (r1, r2, r3) := by first | (rw [hji86] at H; exact H) | (simp only [hji86] at H ⊢; exact H)
                                              have hji86_ : (if 9999 < (wrap64 ((wrap64 (10 * x9_6)) + (((bt x6_65 x89_6) - 48) % 256))) then 9999 else (wrap64 ((wrap64 (10 * x9_6)) + (((bt x6_65 x89_6) - 48) % 256)))) = ji86 := hji86
                                              have H' := Aside0.mk H
                                              clear H
                                              have p85 : 0 ≤ (x89_6 : Int) := of_decide_eq_true (by first | (with_reducible assumption) | assumption)
                                              have q85 : x89_6 < (x6_65.size : Int) := of_decide_eq_true (by first | (with_reducible assumption) | assumption)
                                              have hx85 := bt_at x6_65 x89_6
                                              replace p85 := eq_true p85
                                              replace q85 := eq_true q85
                                              go_wp2
                                              go_roundg k6
                                              case measure => have := HJ18.out; have := HJ48.out; have := HJ59.out; have := HJ65.out; have := HJ74.out; have := HK6.out; omega
                                              case rel => exact ⟨(ji86), (wrap64 (x89_6 + 1)), (by first | rfl | (simp; done) | (simp only [← hji86] <;> (first | rfl | simp)) | (simp [*]; done)), (by first | rfl | (simp; done) | (simp [*]; done)), H', ⟨by have := HJ18.out; have := HJ48.out; have := HJ59.out; have := HJ65.out; have := HJ74.out; have := HK6.out; omega⟩, ⟨by (with_reducible repeat (first | refine blk_drewN ?_ _ | refine blk_drew ?_ | refine blk_alloc ?_ _)); exact BK131.out⟩, ⟨by (with_reducible repeat (first | refine blk_drewN ?_ _ | refine blk_drew ?_ | refine blk_alloc ?_ _)); exact BK133.out⟩, ⟨by repeat (first | (with_reducible first | exact HB.out | apply below_alloc | apply pw_below_drewN | apply below_drew1 | refine below_set ?_ GE131.out | refine below_set ?_ GE133.out) | exact HB.out)⟩⟩
                                            · rw [if_neg c84] at H
                                              exact absurd H (by simp)
                                          · rw [if_neg c83] at H
                                            exact absurd H (by simp)
                                        · rw [if_neg c82] at H
                                          have c82b0 : decide (x89_6 < (x6_65.size : Int)) = false := decide_eq_false c82
                                          clear c82
                                          simp only [Option.some.injEq, Prod.mk.injEq] at H
                                          obtain ⟨rfl, rfl, rfl⟩ := H
                                          have hnb87 := NB133_131.out
                                          have hnc87 := NB131_133.out
                                          have hcz88_0 : wr.cell? ⟨gb133, 0, none⟩ = some (.string x134000_18) := (blk_cell BK133.out 0).trans rfl
                                          have hcz88_1 : wr.cell? ⟨gb133, 1, none⟩ = some (.int .i64 x134001_18) := (blk_cell BK133.out 1).trans rfl
                                          have hfz88_0 := blk_frozen BK133.out 0
                                          have hfz88_1 := blk_frozen BK133.out 1
                                          have hcz89_0 : wr.cell? ⟨gb131, 0, none⟩ = some (.string x132000_18) := (blk_cell BK131.out 0).trans rfl
                                          have hcz89_1 : wr.cell? ⟨gb131, 1, none⟩ = some (.int .i64 x132001_18) := (blk_cell BK131.out 1).trans rfl
                                          have hfz89_0 := blk_frozen BK131.out 0
                                          have hfz89_1 := blk_frozen BK131.out 1
                                          go_wp2
                                          refine bodyPost_ret (results_ct rfl _ _ gb131 53 #[.string x134000_18, .int .i64 (wrap64 (x134001_18 + (wrap64 (x8_65 * x9_6))))] (0, 0) _ rfl (by (with_reducible repeat (first | refine blk_drewN ?_ _ | refine blk_drew ?_ | refine blk_alloc ?_ _)); refine blk_put (cs := #[.string x134000_18, .int .i64 x132001_18]) ?_ 1 _ rfl; (with_reducible repeat (first | refine blk_drewN ?_ _ | refine blk_drew ?_ | refine blk_alloc ?_ _)); refine blk_put (cs := #[.string x132000_18, .int .i64 x132001_18]) ?_ 0 _ rfl; (with_reducible repeat (first | refine blk_drewN ?_ _ | refine blk_drew ?_ | refine blk_alloc ?_ _)); refine blk_far ?_ NB131_133.out _; (with_reducible repeat (first | refine blk_drewN ?_ _ | refine blk_drew ?_ | refine blk_alloc ?_ _)); exact BK131.out) Tryd.underlying53 rfl (by kernel_rfl)) rfl ?_
                                          exact ⟨by first | rfl | (simp [errW_none, errW_some] <;> rfl) | (simp only [← hji5, ← hji8, ← hji59]; first | rfl | (simp [errW_none, errW_some] <;> rfl)) | (simp [*, errW_none, errW_some] <;> rfl), by repeat (first | (with_reducible first | exact HB.out | apply below_alloc | apply pw_below_drewN | apply below_drew1 | refine below_set ?_ GE131.out | refine below_set ?_ GE133.out) | exact HB.out)⟩
                    · rw [if_neg c58] at H
                      exact absurd H (by simp)
    · rw [if_neg c4] at H
      exact absurd H (by simp)
  · rw [if_neg c3] at H
    exact absurd H (by simp)
end Go.Proofs.YtongfmeediokmaaDoor.Pr
end
section
namespace Go.Proofs.YtongfmeediokmaaDoor.Pr
open Go.RowKit Go.Proofs.YtongfmeediokmaaDoorW.PrintWords Go.Proofs.YtongfmeediokmaaDoorW.PrintLast Go.Proofs.YtongfmeediokmaaDoorW.PrintMore
attribute [local go_sem] max2_int min2_int max_two min_two max_three min_three max_four min_four
def dec_big_trim.l0 : Nat → List Int → Option (List Int)
  | 0, _ => none
  | k + 1, x0 => if (x0.length : Int) > 0 then (if 0 ≤ (wrap64 ((x0.length : Int) - 1)) then (if (wrap64 ((x0.length : Int) - 1)) < (x0.length : Int) then (if (rd x0 (wrap64 ((x0.length : Int) - 1))) = 0 then (if (wrap64 ((x0.length : Int) - 1)) ≤ (x0.length : Int) then (dec_big_trim.l0 k (x0.take ((wrap64 ((x0.length : Int) - 1)) : Int).toNat)) else (none)) else (some x0)) else (none)) else (none)) else (some x0)
def dec_big_trim.f (k : Nat) (l0 : List Int) : Option (List Int) := dec_big_trim.l0 k l0
theorem dec_big_trim.mono_l : ∀ k, (∀ y0, LeO (dec_big_trim.l0 k y0) (dec_big_trim.l0 (k + 1) y0))
  | 0 => fun _ r h => by simp [dec_big_trim.l0] at h
  | k + 1 => by
    have ih0 := dec_big_trim.mono_l k
    · intro y0
      unfold dec_big_trim.l0
      repeat' first
      | (with_reducible exact ih0 _)
      | (with_reducible exact LeO.refl _)
      | (with_reducible exact LeO.none _)
      | (with_reducible refine LeO.ite ?_ ?_)
      | (with_reducible refine LeO.bind ?_ (fun _ => ?_))
      | exact ih0 _
      | exact LeO.none _
      | refine LeO.ite ?_ ?_
      | refine LeO.bind ?_ (fun _ => ?_)
theorem dec_big_trim.mono : ∀ a0 k, LeO (dec_big_trim.f k a0) (dec_big_trim.f (k + 1) a0) := by
  intro a0 k
  have ih0 := dec_big_trim.mono_l k
  unfold dec_big_trim.f
  repeat' first
      | (with_reducible exact ih0 _)
      | (with_reducible exact LeO.refl _)
      | (with_reducible exact LeO.none _)
      | (with_reducible refine LeO.ite ?_ ?_)
      | (with_reducible refine LeO.bind ?_ (fun _ => ?_))
      | exact ih0 _
      | exact LeO.none _
      | refine LeO.ite ?_ ?_
      | refine LeO.bind ?_ (fun _ => ?_)
set_option maxHeartbeats 8000000 in
set_option maxRecDepth 100000 in
theorem dec_big_trim.calls (k : Nat) (P0_ : Nat → Prop) (A0 : Option Addr) (c0 : Nat) (l0 : List Int) (r : List Int) (w : World) (hs0 : Kd.V (Kd.int .u32) 64 w w.heap.size (fun k_ => P0_ k_) (.slice A0 l0.length c0) l0) (h : dec_big_trim.f k l0 = some r) :
    Calls Tryd.prog 47 #[.slice A0 l0.length c0] w fun e w' => ∃ v0_ : Value, e = .returned (v0_) ∧ Kd.V (Kd.int .u32) 64 w' w.heap.size (fun k_ => (P0_ k_ ∨ w.heap.size ≤ k_)) v0_ r ∧ Below w.heap.size w w' := by
  have HO0 := Aside0.mk (show Kd.V (Kd.int .u32) 64 w w.heap.size (fun k_ => (P0_ k_ ∨ w.heap.size ≤ k_)) (.slice A0 l0.length c0) l0 from Kd.V_mono hs0 (fun k_ hk => .inl hk))
  have HB := Aside0.mk (Below.refl w.heap.size w)
  have H : (dec_big_trim.l0 k l0) = some r := h
  clear h
  have H' := Aside0.mk H
  clear H
  go_enter Tryd.func47, Tryd.ntmps47
  go_wp2
  go_loopg [0] k (fun kq v0 w' => ∃ (x0_1 : List Int), Aside0 (dec_big_trim.l0 kq x0_1 = some r) ∧ Aside0 (kq ≤ k) ∧ Aside0 (Kd.V (Kd.int .u32) 64 w' w.heap.size (fun k_ => (P0_ k_ ∨ w.heap.size ≤ k_)) v0 x0_1) ∧ Aside0 (Below w.heap.size w w'))
  case atStart => exact ⟨(l0), H', ⟨Nat.le_refl _⟩, ⟨by (with_reducible repeat (first | apply Kd.V_alloc | apply Kd.V_drewN | apply Kd.V_drew)); exact HO0.out⟩, ⟨by repeat (first | (with_reducible first | exact HB.out | apply below_alloc | apply pw_below_drewN | apply below_drew1) | exact HB.out)⟩⟩
  case round =>
    clear H'
    obtain ⟨x0_1, HA, HK1, HO_0, HB⟩ := hrel
    cases gk with
    | zero => exact absurd HA.out (by simp [dec_big_trim.l0])
    | succ k1 =>
      have H := HA.out
      clear HA
      simp only [dec_big_trim.l0] at H
      by_cases c2 : (x0_1.length : Int) > 0
      · rw [if_pos c2] at H
        have c2b0 : decide (0 < (x0_1.length : Int)) = true := decide_eq_true c2
        have c2b1 : decide (0 < x0_1.length) = true := decide_eq_true (by omega)
        clear c2
        obtain ⟨ji3, hji3⟩ : ∃ j_ : Int, (wrap64 ((x0_1.length : Int) - 1)) = j_ := ⟨_, rfl⟩
        replace H : (if 0 ≤ (ji3) then (if (ji3) < (x0_1.length : Int) then (if (rd x0_1 (ji3)) = 0 then (if (ji3) ≤ (x0_1.length : Int) then (dec_big_trim.l0 k1 (x0_1.take ((ji3) : Int).toNat)) else (none)) else (some x0_1)) else (none)) else (none)) = some r := by first | (rw [hji3] at H; exact H) | (simp only [hji3] at H ⊢; exact H)
        have hji3w : (IntKind.i64.wrap ((x0_1.length : Int) - 1)) = ji3 := (i64_w _).trans hji3
        by_cases c4 : 0 ≤ (ji3)
        · rw [if_pos c4] at H
          have c4b0 : decide (0 ≤ (ji3)) = true := decide_eq_true c4
          clear c4
          by_cases c5 : (ji3) < (x0_1.length : Int)
          · rw [if_pos c5] at H
            have c5b0 : decide ((ji3) < (x0_1.length : Int)) = true := decide_eq_true c5
            clear c5
            by_cases c6 : (rd x0_1 (ji3)) = 0
            · rw [if_pos c6] at H
              have c6b0 : ((rd x0_1 (ji3)) == 0) = true := beq_iff_eq.mpr c6
              have c6b1 : ((rd x0_1 (ji3)) != 0) = false := bne_eq_false_iff_eq.mpr c6
              clear c6
              have c7b0 := eq_true (of_decide_eq_true (by first | (with_reducible assumption) | assumption) : 0 ≤ (ji3))
              by_cases c8 : (ji3) ≤ (x0_1.length : Int)
              · rw [if_pos c8] at H
                have c8b0 := eq_true c8
                have c8b1 : decide ((ji3) ≤ (x0_1.length : Int)) = true := decide_eq_true c8
                clear c8
                obtain ⟨y138, hy138⟩ : ∃ y_ : List Int, y_ = (x0_1.take ((ji3) : Int).toNat) := ⟨_, rfl⟩
                replace H : (dec_big_trim.l0 k1 y138) = some r := by first | (rw [hy138]; with_reducible exact H) | (have H2_ := (Option.bind_some _ _).symm.trans H; rw [hy138]; with_reducible exact H2_) | (have H2_ := (Option.bind_some _ _).symm.trans H; with_reducible exact H2_) | with_reducible exact H | (rw [hy138]; exact H) | exact H
                have Ny138 := Aside0.mk hy138
                clear hy138
                have H' := Aside0.mk H
                clear H
                obtain ⟨Ao9, co9, eo9⟩ := Kd.V_slice HO_0.out
                subst eo9
                have p137 : 0 ≤ ((ji3) : Int) := of_decide_eq_true (by first | (with_reducible assumption) | assumption)
                have q137 : (ji3) < (x0_1.length : Int) := of_decide_eq_true (by first | (with_reducible assumption) | assumption)
                obtain ⟨ad137, e137, hx137_0⟩ := Kd.at_int (Kd.V_reads' HO_0.out).2.2 (ji3) p137 q137
                cases e137
                replace p137 := eq_true p137
                replace q137 := eq_true q137
                have q10 : ((ji3) : Int) ≤ ((x0_1.length : Int) : Int) := of_decide_eq_true (by first | (with_reducible assumption) | assumption)
                obtain ⟨i010, hi010, _, hsz10, _⟩ := info_parts info64
                have hroom10 : x0_1.length ≤ co9 := (Kd.V_reads' HO_0.out).2.1
                have hC10 : Kd.F (Kd.int .u32) _ _ (some ad137) x0_1.length x0_1 := (Kd.V_at (base := w.heap.size) HO_0.out).2.2
                have hcut10 := cut_to (P := Tryd.prog) 62 64 .i64 Tryd.underlying62 hi010 (some ad137) x0_1.length co9 (ji3) (of_decide_eq_true (by first | (with_reducible assumption) | assumption)) q10 hroom10
                have hr10 := Kd.F_take (m := ((ji3) : Int).toNat) hC10 (by omega)
                have hy10 : y138.length = ((ji3) : Int).toNat := (by rw [Ny138.out, List.length_take]; omega)
                rw [← Ny138.out] at hr10
                rw [← hy10] at hcut10
                have HO142 := Aside0.mk (show Kd.V (Kd.int .u32) 64 _ w.heap.size _ (.slice (some ad137) y138.length co9) y138 from Kd.V_mk (by omega) hr10)
                have HC142 := Aside0.mk (show y138.length ≤ co9 from by omega)
                clear hr10 hC10 hroom10 hi010 hsz10
                have KY10 := Aside0.mk hy10
                clear hy10
                replace q10 := eq_true q10
                go_wp2
                go_roundg k1
                case measure => have := HK1.out; omega
                case rel => exact ⟨(y138), H', ⟨by have := HK1.out; omega⟩, ⟨by (with_reducible repeat (first | apply Kd.V_alloc | apply Kd.V_drewN | apply Kd.V_drew)); exact HO142.out⟩, ⟨by repeat (first | (with_reducible first | exact HB.out | apply below_alloc | apply pw_below_drewN | apply below_drew1) | exact HB.out)⟩⟩
              · rw [if_neg c8] at H
                exact absurd H (by simp)
            · rw [if_neg c6] at H
              have c6b0 : ((rd x0_1 (ji3)) == 0) = false := beq_eq_false_iff_ne.mpr c6
              have c6b1 : ((rd x0_1 (ji3)) != 0) = true := bne_iff_ne.mpr c6
              obtain rfl := Option.some.inj H
              obtain ⟨Ao11, co11, eo11⟩ := Kd.V_slice HO_0.out
              subst eo11
              have p137 : 0 ≤ ((ji3) : Int) := of_decide_eq_true (by first | (with_reducible assumption) | assumption)
              have q137 : (ji3) < (x0_1.length : Int) := of_decide_eq_true (by first | (with_reducible assumption) | assumption)
              obtain ⟨ad137, e137, hx137_0⟩ := Kd.at_int (Kd.V_reads' HO_0.out).2.2 (ji3) p137 q137
              cases e137
              replace p137 := eq_true p137
              replace q137 := eq_true q137
              go_wp2
              go_ret
              exact ⟨_, by first | rfl | (simp [errW_none, errW_some] <;> rfl) | (simp only [← hji3]; first | rfl | (simp [errW_none, errW_some] <;> rfl)) | (simp [*, errW_none, errW_some] <;> rfl), by (with_reducible repeat (first | apply Kd.V_alloc | apply Kd.V_drewN | apply Kd.V_drew)); exact HO_0.out, by repeat (first | (with_reducible first | exact HB.out | apply below_alloc | apply pw_below_drewN | apply below_drew1) | exact HB.out)⟩
          · rw [if_neg c5] at H
            exact absurd H (by simp)
        · rw [if_neg c4] at H
          exact absurd H (by simp)
      · rw [if_neg c2] at H
        have c2b0 : decide (0 < (x0_1.length : Int)) = false := decide_eq_false c2
        have c2b1 : decide (0 < x0_1.length) = false := decide_eq_false (by omega)
        clear c2
        obtain rfl := Option.some.inj H
        obtain ⟨Ao12, co12, eo12⟩ := Kd.V_slice HO_0.out
        subst eo12
        go_wp2
        go_ret
        exact ⟨_, by first | rfl | (simp [errW_none, errW_some] <;> rfl) | (simp [*, errW_none, errW_some] <;> rfl), by (with_reducible repeat (first | apply Kd.V_alloc | apply Kd.V_drewN | apply Kd.V_drew)); exact HO_0.out, by repeat (first | (with_reducible first | exact HB.out | apply below_alloc | apply pw_below_drewN | apply below_drew1) | exact HB.out)⟩
def dec_big_times.l0 : Nat → Int → List Int → Int → List Int → Int → Int → Option (List Int)
  | 0, _, _, _, _, _, _ => none
  | k + 1, x1, x7, x8, x17, x18, x19 => if x19 < x18 then (if 0 ≤ x19 then (if x19 < (x17.length : Int) then (if x7.length < 35184372088832 then (dec_big_times.l0 k x1 (x7 ++ [(IntKind.u64.wrap (x8 + (IntKind.u64.wrap ((IntKind.u64.wrap (rd x17 x19)) * (IntKind.u64.wrap (x1)))))) % 4294967296]) ((IntKind.u64.wrap (x8 + (IntKind.u64.wrap ((IntKind.u64.wrap (rd x17 x19)) * (IntKind.u64.wrap (x1)))))) / 4294967296) x17 x18 (wrap64 (x19 + 1))) else (none)) else (none)) else (none)) else (if x7.length < 35184372088832 then ((dec_big_trim.f k (x7 ++ [(x8) % 4294967296])).bind fun t153 => (some t153)) else (none))
def dec_big_times.f (k : Nat) (l0 : List Int) (a1 : Int) (a2 : Int) : Option (List Int) := if 0 ≤ wrap64 ((l0.length : Int) + 1) then (if (wrap64 ((l0.length : Int) + 1) : Int).toNat ≤ 70368744177664 then (dec_big_times.l0 k a1 (List.replicate 0 0) (IntKind.u64.wrap (a2)) l0 (l0.length : Int) 0) else (none)) else (none)
theorem dec_big_times.mono_l : ∀ k, (∀ y0 y1 y2 y3 y4 y5, LeO (dec_big_times.l0 k y0 y1 y2 y3 y4 y5) (dec_big_times.l0 (k + 1) y0 y1 y2 y3 y4 y5))
  | 0 => fun _ _ _ _ _ _ r h => by simp [dec_big_times.l0] at h
  | k + 1 => by
    have ih0 := dec_big_times.mono_l k
    · intro y0 y1 y2 y3 y4 y5
      unfold dec_big_times.l0
      repeat' first
      | (with_reducible exact ih0 _ _ _ _ _ _)
      | (with_reducible exact dec_big_trim.mono _ _)
      | (with_reducible exact LeO.refl _)
      | (with_reducible exact LeO.none _)
      | (with_reducible refine LeO.ite ?_ ?_)
      | (with_reducible refine LeO.bind ?_ (fun _ => ?_))
      | exact ih0 _ _ _ _ _ _
      | exact dec_big_trim.mono _ _
      | exact LeO.none _
      | refine LeO.ite ?_ ?_
      | refine LeO.bind ?_ (fun _ => ?_)
theorem dec_big_times.mono : ∀ a0 a1 a2 k, LeO (dec_big_times.f k a0 a1 a2) (dec_big_times.f (k + 1) a0 a1 a2) := by
  intro a0 a1 a2 k
  have ih0 := dec_big_times.mono_l k
  unfold dec_big_times.f
  repeat' first
      | (with_reducible exact ih0 _ _ _ _ _ _)
      | (with_reducible exact dec_big_trim.mono _ _)
      | (with_reducible exact LeO.refl _)
      | (with_reducible exact LeO.none _)
      | (with_reducible refine LeO.ite ?_ ?_)
      | (with_reducible refine LeO.bind ?_ (fun _ => ?_))
      | exact ih0 _ _ _ _ _ _
      | exact dec_big_trim.mono _ _
      | exact LeO.none _
      | refine LeO.ite ?_ ?_
      | refine LeO.bind ?_ (fun _ => ?_)
set_option maxHeartbeats 8000000 in
set_option maxRecDepth 100000 in
theorem dec_big_times.calls (k : Nat) (A0 : Option Addr) (c0 : Nat) (l0 : List Int) (a1 : Int) (a2 : Int) (r : List Int) (w : World) (hr0 : Kd.C (Kd.int .u32) w A0 l0.length l0) (hc0 : l0.length ≤ c0) (h : dec_big_times.f k l0 a1 a2 = some r) :
    Calls Tryd.prog 41 #[.slice A0 l0.length c0, .int .u32 a1, .int .u32 a2] w fun e w' => ∃ v0_ : Value, e = .returned (v0_) ∧ Kd.V (Kd.int .u32) 64 w' w.heap.size (fun k_ => (w.heap.size ≤ k_)) v0_ r ∧ Below w.heap.size w w' := by
  have HR0 := Aside0.mk hr0
  have HC0 := Aside0.mk hc0
  clear hr0 hc0
  have HB := Aside0.mk (Below.refl w.heap.size w)
  have H : (if 0 ≤ wrap64 ((l0.length : Int) + 1) then (if (wrap64 ((l0.length : Int) + 1) : Int).toNat ≤ 70368744177664 then (dec_big_times.l0 k a1 (List.replicate 0 0) (IntKind.u64.wrap (a2)) l0 (l0.length : Int) 0) else (none)) else (none)) = some r := h
  clear h
  by_cases c4 : 0 ≤ wrap64 ((l0.length : Int) + 1)
  · rw [if_pos c4] at H
    have c4b0 := eq_true c4
    have c4b1 : decide (0 ≤ wrap64 ((l0.length : Int) + 1)) = true := decide_eq_true c4
    by_cases c5 : (wrap64 ((l0.length : Int) + 1) : Int).toNat ≤ 70368744177664
    · rw [if_pos c5] at H
      have c5b0 := eq_true c5
      have c5b1 : decide ((wrap64 ((l0.length : Int) + 1) : Int).toNat ≤ 70368744177664) = true := decide_eq_true c5
      obtain ⟨y143, hy143⟩ : ∃ y_ : List Int, y_ = (List.replicate 0 0) := ⟨_, rfl⟩
      replace H : (dec_big_times.l0 k a1 y143 (IntKind.u64.wrap (a2)) l0 (l0.length : Int) 0) = some r := by first | (rw [hy143]; with_reducible exact H) | (have H2_ := (Option.bind_some _ _).symm.trans H; rw [hy143]; with_reducible exact H2_) | (have H2_ := (Option.bind_some _ _).symm.trans H; with_reducible exact H2_) | with_reducible exact H | (rw [hy143]; exact H) | exact H
      have Ny143 := Aside0.mk hy143
      clear hy143
      have H' := Aside0.mk H
      clear H
      go_enter Tryd.func41, Tryd.ntmps41
      go_wp2_with (first | ((with_reducible refine gate_dst (N := 14) rfl ?_); refine R_makeC (Kd.int .u32) _ 64 rfl (N := 14) rfl 62 _ _ rfl 0 (wrap64 ((l0.length : Int) + 1)) rfl rfl Tryd.underlying62 (.int .u32 0) 4 info64 rfl (by decide) (by omega) 0 (ok := fun _ => True) (okp := fun _ => True) rfl (fun _ hk => hk) trivial (by omega) (of_decide_eq_true (by first | (with_reducible assumption) | assumption)) (Nat.le_trans (Nat.mul_le_mul_right _ (of_decide_eq_true (by first | (with_reducible assumption) | assumption) : (wrap64 ((l0.length : Int) + 1)).toNat ≤ 70368744177664)) (by omega)) (Below.refl _ _) (Nat.le_refl _) ?_; intro v144 w6 ho7 hb hg_ hnew_; clear hg_ hnew_; (first | rw [← Ny143.out] at ho7 | (simp only [Int.reduceToNat] at ho7; rw [← Ny143.out] at ho7)); have n0_ := Aside0.mk (Kd.R_lower (Kd.R_newM (M := fun k_ => (w.heap.size ≤ k_)) ho7 (below_size (by repeat (first | (with_reducible first | exact HB.out | apply below_alloc | apply pw_below_drewN | apply below_drew1) | exact HB.out))) (fun k_ h_ => h_)) (below_size (by repeat (first | (with_reducible first | exact HB.out | apply below_alloc | apply pw_below_drewN | apply below_drew1) | exact HB.out)))); have n1_ := Aside0.mk (below_step (by repeat (first | (with_reducible first | exact HB.out | apply below_alloc | apply pw_below_drewN | apply below_drew1) | exact HB.out)) hb); clear HB; have HO145 := n0_; have HB := n1_; clear n0_ n1_; clear hb ho7))
      go_loopg [7, 8, 19] k (fun kq v7 v8 v19 w' => ∃ (x7_1 : List Int) (x8_1 : Int) (x19_1 : Int), v8 = .int .u64 x8_1 ∧ v19 = .int .i64 x19_1 ∧ Aside0 (dec_big_times.l0 kq a1 x7_1 x8_1 l0 (l0.length : Int) x19_1 = some r) ∧ Aside0 (kq ≤ k) ∧ Aside0 (Kd.R (Kd.int .u32) 64 w' w.heap.size (fun k_ => (w.heap.size ≤ k_)) v7 x7_1) ∧ Aside0 (Below w.heap.size w w'))
      case atStart => exact ⟨(y143), (IntKind.u64.wrap (a2)), (0), (by first | rfl | (simp; done) | (simp [*]; done)), (by first | rfl | (simp; done) | (simp [*]; done)), H', ⟨Nat.le_refl _⟩, ⟨by (with_reducible repeat (first | apply Kd.R_alloc | apply Kd.R_drewN | apply Kd.R_drew)); exact Kd.R_mono HO145.out (fun _ hk => hk.1)⟩, ⟨by repeat (first | (with_reducible first | exact HB.out | apply below_alloc | apply pw_below_drewN | apply below_drew1) | exact HB.out)⟩⟩
      case round =>
        clear H'
        try clear p2
        try clear c4
        try clear c4b0
        try clear c4b1
        try clear c5
        try clear c5b0
        try clear c5b1
        try clear p6
        obtain ⟨x7_1, x8_1, x19_1, rfl, rfl, HA, HK1, HO_7, HB⟩ := hrel
        cases gk with
        | zero => exact absurd HA.out (by simp [dec_big_times.l0])
        | succ k1 =>
          have H := HA.out
          clear HA
          simp only [dec_big_times.l0] at H
          by_cases c8 : x19_1 < (l0.length : Int)
          · rw [if_pos c8] at H
            have c8b0 : decide (x19_1 < (l0.length : Int)) = true := decide_eq_true c8
            clear c8
            by_cases c9 : 0 ≤ x19_1
            · rw [if_pos c9] at H
              have c9b0 : decide (0 ≤ x19_1) = true := decide_eq_true c9
              clear c9
              by_cases c10 : x19_1 < (l0.length : Int)
              · rw [if_pos c10] at H
                have c10b0 : decide (x19_1 < (l0.length : Int)) = true := decide_eq_true c10
                clear c10
                by_cases c11 : x7_1.length < 35184372088832
                · rw [if_pos c11] at H
                  have LMc11 := Aside0.mk c11
                  clear c11
                  obtain ⟨y147, hy147⟩ : ∃ y_ : List Int, y_ = (x7_1 ++ [(IntKind.u64.wrap (x8_1 + (IntKind.u64.wrap ((IntKind.u64.wrap (rd l0 x19_1)) * (IntKind.u64.wrap (a1)))))) % 4294967296]) := ⟨_, rfl⟩
                  replace H : (dec_big_times.l0 k1 a1 y147 ((IntKind.u64.wrap (x8_1 + (IntKind.u64.wrap ((IntKind.u64.wrap (rd l0 x19_1)) * (IntKind.u64.wrap (a1)))))) / 4294967296) l0 (l0.length : Int) (wrap64 (x19_1 + 1))) = some r := by first | (rw [hy147]; with_reducible exact H) | (have H2_ := (Option.bind_some _ _).symm.trans H; rw [hy147]; with_reducible exact H2_) | (have H2_ := (Option.bind_some _ _).symm.trans H; with_reducible exact H2_) | with_reducible exact H | (rw [hy147]; exact H) | exact H
                  have Ny147 := Aside0.mk hy147
                  clear hy147
                  have H' := Aside0.mk H
                  clear H
                  have p146 : 0 ≤ (x19_1 : Int) := of_decide_eq_true (by first | (with_reducible assumption) | assumption)
                  have q146 : x19_1 < (l0.length : Int) := of_decide_eq_true (by first | (with_reducible assumption) | assumption)
                  obtain ⟨ad146, e146, hx146_0⟩ := Kd.at_int HR0.out x19_1 p146 q146
                  cases e146
                  replace hx146_0 := (HB.out.cell (World.block_lt_of_cell? w _ hx146_0)).trans hx146_0
                  replace p146 := eq_true p146
                  replace q146 := eq_true q146
                  go_wp2_with (first | ((with_reducible refine gate_builtin (b := .append) (xs := #[.tmp 30, .tmp 33]) rfl ?_); at_builtin; refine Kd.R_append (Kd.int .u32) (w0 := w) w.heap.size rfl (.tmp 30) (.tmp 33) 62 64 (.int .u32 0) 4 rfl Tryd.underlying62 info64 rfl (by decide) (by omega) u7 x7_1 ((IntKind.u64.wrap (x8_1 + (IntKind.u64.wrap ((IntKind.u64.wrap (rd l0 x19_1)) * (IntKind.u64.wrap (a1)))))) % 4294967296) [.int .u32 ((IntKind.u64.wrap (x8_1 + (IntKind.u64.wrap ((IntKind.u64.wrap (rd l0 x19_1)) * (IntKind.u64.wrap (a1)))))) % 4294967296)] (fun k_ => (w.heap.size ≤ k_)) (fun _ => False) rfl rfl ?aP (fun _ hk => hk.elim) ?aF ?aO ?aB ?aS ?aL ?_; (case aP => exact rfl); (case aB => exact (by repeat (first | (with_reducible first | exact HB.out | apply below_alloc | apply pw_below_drewN | apply below_drew1) | exact HB.out))); (case aF => exact (fun k_ hk => (Nat.le_trans (below_size (by repeat (first | (with_reducible first | exact HB.out | apply below_alloc | apply pw_below_drewN | apply below_drew1) | exact HB.out))) hk))); (case aO => exact (by (with_reducible repeat (first | apply Kd.R_alloc | apply Kd.R_drewN | apply Kd.R_drew)); exact HO_7.out)); (case aS => exact (below_size (by repeat (first | (with_reducible first | exact HB.out | apply below_alloc | apply pw_below_drewN | apply below_drew1) | exact HB.out)))); (case aL => have := LMc11.out; omega); intro v148 w12 ho hb hg hat; rw [← Ny147.out] at ho; have n0_ := Aside0.mk (hb); have n1_ := Aside0.mk (ho); clear HB; clear HO_7; have HB := n0_; have HO149 := n1_; clear n0_ n1_; clear ho hb hg hat))
                  go_roundg k1
                  case measure => have := HK1.out; omega
                  case rel => exact ⟨(y147), ((IntKind.u64.wrap (x8_1 + (IntKind.u64.wrap ((IntKind.u64.wrap (rd l0 x19_1)) * (IntKind.u64.wrap (a1)))))) / 4294967296), (wrap64 (x19_1 + 1)), (by first | rfl | (simp; done) | (simp [*]; done)), (by first | rfl | (simp; done) | (simp [*]; done)), H', ⟨by have := HK1.out; omega⟩, ⟨by (with_reducible repeat (first | apply Kd.R_alloc | apply Kd.R_drewN | apply Kd.R_drew)); exact HO149.out⟩, ⟨by repeat (first | (with_reducible first | exact HB.out | apply below_alloc | apply pw_below_drewN | apply below_drew1) | exact HB.out)⟩⟩
                · rw [if_neg c11] at H
                  exact absurd H (by simp)
              · rw [if_neg c10] at H
                exact absurd H (by simp)
            · rw [if_neg c9] at H
              exact absurd H (by simp)
          · rw [if_neg c8] at H
            have c8b0 : decide (x19_1 < (l0.length : Int)) = false := decide_eq_false c8
            clear c8
            by_cases c13 : x7_1.length < 35184372088832
            · rw [if_pos c13] at H
              have LMc13 := Aside0.mk c13
              clear c13
              obtain ⟨y150, hy150⟩ : ∃ y_ : List Int, y_ = (x7_1 ++ [(x8_1) % 4294967296]) := ⟨_, rfl⟩
              replace H : ((dec_big_trim.f k1 y150).bind fun t153 => (some t153)) = some r := by first | (rw [hy150]; with_reducible exact H) | (have H2_ := (Option.bind_some _ _).symm.trans H; rw [hy150]; with_reducible exact H2_) | (have H2_ := (Option.bind_some _ _).symm.trans H; with_reducible exact H2_) | with_reducible exact H | (rw [hy150]; exact H) | exact H
              have Ny150 := Aside0.mk hy150
              clear hy150
              replace H := Option.bind_eq_some_iff.mp H
              obtain ⟨t153, A140, H⟩ := H
              replace H : (some t153) = some r := H
              have A14 := Aside0.mk A140
              clear A140
              obtain rfl := Option.some.inj H
              go_wp2_with (first | ((with_reducible refine gate_builtin (b := .append) (xs := #[.tmp 38, .tmp 41]) rfl ?_); at_builtin; refine Kd.R_append (Kd.int .u32) (w0 := w) w.heap.size rfl (.tmp 38) (.tmp 41) 62 64 (.int .u32 0) 4 rfl Tryd.underlying62 info64 rfl (by decide) (by omega) u7 x7_1 ((x8_1) % 4294967296) [.int .u32 ((x8_1) % 4294967296)] (fun k_ => (w.heap.size ≤ k_)) (fun _ => False) rfl rfl ?aP (fun _ hk => hk.elim) ?aF ?aO ?aB ?aS ?aL ?_; (case aP => exact rfl); (case aB => exact (by repeat (first | (with_reducible first | exact HB.out | apply below_alloc | apply pw_below_drewN | apply below_drew1) | exact HB.out))); (case aF => exact (fun k_ hk => (Nat.le_trans (below_size (by repeat (first | (with_reducible first | exact HB.out | apply below_alloc | apply pw_below_drewN | apply below_drew1) | exact HB.out))) hk))); (case aO => exact (by (with_reducible repeat (first | apply Kd.R_alloc | apply Kd.R_drewN | apply Kd.R_drew)); exact HO_7.out)); (case aS => exact (below_size (by repeat (first | (with_reducible first | exact HB.out | apply below_alloc | apply pw_below_drewN | apply below_drew1) | exact HB.out)))); (case aL => have := LMc13.out; omega); intro v151 w15 ho hb hg hat; rw [← Ny150.out] at ho; have n0_ := Aside0.mk (hb); have n1_ := Aside0.mk (ho); clear HB; clear HO_7; have HB := n0_; have HO152 := n1_; clear n0_ n1_; clear ho hb hg hat; obtain ⟨Ao16, co16, eo16⟩ := Kd.R_slice HO152.out; subst eo16) | ((with_reducible refine gate_callee (f := 47) rfl ?_); refine goesL_ (some 43) rfl rfl Tryd.func47 (by kernel_rfl) rfl #[.slice Ao16 y150.length co16] rfl (by (try simp only [List.map_toArray, List.map_cons, List.map_nil]); first | done | rfl | (simp only [List.length_drop, List.length_take]; rfl)) ?_; (with_reducible refine (dec_big_trim.calls k1 (fun k_ => some k_ = (.slice Ao16 y150.length co16 : Value).ownBlock) _ _ y150 t153 _ ?side1 A14.out).mono ?_); (case side1 => exact Kd.R_V (Kd.R_tight rfl (HO152.out))); rintro e w17 ⟨v154, rfl, ho0, hb⟩; refine ⟨_, rfl, ?_⟩; have n0_ := Aside0.mk (Kd.R_below (by (with_reducible repeat (first | apply Kd.R_alloc | apply Kd.R_drewN | apply Kd.R_drew)); exact HO152.out) hb); have n1_ := Aside0.mk (Kd.V_lower (Kd.V_mono (ok' := fun k_ => (w.heap.size ≤ k_)) ho0 (fun k_ hk_ => Or.elim hk_ (fun hs_ => ((HO152.out).1 k_ hs_.symm)) (fun hn_ => (Nat.le_trans (below_size (by repeat (first | (with_reducible first | exact HB.out | apply below_alloc | apply pw_below_drewN | apply below_drew1) | exact HB.out))) hn_)))) (below_size (by repeat (first | (with_reducible first | exact HB.out | apply below_alloc | apply pw_below_drewN | apply below_drew1) | exact HB.out)))); have n2_ := Aside0.mk (below_step (by repeat (first | (with_reducible first | exact HB.out | apply below_alloc | apply pw_below_drewN | apply below_drew1) | exact HB.out)) hb); clear HO152; clear HB; have HO152 := n0_; have HO155 := n1_; have HB := n2_; clear n0_ n1_ n2_; (try clear hb); (try clear hb2); (try clear hk); (try clear hi); (try clear ho0)))
              go_ret
              exact ⟨_, by first | rfl | (simp [errW_none, errW_some] <;> rfl) | (simp [*, errW_none, errW_some] <;> rfl), by (with_reducible repeat (first | apply Kd.V_alloc | apply Kd.V_drewN | apply Kd.V_drew)); exact HO155.out, by repeat (first | (with_reducible first | exact HB.out | apply below_alloc | apply pw_below_drewN | apply below_drew1) | exact HB.out)⟩
            · rw [if_neg c13] at H
              exact absurd H (by simp)
    · rw [if_neg c5] at H
      exact absurd H (by simp)
  · rw [if_neg c4] at H
    exact absurd H (by simp)
def flo_shifted.f (a0 : Int) (a1 : Bool) (a2 : Int) : Option (Int) := if 0 ≤ a2 then (if a2 > 64 then (some 0) else (if 0 ≤ (wrap64 (a2 - 1)) then (if (Go.bits .and .u64 a0 (IntKind.u64.wrap ((shl .u64 1 a2) - 1))) > (shl .u64 1 (wrap64 (a2 - 1))) then (some (IntKind.u64.wrap ((shr .u64 a0 a2) + 1))) else (if (Go.bits .and .u64 a0 (IntKind.u64.wrap ((shl .u64 1 a2) - 1))) = (shl .u64 1 (wrap64 (a2 - 1))) then (if a1 = true then (some (IntKind.u64.wrap ((shr .u64 a0 a2) + 1))) else (if (Go.bits .and .u64 (shr .u64 a0 a2) 1) = 1 then (some (IntKind.u64.wrap ((shr .u64 a0 a2) + 1))) else (some (shr .u64 a0 a2)))) else (some (shr .u64 a0 a2)))) else (none))) else (none)
set_option maxHeartbeats 8000000 in
set_option maxRecDepth 100000 in
theorem flo_shifted.calls (a0 : Int) (a1 : Bool) (a2 : Int) (r : Int) (w : World) (h : flo_shifted.f a0 a1 a2 = some r) :
    Calls Tryd.prog 49 #[.int .u64 a0, .bool a1, .int .i64 a2] w fun e w' => e = .returned (.int .u64 r) ∧ Drawn0 w w' := by
  have H : (if 0 ≤ a2 then (if a2 > 64 then (some 0) else (if 0 ≤ (wrap64 (a2 - 1)) then (if (Go.bits .and .u64 a0 (IntKind.u64.wrap ((shl .u64 1 a2) - 1))) > (shl .u64 1 (wrap64 (a2 - 1))) then (some (IntKind.u64.wrap ((shr .u64 a0 a2) + 1))) else (if (Go.bits .and .u64 a0 (IntKind.u64.wrap ((shl .u64 1 a2) - 1))) = (shl .u64 1 (wrap64 (a2 - 1))) then (if a1 = true then (some (IntKind.u64.wrap ((shr .u64 a0 a2) + 1))) else (if (Go.bits .and .u64 (shr .u64 a0 a2) 1) = 1 then (some (IntKind.u64.wrap ((shr .u64 a0 a2) + 1))) else (some (shr .u64 a0 a2)))) else (some (shr .u64 a0 a2)))) else (none))) else (none)) = some r := h
  clear h
  by_cases c4 : 0 ≤ a2
  · rw [if_pos c4] at H
    have c4b0 := eq_true c4
    have c4b1 : decide (0 ≤ a2) = true := decide_eq_true c4
    clear c4
    obtain ⟨ji5, hji5⟩ : ∃ j_ : Int, (shr .u64 a0 a2) = j_ := ⟨_, rfl⟩
    replace H : (if a2 > 64 then (some 0) else (if 0 ≤ (wrap64 (a2 - 1)) then (if (Go.bits .and .u64 a0 (IntKind.u64.wrap ((shl .u64 1 a2) - 1))) > (shl .u64 1 (wrap64 (a2 - 1))) then (some (IntKind.u64.wrap ((ji5) + 1))) else (if (Go.bits .and .u64 a0 (IntKind.u64.wrap ((shl .u64 1 a2) - 1))) = (shl .u64 1 (wrap64 (a2 - 1))) then (if a1 = true then (some (IntKind.u64.wrap ((ji5) + 1))) else (if (Go.bits .and .u64 (ji5) 1) = 1 then (some (IntKind.u64.wrap ((ji5) + 1))) else (some ji5))) else (some ji5))) else (none))) = some r := by first | (rw [hji5] at H; exact H) | (simp only [hji5] at H ⊢; exact H)
    have hji5_ : (a0 / 2 ^ min a2.toNat 64) = ji5 := hji5
    have hji5z : a2 ≤ 64 → (a0 / 2 ^ a2.toNat) = ji5 := shr_small hji5
    by_cases c6 : a2 > 64
    · rw [if_pos c6] at H
      have c6b0 : decide (64 < a2) = true := decide_eq_true c6
      clear c6
      obtain rfl := Option.some.inj H
      go_enter Tryd.func49, Tryd.ntmps49
      go_wp2
      repeat (go_quiet (fail); try go_wp2)
      go_ret
      exact ⟨by first | rfl | (simp; done) | (simp only [← hji5] <;> (first | rfl | simp)) | (simp [*]; done), by repeat (first | exact Drawn0.refl _ | apply Drawn0.step)⟩
    · rw [if_neg c6] at H
      have c6b0 : decide (64 < a2) = false := decide_eq_false c6
      clear c6
      have c7b0 := eq_true (of_decide_eq_true (by first | (with_reducible assumption) | assumption) : 0 ≤ a2)
      obtain ⟨ji8, hji8⟩ : ∃ j_ : Int, (shl .u64 1 a2) = j_ := ⟨_, rfl⟩
      replace H : (if 0 ≤ (wrap64 (a2 - 1)) then (if (Go.bits .and .u64 a0 (IntKind.u64.wrap ((ji8) - 1))) > (shl .u64 1 (wrap64 (a2 - 1))) then (some (IntKind.u64.wrap ((ji5) + 1))) else (if (Go.bits .and .u64 a0 (IntKind.u64.wrap ((ji8) - 1))) = (shl .u64 1 (wrap64 (a2 - 1))) then (if a1 = true then (some (IntKind.u64.wrap ((ji5) + 1))) else (if (Go.bits .and .u64 (ji5) 1) = 1 then (some (IntKind.u64.wrap ((ji5) + 1))) else (some ji5))) else (some ji5))) else (none)) = some r := by first | (rw [hji8] at H; exact H) | (simp only [hji8] at H ⊢; exact H)
      have hji8_ : (IntKind.u64.wrap (1 * 2 ^ min a2.toNat 64)) = ji8 := hji8
      have hji8z : a2 ≤ 64 → (IntKind.u64.wrap (1 * 2 ^ a2.toNat)) = ji8 := shl_small hji8
      have hji8u : (IntKind.u64.wrap (2 ^ min a2.toNat 64)) = ji8 := by have h_ := hji8_; rw [Int.one_mul] at h_; exact h_
      have hji8v : a2 ≤ 64 → (IntKind.u64.wrap (2 ^ a2.toNat)) = ji8 := fun hle_ => by have h_ := hji8z hle_; rw [Int.one_mul] at h_; exact h_
      obtain ⟨ji9, hji9⟩ : ∃ j_ : Int, (wrap64 (a2 - 1)) = j_ := ⟨_, rfl⟩
      replace H : (if 0 ≤ (ji9) then (if (Go.bits .and .u64 a0 (IntKind.u64.wrap ((ji8) - 1))) > (shl .u64 1 (ji9)) then (some (IntKind.u64.wrap ((ji5) + 1))) else (if (Go.bits .and .u64 a0 (IntKind.u64.wrap ((ji8) - 1))) = (shl .u64 1 (ji9)) then (if a1 = true then (some (IntKind.u64.wrap ((ji5) + 1))) else (if (Go.bits .and .u64 (ji5) 1) = 1 then (some (IntKind.u64.wrap ((ji5) + 1))) else (some ji5))) else (some ji5))) else (none)) = some r := by first | (rw [hji9] at H; exact H) | (simp only [hji9] at H ⊢; exact H)
      have hji9w : (IntKind.i64.wrap (a2 - 1)) = ji9 := (i64_w _).trans hji9
      by_cases c10 : 0 ≤ (ji9)
      · rw [if_pos c10] at H
        have c10b0 := eq_true c10
        have c10b1 : decide (0 ≤ (ji9)) = true := decide_eq_true c10
        clear c10
        obtain ⟨ji11, hji11⟩ : ∃ j_ : Int, (shl .u64 1 (ji9)) = j_ := ⟨_, rfl⟩
        replace H : (if (Go.bits .and .u64 a0 (IntKind.u64.wrap ((ji8) - 1))) > (ji11) then (some (IntKind.u64.wrap ((ji5) + 1))) else (if (Go.bits .and .u64 a0 (IntKind.u64.wrap ((ji8) - 1))) = (ji11) then (if a1 = true then (some (IntKind.u64.wrap ((ji5) + 1))) else (if (Go.bits .and .u64 (ji5) 1) = 1 then (some (IntKind.u64.wrap ((ji5) + 1))) else (some ji5))) else (some ji5))) = some r := by first | (rw [hji11] at H; exact H) | (simp only [hji11] at H ⊢; exact H)
        have hji11_ : (IntKind.u64.wrap (1 * 2 ^ min (ji9).toNat 64)) = ji11 := hji11
        have hji11z : (ji9) ≤ 64 → (IntKind.u64.wrap (1 * 2 ^ (ji9).toNat)) = ji11 := shl_small hji11
        have hji11u : (IntKind.u64.wrap (2 ^ min (ji9).toNat 64)) = ji11 := by have h_ := hji11_; rw [Int.one_mul] at h_; exact h_
        have hji11v : (ji9) ≤ 64 → (IntKind.u64.wrap (2 ^ (ji9).toNat)) = ji11 := fun hle_ => by have h_ := hji11z hle_; rw [Int.one_mul] at h_; exact h_
        by_cases c12 : (Go.bits .and .u64 a0 (IntKind.u64.wrap ((ji8) - 1))) > (ji11)
        · rw [if_pos c12] at H
          have c12b0 : decide ((ji11) < (Go.bits .and .u64 a0 (IntKind.u64.wrap ((ji8) - 1)))) = true := decide_eq_true c12
          clear c12
          obtain rfl := Option.some.inj H
          go_enter Tryd.func49, Tryd.ntmps49
          go_wp2
          repeat (go_quiet (fail); try go_wp2)
          go_ret
          exact ⟨by first | rfl | (simp; done) | (simp only [← hji5, ← hji8, ← hji9, ← hji11] <;> (first | rfl | simp)) | (simp [*]; done), by repeat (first | exact Drawn0.refl _ | apply Drawn0.step)⟩
        · rw [if_neg c12] at H
          have c12b0 : decide ((ji11) < (Go.bits .and .u64 a0 (IntKind.u64.wrap ((ji8) - 1)))) = false := decide_eq_false c12
          clear c12
          by_cases c13 : (Go.bits .and .u64 a0 (IntKind.u64.wrap ((ji8) - 1))) = (ji11)
          · rw [if_pos c13] at H
            have c13b0 : ((Go.bits .and .u64 a0 (IntKind.u64.wrap ((ji8) - 1))) == (ji11)) = true := beq_iff_eq.mpr c13
            have c13b1 : ((Go.bits .and .u64 a0 (IntKind.u64.wrap ((ji8) - 1))) != (ji11)) = false := bne_eq_false_iff_eq.mpr c13
            clear c13
            by_cases c14 : a1 = true
            · subst c14
              have H1 : (some (IntKind.u64.wrap ((ji5) + 1))) = some r := by rw [if_pos rfl] at H; exact H
              clear H
              have H := H1
              clear H1
              obtain rfl := Option.some.inj H
              go_enter Tryd.func49, Tryd.ntmps49
              go_wp2
              repeat (go_quiet (fail); try go_wp2)
              go_ret
              exact ⟨by first | rfl | (simp; done) | (simp only [← hji5, ← hji8, ← hji9, ← hji11] <;> (first | rfl | simp)) | (simp [*]; done), by repeat (first | exact Drawn0.refl _ | apply Drawn0.step)⟩
            · replace c14 := Bool.eq_false_iff.mpr c14
              subst c14
              have H1 : (if (Go.bits .and .u64 (ji5) 1) = 1 then (some (IntKind.u64.wrap ((ji5) + 1))) else (some ji5)) = some r := by rw [if_neg (show ¬ (false = true) by decide)] at H; exact H
              clear H
              have H := H1
              clear H1
              by_cases c15 : (Go.bits .and .u64 (ji5) 1) = 1
              · rw [if_pos c15] at H
                have c15b0 : ((Go.bits .and .u64 (ji5) 1) == 1) = true := beq_iff_eq.mpr c15
                have c15b1 : ((Go.bits .and .u64 (ji5) 1) != 1) = false := bne_eq_false_iff_eq.mpr c15
                clear c15
                obtain rfl := Option.some.inj H
                go_enter Tryd.func49, Tryd.ntmps49
                go_wp2
                repeat (go_quiet (fail); try go_wp2)
                go_ret
                exact ⟨by first | rfl | (simp; done) | (simp only [← hji5, ← hji8, ← hji9, ← hji11] <;> (first | rfl | simp)) | (simp [*]; done), by repeat (first | exact Drawn0.refl _ | apply Drawn0.step)⟩
              · rw [if_neg c15] at H
                have c15b0 : ((Go.bits .and .u64 (ji5) 1) == 1) = false := beq_eq_false_iff_ne.mpr c15
                have c15b1 : ((Go.bits .and .u64 (ji5) 1) != 1) = true := bne_iff_ne.mpr c15
                obtain rfl := Option.some.inj H
                go_enter Tryd.func49, Tryd.ntmps49
                go_wp2
                repeat (go_quiet (fail); try go_wp2)
                go_ret
                exact ⟨by first | rfl | (simp; done) | (simp only [← hji5, ← hji8, ← hji9, ← hji11] <;> (first | rfl | simp)) | (simp [*]; done), by repeat (first | exact Drawn0.refl _ | apply Drawn0.step)⟩
          · rw [if_neg c13] at H
            have c13b0 : ((Go.bits .and .u64 a0 (IntKind.u64.wrap ((ji8) - 1))) == (ji11)) = false := beq_eq_false_iff_ne.mpr c13
            have c13b1 : ((Go.bits .and .u64 a0 (IntKind.u64.wrap ((ji8) - 1))) != (ji11)) = true := bne_iff_ne.mpr c13
            obtain rfl := Option.some.inj H
            go_enter Tryd.func49, Tryd.ntmps49
            go_wp2
            repeat (go_quiet (fail); try go_wp2)
            go_ret
            exact ⟨by first | rfl | (simp; done) | (simp only [← hji5, ← hji8, ← hji9, ← hji11] <;> (first | rfl | simp)) | (simp [*]; done), by repeat (first | exact Drawn0.refl _ | apply Drawn0.step)⟩
      · rw [if_neg c10] at H
        exact absurd H (by simp)
  · rw [if_neg c4] at H
    exact absurd H (by simp)
end Go.Proofs.YtongfmeediokmaaDoor.Pr
end
section
namespace Go.Proofs.YtongfmeediokmaaDoor.Pr
open Go.RowKit Go.Proofs.YtongfmeediokmaaDoorW.PrintWords Go.Proofs.YtongfmeediokmaaDoorW.PrintLast Go.Proofs.YtongfmeediokmaaDoorW.PrintMore
attribute [local go_sem] max2_int min2_int max_two min_two max_three min_three max_four min_four
mutual
def flo_Make.j0 : Nat → Int → Int → Bool → Int → Option (Int)
  | 0, _, _, _, _ => none
  | k + 1, x1, x2, x3, x9 => if x2 = 0 then (if x3 = true then (flo_Make.j1 k ((mn (mx x1 (-1048576)) 1048576) - 1) 1 false x9) else (some x9)) else (flo_Make.j1 k (mn (mx x1 (-1048576)) 1048576) x2 x3 x9)
def flo_Make.j1 : Nat → Int → Int → Bool → Int → Option (Int)
  | 0, _, _, _, _ => none
  | k + 1, x1, x2, x3, x9 => (bits_Len64.f x2).bind fun t156 => (if (mx (wrap64 ((wrap64 (t156 - 52)) - 1)) (wrap64 ((-1074) - x1))) > 0 then ((flo_shifted.f x2 x3 (mx (wrap64 ((wrap64 (t156 - 52)) - 1)) (wrap64 ((-1074) - x1)))).bind fun t157 => (flo_Make.j2 k x1 t157 x9 (mx (wrap64 ((wrap64 (t156 - 52)) - 1)) (wrap64 ((-1074) - x1))))) else (if (mx (wrap64 ((wrap64 (t156 - 52)) - 1)) (wrap64 ((-1074) - x1))) = 0 then (if x3 = true then (flo_Make.j2 k x1 (IntKind.u64.wrap (x2 + (Go.bits .and .u64 x2 1))) x9 (mx (wrap64 ((wrap64 (t156 - 52)) - 1)) (wrap64 ((-1074) - x1)))) else (flo_Make.j2 k x1 x2 x9 (mx (wrap64 ((wrap64 (t156 - 52)) - 1)) (wrap64 ((-1074) - x1))))) else (if 0 ≤ (wrap64 (-(mx (wrap64 ((wrap64 (t156 - 52)) - 1)) (wrap64 ((-1074) - x1))))) then (if x3 = true then (if 0 ≤ (wrap64 ((wrap64 (-(mx (wrap64 ((wrap64 (t156 - 52)) - 1)) (wrap64 ((-1074) - x1))))) - 1)) then (flo_Make.j2 k x1 (Go.bits .or .u64 (shl .u64 x2 (wrap64 (-(mx (wrap64 ((wrap64 (t156 - 52)) - 1)) (wrap64 ((-1074) - x1)))))) (shl .u64 1 (wrap64 ((wrap64 (-(mx (wrap64 ((wrap64 (t156 - 52)) - 1)) (wrap64 ((-1074) - x1))))) - 1)))) x9 (mx (wrap64 ((wrap64 (t156 - 52)) - 1)) (wrap64 ((-1074) - x1)))) else (none)) else (flo_Make.j2 k x1 (shl .u64 x2 (wrap64 (-(mx (wrap64 ((wrap64 (t156 - 52)) - 1)) (wrap64 ((-1074) - x1)))))) x9 (mx (wrap64 ((wrap64 (t156 - 52)) - 1)) (wrap64 ((-1074) - x1))))) else (none))))
def flo_Make.j2 : Nat → Int → Int → Int → Int → Option (Int)
  | 0, _, _, _, _ => none
  | k + 1, x1, x2, x9, x10 => if x2 = 9007199254740992 then (flo_Make.j3 k (wrap64 ((wrap64 (x1 + x10)) + 1)) 4503599627370496 x9) else (flo_Make.j3 k (wrap64 (x1 + x10)) x2 x9)
def flo_Make.j3 : Nat → Int → Int → Int → Option (Int)
  | 0, _, _, _ => none
  | k + 1, x1, x2, x9 => if x2 = 0 then (some x9) else (if x1 > 971 then (some (Go.bits .or .u64 x9 9218868437227405312)) else (if x2 < 4503599627370496 then (some (Go.bits .or .u64 x9 x2)) else (some (Go.bits .or .u64 (Go.bits .or .u64 x9 (IntKind.u64.wrap ((IntKind.u64.wrap (wrap64 (x1 + 1075))) * 4503599627370496))) (Go.bits .and .u64 x2 4503599627370495)))))
end
def flo_Make.f (k : Nat) (a0 : Bool) (a1 : Int) (a2 : Int) (a3 : Bool) : Option (Int) := if a0 = true then (flo_Make.j0 k a1 a2 a3 9223372036854775808) else (flo_Make.j0 k a1 a2 a3 0)
theorem flo_Make.mono_l : ∀ k, (∀ y0 y1 y2 y3, LeO (flo_Make.j0 k y0 y1 y2 y3) (flo_Make.j0 (k + 1) y0 y1 y2 y3)) ∧ (∀ y0 y1 y2 y3, LeO (flo_Make.j1 k y0 y1 y2 y3) (flo_Make.j1 (k + 1) y0 y1 y2 y3)) ∧ (∀ y0 y1 y2 y3, LeO (flo_Make.j2 k y0 y1 y2 y3) (flo_Make.j2 (k + 1) y0 y1 y2 y3)) ∧ (∀ y0 y1 y2, LeO (flo_Make.j3 k y0 y1 y2) (flo_Make.j3 (k + 1) y0 y1 y2))
  | 0 => ⟨fun _ _ _ _ r h => by simp [flo_Make.j0] at h, fun _ _ _ _ r h => by simp [flo_Make.j1] at h, fun _ _ _ _ r h => by simp [flo_Make.j2] at h, fun _ _ _ r h => by simp [flo_Make.j3] at h⟩
  | k + 1 => by
    obtain ⟨ih0, ih1, ih2, ih3⟩ := flo_Make.mono_l k
    refine ⟨?_, ?_, ?_, ?_⟩
    · intro y0 y1 y2 y3
      unfold flo_Make.j0
      repeat' first
      | (with_reducible exact ih0 _ _ _ _)
      | (with_reducible exact ih1 _ _ _ _)
      | (with_reducible exact ih2 _ _ _ _)
      | (with_reducible exact ih3 _ _ _)
      | (with_reducible exact LeO.refl _)
      | (with_reducible exact LeO.none _)
      | (with_reducible refine LeO.ite ?_ ?_)
      | (with_reducible refine LeO.bind ?_ (fun _ => ?_))
      | exact ih0 _ _ _ _
      | exact ih1 _ _ _ _
      | exact ih2 _ _ _ _
      | exact ih3 _ _ _
      | exact LeO.none _
      | refine LeO.ite ?_ ?_
      | refine LeO.bind ?_ (fun _ => ?_)
    · intro y0 y1 y2 y3
      unfold flo_Make.j1
      repeat' first
      | (with_reducible exact ih0 _ _ _ _)
      | (with_reducible exact ih1 _ _ _ _)
      | (with_reducible exact ih2 _ _ _ _)
      | (with_reducible exact ih3 _ _ _)
      | (with_reducible exact LeO.refl _)
      | (with_reducible exact LeO.none _)
      | (with_reducible refine LeO.ite ?_ ?_)
      | (with_reducible refine LeO.bind ?_ (fun _ => ?_))
      | exact ih0 _ _ _ _
      | exact ih1 _ _ _ _
      | exact ih2 _ _ _ _
      | exact ih3 _ _ _
      | exact LeO.none _
      | refine LeO.ite ?_ ?_
      | refine LeO.bind ?_ (fun _ => ?_)
    · intro y0 y1 y2 y3
      unfold flo_Make.j2
      repeat' first
      | (with_reducible exact ih0 _ _ _ _)
      | (with_reducible exact ih1 _ _ _ _)
      | (with_reducible exact ih2 _ _ _ _)
      | (with_reducible exact ih3 _ _ _)
      | (with_reducible exact LeO.refl _)
      | (with_reducible exact LeO.none _)
      | (with_reducible refine LeO.ite ?_ ?_)
      | (with_reducible refine LeO.bind ?_ (fun _ => ?_))
      | exact ih0 _ _ _ _
      | exact ih1 _ _ _ _
      | exact ih2 _ _ _ _
      | exact ih3 _ _ _
      | exact LeO.none _
      | refine LeO.ite ?_ ?_
      | refine LeO.bind ?_ (fun _ => ?_)
    · intro y0 y1 y2
      unfold flo_Make.j3
      repeat' first
      | (with_reducible exact ih0 _ _ _ _)
      | (with_reducible exact ih1 _ _ _ _)
      | (with_reducible exact ih2 _ _ _ _)
      | (with_reducible exact ih3 _ _ _)
      | (with_reducible exact LeO.refl _)
      | (with_reducible exact LeO.none _)
      | (with_reducible refine LeO.ite ?_ ?_)
      | (with_reducible refine LeO.bind ?_ (fun _ => ?_))
      | exact ih0 _ _ _ _
      | exact ih1 _ _ _ _
      | exact ih2 _ _ _ _
      | exact ih3 _ _ _
      | exact LeO.none _
      | refine LeO.ite ?_ ?_
      | refine LeO.bind ?_ (fun _ => ?_)
theorem flo_Make.mono : ∀ a0 a1 a2 a3 k, LeO (flo_Make.f k a0 a1 a2 a3) (flo_Make.f (k + 1) a0 a1 a2 a3) := by
  intro a0 a1 a2 a3 k
  obtain ⟨ih0, ih1, ih2, ih3⟩ := flo_Make.mono_l k
  unfold flo_Make.f
  repeat' first
      | (with_reducible exact ih0 _ _ _ _)
      | (with_reducible exact ih1 _ _ _ _)
      | (with_reducible exact ih2 _ _ _ _)
      | (with_reducible exact ih3 _ _ _)
      | (with_reducible exact LeO.refl _)
      | (with_reducible exact LeO.none _)
      | (with_reducible refine LeO.ite ?_ ?_)
      | (with_reducible refine LeO.bind ?_ (fun _ => ?_))
      | exact ih0 _ _ _ _
      | exact ih1 _ _ _ _
      | exact ih2 _ _ _ _
      | exact ih3 _ _ _
      | exact LeO.none _
      | refine LeO.ite ?_ ?_
      | refine LeO.bind ?_ (fun _ => ?_)
set_option maxHeartbeats 8000000 in
set_option maxRecDepth 100000 in
theorem flo_Make.calls (k : Nat) (a0 : Bool) (a1 : Int) (a2 : Int) (a3 : Bool) (r : Int) (w : World) (h : flo_Make.f k a0 a1 a2 a3 = some r) :
    Calls Tryd.prog 42 #[.bool a0, .int .i64 a1, .int .u64 a2, .bool a3] w fun e w' => e = .returned (.int .u64 r) ∧ Below w.heap.size w w' := by
  have HB := Aside0.mk (Below.refl w.heap.size w)
  have H : (if a0 = true then (flo_Make.j0 k a1 a2 a3 9223372036854775808) else (flo_Make.j0 k a1 a2 a3 0)) = some r := h
  clear h
  have HC5 := Aside0.mk H
  clear H
  go_enter Tryd.func42, Tryd.ntmps42
  go_upto_if 11 with (fail)
  go_cut [9] (fun v9 wc => ∃ (kq : Nat) (x9_4 : Int), v9 = .int .u64 x9_4 ∧ Aside0 (flo_Make.j0 kq a1 a2 a3 x9_4 = some r) ∧ Aside0 (kq ≤ k) ∧ Aside0 (Below w.heap.size w wc))
  case first =>
    have H := HC5.out
    clear HC5
    by_cases c6 : a0 = true
    · subst c6
      have H1 : (flo_Make.j0 k a1 a2 a3 9223372036854775808) = some r := by rw [if_pos rfl] at H; exact H
      clear H
      have H := H1
      clear H1
      have H' := Aside0.mk H
      clear H
      go_wp2
      go_meet
      case rel => exact ⟨_, (9223372036854775808), (by first | rfl | (simp; done) | (simp [*]; done)), H', ⟨by first | omega | exact Nat.le_refl _⟩, ⟨by repeat (first | (with_reducible first | exact HB.out | apply below_alloc | apply pw_below_drewN | apply below_drew1) | exact HB.out)⟩⟩
    · replace c6 := Bool.eq_false_iff.mpr c6
      subst c6
      have H1 : (flo_Make.j0 k a1 a2 a3 0) = some r := by rw [if_neg (show ¬ (false = true) by decide)] at H; exact H
      clear H
      have H := H1
      clear H1
      have H' := Aside0.mk H
      clear H
      go_wp2
      go_meet
      case rel => exact ⟨_, (0), (by first | rfl | (simp; done) | (simp [*]; done)), H', ⟨by first | omega | exact Nat.le_refl _⟩, ⟨by repeat (first | (with_reducible first | exact HB.out | apply below_alloc | apply pw_below_drewN | apply below_drew1) | exact HB.out)⟩⟩
  case rest =>
    clear HC5
    try clear p2
    try clear c4
    try clear c6
    obtain ⟨kq, x9_4, rfl, HA, HJ4, HB⟩ := hcut
    cases kq with
    | zero => exact absurd HA.out (by simp [flo_Make.j0])
    | succ kj4 =>
      have H := HA.out
      clear HA
      simp only [flo_Make.j0] at H
      obtain ⟨ji7, hji7⟩ : ∃ j_ : Int, (mx a1 (-1048576)) = j_ := ⟨_, rfl⟩
      replace H : (if a2 = 0 then (if a3 = true then (flo_Make.j1 kj4 ((mn (ji7) 1048576) - 1) 1 false x9_4) else (some x9_4)) else (flo_Make.j1 kj4 (mn (ji7) 1048576) a2 a3 x9_4)) = some r := by first | (rw [hji7] at H; exact H) | (simp only [hji7] at H ⊢; exact H)
      have hji7_ : (if a1 < (-1048576) then (-1048576) else a1) = ji7 := hji7
      obtain ⟨ji8, hji8⟩ : ∃ j_ : Int, (mn (ji7) 1048576) = j_ := ⟨_, rfl⟩
      replace H : (if a2 = 0 then (if a3 = true then (flo_Make.j1 kj4 ((ji8) - 1) 1 false x9_4) else (some x9_4)) else (flo_Make.j1 kj4 ji8 a2 a3 x9_4)) = some r := by first | (rw [hji8] at H; exact H) | (simp only [hji8] at H ⊢; exact H)
      have hji8_ : (if 1048576 < (ji7) then 1048576 else (ji7)) = ji8 := hji8
      have HC9 := Aside0.mk H
      clear H
      go_upto_if 16 with (fail)
      go_cut [1, 2, 3] (fun v1 v2 v3 wc => ∃ (kq : Nat) (x1_8 : Int) (x2_8 : Int) (x3_8 : Bool), v1 = .int .i64 x1_8 ∧ v2 = .int .u64 x2_8 ∧ v3 = .bool x3_8 ∧ Aside0 (flo_Make.j1 kq x1_8 x2_8 x3_8 x9_4 = some r) ∧ Aside0 (kq ≤ kj4) ∧ Aside0 (Below w.heap.size w wc))
      case first =>
        have H := HC9.out
        clear HC9
        by_cases c10 : a2 = 0
        · rw [if_pos c10] at H
          have c10b0 : (a2 == 0) = true := beq_iff_eq.mpr c10
          have c10b1 : (a2 != 0) = false := bne_eq_false_iff_eq.mpr c10
          clear c10
          (first | rw [c10b0] | (simp only [i64_w, i32_w]; rw [c10b0]) | rw [c10b1] | (simp only [i64_w, i32_w]; rw [c10b1]) | skip)
          by_cases c11 : a3 = true
          · subst c11
            have H1 : (flo_Make.j1 kj4 ((ji8) - 1) 1 false x9_4) = some r := by rw [if_pos rfl] at H; exact H
            clear H
            have H := H1
            clear H1
            have H' := Aside0.mk H
            clear H
            go_wp2
            go_meet
            case rel => exact ⟨_, ((ji8) - 1), (1), (false), (by first | rfl | (simp; done) | (simp only [← hji8] <;> (first | rfl | simp)) | (simp [*]; done)), (by first | rfl | (simp; done) | (simp [*]; done)), (by first | rfl | (simp; done) | (simp [*]; done)), H', ⟨by have := HJ4.out; first | omega | exact Nat.le_refl _⟩, ⟨by repeat (first | (with_reducible first | exact HB.out | apply below_alloc | apply pw_below_drewN | apply below_drew1) | exact HB.out)⟩⟩
          · replace c11 := Bool.eq_false_iff.mpr c11
            subst c11
            have H1 : (some x9_4) = some r := by rw [if_neg (show ¬ (false = true) by decide)] at H; exact H
            clear H
            have H := H1
            clear H1
            obtain rfl := Option.some.inj H
            go_wp2
            go_ret
            exact ⟨by first | rfl | (simp [errW_none, errW_some] <;> rfl) | (simp only [← hji7, ← hji8]; first | rfl | (simp [errW_none, errW_some] <;> rfl)) | (simp [*, errW_none, errW_some] <;> rfl), by repeat (first | (with_reducible first | exact HB.out | apply below_alloc | apply pw_below_drewN | apply below_drew1) | exact HB.out)⟩
        · rw [if_neg c10] at H
          have c10b0 : (a2 == 0) = false := beq_eq_false_iff_ne.mpr c10
          have c10b1 : (a2 != 0) = true := bne_iff_ne.mpr c10
          (first | rw [c10b0] | (simp only [i64_w, i32_w]; rw [c10b0]) | rw [c10b1] | (simp only [i64_w, i32_w]; rw [c10b1]) | skip)
          have H' := Aside0.mk H
          clear H
          go_wp2
          go_meet
          case rel => exact ⟨_, (ji8), (a2), (a3), (by first | rfl | (simp; done) | (simp only [← hji8] <;> (first | rfl | simp)) | (simp [*]; done)), (by first | rfl | (simp; done) | (simp [*]; done)), (by first | rfl | (simp; done) | (simp [*]; done)), H', ⟨by have := HJ4.out; first | omega | exact Nat.le_refl _⟩, ⟨by repeat (first | (with_reducible first | exact HB.out | apply below_alloc | apply pw_below_drewN | apply below_drew1) | exact HB.out)⟩⟩
      case rest =>
        clear HC9
        try clear c1
        try clear p2
        try clear c4
        try clear c6
        try clear c10
        try clear c10b0
        try clear c10b1
        try clear c11
        try clear p2
        obtain ⟨kq, x1_8, x2_8, x3_8, rfl, rfl, rfl, HA, HJ8, HB⟩ := hcut
        cases kq with
        | zero => exact absurd HA.out (by simp [flo_Make.j1])
        | succ kj8 =>
          have H := HA.out
          clear HA
          simp only [flo_Make.j1] at H
          replace H := Option.bind_eq_some_iff.mp H
          obtain ⟨t156, A120, H⟩ := H
          replace H : (if (mx (wrap64 ((wrap64 (t156 - 52)) - 1)) (wrap64 ((-1074) - x1_8))) > 0 then ((flo_shifted.f x2_8 x3_8 (mx (wrap64 ((wrap64 (t156 - 52)) - 1)) (wrap64 ((-1074) - x1_8)))).bind fun t157 => (flo_Make.j2 kj8 x1_8 t157 x9_4 (mx (wrap64 ((wrap64 (t156 - 52)) - 1)) (wrap64 ((-1074) - x1_8))))) else (if (mx (wrap64 ((wrap64 (t156 - 52)) - 1)) (wrap64 ((-1074) - x1_8))) = 0 then (if x3_8 = true then (flo_Make.j2 kj8 x1_8 (IntKind.u64.wrap (x2_8 + (Go.bits .and .u64 x2_8 1))) x9_4 (mx (wrap64 ((wrap64 (t156 - 52)) - 1)) (wrap64 ((-1074) - x1_8)))) else (flo_Make.j2 kj8 x1_8 x2_8 x9_4 (mx (wrap64 ((wrap64 (t156 - 52)) - 1)) (wrap64 ((-1074) - x1_8))))) else (if 0 ≤ (wrap64 (-(mx (wrap64 ((wrap64 (t156 - 52)) - 1)) (wrap64 ((-1074) - x1_8))))) then (if x3_8 = true then (if 0 ≤ (wrap64 ((wrap64 (-(mx (wrap64 ((wrap64 (t156 - 52)) - 1)) (wrap64 ((-1074) - x1_8))))) - 1)) then (flo_Make.j2 kj8 x1_8 (Go.bits .or .u64 (shl .u64 x2_8 (wrap64 (-(mx (wrap64 ((wrap64 (t156 - 52)) - 1)) (wrap64 ((-1074) - x1_8)))))) (shl .u64 1 (wrap64 ((wrap64 (-(mx (wrap64 ((wrap64 (t156 - 52)) - 1)) (wrap64 ((-1074) - x1_8))))) - 1)))) x9_4 (mx (wrap64 ((wrap64 (t156 - 52)) - 1)) (wrap64 ((-1074) - x1_8)))) else (none)) else (flo_Make.j2 kj8 x1_8 (shl .u64 x2_8 (wrap64 (-(mx (wrap64 ((wrap64 (t156 - 52)) - 1)) (wrap64 ((-1074) - x1_8)))))) x9_4 (mx (wrap64 ((wrap64 (t156 - 52)) - 1)) (wrap64 ((-1074) - x1_8))))) else (none)))) = some r := H
          have A12 := Aside0.mk A120
          clear A120
          obtain ⟨ji13, hji13⟩ : ∃ j_ : Int, (mx (wrap64 ((wrap64 (t156 - 52)) - 1)) (wrap64 ((-1074) - x1_8))) = j_ := ⟨_, rfl⟩
          replace H : (if (ji13) > 0 then ((flo_shifted.f x2_8 x3_8 (ji13)).bind fun t157 => (flo_Make.j2 kj8 x1_8 t157 x9_4 ji13)) else (if (ji13) = 0 then (if x3_8 = true then (flo_Make.j2 kj8 x1_8 (IntKind.u64.wrap (x2_8 + (Go.bits .and .u64 x2_8 1))) x9_4 ji13) else (flo_Make.j2 kj8 x1_8 x2_8 x9_4 ji13)) else (if 0 ≤ (wrap64 (-(ji13))) then (if x3_8 = true then (if 0 ≤ (wrap64 ((wrap64 (-(ji13))) - 1)) then (flo_Make.j2 kj8 x1_8 (Go.bits .or .u64 (shl .u64 x2_8 (wrap64 (-(ji13)))) (shl .u64 1 (wrap64 ((wrap64 (-(ji13))) - 1)))) x9_4 ji13) else (none)) else (flo_Make.j2 kj8 x1_8 (shl .u64 x2_8 (wrap64 (-(ji13)))) x9_4 ji13)) else (none)))) = some r := by first | (rw [hji13] at H; exact H) | (simp only [hji13] at H ⊢; exact H)
          (try rw [hji13] at A12)
          have hji13_ : (if (wrap64 ((wrap64 (t156 - 52)) - 1)) < (wrap64 ((-1074) - x1_8)) then (wrap64 ((-1074) - x1_8)) else (wrap64 ((wrap64 (t156 - 52)) - 1))) = ji13 := hji13
          have HC14 := Aside0.mk H
          clear H
          go_upto_block 0 with (first | ((with_reducible refine gate_callee (f := 48) rfl ?_); refine goesL_ (some 23) rfl rfl Tryd.func48 (by kernel_rfl) rfl #[.int .u64 x2_8] rfl (by (try simp only [List.map_toArray, List.map_cons, List.map_nil]); first | done | rfl | (simp only [List.length_drop, List.length_take]; rfl)) ?_; (with_reducible refine (bits_Len64.calls x2_8 t156 _ A12.out).mono ?_); rintro e w' ⟨rfl, ⟨nd, rfl⟩⟩; refine ⟨_, rfl, ?_⟩))
          (try simp only [Act.put, List.setIfInBounds_toArray, List.set_cons_zero, List.set_cons_succ])
          go_cut [2] (fun v2 wc => ∃ (kq : Nat) (x2_13 : Int), v2 = .int .u64 x2_13 ∧ Aside0 (flo_Make.j2 kq x1_8 x2_13 x9_4 ji13 = some r) ∧ Aside0 (kq ≤ kj8) ∧ Aside0 (Below w.heap.size w wc))
          case first =>
            have H := HC14.out
            clear HC14
            by_cases c15 : (ji13) > 0
            · rw [if_pos c15] at H
              have c15b0 : decide (0 < (ji13)) = true := decide_eq_true c15
              clear c15
              (first | rw [c15b0] | (simp only [i64_w, i32_w]; rw [c15b0]) | rw [c15b1] | (simp only [i64_w, i32_w]; rw [c15b1]) | skip)
              replace H := Option.bind_eq_some_iff.mp H
              obtain ⟨t157, A160, H⟩ := H
              replace H : (flo_Make.j2 kj8 x1_8 t157 x9_4 ji13) = some r := H
              have A16 := Aside0.mk A160
              clear A160
              have H' := Aside0.mk H
              clear H
              go_wp2_with (first | ((with_reducible refine gate_callee (f := 49) rfl ?_); refine goesL_ (some 46) rfl rfl Tryd.func49 (by kernel_rfl) rfl #[.int .u64 x2_8, .bool x3_8, .int .i64 ji13] rfl (by (try simp only [List.map_toArray, List.map_cons, List.map_nil]); first | done | (simp only [hji13]; rfl) | rfl | (simp only [List.length_drop, List.length_take]; rfl)) ?_; (with_reducible refine (flo_shifted.calls x2_8 x3_8 ji13 t157 _ A16.out).mono ?_); rintro e w' ⟨rfl, ⟨nd, rfl⟩⟩; refine ⟨_, rfl, ?_⟩))
              go_meet
              case rel => exact ⟨_, (t157), (by first | rfl | (simp; done) | (simp [*]; done)), H', ⟨by have := HJ4.out; have := HJ8.out; first | omega | exact Nat.le_refl _⟩, ⟨by repeat (first | (with_reducible first | exact HB.out | apply below_alloc | apply pw_below_drewN | apply below_drew1) | exact HB.out)⟩⟩
            · rw [if_neg c15] at H
              have c15b0 : decide (0 < (ji13)) = false := decide_eq_false c15
              clear c15
              (first | rw [c15b0] | (simp only [i64_w, i32_w]; rw [c15b0]) | rw [c15b1] | (simp only [i64_w, i32_w]; rw [c15b1]) | skip)
              by_cases c17 : (ji13) = 0
              · rw [if_pos c17] at H
                have c17b0 : ((ji13) == 0) = true := beq_iff_eq.mpr c17
                have c17b1 : ((ji13) != 0) = false := bne_eq_false_iff_eq.mpr c17
                clear c17
                by_cases c18 : x3_8 = true
                · subst c18
                  have H1 : (flo_Make.j2 kj8 x1_8 (IntKind.u64.wrap (x2_8 + (Go.bits .and .u64 x2_8 1))) x9_4 ji13) = some r := by rw [if_pos rfl] at H; exact H
                  clear H
                  have H := H1
                  clear H1
                  have H' := Aside0.mk H
                  clear H
                  go_wp2
                  go_meet
                  case rel => exact ⟨_, (IntKind.u64.wrap (x2_8 + (Go.bits .and .u64 x2_8 1))), (by first | rfl | (simp; done) | (simp [*]; done)), H', ⟨by have := HJ4.out; have := HJ8.out; first | omega | exact Nat.le_refl _⟩, ⟨by repeat (first | (with_reducible first | exact HB.out | apply below_alloc | apply pw_below_drewN | apply below_drew1) | exact HB.out)⟩⟩
                · replace c18 := Bool.eq_false_iff.mpr c18
                  subst c18
                  have H1 : (flo_Make.j2 kj8 x1_8 x2_8 x9_4 ji13) = some r := by rw [if_neg (show ¬ (false = true) by decide)] at H; exact H
                  clear H
                  have H := H1
                  clear H1
                  have H' := Aside0.mk H
                  clear H
                  go_wp2
                  go_meet
                  case rel => exact ⟨_, (x2_8), (by first | rfl | (simp; done) | (simp [*]; done)), H', ⟨by have := HJ4.out; have := HJ8.out; first | omega | exact Nat.le_refl _⟩, ⟨by repeat (first | (with_reducible first | exact HB.out | apply below_alloc | apply pw_below_drewN | apply below_drew1) | exact HB.out)⟩⟩
              · rw [if_neg c17] at H
                have c17b0 : ((ji13) == 0) = false := beq_eq_false_iff_ne.mpr c17
                have c17b1 : ((ji13) != 0) = true := bne_iff_ne.mpr c17
                obtain ⟨ji19, hji19⟩ : ∃ j_ : Int, (wrap64 (-(ji13))) = j_ := ⟨_, rfl⟩
                replace H : (if 0 ≤ (ji19) then (if x3_8 = true then (if 0 ≤ (wrap64 ((ji19) - 1)) then (flo_Make.j2 kj8 x1_8 (Go.bits .or .u64 (shl .u64 x2_8 (ji19)) (shl .u64 1 (wrap64 ((ji19) - 1)))) x9_4 ji13) else (none)) else (flo_Make.j2 kj8 x1_8 (shl .u64 x2_8 (ji19)) x9_4 ji13)) else (none)) = some r := by first | (rw [hji19] at H; exact H) | (simp only [hji19] at H ⊢; exact H)
                have hji19w : (IntKind.i64.wrap (-(ji13))) = ji19 := (i64_w _).trans hji19
                by_cases c20 : 0 ≤ (ji19)
                · rw [if_pos c20] at H
                  have c20b0 := eq_true c20
                  have c20b1 : decide (0 ≤ (ji19)) = true := decide_eq_true c20
                  clear c20
                  obtain ⟨ji21, hji21⟩ : ∃ j_ : Int, (shl .u64 x2_8 (ji19)) = j_ := ⟨_, rfl⟩
                  replace H : (if x3_8 = true then (if 0 ≤ (wrap64 ((ji19) - 1)) then (flo_Make.j2 kj8 x1_8 (Go.bits .or .u64 (ji21) (shl .u64 1 (wrap64 ((ji19) - 1)))) x9_4 ji13) else (none)) else (flo_Make.j2 kj8 x1_8 ji21 x9_4 ji13)) = some r := by first | (rw [hji21] at H; exact H) | (simp only [hji21] at H ⊢; exact H)
                  have hji21_ : (IntKind.u64.wrap (x2_8 * 2 ^ min (ji19).toNat 64)) = ji21 := hji21
                  have hji21z : (ji19) ≤ 64 → (IntKind.u64.wrap (x2_8 * 2 ^ (ji19).toNat)) = ji21 := shl_small hji21
                  by_cases c22 : x3_8 = true
                  · subst c22
                    have H1 : (if 0 ≤ (wrap64 ((ji19) - 1)) then (flo_Make.j2 kj8 x1_8 (Go.bits .or .u64 (ji21) (shl .u64 1 (wrap64 ((ji19) - 1)))) x9_4 ji13) else (none)) = some r := by rw [if_pos rfl] at H; exact H
                    clear H
                    have H := H1
                    clear H1
                    obtain ⟨ji23, hji23⟩ : ∃ j_ : Int, (wrap64 ((ji19) - 1)) = j_ := ⟨_, rfl⟩
                    replace H : (if 0 ≤ (ji23) then (flo_Make.j2 kj8 x1_8 (Go.bits .or .u64 (ji21) (shl .u64 1 (ji23))) x9_4 ji13) else (none)) = some r := by first | (rw [hji23] at H; exact H) | (simp only [hji23] at H ⊢; exact H)
                    have hji23w : (IntKind.i64.wrap ((ji19) - 1)) = ji23 := (i64_w _).trans hji23
                    by_cases c24 : 0 ≤ (ji23)
                    · rw [if_pos c24] at H
                      have c24b0 := eq_true c24
                      have c24b1 : decide (0 ≤ (ji23)) = true := decide_eq_true c24
                      clear c24
                      obtain ⟨ji25, hji25⟩ : ∃ j_ : Int, (shl .u64 1 (ji23)) = j_ := ⟨_, rfl⟩
                      replace H : (flo_Make.j2 kj8 x1_8 (Go.bits .or .u64 (ji21) (ji25)) x9_4 ji13) = some r := by first | (rw [hji25] at H; exact H) | (simp only [hji25] at H ⊢; exact H)
                      have hji25_ : (IntKind.u64.wrap (1 * 2 ^ min (ji23).toNat 64)) = ji25 := hji25
                      have hji25z : (ji23) ≤ 64 → (IntKind.u64.wrap (1 * 2 ^ (ji23).toNat)) = ji25 := shl_small hji25
                      have hji25u : (IntKind.u64.wrap (2 ^ min (ji23).toNat 64)) = ji25 := by have h_ := hji25_; rw [Int.one_mul] at h_; exact h_
                      have hji25v : (ji23) ≤ 64 → (IntKind.u64.wrap (2 ^ (ji23).toNat)) = ji25 := fun hle_ => by have h_ := hji25z hle_; rw [Int.one_mul] at h_; exact h_
                      have H' := Aside0.mk H
                      clear H
                      go_wp2
                      go_meet
                      case rel => exact ⟨_, (Go.bits .or .u64 (ji21) (ji25)), (by first | rfl | (simp; done) | (simp only [← hji21, ← hji25] <;> (first | rfl | simp)) | (simp [*]; done)), H', ⟨by have := HJ4.out; have := HJ8.out; first | omega | exact Nat.le_refl _⟩, ⟨by repeat (first | (with_reducible first | exact HB.out | apply below_alloc | apply pw_below_drewN | apply below_drew1) | exact HB.out)⟩⟩
                    · rw [if_neg c24] at H
                      exact absurd H (by simp)
                  · replace c22 := Bool.eq_false_iff.mpr c22
                    subst c22
                    have H1 : (flo_Make.j2 kj8 x1_8 ji21 x9_4 ji13) = some r := by rw [if_neg (show ¬ (false = true) by decide)] at H; exact H
                    clear H
                    have H := H1
                    clear H1
                    have H' := Aside0.mk H
                    clear H
                    go_wp2
                    go_meet
                    case rel => exact ⟨_, (ji21), (by first | rfl | (simp; done) | (simp only [← hji21] <;> (first | rfl | simp)) | (simp [*]; done)), H', ⟨by have := HJ4.out; have := HJ8.out; first | omega | exact Nat.le_refl _⟩, ⟨by repeat (first | (with_reducible first | exact HB.out | apply below_alloc | apply pw_below_drewN | apply below_drew1) | exact HB.out)⟩⟩
                · rw [if_neg c20] at H
                  exact absurd H (by simp)
          case rest =>
            clear HC14
            try clear c1
            try clear c2
            try clear p2
            try clear c4
            try clear c6
            try clear p6
            try clear c10
            try clear c10b0
            try clear c10b1
            try clear c11
            try clear c15
            try clear c15b0
            try clear c15b1
            try clear c17
            try clear c17b0
            try clear c17b1
            try clear c18
            try clear c20
            try clear c20b0
            try clear c20b1
            try clear c22
            try clear c24
            try clear c24b0
            try clear c24b1
            try clear p2
            obtain ⟨kq, x2_13, rfl, HA, HJ13, HB⟩ := hcut
            cases kq with
            | zero => exact absurd HA.out (by simp [flo_Make.j2])
            | succ kj13 =>
              have H := HA.out
              clear HA
              simp only [flo_Make.j2] at H
              have HC26 := Aside0.mk H
              clear H
              go_upto_if 59 with (fail)
              go_cut [1, 2] (fun v1 v2 wc => ∃ (kq : Nat) (x1_25 : Int) (x2_25 : Int), v1 = .int .i64 x1_25 ∧ v2 = .int .u64 x2_25 ∧ Aside0 (flo_Make.j3 kq x1_25 x2_25 x9_4 = some r) ∧ Aside0 (kq ≤ kj13) ∧ Aside0 (Below w.heap.size w wc))
              case first =>
                have H := HC26.out
                clear HC26
                by_cases c27 : x2_13 = 9007199254740992
                · rw [if_pos c27] at H
                  have c27b0 : (x2_13 == 9007199254740992) = true := beq_iff_eq.mpr c27
                  have c27b1 : (x2_13 != 9007199254740992) = false := bne_eq_false_iff_eq.mpr c27
                  clear c27
                  (first | rw [c27b0] | (simp only [i64_w, i32_w]; rw [c27b0]) | rw [c27b1] | (simp only [i64_w, i32_w]; rw [c27b1]) | skip)
                  have H' := Aside0.mk H
                  clear H
                  go_wp2
                  go_meet
                  case rel => exact ⟨_, (wrap64 ((wrap64 (x1_8 + ji13)) + 1)), (4503599627370496), (by first | rfl | (simp; done) | (simp only [← hji13] <;> (first | rfl | simp)) | (simp [*]; done)), (by first | rfl | (simp; done) | (simp [*]; done)), H', ⟨by have := HJ4.out; have := HJ8.out; have := HJ13.out; first | omega | exact Nat.le_refl _⟩, ⟨by repeat (first | (with_reducible first | exact HB.out | apply below_alloc | apply pw_below_drewN | apply below_drew1) | exact HB.out)⟩⟩
                · rw [if_neg c27] at H
                  have c27b0 : (x2_13 == 9007199254740992) = false := beq_eq_false_iff_ne.mpr c27
                  have c27b1 : (x2_13 != 9007199254740992) = true := bne_iff_ne.mpr c27
                  (first | rw [c27b0] | (simp only [i64_w, i32_w]; rw [c27b0]) | rw [c27b1] | (simp only [i64_w, i32_w]; rw [c27b1]) | skip)
                  have H' := Aside0.mk H
                  clear H
                  go_wp2
                  go_meet
                  case rel => exact ⟨_, (wrap64 (x1_8 + ji13)), (x2_13), (by first | rfl | (simp; done) | (simp only [← hji13] <;> (first | rfl | simp)) | (simp [*]; done)), (by first | rfl | (simp; done) | (simp [*]; done)), H', ⟨by have := HJ4.out; have := HJ8.out; have := HJ13.out; first | omega | exact Nat.le_refl _⟩, ⟨by repeat (first | (with_reducible first | exact HB.out | apply below_alloc | apply pw_below_drewN | apply below_drew1) | exact HB.out)⟩⟩
              case rest =>
                clear HC26
                try clear c1
                try clear c2
                try clear p2
                try clear c4
                try clear c6
                try clear p6
                try clear c10
                try clear c10b0
                try clear c10b1
                try clear c11
                try clear c15
                try clear c15b0
                try clear c15b1
                try clear c17
                try clear c17b0
                try clear c17b1
                try clear c18
                try clear c20
                try clear c20b0
                try clear c20b1
                try clear c22
                try clear c24
                try clear c24b0
                try clear c24b1
                try clear c27
                try clear c27b0
                try clear c27b1
                try clear p2
                try clear p6
                obtain ⟨kq, x1_25, x2_25, rfl, rfl, HA, HJ25, HB⟩ := hcut
                cases kq with
                | zero => exact absurd HA.out (by simp [flo_Make.j3])
                | succ kj25 =>
                  have H := HA.out
                  clear HA
                  simp only [flo_Make.j3] at H
                  by_cases c28 : x2_25 = 0
                  · rw [if_pos c28] at H
                    have c28b0 : (x2_25 == 0) = true := beq_iff_eq.mpr c28
                    have c28b1 : (x2_25 != 0) = false := bne_eq_false_iff_eq.mpr c28
                    clear c28
                    obtain rfl := Option.some.inj H
                    go_wp2
                    go_ret
                    exact ⟨by first | rfl | (simp [errW_none, errW_some] <;> rfl) | (simp only [← hji7, ← hji8, ← hji13]; first | rfl | (simp [errW_none, errW_some] <;> rfl)) | (simp [*, errW_none, errW_some] <;> rfl), by repeat (first | (with_reducible first | exact HB.out | apply below_alloc | apply pw_below_drewN | apply below_drew1) | exact HB.out)⟩
                  · rw [if_neg c28] at H
                    have c28b0 : (x2_25 == 0) = false := beq_eq_false_iff_ne.mpr c28
                    have c28b1 : (x2_25 != 0) = true := bne_iff_ne.mpr c28
                    by_cases c29 : x1_25 > 971
                    · rw [if_pos c29] at H
                      have c29b0 : decide (971 < x1_25) = true := decide_eq_true c29
                      clear c29
                      obtain rfl := Option.some.inj H
                      go_wp2
                      go_ret
                      exact ⟨by first | rfl | (simp [errW_none, errW_some] <;> rfl) | (simp only [← hji7, ← hji8, ← hji13]; first | rfl | (simp [errW_none, errW_some] <;> rfl)) | (simp [*, errW_none, errW_some] <;> rfl), by repeat (first | (with_reducible first | exact HB.out | apply below_alloc | apply pw_below_drewN | apply below_drew1) | exact HB.out)⟩
                    · rw [if_neg c29] at H
                      have c29b0 : decide (971 < x1_25) = false := decide_eq_false c29
                      clear c29
                      by_cases c30 : x2_25 < 4503599627370496
                      · rw [if_pos c30] at H
                        have c30b0 : decide (x2_25 < 4503599627370496) = true := decide_eq_true c30
                        clear c30
                        obtain rfl := Option.some.inj H
                        go_wp2
                        go_ret
                        exact ⟨by first | rfl | (simp [errW_none, errW_some] <;> rfl) | (simp only [← hji7, ← hji8, ← hji13]; first | rfl | (simp [errW_none, errW_some] <;> rfl)) | (simp [*, errW_none, errW_some] <;> rfl), by repeat (first | (with_reducible first | exact HB.out | apply below_alloc | apply pw_below_drewN | apply below_drew1) | exact HB.out)⟩
                      · rw [if_neg c30] at H
                        have c30b0 : decide (x2_25 < 4503599627370496) = false := decide_eq_false c30
                        clear c30
                        obtain rfl := Option.some.inj H
                        go_wp2
                        go_ret
                        exact ⟨by first | rfl | (simp [errW_none, errW_some] <;> rfl) | (simp only [← hji7, ← hji8, ← hji13]; first | rfl | (simp [errW_none, errW_some] <;> rfl)) | (simp [*, errW_none, errW_some] <;> rfl), by repeat (first | (with_reducible first | exact HB.out | apply below_alloc | apply pw_below_drewN | apply below_drew1) | exact HB.out)⟩
mutual
def dec_big_tens.l0 : Nat → List Int → Int → Option (List Int)
  | 0, _, _ => none
  | k + 1, x0, x1 => if x1 ≥ 9 then ((dec_big_times.f k x0 1000000000 0).bind fun t158 => (dec_big_tens.l0 k t158 (wrap64 (x1 - 9)))) else (dec_big_tens.l1 k x0 x1 0)
def dec_big_tens.l1 : Nat → List Int → Int → Int → Option (List Int)
  | 0, _, _, _ => none
  | k + 1, x0, x11, x12 => if x12 < x11 then ((dec_big_times.f k x0 10 0).bind fun t161 => (dec_big_tens.l1 k t161 x11 (wrap64 (x12 + 1)))) else (some x0)
end
def dec_big_tens.f (k : Nat) (l0 : List Int) (a1 : Int) : Option (List Int) := dec_big_tens.l0 k l0 a1
theorem dec_big_tens.mono_l : ∀ k, (∀ y0 y1, LeO (dec_big_tens.l0 k y0 y1) (dec_big_tens.l0 (k + 1) y0 y1)) ∧ (∀ y0 y1 y2, LeO (dec_big_tens.l1 k y0 y1 y2) (dec_big_tens.l1 (k + 1) y0 y1 y2))
  | 0 => ⟨fun _ _ r h => by simp [dec_big_tens.l0] at h, fun _ _ _ r h => by simp [dec_big_tens.l1] at h⟩
  | k + 1 => by
    obtain ⟨ih0, ih1⟩ := dec_big_tens.mono_l k
    refine ⟨?_, ?_⟩
    · intro y0 y1
      unfold dec_big_tens.l0
      repeat' first
      | (with_reducible exact ih0 _ _)
      | (with_reducible exact ih1 _ _ _)
      | (with_reducible exact dec_big_times.mono _ _ _ _)
      | (with_reducible exact LeO.refl _)
      | (with_reducible exact LeO.none _)
      | (with_reducible refine LeO.ite ?_ ?_)
      | (with_reducible refine LeO.bind ?_ (fun _ => ?_))
      | exact ih0 _ _
      | exact ih1 _ _ _
      | exact dec_big_times.mono _ _ _ _
      | exact LeO.none _
      | refine LeO.ite ?_ ?_
      | refine LeO.bind ?_ (fun _ => ?_)
    · intro y0 y1 y2
      unfold dec_big_tens.l1
      repeat' first
      | (with_reducible exact ih0 _ _)
      | (with_reducible exact ih1 _ _ _)
      | (with_reducible exact dec_big_times.mono _ _ _ _)
      | (with_reducible exact LeO.refl _)
      | (with_reducible exact LeO.none _)
      | (with_reducible refine LeO.ite ?_ ?_)
      | (with_reducible refine LeO.bind ?_ (fun _ => ?_))
      | exact ih0 _ _
      | exact ih1 _ _ _
      | exact dec_big_times.mono _ _ _ _
      | exact LeO.none _
      | refine LeO.ite ?_ ?_
      | refine LeO.bind ?_ (fun _ => ?_)
theorem dec_big_tens.mono : ∀ a0 a1 k, LeO (dec_big_tens.f k a0 a1) (dec_big_tens.f (k + 1) a0 a1) := by
  intro a0 a1 k
  obtain ⟨ih0, ih1⟩ := dec_big_tens.mono_l k
  unfold dec_big_tens.f
  repeat' first
      | (with_reducible exact ih0 _ _)
      | (with_reducible exact ih1 _ _ _)
      | (with_reducible exact dec_big_times.mono _ _ _ _)
      | (with_reducible exact LeO.refl _)
      | (with_reducible exact LeO.none _)
      | (with_reducible refine LeO.ite ?_ ?_)
      | (with_reducible refine LeO.bind ?_ (fun _ => ?_))
      | exact ih0 _ _
      | exact ih1 _ _ _
      | exact dec_big_times.mono _ _ _ _
      | exact LeO.none _
      | refine LeO.ite ?_ ?_
      | refine LeO.bind ?_ (fun _ => ?_)
set_option maxHeartbeats 8000000 in
set_option maxRecDepth 100000 in
theorem dec_big_tens.calls (k : Nat) (P0_ : Nat → Prop) (A0 : Option Addr) (c0 : Nat) (l0 : List Int) (a1 : Int) (r : List Int) (w : World) (hs0 : Kd.V (Kd.int .u32) 64 w w.heap.size (fun k_ => P0_ k_) (.slice A0 l0.length c0) l0) (h : dec_big_tens.f k l0 a1 = some r) :
    Calls Tryd.prog 43 #[.slice A0 l0.length c0, .int .i64 a1] w fun e w' => ∃ v0_ : Value, e = .returned (v0_) ∧ Kd.V (Kd.int .u32) 64 w' w.heap.size (fun k_ => (P0_ k_ ∨ w.heap.size ≤ k_)) v0_ r ∧ Below w.heap.size w w' := by
  have HO0 := Aside0.mk (show Kd.V (Kd.int .u32) 64 w w.heap.size (fun k_ => (P0_ k_ ∨ w.heap.size ≤ k_)) (.slice A0 l0.length c0) l0 from Kd.V_mono hs0 (fun k_ hk => .inl hk))
  have HB := Aside0.mk (Below.refl w.heap.size w)
  have H : (dec_big_tens.l0 k l0 a1) = some r := h
  clear h
  have H' := Aside0.mk H
  clear H
  go_enter Tryd.func43, Tryd.ntmps43
  go_wp2
  go_loopg [0, 1] k (fun kq v0 v1 w' => ∃ (x0_1 : List Int) (x1_1 : Int), v1 = .int .i64 x1_1 ∧ Aside0 (dec_big_tens.l0 kq x0_1 x1_1 = some r) ∧ Aside0 (kq ≤ k) ∧ Aside0 (Kd.V (Kd.int .u32) 64 w' w.heap.size (fun k_ => (P0_ k_ ∨ w.heap.size ≤ k_)) v0 x0_1) ∧ Aside0 (Below w.heap.size w w'))
  case atStart => exact ⟨(l0), (a1), (by first | rfl | (simp; done) | (simp [*]; done)), H', ⟨Nat.le_refl _⟩, ⟨by (with_reducible repeat (first | apply Kd.V_alloc | apply Kd.V_drewN | apply Kd.V_drew)); exact HO0.out⟩, ⟨by repeat (first | (with_reducible first | exact HB.out | apply below_alloc | apply pw_below_drewN | apply below_drew1) | exact HB.out)⟩⟩
  case round =>
    clear H'
    try clear p2
    obtain ⟨x0_1, x1_1, rfl, HA, HK1, HO_0, HB⟩ := hrel
    cases gk with
    | zero => exact absurd HA.out (by simp [dec_big_tens.l0])
    | succ k1 =>
      have H := HA.out
      clear HA
      simp only [dec_big_tens.l0] at H
      by_cases c3 : x1_1 ≥ 9
      · rw [if_pos c3] at H
        have c3b0 : decide (9 ≤ x1_1) = true := decide_eq_true c3
        clear c3
        replace H := Option.bind_eq_some_iff.mp H
        obtain ⟨t158, A40, H⟩ := H
        replace H : (dec_big_tens.l0 k1 t158 (wrap64 (x1_1 - 9))) = some r := H
        have A4 := Aside0.mk A40
        clear A40
        have H' := Aside0.mk H
        clear H
        obtain ⟨Ao5, co5, eo5⟩ := Kd.V_slice HO_0.out
        subst eo5
        go_wp2_with (first | ((with_reducible refine gate_callee (f := 41) rfl ?_); refine goesL_ (some 10) rfl rfl Tryd.func41 (by kernel_rfl) rfl #[.slice Ao5 x0_1.length co5, .int .u32 1000000000, .int .u32 0] rfl (by (try simp only [List.map_toArray, List.map_cons, List.map_nil]); first | done | rfl | (simp only [List.length_drop, List.length_take]; rfl)) ?_; (with_reducible refine (dec_big_times.calls k1 _ _ x0_1 1000000000 0 t158 _ ?side1 ?side2 A4.out).mono ?_); (case side1 => repeat (first | exact (Kd.V_reads' HO_0.out).2.2 | (with_reducible refine Kd.C_alloc ?_ _) | (with_reducible refine Kd.C_drewN ?_ _) | (with_reducible refine Kd.C_drew ?_))); (case side2 => exact (Kd.V_reads' HO_0.out).2.1); rintro e w6 ⟨v159, rfl, ho0, hb⟩; refine ⟨_, rfl, ?_⟩; have n0_ := Aside0.mk (Kd.V_below (by (with_reducible repeat (first | apply Kd.V_alloc | apply Kd.V_drewN | apply Kd.V_drew)); exact HO_0.out) hb); have n1_ := Aside0.mk (Kd.V_lower (Kd.V_mono (ok' := fun k_ => (P0_ k_ ∨ w.heap.size ≤ k_)) ho0 (fun k_ hk_ => (.inr (Nat.le_trans (below_size (by repeat (first | (with_reducible first | exact HB.out | apply below_alloc | apply pw_below_drewN | apply below_drew1) | exact HB.out))) hk_)))) (below_size (by repeat (first | (with_reducible first | exact HB.out | apply below_alloc | apply pw_below_drewN | apply below_drew1) | exact HB.out)))); have n2_ := Aside0.mk (below_step (by repeat (first | (with_reducible first | exact HB.out | apply below_alloc | apply pw_below_drewN | apply below_drew1) | exact HB.out)) hb); clear HO_0; clear HB; have HO_0 := n0_; have HO160 := n1_; have HB := n2_; clear n0_ n1_ n2_; (try clear hb); (try clear hb2); (try clear hk); (try clear hi); (try clear ho0)))
        go_roundg k1
        case measure => have := HK1.out; omega
        case rel => exact ⟨(t158), (wrap64 (x1_1 - 9)), (by first | rfl | (simp; done) | (simp [*]; done)), H', ⟨by have := HK1.out; omega⟩, ⟨by (with_reducible repeat (first | apply Kd.V_alloc | apply Kd.V_drewN | apply Kd.V_drew)); exact HO160.out⟩, ⟨by repeat (first | (with_reducible first | exact HB.out | apply below_alloc | apply pw_below_drewN | apply below_drew1) | exact HB.out)⟩⟩
      · rw [if_neg c3] at H
        have c3b0 : decide (9 ≤ x1_1) = false := decide_eq_false c3
        clear c3
        have H' := Aside0.mk H
        clear H
        go_wp2
        go_loopg [0, 12] k1 (fun kq v0 v12 w' => ∃ (x0_2 : List Int) (x12_2 : Int), v12 = .int .i64 x12_2 ∧ Aside0 (dec_big_tens.l1 kq x0_2 x1_1 x12_2 = some r) ∧ Aside0 (kq ≤ k1) ∧ Aside0 (Kd.V (Kd.int .u32) 64 w' w.heap.size (fun k_ => (P0_ k_ ∨ w.heap.size ≤ k_)) v0 x0_2) ∧ Aside0 (Below w.heap.size w w'))
        case atStart => exact ⟨(x0_1), (0), (by first | rfl | (simp; done) | (simp [*]; done)), H', ⟨Nat.le_refl _⟩, ⟨by (with_reducible repeat (first | apply Kd.V_alloc | apply Kd.V_drewN | apply Kd.V_drew)); exact HO_0.out⟩, ⟨by repeat (first | (with_reducible first | exact HB.out | apply below_alloc | apply pw_below_drewN | apply below_drew1) | exact HB.out)⟩⟩
        case round =>
          clear H'
          try clear p2
          try clear c3
          try clear c3b0
          try clear c4
          try clear p6
          try clear p2
          obtain ⟨x0_2, x12_2, rfl, HA, HK2, HO_0, HB⟩ := hrel
          cases gk with
          | zero => exact absurd HA.out (by simp [dec_big_tens.l1])
          | succ k2 =>
            have H := HA.out
            clear HA
            simp only [dec_big_tens.l1] at H
            by_cases c7 : x12_2 < x1_1
            · rw [if_pos c7] at H
              have c7b0 : decide (x12_2 < x1_1) = true := decide_eq_true c7
              clear c7
              replace H := Option.bind_eq_some_iff.mp H
              obtain ⟨t161, A80, H⟩ := H
              replace H : (dec_big_tens.l1 k2 t161 x1_1 (wrap64 (x12_2 + 1))) = some r := H
              have A8 := Aside0.mk A80
              clear A80
              have H' := Aside0.mk H
              clear H
              obtain ⟨Ao9, co9, eo9⟩ := Kd.V_slice HO_0.out
              subst eo9
              go_wp2_with (first | ((with_reducible refine gate_callee (f := 41) rfl ?_); refine goesL_ (some 15) rfl rfl Tryd.func41 (by kernel_rfl) rfl #[.slice Ao9 x0_2.length co9, .int .u32 10, .int .u32 0] rfl (by (try simp only [List.map_toArray, List.map_cons, List.map_nil]); first | done | rfl | (simp only [List.length_drop, List.length_take]; rfl)) ?_; (with_reducible refine (dec_big_times.calls k2 _ _ x0_2 10 0 t161 _ ?side1 ?side2 A8.out).mono ?_); (case side1 => repeat (first | exact (Kd.V_reads' HO_0.out).2.2 | (with_reducible refine Kd.C_alloc ?_ _) | (with_reducible refine Kd.C_drewN ?_ _) | (with_reducible refine Kd.C_drew ?_))); (case side2 => exact (Kd.V_reads' HO_0.out).2.1); rintro e w10 ⟨v162, rfl, ho0, hb⟩; refine ⟨_, rfl, ?_⟩; have n0_ := Aside0.mk (Kd.V_below (by (with_reducible repeat (first | apply Kd.V_alloc | apply Kd.V_drewN | apply Kd.V_drew)); exact HO_0.out) hb); have n1_ := Aside0.mk (Kd.V_lower (Kd.V_mono (ok' := fun k_ => (P0_ k_ ∨ w.heap.size ≤ k_)) ho0 (fun k_ hk_ => (.inr (Nat.le_trans (below_size (by repeat (first | (with_reducible first | exact HB.out | apply below_alloc | apply pw_below_drewN | apply below_drew1) | exact HB.out))) hk_)))) (below_size (by repeat (first | (with_reducible first | exact HB.out | apply below_alloc | apply pw_below_drewN | apply below_drew1) | exact HB.out)))); have n2_ := Aside0.mk (below_step (by repeat (first | (with_reducible first | exact HB.out | apply below_alloc | apply pw_below_drewN | apply below_drew1) | exact HB.out)) hb); clear HO_0; clear HB; have HO_0 := n0_; have HO163 := n1_; have HB := n2_; clear n0_ n1_ n2_; (try clear hb); (try clear hb2); (try clear hk); (try clear hi); (try clear ho0)))
              go_roundg k2
              case measure => have := HK1.out; have := HK2.out; omega
              case rel => exact ⟨(t161), (wrap64 (x12_2 + 1)), (by first | rfl | (simp; done) | (simp [*]; done)), H', ⟨by have := HK1.out; have := HK2.out; omega⟩, ⟨by (with_reducible repeat (first | apply Kd.V_alloc | apply Kd.V_drewN | apply Kd.V_drew)); exact HO163.out⟩, ⟨by repeat (first | (with_reducible first | exact HB.out | apply below_alloc | apply pw_below_drewN | apply below_drew1) | exact HB.out)⟩⟩
            · rw [if_neg c7] at H
              have c7b0 : decide (x12_2 < x1_1) = false := decide_eq_false c7
              clear c7
              obtain rfl := Option.some.inj H
              go_wp2
              go_ret
              exact ⟨_, by first | rfl | (simp [errW_none, errW_some] <;> rfl) | (simp [*, errW_none, errW_some] <;> rfl), by (with_reducible repeat (first | apply Kd.V_alloc | apply Kd.V_drewN | apply Kd.V_drew)); exact HO_0.out, by repeat (first | (with_reducible first | exact HB.out | apply below_alloc | apply pw_below_drewN | apply below_drew1) | exact HB.out)⟩
def dec_big_len.f (l0 : List Int) : Option (Int) := if (l0.length : Int) = 0 then (some 0) else (if 0 ≤ (wrap64 ((l0.length : Int) - 1)) then (if (wrap64 ((l0.length : Int) - 1)) < (l0.length : Int) then ((bits_Len32.f (rd l0 (wrap64 ((l0.length : Int) - 1)))).bind fun t165 => (some (wrap64 ((wrap64 (32 * (wrap64 ((l0.length : Int) - 1)))) + t165)))) else (none)) else (none))
set_option maxHeartbeats 8000000 in
set_option maxRecDepth 100000 in
theorem dec_big_len.calls (A0 : Option Addr) (c0 : Nat) (l0 : List Int) (r : Int) (w : World) (hr0 : Kd.C (Kd.int .u32) w A0 l0.length l0) (hc0 : l0.length ≤ c0) (h : dec_big_len.f l0 = some r) :
    Calls Tryd.prog 44 #[.slice A0 l0.length c0] w fun e w' => e = .returned (.int .i64 r) ∧ Drawn0 w w' := by
  have HR0 := Aside0.mk hr0
  have HC0 := Aside0.mk hc0
  clear hr0 hc0
  have H : (if (l0.length : Int) = 0 then (some 0) else (if 0 ≤ (wrap64 ((l0.length : Int) - 1)) then (if (wrap64 ((l0.length : Int) - 1)) < (l0.length : Int) then ((bits_Len32.f (rd l0 (wrap64 ((l0.length : Int) - 1)))).bind fun t165 => (some (wrap64 ((wrap64 (32 * (wrap64 ((l0.length : Int) - 1)))) + t165)))) else (none)) else (none))) = some r := h
  clear h
  by_cases c2 : (l0.length : Int) = 0
  · rw [if_pos c2] at H
    have c2b0 : ((l0.length : Int) == 0) = true := beq_iff_eq.mpr c2
    have c2b1 : ((l0.length : Int) != 0) = false := bne_eq_false_iff_eq.mpr c2
    clear c2
    obtain rfl := Option.some.inj H
    go_enter Tryd.func44, Tryd.ntmps44
    go_wp2
    go_ret
    exact ⟨by first | rfl | (simp; done) | (simp [*]; done), by repeat (first | exact Drawn0.refl _ | apply Drawn0.step)⟩
  · rw [if_neg c2] at H
    have c2b0 : ((l0.length : Int) == 0) = false := beq_eq_false_iff_ne.mpr c2
    have c2b1 : ((l0.length : Int) != 0) = true := bne_iff_ne.mpr c2
    have c2b2 : ¬ (l0 = []) := fun h_ => c2 (by rw [h_]; rfl)
    obtain ⟨ji3, hji3⟩ : ∃ j_ : Int, (wrap64 ((l0.length : Int) - 1)) = j_ := ⟨_, rfl⟩
    replace H : (if 0 ≤ (ji3) then (if (ji3) < (l0.length : Int) then ((bits_Len32.f (rd l0 (ji3))).bind fun t165 => (some (wrap64 ((wrap64 (32 * (ji3))) + t165)))) else (none)) else (none)) = some r := by first | (rw [hji3] at H; exact H) | (simp only [hji3] at H ⊢; exact H)
    have hji3w : (IntKind.i64.wrap ((l0.length : Int) - 1)) = ji3 := (i64_w _).trans hji3
    by_cases c4 : 0 ≤ (ji3)
    · rw [if_pos c4] at H
      have c4b0 : decide (0 ≤ (ji3)) = true := decide_eq_true c4
      clear c4
      by_cases c5 : (ji3) < (l0.length : Int)
      · rw [if_pos c5] at H
        have c5b0 : decide ((ji3) < (l0.length : Int)) = true := decide_eq_true c5
        clear c5
        replace H := Option.bind_eq_some_iff.mp H
        obtain ⟨t165, A60, H⟩ := H
        replace H : (some (wrap64 ((wrap64 (32 * (ji3))) + t165))) = some r := H
        have A6 := Aside0.mk A60
        clear A60
        obtain rfl := Option.some.inj H
        have p164 : 0 ≤ ((ji3) : Int) := of_decide_eq_true (by first | (with_reducible assumption) | assumption)
        have q164 : (ji3) < (l0.length : Int) := of_decide_eq_true (by first | (with_reducible assumption) | assumption)
        obtain ⟨ad164, e164, hx164_0⟩ := Kd.at_int HR0.out (ji3) p164 q164
        cases e164
        replace p164 := eq_true p164
        replace q164 := eq_true q164
        go_enter Tryd.func44, Tryd.ntmps44
        go_wp2_with (first | ((with_reducible refine gate_callee (f := 50) rfl ?_); refine goesL_ (some 16) rfl rfl Tryd.func50 (by kernel_rfl) rfl #[.int .u32 (rd l0 (ji3))] rfl (by (try simp only [List.map_toArray, List.map_cons, List.map_nil]); first | done | (simp only [hji3]; rfl) | rfl | (simp only [List.length_drop, List.length_take]; rfl)) ?_; (with_reducible refine (bits_Len32.calls (rd l0 (ji3)) t165 _ A6.out).mono ?_); rintro e w' ⟨rfl, ⟨nd, rfl⟩⟩; refine ⟨_, rfl, ?_⟩))
        go_ret
        exact ⟨by first | rfl | (simp; done) | (simp only [← hji3] <;> (first | rfl | simp)) | (simp [*]; done), by repeat (first | exact Drawn0.refl _ | apply Drawn0.step)⟩
      · rw [if_neg c5] at H
        exact absurd H (by simp)
    · rw [if_neg c4] at H
      exact absurd H (by simp)
end Go.Proofs.YtongfmeediokmaaDoor.Pr
end
